import Derived.Test.YtjbdiekkjegckaaGreatZz6
import Derived.Test.YtjbdiekkjegckaaGreatHp
set_option linter.unusedSimpArgs false
set_option linter.unusedVariables false
namespace Go.Proofs.YtjbdiekkjegckaaGreat
open Go Go.Aw Go.Pl
theorem KX_ (o : List Int) (m : Int) (w : Cu) (q : List (List Int)) : ∃ (a : List Int) (b : Int) (v : List Int), fmA o m w q = .tup [.agg [.l1 a, .int b, .l1 v], .int (fmC o m w q)] ∧ (fmC o m w q = 0 → a = o ∧ b = m ∧ v = Wc_ w.length q) := by
 by_cases h : fmC o m w q = 0
 ·rw [W0_ h, h]
  exact ⟨_, _, _, rfl, fun _ => ⟨rfl, rfl, rfl⟩⟩
 ·unfold fmA
  rw [if_neg h]
  exact ⟨_, _, _, rfl, fun e => absurd e h⟩
theorem KY_ (o : List Int) (m : Int) (w : Cu) (q : List (List Int)) : ∃ (L : List Int) (k : Int), trA o m w q = .tup [.l1 L, .int k] ∧ (Zl_ o m w q = true → L = tlL w.length m q w.length) := by
 unfold trA
 cases Zl_ o m w q with
 | true => exact ⟨_, _, if_pos rfl, fun _ => rfl⟩
 | false => exact ⟨_, _, if_neg (by decide), fun h => absurd h (by decide)⟩
theorem KZ_ {o : List Int} {m : Int} {w : Cu} {q : List (List Int)} (h : fmC o m w q = 0) : Zl_ o m w q = true ∧ grB o = true ∧ dvB m = true := by
 unfold fmC at h
 split at h
 ·split at h
  ·rename_i h1 h2
   exact ⟨h1, h2⟩
  ·omega
 ·omega
theorem RN_ {o : List Int} {m : Int} {n : Nat} {w : Cu} {q : List (List Int)} (h : BrP o m n w q) (hg : grB o = true) (hd : dvB m = true) : fmA o m w q = .tup [.agg [.l1 o, .int m, .l1 (Wc_ n q)], .int 0] := by
 have hl := h.len
 have hi : Zl_ o m w q = true := isBr_iff.2 (by rw [hl]; exact h)
 have e : fmC o m w q = 0 := by unfold fmC; rw [if_pos hi, if_pos ⟨hg, hd⟩]
 rw [W0_ e, hl]
set_option maxRecDepth 100000 in
set_option maxHeartbeats 16000000 in
theorem Zc_ (c : List Int) (hb : KR_ c) : PureCall Tryz.prog 3 [.lv (bsV c)] (.bool true) := by
 have hbig := aG5 c
 by_cases hlen : 4096 < c.length
 ·rw [decide_eq_true hlen] at hbig
  refine gPC 244 [.tmp 2] Tryz.call3 Tryz.func3 fun cx hcx => gE ?_
  refine gB ?_
  refine gC fun K hK => ?_
  refine xc_ (hbig) (by first | rfl | simp only [x1_, Aw.isData, yV_, Bool.and_true]) ?_; simp only [go_sem, seval]
  refine hK _ ?_; clear hK K
  refine gR ?_
  refine gB ?_
  refine xf_ (yu_ rfl ?_)
  rfl
 ·rw [decide_eq_false hlen] at hbig
  have hc : CodeOk c := ⟨by omega, hb⟩
  obtain ⟨o, m, w, q, lo, hD1⟩ := wO_ c hc.len hb
  obtain ⟨N, a, N0, N9, hD2⟩ := wo_ c hc.len hb
  have a1 := (Zf_ o m w q (by omega)).pure
  have b1 := RX_ o m w q (by omega)
  have a2 := (R2_ o m w q).pure
  have b2 := R1_ o m w q
  obtain ⟨ca, cb, v, eA, hA⟩ := KX_ o m w q
  obtain ⟨L, k, eT, hT⟩ := KY_ o m w q
  rw [eA] at a1 b1
  rw [eT] at a2 b2
  have k1 := TF_ ca cb v
  have k2 := XF_ L L
  rw [decide_eq_true rfl] at k2
  obtain ⟨cd, ecd⟩ : ∃ cd, fmC o m w q = cd := ⟨_, rfl⟩
  rw [ecd] at a1 b1 hA
  have hRo := au8 c hc 908
  have ok0 := aG7 (seed := 908) hc
  generalize rlS c 908 = s0 at *
  refine gPC 244 [.tmp 2] Tryz.call3 Tryz.func3 fun cx hcx => gE ?_
  refine gB ?_
  refine gC fun K hK => ?_
  refine xc_ (hbig) (by first | rfl | simp only [x1_, Aw.isData, yV_, Bool.and_true]) ?_; simp only [go_sem, seval]
  refine hK _ ?_; clear hK K
  refine gQ ?_
  refine xe_ ?_
  refine gC fun K hK => ?_
  refine xc_ (hD1) (by first | rfl | simp only [x1_, Aw.isData, yV_, Bool.and_true]) ?_; simp only [go_sem, seval]
  refine hK _ ?_; clear hK K
  refine gC fun K hK => ?_
  first | refine xc_ (a1) rfl ?_ | refine xd_ (xa_ (a1) rfl) ?_
  refine gV ?_
  refine hK _ ?_; clear hK K
  refine gC fun K hK => ?_
  first | refine xc_ (b1) rfl ?_ | refine xd_ (xa_ (b1) rfl) ?_
  refine gV ?_
  refine hK _ ?_; clear hK K
  refine gC fun K hK => ?_
  first | refine xc_ (a2) rfl ?_ | refine xd_ (xa_ (a2) rfl) ?_
  refine gV ?_
  refine hK _ ?_; clear hK K
  refine gC fun K hK => ?_
  first | refine xc_ (b2) rfl ?_ | refine xd_ (xa_ (b2) rfl) ?_
  refine gV ?_
  refine hK _ ?_; clear hK K
  (repeat refine xb_ ?_); refine xx_ (xO_ hcx) fun K hK => ?_; simp only [go_sem, seval, decide_true, Bool.not_true]
  first | refine xd_ (fun _ => xa_ (k1) rfl) ?_ | refine xd_ (xa_ (k1) rfl) ?_
  refine gV ?_
  (try simp only [go_sem, seval, decide_true, Bool.not_true])
  first | refine xd_ (fun _ => xa_ (k2) rfl) ?_ | refine xd_ (xa_ (k2) rfl) ?_
  refine gV ?_
  (try simp only [go_sem, seval, decide_true, Bool.not_true])
  refine hK _ ?_; clear hK K
  refine gQ ?_
  refine xe_ ?_
  refine gB ?_
  (repeat refine xb_ ?_)
  refine Xh_ ⟨[(0, .lv (bsV c)), (2, .bool false)], []⟩ ?_ ?_
  ·refine gI (fun h0 => ?_) fun h0 => ?_
   ·obtain ⟨e1, e2, e3'⟩ := hA h0
    subst h0
    obtain ⟨hIs, hg, hd⟩ := KZ_ ecd
    have hB := isBr_iff.1 hIs
    have eL := hT hIs
    obtain ⟨n, en⟩ : ∃ n, w.length = n := ⟨_, rfl⟩
    rw [en] at hB eL e3'
    have hE : ∀ k : Nat, k < w.length → PureCall Tryz.prog 42 [.agg [.l1 o, .int m, .l3 w], .int k] (.bool true) := fun k hk => by
     have h := UH_ o m w k (by have := hB.coc.1.n8; omega)
     rw [decide_eq_true (show (0 : Int) ≤ k by omega), decide_eq_true (show (k : Int) ≤ (w.length : Int) - 1 by omega)] at h
     exact h
    have hM : ∀ x y : Nat, x < n → y < n → PureCall Tryz.prog 16 [.agg [.l1 o, .int m, .l3 w, .l2 q], .int x, .int y] (.tup [.int (Zg_ m q x y), .int 0]) := fun x y hx hy => R3_ o m w q x y hIs (by omega) (by omega) hE
    have hMet := UN_ hB hg hd
    have hPE : ∀ x y : Nat, x < n → y < n → PureCall Tryz.prog 15 [.agg [.l1 o, .int m, .l1 (Wc_ n q)], .int x, .int y] (.tup [.int (Zg_ m q x y), .int 0]) := fun x y hx hy => by
     have h := RW_ hMet (by omega) x y hx hy
     rw [XG_ hB hx hy] at h
     exact h
    have hR := K2_ o m n w q hB hg hd (by omega)
    have hI := RV_ hMet (by omega)
    have p1 := hB.coc.1.1
    have p2 := hB.coc.1.2.1
    have m1 := hB.coc.1.2.2.1
    have m2 := hB.coc.1.2.2.2.1
    have hn : (n : Int) = xA_ o := by rw [← en]; exact hB.coc.1.2.2.2.2.1
    have n8 : n ≤ 8 := by omega
    have lq := hB.num.1.1
    obtain ⟨pk, lp, _⟩ := ze_ (n := n) (m := m) ok0 n
    have pp := w4_ (n := n) (m := m) ok0 m1
    have hCb := (Sw_ o m n (wn_ n m n s0).1 p1 p2 hn m1 m2 pp (by omega)).pure
    have hB2 := aE4 p1 p2 m1 m2 hn pp
    have hAb := (KS_ o m w q o m (Xl_ o m n (wn_ n m n s0).1) (Z3_ m n (wn_ n m n s0).1) (by omega)).pure
    have eAb : abA o m w q o m (Xl_ o m n (wn_ n m n s0).1) (Z3_ m n (wn_ n m n s0).1) = .tup [.agg [.l1 o, .int m, .l3 (sumW m n w (Xl_ o m n (wn_ n m n s0).1)), .l2 (Wd_ m n q (Z3_ m n (wn_ n m n s0).1))], .int 0] := by
     unfold abA
     rw [if_pos ⟨hIs, isBr_iff.2 (by rw [zt_]; exact hB2)⟩, if_pos ⟨rfl, rfl⟩, en]
    rw [eAb] at hAb
    have hF2 := (Zf_ o m (sumW m n w (Xl_ o m n (wn_ n m n s0).1)) (Wd_ m n q (Z3_ m n (wn_ n m n s0).1)) (by omega)).pure
    rw [RN_ (aE5 hB hB2) hg hd] at hF2
    have eF : Wc_ n (Wd_ m n q (Z3_ m n (wn_ n m n s0).1)) = Wc_ n q := wc_ fun x hx => af1 hB.num.1 hx
    rw [eF] at hF2
    rw [← e3', ← eL] at hR
    rw [← e3'] at hI
    have hPE' : ∀ x y : Nat, x < n → y < n → PureCall Tryz.prog 15 [.agg [.l1 ca, .int cb, .l1 v], .int x, .int y] (.tup [.int (Zg_ m q x y), .int 0]) := by rw [e1, e2, e3']; exact hPE
    rw [← e3'] at hF2
    subst e1 e2
    obtain ⟨P, eP⟩ : ∃ P : Nat → List (List Int) × Src, P = fun i => wn_ n cb i s0 := ⟨_, rfl⟩
    have hP : ∀ i, P i = wn_ n cb i s0 := fun i => by rw [eP]
    have hP0 : P 0 = ([], s0) := by rw [eP]; rfl
    have em : mxm cb = cb := if_pos m1
    have hpf := fun i => ze_ (n := n) (m := cb) ok0 i
    have hps : ∀ i, wn_ n cb (i + 1) s0 = ((wn_ n cb i s0).1 ++ [(w3_ cb i n (wn_ n cb i s0).2).1], (w3_ cb i n (wn_ n cb i s0).2).2) := fun i => rfl
    simp only [← hP] at hpf hps hCb hAb hF2
    generalize Xl_ ca cb n (P n).1 = W2 at *
    generalize Z3_ cb n (P n).1 = Q2 at *
    generalize sumW cb n w W2 = W3 at *
    generalize Wd_ cb n q Q2 = Q3 at *
    clear hA hT ecd hD1 b1 a1 a2 b2 hMet hIs hg hd hB hB2 eAb eF hPE hE pp pk lp eP
    (repeat refine xb_ ?_); refine AT.ghost (st' := ⟨[(0, .lv (bsV c)), (2, .bool false), (3, .bptr 7 0), (4, .bptr 8 0), (8, .l1 L)], [(7, .bx [.l1 ca, .int cb, .l3 w, .l2 q]), (8, .bx [.l1 ca, .int cb, .l1 v])]⟩) (xm_ [2] [(0, 7), (1, 8)]) ?_
    refine gC fun K hK => ?_
    first | refine xc_ (hR) rfl ?_ | refine xd_ (xa_ (hR) rfl) ?_
    refine gV ?_
    refine hK _ ?_; clear hK K
    (repeat refine xb_ ?_); refine xx_ (xO_ hcx) fun K hK => ?_; simp only [go_sem, seval, decide_true, Bool.not_true]
    first | refine xd_ (fun _ => xa_ (hI) rfl) ?_ | refine xd_ (xa_ (hI) rfl) ?_
    refine gV ?_
    (try simp only [go_sem, seval, decide_true, Bool.not_true])
    first | refine xd_ (fun _ => xa_ (k2) rfl) ?_ | refine xd_ (xa_ (k2) rfl) ?_
    refine gV ?_
    (try simp only [go_sem, seval, decide_true, Bool.not_true])
    refine hK _ ?_; clear hK K
    refine gQ ?_
    refine xe_ ?_
    (repeat refine xb_ ?_); refine xx_ (xO_ hcx) fun K hK => ?_; simp only [go_sem, seval, lq]
    refine gU ?_
    refine hK _ ?_; clear hK K
    refine gC fun K hK => ?_
    refine xN_ (hRo) (k := ?_); simp only [Aw.ids, go_sem, seval]
    refine hK _ ?_; clear hK K
    refine gB ?_
    refine gB ?_
    (repeat refine xb_ ?_); refine AT.ghost (st' := ⟨[(0, .lv (bsV c)), (2, .bool false), (3, .bptr 7 0), (4, .bptr 8 0), (14, .int n), (15, .bptr 0 0), (16, .ref 1 []), (17, .int 0)], [(0, xv_ s0), (1, .t2 []), (7, .bx [.l1 ca, .int cb, .l3 w, .l2 q]), (8, .bx [.l1 ca, .int cb, .l1 v])]⟩) (xm_ [] [(9, 1)]) ?_
    have e1 : xv_ s0 = xv_ (P 0).2 := by rw [hP0]
    have e2 : Tree.t2 [] = .t2 (P 0).1 := by rw [hP0]
    rw [e1, e2]
    (repeat refine xb_ ?_); refine gLp (fun i : Nat => ⟨[(0, .lv (bsV c)), (2, .bool false), (3, .bptr 7 0), (4, .bptr 8 0), (14, .int n), (15, .bptr 0 0), (16, .ref 1 []), (17, .int i)], [(0, xv_ (P i).2), (1, .t2 (P i).1), (7, .bx [.l1 ca, .int cb, .l3 w, .l2 q]), (8, .bx [.l1 ca, .int cb, .l1 v])]⟩) n fun i hi => ?_
    refine gB ?_
    refine gI (fun hc2 => ?_) fun hc2 => ?_
    ·have hi : i < n := by omega
     obtain ⟨ok, li, _⟩ := hpf i
     have eS := hps i
     obtain ⟨z, ez⟩ : ∃ z, P i = z := ⟨_, rfl⟩
     rw [ez] at ok li eS ⊢
     obtain ⟨R, eR0⟩ : ∃ R : Nat → List Int × Src, R = fun j => w3_ cb i j z.2 := ⟨_, rfl⟩
     have hR' : ∀ j, R j = w3_ cb i j z.2 := fun j => by rw [eR0]
     have hR0 : R 0 = ([], z.2) := by rw [eR0]; rfl
     rw [← hR'] at eS
     refine xe_ ?_
     refine gO ?_
     refine gB ?_
     refine gB ?_
     (repeat refine xb_ ?_); refine AT.ghost (st' := ⟨[(0, .lv (bsV c)), (2, .bool false), (3, .bptr 7 0), (4, .bptr 8 0), (14, .int n), (15, .bptr 0 0), (16, .ref 1 []), (17, .int i), (18, .ref 9 []), (19, .int 0)], [(0, xv_ z.2), (1, .t2 z.1), (7, .bx [.l1 ca, .int cb, .l3 w, .l2 q]), (8, .bx [.l1 ca, .int cb, .l1 v]), (9, .t1 [])]⟩) (xr_ [] (by simp only [go_sem, seval, AV.int.injEq, AV.bool.injEq, AV.l1.injEq, AV.l2.injEq, AV.l3.injEq]) (by simp only [go_sem, seval])) ?_
     have e3 : xv_ z.2 = xv_ (R 0).2 := by rw [hR0]
     have e4 : Tree.t1 [] = .t1 (R 0).1 := by rw [hR0]
     rw [e3, e4]
     (repeat refine xb_ ?_); refine gLp (fun j : Nat => ⟨[(0, .lv (bsV c)), (2, .bool false), (3, .bptr 7 0), (4, .bptr 8 0), (14, .int n), (15, .bptr 0 0), (16, .ref 1 []), (17, .int i), (18, .ref 9 []), (19, .int j)], [(0, xv_ (R j).2), (1, .t2 z.1), (7, .bx [.l1 ca, .int cb, .l3 w, .l2 q]), (8, .bx [.l1 ca, .int cb, .l1 v]), (9, .t1 (R j).1)]⟩) n fun j hj => ?_
     refine gB ?_
     refine gI (fun hc4 => ?_) fun hc4 => ?_
     ·have hj : j < n := by omega
      obtain ⟨ok2, lj, _⟩ := Yi_ (m := cb) (x := i) ok j
      have eR : w3_ cb i (j + 1) z.2 = if i = 0 ∨ j = 0 then ((w3_ cb i j z.2).1 ++ [0], (w3_ cb i j z.2).2) else ((w3_ cb i j z.2).1 ++ [(nx (w3_ cb i j z.2).2 (mxm cb)).1], (nx (w3_ cb i j z.2).2 (mxm cb)).2) := rfl
      rw [em] at eR
      rw [← hR'] at ok2 lj
      rw [← hR', ← hR'] at eR
      obtain ⟨r, er⟩ : ∃ r, R j = r := ⟨_, rfl⟩
      rw [er] at ok2 lj eR ⊢
      have hN := ag1 r.2 ok2 cb (by omega)
      have bN := yO_ r.2 m1
      obtain ⟨t, et⟩ : ∃ t, nx r.2 cb = t := ⟨_, rfl⟩
      rw [et] at hN bN eR
      have u1 := hPE' i j hi hj
      have u2 := hM i j hi hj
      generalize Zg_ cb q i j = mm at *
      refine xe_ ?_
      refine gO ?_
      refine gC fun K hK => ?_
      first | refine xc_ (u1) rfl ?_ | refine xd_ (xa_ (u1) rfl) ?_
      refine gV ?_
      refine hK _ ?_; clear hK K
      refine gC fun K hK => ?_
      first | refine xc_ (u2) rfl ?_ | refine xd_ (xa_ (u2) rfl) ?_
      refine gV ?_
      refine hK _ ?_; clear hK K
      (repeat refine xb_ ?_); refine xx_ (xO_ hcx) fun K hK => ?_; simp only [go_sem, seval, decide_true, Bool.not_true]
      refine gU ?_
      refine hK _ ?_; clear hK K
      refine gQ ?_
      refine xe_ ?_
      refine gB ?_
      by_cases cc : i = 0 ∨ j = 0
      ·rw [if_pos cc] at eR
       refine gI (fun hc5 => ?_) fun hc5 => ?_
       ·refine gB ?_
        refine gB ?_
        refine ⟨j + 1, by omega, by omega, .inr ⟨[10], gK0, aG3 ?_⟩⟩; rw [eR]
       ·simp at hc5
        omega
      ·rw [if_neg cc] at eR
       refine gI (fun hc5 => ?_) fun hc5 => ?_
       ·simp at hc5
        omega
       ·refine gC fun K hK => ?_
        refine xp_ (hN) rfl rfl ?_; simp only [go_sem, seval]
        refine gU ?_
        refine hK _ ?_; clear hK K
        refine gB ?_
        refine ⟨j + 1, by omega, by omega, .inr ⟨[10], gK0, aG3 ?_⟩⟩; rw [eR]
     ·obtain rfl : j = n := by omega
      refine xh_ (x9_ ?_)
      refine gB ?_
      refine gB ?_
      refine ⟨i + 1,  by omega, by omega, .inl ⟨gH,  by rw [eS]⟩⟩
    ·obtain rfl : i = n := by omega
     refine xh_ (x9_ ?_)
     (repeat refine xb_ ?_); refine AT.ghost (YF_ [1]) ?_; simp only [Wn_, wk_, YS_, Z8_, RL_, zk_, Option.getD_some, Option.getD_none, find, xu_, xH_, yP_, yg_, qOf, rmT, xD_, zC_, List.map_cons, List.map_nil, List.filter_cons, List.filter_nil, List.contains_cons, List.contains_nil, Bool.or_false, Bool.or_true, Bool.false_and, Bool.not_true, Bool.not_false, Bool.false_eq_true, if_true, if_false, seval]
     refine gC fun K hK => ?_
     first | refine xc_ (hCb) rfl ?_ | refine xd_ (xa_ (hCb) rfl) ?_
     refine gV ?_
     refine hK _ ?_; clear hK K
     refine gC fun K hK => ?_
     first | refine xc_ (hAb) rfl ?_ | refine xd_ (xa_ (hAb) rfl) ?_
     refine gV ?_
     refine hK _ ?_; clear hK K
     refine gC fun K hK => ?_
     first | refine xc_ (hF2) rfl ?_ | refine xd_ (xa_ (hF2) rfl) ?_
     refine gV ?_
     refine hK _ ?_; clear hK K
     (repeat refine xb_ ?_); refine xx_ (xO_ hcx) fun K hK => ?_; simp only [go_sem, seval, decide_true, Bool.not_true]
     first | refine xd_ (fun _ => xa_ (k1) rfl) ?_ | refine xd_ (xa_ (k1) rfl) ?_
     refine gV ?_
     (try simp only [go_sem, seval, decide_true, Bool.not_true])
     refine hK _ ?_; clear hK K
     refine gQ ?_
     refine xe_ ?_
     refine xJ_ ?_; refine Or.inl ⟨rfl, xm_ [0, 7, 8, 9, 10, 11] []⟩
   ·refine xe_ ?_
    refine xJ_ ?_; refine Or.inl ⟨rfl, xm_ [0, 1, 2] []⟩
  clear hRo a1 b1 a2 b2 k1 k2 hD1 hA hT ok0
  refine gC fun K hK => ?_
  refine xc_ (hD2) (by first | rfl | simp only [x1_, Aw.isData, yV_, Bool.and_true]) ?_; simp only [go_sem, seval]
  refine hK _ ?_; clear hK K
  by_cases h1 : 1 ≤ N ∧ N ≤ 8 ∧ 0 ≤ a ∧ a ≤ 2 * N - 1
  ·obtain ⟨N1, N8, a0, a1⟩ := h1
   obtain ⟨n, rfl⟩ : ∃ n : Nat, N = n := ⟨N.toNat, by omega⟩
   have n1 : 1 ≤ n := by omega
   have n8 : n ≤ 8 := by omega
   by_cases h2 : a * n % 2 = 1
   ·have hS := Sv_ n a n1 n8 a0 a1 h2
    refine gC fun K hK => ?_
    first | refine xc_ (hS) rfl ?_ | refine xd_ (xa_ (hS) rfl) ?_
    refine gV ?_
    refine hK _ ?_; clear hK K
    refine gB ?_
    refine gR ?_
    refine gB ?_
    refine xf_ (yu_ rfl ?_)
    rfl
   ·have h2' : a * n % 2 = 0 := by omega
    have hS := (RR_ n a n1 n8 a0 a1 h2').pure
    have em : (n : Int).tmod 2 = n % 2 := Int.tmod_eq_emod_of_nonneg (by omega)
    by_cases h3 : n < 2 ∨ n % 2 = 1
    ·obtain ⟨W, eW⟩ : ∃ W, sdW n a = W := ⟨_, rfl⟩
     obtain ⟨C, eC⟩ : ∃ C, sdC n a = C := ⟨_, rfl⟩
     rw [eW, eC] at hS
     refine gC fun K hK => ?_
     first | refine xc_ (hS) rfl ?_ | refine xd_ (xa_ (hS) rfl) ?_
     refine gV ?_
     refine hK _ ?_; clear hK K
     (repeat refine xb_ ?_); refine xx_ (xO_ hcx) fun K hK => ?_; simp only [go_sem, seval, em]
     refine gU ?_
     refine hK _ ?_; clear hK K
     refine gI (fun h4 => ?_) fun h4 => ?_
     ·refine gB ?_
      refine xf_ (yu_ rfl ?_)
      rfl
     ·exfalso
      simp at h4
      omega
    ·have hB := aE7 n1 n8 h2'
     have hg := gr_one (show 2 ≤ n by omega) n8
     have hd := ah0 (show 2 ≤ n by omega) n8 (show n % 2 = 0 by omega)
     have hF3 := (Zf_ [(n : Int)] (2 * n) (sdW n a) (sdC n a) (by simp)).pure
     rw [RN_ hB hg hd, av9] at hF3
     have hCy := RT_ n a (by omega) n8 (by omega) a0 a1
     have k3 := TF_ [(n : Int)] (2 * n) (cyL n a)
     generalize cyL n a = cl at *
     clear hB hg hd
     obtain ⟨W, eW⟩ : ∃ W, sdW n a = W := ⟨_, rfl⟩
     obtain ⟨C, eC⟩ : ∃ C, sdC n a = C := ⟨_, rfl⟩
     rw [eW, eC] at hS hF3
     refine gC fun K hK => ?_
     first | refine xc_ (hS) rfl ?_ | refine xd_ (xa_ (hS) rfl) ?_
     refine gV ?_
     refine hK _ ?_; clear hK K
     (repeat refine xb_ ?_); refine xx_ (xO_ hcx) fun K hK => ?_; simp only [go_sem, seval, em]
     refine gU ?_
     refine hK _ ?_; clear hK K
     refine gI (fun h4 => ?_) fun h4 => ?_
     ·exfalso
      simp at h4
      omega
     ·refine xe_ ?_
      refine gC fun K hK => ?_
      first | refine xc_ (hF3) rfl ?_ | refine xd_ (xa_ (hF3) rfl) ?_
      refine gV ?_
      refine hK _ ?_; clear hK K
      refine gC fun K hK => ?_
      first | refine xc_ (hCy) rfl ?_ | refine xd_ (xa_ (hCy) rfl) ?_
      refine gV ?_
      refine hK _ ?_; clear hK K
      (repeat refine xb_ ?_); refine xx_ (xO_ hcx) fun K hK => ?_; simp only [go_sem, seval, decide_true]
      first | refine xd_ (fun _ => xa_ (k3) rfl) ?_ | refine xd_ (xa_ (k3) rfl) ?_
      refine gV ?_
      (try simp only [go_sem, seval, decide_true])
      refine hK _ ?_; clear hK K
      refine xf_ (yu_ rfl ?_)
      rfl
  ·have hS := Su_ N a h1
   refine gC fun K hK => ?_
   first | refine xc_ (hS) rfl ?_ | refine xd_ (xa_ (hS) rfl) ?_
   refine gV ?_
   refine hK _ ?_; clear hK K
   refine gB ?_
   refine gR ?_
   refine gB ?_
   refine xf_ (yu_ rfl ?_)
   rfl
end Go.Proofs.YtjbdiekkjegckaaGreat
