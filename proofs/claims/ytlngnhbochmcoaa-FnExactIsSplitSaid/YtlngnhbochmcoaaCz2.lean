import Derived.Test.YtlngnhbochmcoaaCz1
import Derived.Test.YtlngnhbochmcoaaFc
set_option linter.unusedSimpArgs false
set_option linter.unusedVariables false
namespace Go.Proofs.Ytlngnhbochmcoaa
open Go Go.Aw Go.Pl
theorem QM_ (t : List (List (List Int))) (hc : Cube t) (x : List Int) (hx : ListP t x) (hch : wX_ t x) : PureCall Try.prog 40 [.l1 x, .cptr [.l3 t] 0] (.bool false) := by
 have h := ab6 t hc x hx
 rw [zj_ hch] at h
 refine gPC 8 [.tmp 3] Try.call40 Try.func40 fun cx hcx => gE ?_
 refine gBN ?_
 refine gCN fun K hK => ?_
 first | refine xi_ (h) rfl ?_ | refine xe_ (xg_ (h) rfl) ?_
 refine gV ?_
 refine hK _ ?_; clear hK K
 refine xd_ (yZ_ rfl ?_)
 rfl
theorem QN_ (xs : List (List Int)) (V : Nat) (t : List (List (List Int))) (hf : ∀ i, i < xs.length → PureCall Try.prog V [.l1 (xs.getD i []), .cptr [.l3 t] 0] (.bool false)) :
  OwnCall Try.prog 39 [.l2 xs, .fn V [.bptr 0 0]] [(0, .bx [.l3 t])] [(0, .bx [.l3 t])] (.l2 xs) [0] := by
 have hI := JJ_ xs V [.cptr [.l3 t] 0] (fun _ => false) (by simp only [yd_, Aw.isData, Bool.and_true]) hf xs.length (Nat.le_refl _) (fun _ _ => rfl) (fun h => absurd h (Nat.lt_irrefl _))
 rw [if_neg (Nat.lt_irrefl _)] at hI
 refine OwnCall.intro (n := 42) (rs := [.tmp 4]) 2 [0, 1] (X := [0]) Try.call39 Try.func39 rfl rfl rfl (by simp only [List.length_cons, List.length_nil]; omega) (by simp [Aw.ids, y9_, zk_, xD_, xh_]) (fun cx hcx => AT.weakG (yY_ ?_)); refine gE ?_
 refine gBN ?_
 refine gCN fun K hK => ?_
 first | refine xM_ rfl rfl (hI) ?_ | refine xe_ (xG_ rfl rfl (hI)) ?_
 refine gV ?_
 refine hK _ ?_; clear hK K
 refine gBN ?_
 refine gR ?_
 refine gBN ?_
 refine xd_ ⟨⟨[(0, .l2 xs), (1, .fn V [.bptr 0 0]), (4, .l2 xs)], [(0, .bx [.l3 t])]⟩, xS_ [] [], .inr rfl, (by first | rfl | exact ⟨trivial, rfl⟩ | (simp only [wg_, V8_, go_sem, seval]; done)), (by simp [St.get, xh_, xD_]), rfl⟩
open Go.Pl
set_option maxRecDepth 100000 in
set_option maxHeartbeats 16000000 in
theorem V5_ (t : List (List (List Int))) (hR : RingP t) : PureCall Try.prog 22 [.agg [.l3 t]] (.l2 (Wp_ t (t.length - 1))) := by
 have n1 := hR.cube.1
 have n16 := hR.cube.2.1
 have hC := hR.cube
 obtain ⟨n, en⟩ : ∃ n, t.length = n := ⟨_, rfl⟩
 have hDel := QN_ (Wp_ t (n - 1)) 40 t (fun i hi => by
  have h := (Sm_ hR).1 (by rw [en]; exact gdm (d := []) hi)
  exact QM_ t hC _ h.1 h.2)
 have hN : ∀ k, k < n → FreshCall Try.prog 35 [.l2 (t.getD k [])] (.l2 (t.getD k [])) := fun k hk => Ud_ n (by omega) (t.getD k []) (by rw [← en]; exact hC.2.2 k (by omega))
 have hE : ∀ k, k + 1 < n → FreshCall Try.prog 36 [.l2 (t.getD (k + 1) [])] (.l1 (egV t k)) := fun k hk => by
  have h := Wr_ n (by omega) (by omega) (t.getD (k + 1) []) (by rw [← en]; exact Tg_ hC (by omega))
  unfold egV
  rw [en]
  exact h
 have lE : ∀ k, (egV t k).length ≤ 55441 := fun k => YE_ _ _
 have lI : ∀ k, k < n → (Wp_ t k).length ≤ n := fun k hk => by have := ab1 hR (k := k) (by omega); omega
 have hH : ∀ i, i + 1 < n → ∀ y, y.length = i + 2 → (∀ l, l < i + 2 → InP (y.getD l 0)) → PureCall Try.prog 38 [.l3 ((t.drop 1).take (i + 1)), .l1 (y.drop 1)] (.bool (hcQ t i y)) := fun i hi y hy hp => by
  have lm : ((t.drop 1).take (i + 1)).length = i + 1 := by rw [List.length_take, List.length_drop]; omega
  have h := Ue_ n (by omega) (by omega) ((t.drop 1).take (i + 1)) (by omega) (by omega) (fun l hl => by rw [Zh_ (by omega), ← en]; exact Tg_ hC (by omega)) (y.drop 1) (by rw [List.length_drop]; omega) (fun l hl => by rw [aJ6]; exact hp (l + 1) (by omega))
  unfold hcQ
  rw [lm] at h
  rw [en]
  exact h
 have ld : (t.drop 1).length = n - 1 := by rw [List.length_drop]; omega
 rw [en]
 refine gPC 85 [.tmp 2] Try.call22 Try.func22 fun cx hcx => gE ?_
 refine gB ?_
 refine gB ?_
 (repeat refine xa_ ?_); refine AT.ghost (z1_ 2 rfl) ?_; simp only [find, x2_, xp_, xA_, qOf, rmT, xt_, x4_, x8_, List.map_cons, List.map_nil, List.filter_cons, List.filter_nil, List.contains_cons, List.contains_nil, List.isEmpty_nil, List.isEmpty_cons, Bool.or_false, Bool.or_true, Bool.false_and, Bool.true_and, Bool.and_false, Bool.and_true, Bool.not_true, Bool.not_false, Bool.false_eq_true, if_true, if_false, seval]
 (repeat refine xa_ ?_); refine AT.ghost (z1_ 3 rfl) ?_; simp only [find, x2_, xp_, xA_, qOf, rmT, xt_, x4_, x8_, List.map_cons, List.map_nil, List.filter_cons, List.filter_nil, List.contains_cons, List.contains_nil, List.isEmpty_nil, List.isEmpty_cons, Bool.or_false, Bool.or_true, Bool.false_and, Bool.true_and, Bool.and_false, Bool.and_true, Bool.not_true, Bool.not_false, Bool.false_eq_true, if_true, if_false, seval]
 refine gB ?_
 (repeat refine xa_ ?_); refine AT.ghost (aq8 4 rfl) ?_; simp only [find, x2_, xp_, xA_, qOf, rmT, xt_, x4_, x8_, List.map_cons, List.map_nil, List.filter_cons, List.filter_nil, List.contains_cons, List.contains_nil, List.isEmpty_nil, List.isEmpty_cons, Bool.or_false, Bool.or_true, Bool.false_and, Bool.true_and, Bool.and_false, Bool.and_true, Bool.not_true, Bool.not_false, Bool.false_eq_true, if_true, if_false, seval]
 refine gB ?_
 (repeat refine xa_ ?_); refine xo_ (fun k : Nat => ⟨[(1, .bptr 0 0), (3, .ref 2 []), (4, .ref 3 []), (5, .ref 4 []), (6, .int ((k + 1 : Nat) : Int))], [(0, .bx [.l3 t]), (2, .r2 [[1]]), (3, .r2 ((List.range k).map (egV t))), (4, .r3 ((t.drop 1).take k))]⟩) (fun k => k ≤ (n - 1)) (fun k => (n - 1) - k) 0 (Nat.zero_le _) (by refine And.intro ?_ rfl; simp only [leS, Nat.reduceEqDiff, ↓reduceIte, true_and, and_true]; repeat' (first | rfl | with_reducible refine And.intro ?_ ?_ | omega)) (fun k hk => ?_)
 have lv : ((List.range k).map (egV t)).length = k := by rw [List.length_map, List.length_range]
 have lt : ((t.drop 1).take k).length = k := by rw [List.length_take, ld]; omega
 refine gB ?_
 refine gI (fun h2 => ?_) fun h2 => ?_
 ·have hk2 : k + 1 < n := by omega
  have hNk := hN (k + 1) (by omega)
  have hEk := hE k hk2
  have sv : (List.range (k + 1)).map (egV t) = (List.range k).map (egV t) ++ [egV t k] := by rw [List.range_succ, List.map_append]; rfl
  have st : (t.drop 1).take (k + 1) = (t.drop 1).take k ++ [t.getD (k + 1) []] := by
   rw [take_snoc (d := []) (by omega)]
   rw [List.getD_eq_getElem?_getD, List.getElem?_drop, ← List.getD_eq_getElem?_getD, Nat.add_comm 1 k]
  have lEk := lE k
  generalize egV t k = V at *
  refine xb_ ?_
  refine gO ?_
  refine gC fun K hK => ?_
  refine gU ?_
  first | refine x3_ rfl (hNk) ?_ | refine xe_ (xP_ rfl (hNk)) ?_
  refine gV ?_
  refine hK _ ?_; clear hK K
  refine gC fun K hK => ?_
  first | refine x3_ rfl (hEk) ?_ | refine xe_ (xP_ rfl (hEk)) ?_
  refine gW ?_
  refine hK _ ?_; clear hK K
  refine gB ?_
  refine ⟨k + 1, by omega, by omega, .inr ⟨[5], by simp only [x2_, List.map_cons, List.map_nil, xp_, xA_, qOf, rmT, xt_, x4_, List.filter_cons, List.filter_nil, List.contains_cons, List.contains_nil, xN_, St.get, xh_, Nat.reduceEqDiff, Nat.reduceBEq, Bool.or_false, Bool.or_true, Bool.false_and, Bool.not_true, Bool.not_false, Bool.false_eq_true, ↓reduceIte, if_true, if_false, AV.int.injEq, AV.bool.injEq, AV.l1.injEq, AV.l2.injEq, AV.l3.injEq, true_and, and_true]; omega, by simp only [x2_, List.map_cons, List.map_nil, xp_, xA_, qOf, rmT, xt_, x4_, List.filter_cons, List.filter_nil, List.contains_cons, List.contains_nil, xN_, St.get, xh_, Nat.reduceEqDiff, Nat.reduceBEq, Bool.or_false, Bool.or_true, Bool.false_and, Bool.not_true, Bool.not_false, Bool.false_eq_true, ↓reduceIte, if_true, if_false, AV.int.injEq, AV.bool.injEq, AV.l1.injEq, AV.l2.injEq, AV.l3.injEq, true_and, and_true]; (rw [sv, st])⟩⟩
 ·obtain rfl : k = n - 1 := by omega
  rw [List.take_of_length_le (by omega)]
  refine xf_ (ye_ ?_)
  (repeat refine xa_ ?_); refine AT.ghost (zl_ [3, 4]) ?_; simp only [W4_, W3_, Y2_, Ua_, yR_, Option.getD_some, Option.getD_none, find, xp_, xA_, qOf, rmT, xt_, x4_, List.map_cons, List.map_nil, List.filter_cons, List.filter_nil, List.contains_cons, List.contains_nil, Bool.or_false, Bool.or_true, Bool.false_and, Bool.not_true, Bool.not_false, Bool.false_eq_true, if_true, if_false, seval]
  refine gB ?_
  have t0 : Tree.r2 [[1]] = .r2 (Wp_ t 0) := rfl
  rw [t0]
  (repeat refine xa_ ?_); refine xo_ (fun i : Nat => ⟨[(1, .bptr 0 0), (3, .ref 2 []), (5, .l3 (t.drop 1)), (42, .l2 ((List.range (n - 1)).map (egV t))), (43, .int ((n - 1 : Nat) : Int)), (44, .int i)], [(0, .bx [.l3 t]), (2, .r2 (Wp_ t i))]⟩) (fun i => i ≤ (n - 1)) (fun i => (n - 1) - i) 0 (Nat.zero_le _) (by refine And.intro ?_ rfl; simp only [leS, Nat.reduceEqDiff, ↓reduceIte, true_and, and_true]; repeat' (first | rfl | with_reducible refine And.intro ?_ ?_ | omega)) (fun i hi => ?_)
  refine gB ?_
  refine gI (fun h3 => ?_) fun h3 => ?_
  ·have hi2 : i < n - 1 := by omega
   have gVi : ((List.range (n - 1)).map (egV t)).getD i [] = egV t i := by
    rw [List.getD_eq_getElem?_getD, List.getElem?_map, List.getElem?_range hi2]; rfl
   have lL := lI i (by omega)
   have lN := lI (i + 1) (by omega)
   have eN : Wp_ t (i + 1) = exL (hcQ t i) (egV t i) (Wp_ t i) := rfl
   have hx : ∀ a, a < (Wp_ t i).length → ((Wp_ t i).getD a []).length = i + 1 ∧ ∀ l, l < i + 1 → InP (((Wp_ t i).getD a []).getD l 0) := fun a ha => ⟨(chS_mem.1 (gdm ha)).1, ab0 (gdm ha)⟩
   have hVp : ∀ b, b < (egV t i).length → InP ((egV t i).getD b 0) := fun b hb => aa9 (gdm hb)
   have hHi := hH i (by omega)
   have lV := lE i
   generalize egV t i = V at *
   rw [eN] at lN
   obtain ⟨L, eL⟩ : ∃ L, Wp_ t i = L := ⟨_, rfl⟩
   rw [eL] at lL lN hx eN ⊢
   have lX := fun a (ha : a < L.length) b => aJ5 (hcQ t i) V L ha b
   obtain ⟨Q, eQ⟩ : ∃ Q, hcQ t i = Q := ⟨_, rfl⟩
   rw [eQ] at hHi lN eN lX
   refine xb_ ?_
   refine gO ?_
   (repeat refine xa_ ?_); refine xr_ (xZ_ hcx) fun K hK => ?_; simp only [go_sem, seval, gVi]
   refine gU ?_
   refine hK _ ?_; clear hK K
   refine gB ?_
   (repeat refine xa_ ?_); refine AT.ghost (z1_ 3 rfl) ?_; simp only [find, x2_, xp_, xA_, qOf, rmT, xt_, x4_, x8_, List.map_cons, List.map_nil, List.filter_cons, List.filter_nil, List.contains_cons, List.contains_nil, List.isEmpty_nil, List.isEmpty_cons, Bool.or_false, Bool.or_true, Bool.false_and, Bool.true_and, Bool.and_false, Bool.and_true, Bool.not_true, Bool.not_false, Bool.false_eq_true, if_true, if_false, seval]
   refine gB ?_
   have t1 : Tree.r2 [] = .r2 (exL Q V (L.take 0)) := rfl
   rw [t1]
   (repeat refine xa_ ?_); refine gLp (fun a : Nat => ⟨[(1, .bptr 0 0), (3, .ref 2 []), (5, .l3 (t.drop 1)), (8, .int i), (9, .l1 V), (10, .ref 3 []), (42, .l2 ((List.range (n - 1)).map (egV t))), (43, .int ((n - 1 : Nat) : Int)), (44, .int i), (50, .ref 2 []), (51, .int L.length), (52, .int a)], [(0, .bx [.l3 t]), (2, .r2 L), (3, .r2 (exL Q V (L.take a)))]⟩) L.length fun a ha => ?_
   refine gB ?_
   refine gI (fun h4 => ?_) fun h4 => ?_
   ·have ha : a < L.length := by omega
    obtain ⟨lx, px⟩ := hx a ha
    have lXa := lX a ha
    have sL : exL Q V (L.take (a + 1)) = exL Q V (L.take a) ++ exT Q (L.getD a []) V := by rw [take_snoc (d := []) ha, as0]
    obtain ⟨x, ex⟩ : ∃ x, L.getD a [] = x := ⟨_, rfl⟩
    rw [ex] at lx px lXa sL
    obtain ⟨A, eA⟩ : ∃ A, exL Q V (L.take a) = A := ⟨_, rfl⟩
    rw [eA] at lXa sL ⊢
    refine xb_ ?_
    refine gO ?_
    (repeat refine xa_ ?_); refine xr_ (xZ_ hcx) fun K hK => ?_; simp only [go_sem, seval, ex]
    refine gU ?_
    refine hK _ ?_; clear hK K
    refine gB ?_
    have t2 : Tree.r2 A = .r2 (A ++ exT Q x (V.take 0)) := by rw [show exT Q x (V.take 0) = [] from rfl, List.append_nil]
    rw [t2]
    (repeat refine xa_ ?_); refine gLp (fun b : Nat => ⟨[(1, .bptr 0 0), (3, .ref 2 []), (5, .l3 (t.drop 1)), (8, .int i), (9, .l1 V), (10, .ref 3 []), (12, .l1 x), (42, .l2 ((List.range (n - 1)).map (egV t))), (43, .int ((n - 1 : Nat) : Int)), (44, .int i), (50, .ref 2 []), (51, .int L.length), (52, .int a), (56, .l1 V), (57, .int V.length), (58, .int b)], [(0, .bx [.l3 t]), (2, .r2 L), (3, .r2 (A ++ exT Q x (V.take b)))]⟩) V.length fun b hb => ?_
    have lb := lXa b
    refine gB ?_
    refine gI (fun h5 => ?_) fun h5 => ?_
    ·have hb : b < V.length := by omega
     obtain ⟨v0, v1⟩ := hVp b hb
     have sV : exT Q x (V.take (b + 1)) = exT Q x (V.take b) ++ if Q (x ++ [V.getD b 0]) = true then [x ++ [V.getD b 0]] else [] := by rw [take_snoc (d := 0) hb, ar9]
     obtain ⟨v, ev⟩ : ∃ v, V.getD b 0 = v := ⟨_, rfl⟩
     rw [ev] at v0 v1 sV
     have hcl := X2_ x (by omega) (by omega)
     have ly : (x ++ [v]).length = i + 2 := by rw [List.length_append, lx]; rfl
     have hY := hHi (x ++ [v]) ly (fun l hl => by
      by_cases c : l < x.length
      ·rw [zV_ c]; exact px l (by omega)
      ·rw [show l = x.length by omega, w0_]; exact ⟨v0, v1⟩)
     obtain ⟨y, ey⟩ : ∃ y, x ++ [v] = y := ⟨_, rfl⟩
     rw [ey] at sV ly hY
     refine xb_ ?_
     refine gO ?_
     (repeat refine xa_ ?_); refine xr_ (xZ_ hcx) fun K hK => ?_; simp only [go_sem, seval, ev]
     refine gU ?_
     refine hK _ ?_; clear hK K
     refine gC fun K hK => ?_
     refine xK_ rfl (hcl) rfl ?_; simp only [go_sem, seval]
     refine gU ?_
     refine hK _ ?_; clear hK K
     (repeat refine xa_ ?_); refine AT.ghost (st' := ⟨[(1, .bptr 0 0), (3, .ref 2 []), (5, .l3 (t.drop 1)), (8, .int i), (9, .l1 V), (10, .ref 3 []), (12, .l1 x), (42, .l2 ((List.range (n - 1)).map (egV t))), (43, .int ((n - 1 : Nat) : Int)), (44, .int i), (50, .ref 2 []), (51, .int L.length), (52, .int a), (56, .l1 V), (57, .int V.length), (58, .int b), (15, .ref 4 [])], [(0, .bx [.l3 t]), (2, .r2 L), (3, .r2 (A ++ exT Q x (V.take b))), (4, .t1 (x ++ [v]))]⟩) (xS_ [5] []) ?_
     rw [ey]
     (repeat refine xa_ ?_); refine AT.ghost (zl_ [4]) ?_; simp only [W4_, W3_, Y2_, Ua_, yR_, Option.getD_some, Option.getD_none, find, xp_, xA_, qOf, rmT, xt_, x4_, List.map_cons, List.map_nil, List.filter_cons, List.filter_nil, List.contains_cons, List.contains_nil, Bool.or_false, Bool.or_true, Bool.false_and, Bool.not_true, Bool.not_false, Bool.false_eq_true, if_true, if_false, seval]
     have e1 : (i : Int) + 1 = ((i + 1 : Nat) : Int) := by omega
     have hy1 : y.take y.length = y := List.take_length
     (repeat refine xa_ ?_); refine xV_ (xZ_ hcx) mixed (by kernel_rfl) fun K hK => ?_; simp only [go_sem, seval, e1, List.drop_zero, hy1]
     refine gU ?_
     first | refine xi_ (hY) rfl ?_ | refine xe_ (xg_ (hY) rfl) ?_
     refine gV ?_
     refine hK _ ?_; clear hK K
     cases hq : Q y with
     | true =>
      rw [hq, if_pos rfl] at sV
      refine gR ?_
      refine gC fun K hK => ?_
      refine gU ?_
      refine hK _ ?_; clear hK K
      refine gB ?_
      refine ⟨b + 1, by omega, by omega, .inr ⟨[4], by simp only [x2_, List.map_cons, List.map_nil, xp_, xA_, qOf, rmT, xt_, x4_, List.filter_cons, List.filter_nil, List.contains_cons, List.contains_nil, xN_, St.get, xh_, Nat.reduceEqDiff, Nat.reduceBEq, Bool.or_false, Bool.or_true, Bool.false_and, Bool.not_true, Bool.not_false, Bool.false_eq_true, ↓reduceIte, if_true, if_false, AV.int.injEq, AV.bool.injEq, AV.l1.injEq, AV.l2.injEq, AV.l3.injEq, true_and, and_true]; omega, by simp only [x2_, List.map_cons, List.map_nil, xp_, xA_, qOf, rmT, xt_, x4_, List.filter_cons, List.filter_nil, List.contains_cons, List.contains_nil, xN_, St.get, xh_, Nat.reduceEqDiff, Nat.reduceBEq, Bool.or_false, Bool.or_true, Bool.false_and, Bool.not_true, Bool.not_false, Bool.false_eq_true, ↓reduceIte, if_true, if_false, AV.int.injEq, AV.bool.injEq, AV.l1.injEq, AV.l2.injEq, AV.l3.injEq, true_and, and_true]; (rw [sV, List.append_assoc])⟩⟩
     | false =>
      rw [hq, if_neg (by decide), List.append_nil] at sV
      refine gQ ?_
      refine xb_ ?_
      refine gB ?_
      refine ⟨b + 1,  by omega, by omega, .inl ⟨gH,  by rw [sV]⟩⟩
    ·obtain rfl : b = V.length := by omega
     rw [List.take_length, ← sL]
     refine xf_ (ye_ ?_)
     refine gB ?_
     refine ⟨a + 1,  by omega, by omega, .inl ⟨gH,  rfl⟩⟩
   ·obtain rfl : a = L.length := by omega
    rw [List.take_length, ← eN]
    refine xf_ (ye_ ?_)
    refine gB ?_
    (repeat refine xa_ ?_); refine AT.ghost (st' := ⟨[(1, .bptr 0 0), (3, .ref 2 []), (5, .l3 (t.drop 1)), (42, .l2 ((List.range (n - 1)).map (egV t))), (43, .int ((n - 1 : Nat) : Int)), (44, .int i)], [(0, .bx [.l3 t]), (2, .r2 (Wp_ t (i + 1)))]⟩) (xS_ [2] [(3, 2)]) ?_
    refine gB ?_
    refine ⟨i + 1,  by omega, by omega, .inl ⟨gH,  rfl⟩⟩
  ·obtain rfl : i = n - 1 := by omega
   refine xf_ (ye_ ?_)
   (repeat refine xa_ ?_); refine AT.ghost (zl_ [2]) ?_; simp only [W4_, W3_, Y2_, Ua_, yR_, Option.getD_some, Option.getD_none, find, xp_, xA_, qOf, rmT, xt_, x4_, List.map_cons, List.map_nil, List.filter_cons, List.filter_nil, List.contains_cons, List.contains_nil, Bool.or_false, Bool.or_true, Bool.false_and, Bool.not_true, Bool.not_false, Bool.false_eq_true, if_true, if_false, seval]
   refine gC fun K hK => ?_
   refine wU_ (hDel) (by simp [Aw.ids]) (by simp [find]) (by simp [z2_, x4_, xA_, xp_, Wq_, Aw.ids]) (by simp [xA_, xp_, Wq_, Aw.ids]) (by simp [Aw.ids]) ?_; simp only [Aw.ids, List.map_cons, List.map_nil, List.filter_cons, List.filter_nil, List.contains_cons, List.contains_nil, Bool.or_false, Bool.or_true, Bool.not_true, Bool.not_false, Nat.reduceBEq, Bool.false_eq_true, if_true, if_false, List.cons_append, List.nil_append]; simp only [go_sem, seval]
   refine hK _ ?_; clear hK K
   exact xd_ (TT_ rfl ⟨rfl, trivial⟩ rfl)
noncomputable def isA (t : List (List (List Int))) : Bool := if Xu_ t = 0 then decide ((Wp_ t (t.length - 1)).length = t.length) else false
theorem W9_ {t : List (List (List Int))} (h : Xu_ t = 0) : RingP t := by
 unfold Xu_ at h
 by_cases c : zM_ t = true
 ·exact aq5 c
 ·rw [if_neg c] at h; omega
theorem QO_ (t : List (List (List Int))) (h : Xu_ t = 0) : PureCall Try.prog 13 [.agg [.l3 t]] (.tup [.l2 (Wp_ t (t.length - 1)), .int 0]) := by
 have hc := Xe_ t
 rw [h] at hc
 have hC := V5_ t (W9_ h)
 refine gPC 12 [.tmp 2, .tmp 3] Try.call13 Try.func13 fun cx hcx => gE ?_
 refine gB ?_
 refine gC fun K hK => ?_
 first | refine xi_ (hc) rfl ?_ | refine xe_ (xg_ (hc) rfl) ?_
 refine gV ?_
 refine hK _ ?_; clear hK K
 refine gB ?_
 refine gQ ?_
 refine xb_ ?_
 refine gC fun K hK => ?_
 first | refine xi_ (hC) rfl ?_ | refine xe_ (xg_ (hC) rfl) ?_
 refine gV ?_
 refine hK _ ?_; clear hK K
 exact xd_ (aK0 trivial trivial rfl)
theorem So_ (t : List (List (List Int))) (c : Int) (h : Xu_ t = c) (h0 : c ≠ 0) : PureCall Try.prog 13 [.agg [.l3 t]] (.tup [.nil, .int c]) := by
 have hc := Xe_ t
 rw [h] at hc
 refine gPC 12 [.tmp 2, .tmp 3] Try.call13 Try.func13 fun cx hcx => gE ?_
 refine gB ?_
 refine gC fun K hK => ?_
 first | refine xi_ (hc) rfl ?_ | refine xe_ (xg_ (hc) rfl) ?_
 refine gV ?_
 refine hK _ ?_; clear hK K
 refine gB ?_
 refine gI (fun h1 => ?_) fun h1 => ?_
 ·refine gB ?_
  exact xd_ (aK0 trivial trivial rfl)
 ·exact absurd (by first | exact h1 | omega) h0
theorem V6_ (t : List (List (List Int))) : PureCall Try.prog 7 [.agg [.l3 t]] (.tup [.bool (isA t), .int (Xu_ t)]) := by
 by_cases h : Xu_ t = 0
 ·have hC := QO_ t h
  have e : isA t = decide ((Wp_ t (t.length - 1)).length = t.length) := if_pos h
  rw [e, h]
  generalize Wp_ t (t.length - 1) = L at *
  rw [show decide (L.length = t.length) = decide ((L.length : Int) = (t.length : Int)) from decide_eq_decide.2 (by omega)]
  refine gPC 22 [.tmp 2, .tmp 3] Try.call7 Try.func7 fun cx hcx => gE ?_
  refine gB ?_
  refine gC fun K hK => ?_
  first | refine xi_ (hC) rfl ?_ | refine xe_ (xg_ (hC) rfl) ?_
  refine gV ?_
  refine hK _ ?_; clear hK K
  (repeat refine xa_ ?_); refine xr_ (xZ_ hcx) fun K hK => ?_; simp only [go_sem, seval, decide_true, Bool.true_and]
  refine gU ?_
  refine hK _ ?_; clear hK K
  exact xd_ (aK0 trivial trivial rfl)
 ·obtain ⟨c, ec⟩ : ∃ c, Xu_ t = c := ⟨_, rfl⟩
  have hC := So_ t c ec (by omega)
  have e : isA t = false := if_neg h
  rw [e, ec]
  have h0 : (c = 0) = False := eq_false (by omega)
  refine gPC 22 [.tmp 2, .tmp 3] Try.call7 Try.func7 fun cx hcx => gE ?_
  refine gB ?_
  refine gC fun K hK => ?_
  first | refine xi_ (hC) rfl ?_ | refine xe_ (xg_ (hC) rfl) ?_
  refine gV ?_
  refine hK _ ?_; clear hK K
  (repeat refine xa_ ?_); refine xr_ (xZ_ hcx) fun K hK => ?_; simp only [go_sem, seval, h0, decide_false, Bool.false_and]
  refine gU ?_
  refine hK _ ?_; clear hK K
  exact xd_ (aK0 trivial trivial rfl)
end Go.Proofs.Ytlngnhbochmcoaa
