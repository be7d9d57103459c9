import Derived.Test.YtjbdiekkjegckaaGreatYz4
import Derived.Test.YtjbdiekkjegckaaGreatBb
set_option linter.unusedSimpArgs false
set_option linter.unusedVariables false
namespace Go.Proofs.YtjbdiekkjegckaaGreat
open Go Go.Aw Go.Pl
attribute [local go_sem] y9_ yB_ za_ zb_ wE_ yq_ List.getElem?_toArray List.getElem?_cons_zero List.getElem?_cons_succ
theorem Sn_ (most : Int) : ∀ (k : Nat) (o : List Int) (z : Int) (s : Src), (YE_ most k o z s).1.length ≤ o.length + k
 | 0, _, _, _ => Nat.le_refl _
 | k + 1, o, z, s => by
  unfold YE_
  split
  ·have := Sn_ most k (o ++ [2 + (nx (nx s 2).2 (most / z - 1)).1]) (z * (2 + (nx (nx s 2).2 (most / z - 1)).1)) (nx (nx s 2).2 (most / z - 1)).2
   rw [List.length_append, List.length_singleton] at this
   omega
  ·show o.length ≤ _
   omega
theorem KQ_ (s : Src) (most : Int) : (UJ_ s most).1.length ≤ 4 := Sn_ most 3 _ _ _
theorem aG8 {n : Nat} (h : 1 ≤ n) : PosO [(n : Int)] := ⟨by simp, fun i hi => by
 obtain rfl : i = 0 := by simp at hi; omega
 show 1 ≤ (n : Int)
 omega⟩
theorem be7 {n m : Nat} (h : 1 ≤ n) (h' : 1 ≤ m) : PosO [(n : Int), (m : Int)] := UD_ (aG8 h) (by omega)
theorem be8 {n k : Nat} (n1 : 1 ≤ n) (n8 : n ≤ 8) : CocS [(n : Int)] n (z5_ n (aH8 n k)) := by
 have e : xA_ [(n : Int)] = n := by show (n : Int) * 1 = n; omega
 refine ⟨aG8 n1, by omega, by omega, by omega, by rw [xL_]; omega, ?_⟩
 rw [xL_]
 refine YR_ fun x _ y _ z _ => ?_
 unfold aH8
 split
 ·have := Int.emod_nonneg ((k : Int) * x) (show (n : Int) ≠ 0 by omega)
  have := Int.emod_lt_of_pos ((k : Int) * x) (show (0 : Int) < n by omega)
  omega
 ·omega
theorem be9 {n m k : Nat} (n1 : 1 ≤ n) (m1 : 1 ≤ m) (h8 : n * m ≤ 8) : CocS [(n : Int), (m : Int)] (Nat.gcd n m : Nat) (z5_ (n * m) (aH9 m k (Nat.gcd n m))) := by
 have e : xA_ [(n : Int), (m : Int)] = ((n * m : Nat) : Int) := by show (n : Int) * ((m : Int) * 1) = _; rw [Int.mul_one]; exact (Int.natCast_mul n m).symm
 have a1 : 1 ≤ Nat.gcd n m := Nat.gcd_pos_of_pos_left _ n1
 have a2 := Nat.le_of_dvd n1 (Nat.gcd_dvd_left n m)
 have n8 : n ≤ 8 := by
  have : n * 1 ≤ n * m := Nat.mul_le_mul_left n m1
  omega
 refine ⟨be7 n1 m1, by omega, by omega, by omega, by rw [xL_]; omega, ?_⟩
 rw [xL_]
 refine YR_ fun x _ y _ z _ => ?_
 unfold aH9
 split
 ·have := Int.emod_nonneg ((k : Int) * (x / m : Nat)) (show ((Nat.gcd n m : Nat) : Int) ≠ 0 by omega)
  have := Int.emod_lt_of_pos ((k : Int) * (x / m : Nat)) (show (0 : Int) < (Nat.gcd n m : Nat) by omega)
  omega
 ·omega
theorem bf0 : CocS [2, 2, 2] 2 (z5_ 8 av5) := by
 have p : PosO [2, 2, 2] := ⟨by decide, fun i hi => by
  have : i = 0 ∨ i = 1 ∨ i = 2 := by simp at hi; omega
  rcases this with rfl | rfl | rfl <;> decide⟩
 have e : xA_ [2, 2, 2] = 8 := by decide
 refine ⟨p, by omega, by decide, by decide, by rw [xL_]; omega, ?_⟩
 rw [xL_]
 refine YR_ fun x hx y _ z _ => ?_
 have := aj6 (y := y) (z := z) hx
 omega
theorem bf1 {o : List Int} {m : Int} {W V : List (List (List Int))} (h : CocS o m W) : CocS o m (sumW m W.length W V) := by
 obtain ⟨h1, h2, h3, h4, h5, h6⟩ := h
 have e : (sumW m W.length W V).length = W.length := xL_ ..
 refine ⟨h1, h2, h3, h4, by rw [e]; exact h5, ?_⟩
 rw [e]
 unfold sumW
 refine YR_ fun x _ y _ z _ => ?_
 have := Int.emod_nonneg (e3 W x y z + e3 V x y z) (show m ≠ 0 by omega)
 have := Int.emod_lt_of_pos (e3 W x y z + e3 V x y z) (show 0 < m by omega)
 omega
def DrC (P : Program) (f : FuncId) (s : Src) (o : List Int) (m : Int) (W : List (List (List Int))) (s' : Src) : Prop :=
 OwnCall P f [.bptr 0 0] [(0, xv_ s)] [(0, xv_ s'), (1, .t1 o), (2, .t3 W), (3, .bx [.ref 1 [], .int m, .ref 2 []])] (.agg [.ref 1 [], .int m, .ref 2 []]) [0]
def av6 (P : Program) (fN fC fM fT : FuncId) (d : Int) (s0 : Src) (o : List Int) (m : Int) (W : List (List (List Int))) (s1 : Src) : Prop :=
 (d = 0 ∨ d = 1) ∧ (∃ (a : Int × Src) (k : Nat), OwnCall P fN [.bptr 0 0, .int 8] [(0, xv_ s0)] [(0, xv_ a.2)] (.int a.1) [0] ∧ 0 ≤ a.1 ∧ a.1 ≤ 8 ∧ 1 + a.1 = m ∧ OwnCall P fN [.bptr 0 0, .int m] [(0, xv_ a.2)] [(0, xv_ s1)] (.int k) [0] ∧ FreshCall P fC [.int m, .int k] (.agg [.l1 o, .int m, .l3 W])) ∨
 d = 2 ∧ (∃ (a b : Int × Src) (n q l k : Nat), OwnCall P fN [.bptr 0 0, .int 4] [(0, xv_ s0)] [(0, xv_ a.2)] (.int a.1) [0] ∧ 0 ≤ a.1 ∧ a.1 ≤ 8 ∧ 1 + a.1 = n ∧ (8 : Int).tdiv n = q ∧ q ≤ 8 ∧ OwnCall P fN [.bptr 0 0, .int q] [(0, xv_ a.2)] [(0, xv_ b.2)] (.int b.1) [0] ∧ 0 ≤ b.1 ∧ b.1 ≤ 8 ∧ 1 + b.1 = l ∧ OwnCall P fN [.bptr 0 0, .int 4] [(0, xv_ b.2)] [(0, xv_ s1)] (.int k) [0] ∧ FreshCall P fM [.int n, .int l, .int k] (.agg [.l1 o, .int m, .l3 W])) ∨
 d = 3 ∧ FreshCall P fT [] (.agg [.l1 o, .int m, .l3 W]) ∧ s0 = s1
set_option maxRecDepth 100000 in
set_option maxHeartbeats 8000000 in
theorem ag2 (s : Src) (hs : s.Ok) (o : List Int) (m : Int) (W : List (List (List Int))) (s1 : Src) (n9 : Nat) (okb : s1.Ok) (hCS : CocS o m W) (lo : o.length ≤ 10) (lW : W.length = n9) (hw0 : av6 Tryz.prog 51 105 106 107 (nx s 5).1 (nx s 5).2 o m W s1) (h2 : ¬ (nx s1 2).1 = 0) : DrC Tryz.prog 87 s o m W (nx s1 2).2 := by
 have hr := xW_ s hs 5 (by omega)
 obtain ⟨r, er⟩ : ∃ r, nx s 5 = r := ⟨_, rfl⟩
 rw [er] at hr hw0
 obtain ⟨d, hd⟩ : ∃ d, r.1 = d := ⟨_, rfl⟩
 rw [hd] at hr hw0
 have hw := hw0
 unfold av6 at hw
 clear hw0
 have hU := xW_ s1 okb 2 (by omega)
 have okU := yp_ okb 2
 have hn8 := hCS.n8
 have m1 := hCS.2.2.1
 have m2 := hCS.2.2.2.1
 rw [lW] at hn8
 unfold DrC
 refine OwnCall.intro (n := 72) (rs := [.cell 2 27]) 1 [0] (X := [0]) Tryz.call87 Tryz.func87 rfl rfl rfl (by simp only [List.length_cons, List.length_nil]; omega) (by simp [Aw.ids, x3_, xQ_, xl_, xg_]) (fun cx hcx => AT.weakG (x2_ ?_)); refine gE ?_
 refine gBN ?_
 refine gBN ?_
 refine gCN fun K hK => ?_
 refine xp_ (hr) rfl rfl ?_; simp only [go_sem, seval]
 refine hK _ ?_; clear hK K
 (repeat refine xb_ ?_); refine AT.ghost (st' := ⟨[(0, .bptr 0 0), (2, .bptr 1 0), (3, .bptr 2 0), (11, .int d)], [(0, xv_ r.2), (1, .bx [.nil, .int 0, .nil]), (2, .bx [.nil, .int 0, .nil])]⟩) (xr_ [] (by simp only [go_sem, seval, AV.int.injEq, AV.bool.injEq, AV.l1.injEq, AV.l2.injEq, AV.l3.injEq]) (by simp only [go_sem, seval])) ?_
 (repeat refine xb_ ?_)
 refine Xh_ ⟨[(0, .bptr 0 0), (2, .bptr 1 0), (3, .bptr 2 0)], [(0, xv_ s1), (1, .bx [.nil, .int 0, .nil]), (2, .bx [.ref 3 [], .int m, .ref 4 []]), (3, .t1 o), (4, .t3 W)]⟩ ?_ ?_
 ·refine gO ?_
  rcases hw with ⟨h0, a, k, h1, h2, h3, h4, h5, h6⟩ | ⟨h0, a, b, n, q, l, k, h1, h2, h3, h4, h5, h6, h7, h8, h9, h10, h11, h12⟩ | ⟨h0, h1, h2⟩
  ·rcases h0 with rfl | rfl
   ·refine gBN ?_
    refine gR ?_
    refine xe_ ?_
    refine gR ?_
    refine gCN fun K hK => ?_
    refine xp_ (h1) rfl rfl ?_; simp only [go_sem, seval]
    simp only [go_sem, seval, h4]
    refine gU ?_
    refine hK _ ?_; clear hK K
    refine gCN fun K hK => ?_
    refine xp_ (h5) rfl rfl ?_; simp only [go_sem, seval]
    refine xq_ rfl (h6) rfl ?_; simp only [go_sem, seval]
    refine hK _ ?_; clear hK K
    refine xJ_ (Yt_ ?_)
    refine xJ_ ?_; refine Or.inl ⟨rfl, xm_ [] []⟩
   ·refine gBN ?_
    refine gQ ?_
    refine gBN ?_
    refine gR ?_
    refine gCN fun K hK => ?_
    refine xp_ (h1) rfl rfl ?_; simp only [go_sem, seval]
    simp only [go_sem, seval, h4]
    refine gU ?_
    refine hK _ ?_; clear hK K
    refine gCN fun K hK => ?_
    refine xp_ (h5) rfl rfl ?_; simp only [go_sem, seval]
    refine xq_ rfl (h6) rfl ?_; simp only [go_sem, seval]
    refine hK _ ?_; clear hK K
    refine xJ_ (Yt_ ?_)
    refine xJ_ ?_; refine Or.inl ⟨rfl, xm_ [] []⟩
  ·subst h0
   refine gBN ?_
   refine gQ ?_
   refine gBN ?_
   refine gQ ?_
   refine gBN ?_
   refine gR ?_
   refine gCN fun K hK => ?_
   refine xp_ (h1) rfl rfl ?_; simp only [go_sem, seval]
   simp only [go_sem, seval, h4]
   refine gU ?_
   refine hK _ ?_; clear hK K
   (repeat refine xb_ ?_); refine xx_ (by first | exact xO_ hcx | exact wJ_ hcx rfl | exact y2_ hcx rfl) fun K hK => ?_; simp only [go_sem, seval, h5]
   refine gU ?_
   refine xp_ (h7) rfl rfl ?_; simp only [go_sem, seval]
   simp only [go_sem, seval, h10]
   refine gU ?_
   refine xp_ (h11) rfl rfl ?_; simp only [go_sem, seval]
   refine xq_ rfl (h12) rfl ?_; simp only [go_sem, seval]
   refine hK _ ?_; clear hK K
   refine xJ_ (Yt_ ?_)
   refine xJ_ ?_; refine Or.inl ⟨rfl, xm_ [] []⟩
  ·subst h0
   refine gBN ?_
   refine gQ ?_
   refine gBN ?_
   refine gQ ?_
   refine gBN ?_
   refine gQ ?_
   refine gBN ?_
   refine gR ?_
   refine gCN fun K hK => ?_
   refine xq_ rfl (h1) rfl ?_; simp only [go_sem, seval]
   refine hK _ ?_; clear hK K
   rw [h2]
   refine xJ_ (Yt_ ?_)
   refine xJ_ ?_; refine Or.inl ⟨rfl, xm_ [] []⟩
 refine gCN fun K hK => ?_
 refine xp_ (hU) rfl rfl ?_; simp only [go_sem, seval]
 refine hK _ ?_; clear hK K
 refine gI (fun h3 => ?_) fun h3 => ?_
 ·exact absurd h3 h2
 ·refine xe_ ?_
  refine gBN ?_
  refine xf_ ⟨⟨[(0, .bptr 0 0), (2, .bptr 3 0)], [(0, xv_ (nx s1 2).2), (1, .t1 o), (2, .t3 W), (3, .bx [.ref 1 [], .int m, .ref 2 []])]⟩, xm_ [2] [(1, 3), (4, 2)], .inr rfl, (by first | rfl | exact ⟨trivial, rfl⟩ | (simp only [y1_, zZ_, go_sem, seval]; done)), (by simp [St.get, xg_, xl_]), rfl⟩
set_option maxRecDepth 100000 in
set_option maxHeartbeats 8000000 in
theorem ag3 (s : Src) (hs : s.Ok) (o : List Int) (m : Int) (W : List (List (List Int))) (s1 : Src) (n9 : Nat) (okb : s1.Ok) (hCS : CocS o m W) (lo : o.length ≤ 10) (lW : W.length = n9) (hw0 : av6 Tryz.prog 51 105 106 107 (nx s 5).1 (nx s 5).2 o m W s1) (h2 : (nx s1 2).1 = 0) : ∃ (V : List (List (List Int))) (s' : Src), s'.Ok ∧ CocS o m V ∧ DrC Tryz.prog 87 s o m V s' := by
 have hr := xW_ s hs 5 (by omega)
 obtain ⟨r, er⟩ : ∃ r, nx s 5 = r := ⟨_, rfl⟩
 rw [er] at hr hw0
 obtain ⟨d, hd⟩ : ∃ d, r.1 = d := ⟨_, rfl⟩
 rw [hd] at hr hw0
 have hw := hw0
 unfold av6 at hw
 clear hw0
 have hU := xW_ s1 okb 2 (by omega)
 have okU := yp_ okb 2
 have hn8 := hCS.n8
 have m1 := hCS.2.2.1
 have m2 := hCS.2.2.2.1
 rw [lW] at hn8
 have hP := zu_ (nx s1 2).2 okU n9 m hn8.2 (by omega)
 obtain ⟨pk, _⟩ := ze_ (n := n9) (m := m) okU n9
 have pp := w4_ (n := n9) (s := (nx s1 2).2) okU m1
 obtain ⟨p, ep⟩ : ∃ p, wn_ n9 m n9 (nx s1 2).2 = p := ⟨_, rfl⟩
 rw [ep] at hP pk pp
 rw [← lW] at hP
 have hC := yS_ o m n9 p.1 hCS.1 hCS.2.1 (by rw [← lW]; exact hCS.2.2.2.2.1) m1 m2 pp.1 (by omega)
 have hS := WW_ o m W o (Xl_ o m n9 p.1) hCS (by rw [zt_, lW]) (by rw [lW]; exact T6_ m1) (by omega)
 have hSS := bf1 (V := Xl_ o m n9 p.1) hCS
 rw [lW] at hS hSS
 refine ⟨_, p.2, pk, hSS, ?_⟩
 clear hCS pp hSS
 unfold DrC
 refine OwnCall.intro (n := 72) (rs := [.cell 2 27]) 1 [0] (X := [0]) Tryz.call87 Tryz.func87 rfl rfl rfl (by simp only [List.length_cons, List.length_nil]; omega) (by simp [Aw.ids, x3_, xQ_, xl_, xg_]) (fun cx hcx => AT.weakG (x2_ ?_)); refine gE ?_
 refine gBN ?_
 refine gBN ?_
 refine gCN fun K hK => ?_
 refine xp_ (hr) rfl rfl ?_; simp only [go_sem, seval]
 refine hK _ ?_; clear hK K
 (repeat refine xb_ ?_); refine AT.ghost (st' := ⟨[(0, .bptr 0 0), (2, .bptr 1 0), (3, .bptr 2 0), (11, .int d)], [(0, xv_ r.2), (1, .bx [.nil, .int 0, .nil]), (2, .bx [.nil, .int 0, .nil])]⟩) (xr_ [] (by simp only [go_sem, seval, AV.int.injEq, AV.bool.injEq, AV.l1.injEq, AV.l2.injEq, AV.l3.injEq]) (by simp only [go_sem, seval])) ?_
 (repeat refine xb_ ?_)
 refine Xh_ ⟨[(0, .bptr 0 0), (2, .bptr 1 0), (3, .bptr 2 0)], [(0, xv_ s1), (1, .bx [.nil, .int 0, .nil]), (2, .bx [.ref 3 [], .int m, .ref 4 []]), (3, .t1 o), (4, .t3 W)]⟩ ?_ ?_
 ·refine gO ?_
  rcases hw with ⟨h0, a, k, h1, h2, h3, h4, h5, h6⟩ | ⟨h0, a, b, n, q, l, k, h1, h2, h3, h4, h5, h6, h7, h8, h9, h10, h11, h12⟩ | ⟨h0, h1, h2⟩
  ·rcases h0 with rfl | rfl
   ·refine gBN ?_
    refine gR ?_
    refine xe_ ?_
    refine gR ?_
    refine gCN fun K hK => ?_
    refine xp_ (h1) rfl rfl ?_; simp only [go_sem, seval]
    simp only [go_sem, seval, h4]
    refine gU ?_
    refine hK _ ?_; clear hK K
    refine gCN fun K hK => ?_
    refine xp_ (h5) rfl rfl ?_; simp only [go_sem, seval]
    refine xq_ rfl (h6) rfl ?_; simp only [go_sem, seval]
    refine hK _ ?_; clear hK K
    refine xJ_ (Yt_ ?_)
    refine xJ_ ?_; refine Or.inl ⟨rfl, xm_ [] []⟩
   ·refine gBN ?_
    refine gQ ?_
    refine gBN ?_
    refine gR ?_
    refine gCN fun K hK => ?_
    refine xp_ (h1) rfl rfl ?_; simp only [go_sem, seval]
    simp only [go_sem, seval, h4]
    refine gU ?_
    refine hK _ ?_; clear hK K
    refine gCN fun K hK => ?_
    refine xp_ (h5) rfl rfl ?_; simp only [go_sem, seval]
    refine xq_ rfl (h6) rfl ?_; simp only [go_sem, seval]
    refine hK _ ?_; clear hK K
    refine xJ_ (Yt_ ?_)
    refine xJ_ ?_; refine Or.inl ⟨rfl, xm_ [] []⟩
  ·subst h0
   refine gBN ?_
   refine gQ ?_
   refine gBN ?_
   refine gQ ?_
   refine gBN ?_
   refine gR ?_
   refine gCN fun K hK => ?_
   refine xp_ (h1) rfl rfl ?_; simp only [go_sem, seval]
   simp only [go_sem, seval, h4]
   refine gU ?_
   refine hK _ ?_; clear hK K
   (repeat refine xb_ ?_); refine xx_ (by first | exact xO_ hcx | exact wJ_ hcx rfl | exact y2_ hcx rfl) fun K hK => ?_; simp only [go_sem, seval, h5]
   refine gU ?_
   refine xp_ (h7) rfl rfl ?_; simp only [go_sem, seval]
   simp only [go_sem, seval, h10]
   refine gU ?_
   refine xp_ (h11) rfl rfl ?_; simp only [go_sem, seval]
   refine xq_ rfl (h12) rfl ?_; simp only [go_sem, seval]
   refine hK _ ?_; clear hK K
   refine xJ_ (Yt_ ?_)
   refine xJ_ ?_; refine Or.inl ⟨rfl, xm_ [] []⟩
  ·subst h0
   refine gBN ?_
   refine gQ ?_
   refine gBN ?_
   refine gQ ?_
   refine gBN ?_
   refine gQ ?_
   refine gBN ?_
   refine gR ?_
   refine gCN fun K hK => ?_
   refine xq_ rfl (h1) rfl ?_; simp only [go_sem, seval]
   refine hK _ ?_; clear hK K
   rw [h2]
   refine xJ_ (Yt_ ?_)
   refine xJ_ ?_; refine Or.inl ⟨rfl, xm_ [] []⟩
 clear hw hr
 refine gCN fun K hK => ?_
 refine xp_ (hU) rfl rfl ?_; simp only [go_sem, seval]
 refine hK _ ?_; clear hK K
 refine gI (fun h3 => ?_) fun h3 => ?_
 ·(repeat refine xb_ ?_); refine AT.ghost (st' := ⟨[(0, .bptr 0 0), (2, .bptr 5 0), (3, .bptr 2 0)], [(0, xv_ (nx s1 2).2), (2, .bx [.ref 3 [], .int m, .ref 4 []]), (3, .t1 o), (4, .t3 W), (5, .bx [.nil, .int 0, .nil])]⟩) (xm_ [] [(1, 5)]) ?_
  clear hU okU m1 m2 hn8 lo pk okb
  (repeat refine xb_ ?_)
  refine xZ_ [11, 13] (.one 5 (.one 6 (.one 7 (.one 8 (.one 9 (.one 10 (.alt 0 (.alt 1 (.alt 2 (.alt 3 (.alt 4 (.alt 11 (.one 12 (.alt 13 (.alt 14 .fin .stop) .stop)) .stop) (.alt 11 (.one 4 (.one 12 (.alt 13 (.alt 14 .fin .stop) .stop))) .stop)) (.alt 11 (.one 3 (.one 4 (.one 12 (.alt 13 (.alt 14 .fin .stop) .stop)))) .stop)) (.alt 3 (.alt 2 (.alt 4 (.alt 11 (.one 12 (.alt 13 (.alt 14 .fin .stop) .stop)) .stop) (.alt 11 (.one 4 (.one 12 (.alt 13 (.alt 14 .fin .stop) .stop))) .stop)) (.alt 4 (.alt 2 (.alt 11 (.one 12 (.alt 13 (.alt 14 .fin .stop) .stop)) .stop) (.alt 11 (.one 2 (.one 12 (.alt 13 (.alt 14 .fin .stop) .stop))) .stop)) (.alt 11 (.one 2 (.one 4 (.one 12 (.alt 13 (.alt 14 .fin .stop) .stop)))) .stop))) (.alt 11 (.one 2 (.one 3 (.one 4 (.one 12 (.alt 13 (.alt 14 .fin .stop) .stop))))) .stop))) (.alt 3 (.alt 1 (.alt 2 (.alt 4 (.alt 11 (.one 12 (.alt 13 (.alt 14 .fin .stop) .stop)) .stop) (.alt 11 (.one 4 (.one 12 (.alt 13 (.alt 14 .fin .stop) .stop))) .stop)) (.alt 4 (.alt 2 (.alt 11 (.one 12 (.alt 13 (.alt 14 .fin .stop) .stop)) .stop) (.alt 11 (.one 2 (.one 12 (.alt 13 (.alt 14 .fin .stop) .stop))) .stop)) (.alt 11 (.one 2 (.one 4 (.one 12 (.alt 13 (.alt 14 .fin .stop) .stop)))) .stop))) (.alt 4 (.alt 1 (.alt 2 (.alt 11 (.one 12 (.alt 13 (.alt 14 .fin .stop) .stop)) .stop) (.alt 11 (.one 2 (.one 12 (.alt 13 (.alt 14 .fin .stop) .stop))) .stop)) (.alt 11 (.one 1 (.one 2 (.one 12 (.alt 13 (.alt 14 .fin .stop) .stop)))) .stop)) (.alt 11 (.one 1 (.one 2 (.one 4 (.one 12 (.alt 13 (.alt 14 .fin .stop) .stop))))) .stop))) (.alt 11 (.one 1 (.one 2 (.one 3 (.one 4 (.one 12 (.alt 13 (.alt 14 .fin .stop) .stop)))))) .stop))) (.alt 1 (.alt 0 (.alt 2 (.alt 3 (.alt 4 (.alt 11 (.one 12 (.alt 13 (.alt 14 .fin .stop) .stop)) .stop) (.alt 11 (.one 4 (.one 12 (.alt 13 (.alt 14 .fin .stop) .stop))) .stop)) (.alt 11 (.one 3 (.one 4 (.one 12 (.alt 13 (.alt 14 .fin .stop) .stop)))) .stop)) (.alt 3 (.alt 2 (.alt 4 (.alt 11 (.one 12 (.alt 13 (.alt 14 .fin .stop) .stop)) .stop) (.alt 11 (.one 4 (.one 12 (.alt 13 (.alt 14 .fin .stop) .stop))) .stop)) (.alt 4 (.alt 2 (.alt 11 (.one 12 (.alt 13 (.alt 14 .fin .stop) .stop)) .stop) (.alt 11 (.one 2 (.one 12 (.alt 13 (.alt 14 .fin .stop) .stop))) .stop)) (.alt 11 (.one 2 (.one 4 (.one 12 (.alt 13 (.alt 14 .fin .stop) .stop)))) .stop))) (.alt 11 (.one 2 (.one 3 (.one 4 (.one 12 (.alt 13 (.alt 14 .fin .stop) .stop))))) .stop))) (.alt 2 (.alt 0 (.alt 3 (.alt 4 (.alt 11 (.one 12 (.alt 13 (.alt 14 .fin .stop) .stop)) .stop) (.alt 11 (.one 4 (.one 12 (.alt 13 (.alt 14 .fin .stop) .stop))) .stop)) (.alt 11 (.one 3 (.one 4 (.one 12 (.alt 13 (.alt 14 .fin .stop) .stop)))) .stop)) (.alt 3 (.alt 0 (.alt 4 (.alt 11 (.one 12 (.alt 13 (.alt 14 .fin .stop) .stop)) .stop) (.alt 11 (.one 4 (.one 12 (.alt 13 (.alt 14 .fin .stop) .stop))) .stop)) (.alt 4 (.alt 0 (.alt 11 (.one 12 (.alt 13 (.alt 14 .fin .stop) .stop)) .stop) (.alt 11 (.one 0 (.one 12 (.alt 13 (.alt 14 .fin .stop) .stop))) .stop)) (.alt 11 (.one 0 (.one 4 (.one 12 (.alt 13 (.alt 14 .fin .stop) .stop)))) .stop))) (.alt 11 (.one 0 (.one 3 (.one 4 (.one 12 (.alt 13 (.alt 14 .fin .stop) .stop))))) .stop))) (.alt 3 (.alt 0 (.alt 2 (.alt 4 (.alt 11 (.one 12 (.alt 13 (.alt 14 .fin .stop) .stop)) .stop) (.alt 11 (.one 4 (.one 12 (.alt 13 (.alt 14 .fin .stop) .stop))) .stop)) (.alt 4 (.alt 2 (.alt 11 (.one 12 (.alt 13 (.alt 14 .fin .stop) .stop)) .stop) (.alt 11 (.one 2 (.one 12 (.alt 13 (.alt 14 .fin .stop) .stop))) .stop)) (.alt 11 (.one 2 (.one 4 (.one 12 (.alt 13 (.alt 14 .fin .stop) .stop)))) .stop))) (.alt 2 (.alt 0 (.alt 4 (.alt 11 (.one 12 (.alt 13 (.alt 14 .fin .stop) .stop)) .stop) (.alt 11 (.one 4 (.one 12 (.alt 13 (.alt 14 .fin .stop) .stop))) .stop)) (.alt 4 (.alt 0 (.alt 11 (.one 12 (.alt 13 (.alt 14 .fin .stop) .stop)) .stop) (.alt 11 (.one 0 (.one 12 (.alt 13 (.alt 14 .fin .stop) .stop))) .stop)) (.alt 11 (.one 0 (.one 4 (.one 12 (.alt 13 (.alt 14 .fin .stop) .stop)))) .stop))) (.alt 4 (.alt 0 (.alt 2 (.alt 11 (.one 12 (.alt 13 (.alt 14 .fin .stop) .stop)) .stop) (.alt 11 (.one 2 (.one 12 (.alt 13 (.alt 14 .fin .stop) .stop))) .stop)) (.alt 2 (.alt 0 (.alt 11 (.one 12 (.alt 13 (.alt 14 .fin .stop) .stop)) .stop) (.alt 11 (.one 0 (.one 12 (.alt 13 (.alt 14 .fin .stop) .stop))) .stop)) (.alt 11 (.one 0 (.one 2 (.one 12 (.alt 13 (.alt 14 .fin .stop) .stop)))) .stop))) (.alt 11 (.one 0 (.one 2 (.one 4 (.one 12 (.alt 13 (.alt 14 .fin .stop) .stop))))) .stop)))) (.alt 11 (.one 0 (.one 2 (.one 3 (.one 4 (.one 12 (.alt 13 (.alt 14 .fin .stop) .stop)))))) .stop)))) (.alt 3 (.alt 0 (.alt 1 (.alt 2 (.alt 4 (.alt 11 (.one 12 (.alt 13 (.alt 14 .fin .stop) .stop)) .stop) (.alt 11 (.one 4 (.one 12 (.alt 13 (.alt 14 .fin .stop) .stop))) .stop)) (.alt 4 (.alt 2 (.alt 11 (.one 12 (.alt 13 (.alt 14 .fin .stop) .stop)) .stop) (.alt 11 (.one 2 (.one 12 (.alt 13 (.alt 14 .fin .stop) .stop))) .stop)) (.alt 11 (.one 2 (.one 4 (.one 12 (.alt 13 (.alt 14 .fin .stop) .stop)))) .stop))) (.alt 4 (.alt 1 (.alt 2 (.alt 11 (.one 12 (.alt 13 (.alt 14 .fin .stop) .stop)) .stop) (.alt 11 (.one 2 (.one 12 (.alt 13 (.alt 14 .fin .stop) .stop))) .stop)) (.alt 11 (.one 1 (.one 2 (.one 12 (.alt 13 (.alt 14 .fin .stop) .stop)))) .stop)) (.alt 11 (.one 1 (.one 2 (.one 4 (.one 12 (.alt 13 (.alt 14 .fin .stop) .stop))))) .stop))) (.alt 1 (.alt 0 (.alt 2 (.alt 4 (.alt 11 (.one 12 (.alt 13 (.alt 14 .fin .stop) .stop)) .stop) (.alt 11 (.one 4 (.one 12 (.alt 13 (.alt 14 .fin .stop) .stop))) .stop)) (.alt 4 (.alt 2 (.alt 11 (.one 12 (.alt 13 (.alt 14 .fin .stop) .stop)) .stop) (.alt 11 (.one 2 (.one 12 (.alt 13 (.alt 14 .fin .stop) .stop))) .stop)) (.alt 11 (.one 2 (.one 4 (.one 12 (.alt 13 (.alt 14 .fin .stop) .stop)))) .stop))) (.alt 2 (.alt 0 (.alt 4 (.alt 11 (.one 12 (.alt 13 (.alt 14 .fin .stop) .stop)) .stop) (.alt 11 (.one 4 (.one 12 (.alt 13 (.alt 14 .fin .stop) .stop))) .stop)) (.alt 4 (.alt 0 (.alt 11 (.one 12 (.alt 13 (.alt 14 .fin .stop) .stop)) .stop) (.alt 11 (.one 0 (.one 12 (.alt 13 (.alt 14 .fin .stop) .stop))) .stop)) (.alt 11 (.one 0 (.one 4 (.one 12 (.alt 13 (.alt 14 .fin .stop) .stop)))) .stop))) (.alt 4 (.alt 0 (.alt 2 (.alt 11 (.one 12 (.alt 13 (.alt 14 .fin .stop) .stop)) .stop) (.alt 11 (.one 2 (.one 12 (.alt 13 (.alt 14 .fin .stop) .stop))) .stop)) (.alt 2 (.alt 0 (.alt 11 (.one 12 (.alt 13 (.alt 14 .fin .stop) .stop)) .stop) (.alt 11 (.one 0 (.one 12 (.alt 13 (.alt 14 .fin .stop) .stop))) .stop)) (.alt 11 (.one 0 (.one 2 (.one 12 (.alt 13 (.alt 14 .fin .stop) .stop)))) .stop))) (.alt 11 (.one 0 (.one 2 (.one 4 (.one 12 (.alt 13 (.alt 14 .fin .stop) .stop))))) .stop)))) (.alt 4 (.alt 0 (.alt 1 (.alt 2 (.alt 11 (.one 12 (.alt 13 (.alt 14 .fin .stop) .stop)) .stop) (.alt 11 (.one 2 (.one 12 (.alt 13 (.alt 14 .fin .stop) .stop))) .stop)) (.alt 11 (.one 1 (.one 2 (.one 12 (.alt 13 (.alt 14 .fin .stop) .stop)))) .stop)) (.alt 1 (.alt 0 (.alt 2 (.alt 11 (.one 12 (.alt 13 (.alt 14 .fin .stop) .stop)) .stop) (.alt 11 (.one 2 (.one 12 (.alt 13 (.alt 14 .fin .stop) .stop))) .stop)) (.alt 2 (.alt 0 (.alt 11 (.one 12 (.alt 13 (.alt 14 .fin .stop) .stop)) .stop) (.alt 11 (.one 0 (.one 12 (.alt 13 (.alt 14 .fin .stop) .stop))) .stop)) (.alt 11 (.one 0 (.one 2 (.one 12 (.alt 13 (.alt 14 .fin .stop) .stop)))) .stop))) (.alt 11 (.one 0 (.one 1 (.one 2 (.one 12 (.alt 13 (.alt 14 .fin .stop) .stop))))) .stop))) (.alt 11 (.one 0 (.one 1 (.one 2 (.one 4 (.one 12 (.alt 13 (.alt 14 .fin .stop) .stop)))))) .stop)))) (.alt 11 (.one 0 (.one 1 (.one 2 (.one 3 (.one 4 (.one 12 (.alt 13 (.alt 14 .fin .stop) .stop))))))) .stop)))))))))) ⟨[(0, .bptr 0 0), (2, .bptr 5 0), (3, .bptr 2 0)], [(6, .t1 o), (7, .t3 (sumW m n9 W (Xl_ o m n9 p.1))), (0, xv_ p.2), (1, .t2 p.1), (2, .bx [.ref 6 [], .int m, .ref 7 []]), (3, .t1 o), (4, .t3 W), (5, .bx [.nil, .int 0, .nil])]⟩ (by first | exact xO_ hcx | exact y2_ hcx rfl) mixed (by kernel_rfl) (fun K hK => ?_) ?_
  ·simp only [go_sem, seval, Option.getD_some, and_true, true_and, and_self, List.contains_cons, List.contains_nil, Bool.or_false, Bool.or_true]
   repeat' (first | exact hK _ gM  | with_reducible refine And.intro ?_ ?_ | omega | (refine zz_ (hP) (by simp [Aw.ids]) (by simp [find]) (by simp [zQ_, zC_, xH_, xu_, YV_, Aw.ids]) (by simp [xH_, xu_, YV_, Aw.ids]) (by simp [Aw.ids]) ?_; simp only [Aw.ids, List.map_cons, List.map_nil, List.filter_cons, List.filter_nil, List.contains_cons, List.contains_nil, Bool.or_false, Bool.or_true, Bool.not_true, Bool.not_false, Nat.reduceBEq, Bool.false_eq_true, if_true, if_false, List.cons_append, List.nil_append]; simp only [go_sem, seval, Option.getD_some, and_true, true_and, and_self, List.contains_cons, List.contains_nil, Bool.or_false, Bool.or_true]) | ((first | refine yx_ rfl (hC) ?_ | refine xd_ (yn_ rfl (hC)) ?_); simp only [go_sem, seval, Option.getD_some, and_true, true_and, and_self, List.contains_cons, List.contains_nil, Bool.or_false, Bool.or_true]) | (refine xq_ rfl (hS) rfl ?_; simp only [go_sem, seval, Option.getD_some, and_true, true_and, and_self, List.contains_cons, List.contains_nil, Bool.or_false, Bool.or_true]))
  refine gBN ?_
  refine xf_ ⟨⟨[(0, .bptr 0 0), (2, .bptr 3 0)], [(0, xv_ p.2), (1, .t1 o), (2, .t3 (sumW m n9 W (Xl_ o m n9 p.1))), (3, .bx [.ref 1 [], .int m, .ref 2 []])]⟩, xm_ [1, 2, 3, 4] [(6, 1), (7, 2), (5, 3)], .inr rfl, (by first | rfl | exact ⟨trivial, rfl⟩ | (simp only [y1_, zZ_, go_sem, seval]; done)), (by simp [St.get, xg_, xl_]), rfl⟩
 ·exact absurd h2 h3
end Go.Proofs.YtjbdiekkjegckaaGreat
namespace Go.Proofs.YtjbdiekkjegckaaGreat
open Go Go.Aw Go.Pl
set_option maxRecDepth 100000 in
set_option maxHeartbeats 8000000 in
theorem ag4 (s : Src) (hs : s.Ok) (hd : (nx s 5).1 = 4) : ∃ (o : List Int) (m : Int) (W : List (List (List Int))) (s' : Src), s'.Ok ∧ CocS o m W ∧ o.length ≤ 10 ∧ DrC Tryz.prog 87 s o m W s' := by
 have hr := xW_ s hs 5 (by omega)
 have okr := yp_ hs 5
 obtain ⟨r, er⟩ : ∃ r, nx s 5 = r := ⟨_, rfl⟩
 rw [er] at hr okr hd
 rw [hd] at hr
 have hO : OwnCall Tryz.prog 84 [.bptr 0 0, .int 8] [(0, xv_ r.2)] [(0, xv_ (UJ_ r.2 8).2), (1, .t1 (UJ_ r.2 8).1)] (.ref 1 []) [0] := wL_ r.2 okr 8 (by omega) (by omega)
 obtain ⟨hp, h8, j, _, _, mv⟩ := UE_ okr (most := 8) (by omega)
 have lo := KQ_ r.2 8
 have okO := mv.ok okr
 obtain ⟨d, ed⟩ : ∃ d, UJ_ r.2 8 = d := ⟨_, rfl⟩
 rw [ed] at hO hp h8 lo okO
 have hS := w5_ d.1 hp
 obtain ⟨n, hn⟩ : ∃ n : Nat, (n : Int) = xA_ d.1 := ⟨(xA_ d.1).toNat, by have := yk_ hp; omega⟩
 rw [KM_ h8 hn] at hS
 have hQk := Yg_ d.2 okO [1, 2, 3, 4, 5, 7, 12] (by decide) (by decide)
 rw [show (([1, 2, 3, 4, 5, 7, 12] : List Int).length : Int) = 7 from rfl] at hQk
 have okK := yp_ okO 7
 have bK := yO_ d.2 (n := 7) (by omega)
 obtain ⟨q, eq⟩ : ∃ q, nx d.2 7 = q := ⟨_, rfl⟩
 rw [eq] at hQk okK bK
 have hm : 1 ≤ ([1, 2, 3, 4, 5, 7, 12] : List Int).getD q.1.toNat 0 ∧ ([1, 2, 3, 4, 5, 7, 12] : List Int).getD q.1.toNat 0 ≤ 1000 := by
  have h7 : q.1.toNat < 7 := by omega
  have : ∀ i, i < 7 → 1 ≤ ([1, 2, 3, 4, 5, 7, 12] : List Int).getD i 0 ∧ ([1, 2, 3, 4, 5, 7, 12] : List Int).getD i 0 ≤ 1000 := by decide
  exact this _ h7
 obtain ⟨m, em⟩ : ∃ m, ([1, 2, 3, 4, 5, 7, 12] : List Int).getD q.1.toNat 0 = m := ⟨_, rfl⟩
 rw [em] at hQk hm
 have hP := zu_ q.2 okK n m (by omega) (by omega)
 obtain ⟨pk, _⟩ := ze_ (n := n) (m := m) okK n
 have pp := w4_ (n := n) (s := q.2) okK hm.1
 obtain ⟨p, ep⟩ : ∃ p, wn_ n m n q.2 = p := ⟨_, rfl⟩
 rw [ep] at hP pk pp
 have hC := yS_ d.1 m n p.1 hp h8 hn hm.1 hm.2 pp.1 (by omega)
 refine ⟨d.1, m, Xl_ d.1 m n p.1, p.2, pk, ai5 hp h8 hm.1 hm.2 hn, by omega, ?_⟩
 unfold DrC
 refine OwnCall.intro (n := 72) (rs := [.cell 2 27]) 1 [0] (X := [0]) Tryz.call87 Tryz.func87 rfl rfl rfl (by simp only [List.length_cons, List.length_nil]; omega) (by simp [Aw.ids, x3_, xQ_, xl_, xg_]) (fun cx hcx => AT.weakG (x2_ ?_)); refine gE ?_
 refine gBN ?_
 refine gBN ?_
 refine gCN fun K hK => ?_
 refine xp_ (hr) rfl rfl ?_; simp only [go_sem, seval]
 refine hK _ ?_; clear hK K
 (repeat refine xb_ ?_); refine AT.ghost (st' := ⟨[(0, .bptr 0 0), (2, .bptr 8 0), (11, .int 4)], [(0, xv_ r.2), (8, .bx [.nil, .int 0, .nil])]⟩) (xm_ [2] [(1, 8)]) ?_
 refine gO ?_
 refine gBN ?_
 refine gQ ?_
 refine gBN ?_
 refine gQ ?_
 refine gBN ?_
 refine gQ ?_
 refine gBN ?_
 refine gQ ?_
 refine gCN fun K hK => ?_
 refine xN_ (hO) (k := ?_); simp only [Aw.ids, go_sem, seval]
 refine hK _ ?_; clear hK K
 refine gCN fun K hK => ?_
 first | refine x0_ rfl rfl (hS) ?_ | refine xd_ (xR_ rfl rfl (hS)) ?_
 refine gV ?_
 refine xN_ (hQk) (k := ?_); simp only [Aw.ids, go_sem, seval]
 refine hK _ ?_; clear hK K
 (repeat refine xb_ ?_); refine AT.ghost (st' := ⟨[(0, .bptr 0 0), (2, .bptr 8 0), (6, .ref 2 []), (7, .int n), (8, .int m)], [(0, xv_ q.2), (2, .t1 d.1), (8, .bx [.nil, .int 0, .nil])]⟩) (xm_ [9] [(1, 2)]) ?_
 refine gCN fun K hK => ?_
 refine xN_ (hP) (k := ?_); simp only [Aw.ids, go_sem, seval]
 refine xq_ rfl (hC) rfl ?_; simp only [go_sem, seval]
 refine hK _ ?_; clear hK K
 refine xf_ ⟨⟨[(0, .bptr 0 0), (2, .bptr 3 0)], [(0, xv_ p.2), (1, .t1 d.1), (2, .t3 (Xl_ d.1 m n p.1)), (3, .bx [.ref 1 [], .int m, .ref 2 []])]⟩, xm_ [1, 2] [(9, 1), (10, 2), (8, 3)], .inr rfl, (by first | rfl | exact ⟨trivial, rfl⟩ | (simp only [y1_, zZ_, go_sem, seval]; done)), (by simp [St.get, xg_, xl_]), rfl⟩
theorem aG9 (s : Src) (hs : s.Ok) (hd : (nx s 5).1 = 0 ∨ (nx s 5).1 = 1 ∨ (nx s 5).1 = 2 ∨ (nx s 5).1 = 3) : ∃ (o : List Int) (m : Int) (W : List (List (List Int))) (s1 : Src), s1.Ok ∧ CocS o m W ∧ o.length ≤ 10 ∧ av6 Tryz.prog 51 105 106 107 (nx s 5).1 (nx s 5).2 o m W s1 := by
 have okr := yp_ hs 5
 obtain ⟨r, er⟩ : ∃ r, nx s 5 = r := ⟨_, rfl⟩
 rw [er] at okr hd ⊢
 have cyc : r.1 = 0 ∨ r.1 = 1 → ∃ (o : List Int) (m : Int) (W : List (List (List Int))) (s1 : Src), s1.Ok ∧ CocS o m W ∧ o.length ≤ 10 ∧ av6 Tryz.prog 51 105 106 107 r.1 r.2 o m W s1 := fun hd => by
  have ha := xW_ r.2 okr 8 (by omega)
  have ba := yO_ r.2 (n := 8) (by omega)
  have oka := yp_ okr 8
  obtain ⟨a, ea⟩ : ∃ a, nx r.2 8 = a := ⟨_, rfl⟩
  rw [ea] at ha ba oka
  obtain ⟨n, en⟩ : ∃ n : Nat, 1 + a.1 = n := ⟨(1 + a.1).toNat, by omega⟩
  have n1 : 1 ≤ n := by omega
  have n8 : n ≤ 8 := by omega
  have hb := xW_ a.2 oka n (by omega)
  have bb := yO_ a.2 (n := (n : Int)) (by omega)
  have okb := yp_ oka n
  obtain ⟨b, eb⟩ : ∃ b, nx a.2 n = b := ⟨_, rfl⟩
  rw [eb] at hb bb okb
  obtain ⟨k, ek⟩ : ∃ k : Nat, b.1 = k := ⟨b.1.toNat, by omega⟩
  rw [ek] at hb bb
  exact ⟨_, _, _, b.2, okb, be8 (k := k) n1 n8, by simp, .inl ⟨hd, a, k, ha, ba.1, by omega, en, hb, UI_ n k n1 n8 (by omega)⟩⟩
 rcases hd with hd | hd | hd | hd
 ·exact cyc (.inl hd)
 ·exact cyc (.inr hd)
 ·have ha := xW_ r.2 okr 4 (by omega)
  have ba := yO_ r.2 (n := 4) (by omega)
  have oka := yp_ okr 4
  obtain ⟨a, ea⟩ : ∃ a, nx r.2 4 = a := ⟨_, rfl⟩
  rw [ea] at ha ba oka
  obtain ⟨n, en⟩ : ∃ n : Nat, 1 + a.1 = n := ⟨(1 + a.1).toNat, by omega⟩
  have n1 : 1 ≤ n := by omega
  have n4 : n ≤ 4 := by omega
  have eq8 : (8 : Int).tdiv (n : Int) = ((8 / n : Nat) : Int) := by rw [Int.tdiv_eq_ediv_of_nonneg (by omega)]; exact (Int.natCast_ediv 8 n).symm
  have nq := Nat.mul_div_le 8 n
  have q1 : 1 ≤ 8 / n := Nat.div_pos (by omega) (by omega)
  obtain ⟨q, eq⟩ : ∃ q, 8 / n = q := ⟨_, rfl⟩
  rw [eq] at eq8 nq q1
  have q8 : q ≤ 8 := by
   have : 1 * q ≤ n * q := Nat.mul_le_mul_right q n1
   omega
  have hb := xW_ a.2 oka q (by omega)
  have bb := yO_ a.2 (n := (q : Int)) (by omega)
  have okb := yp_ oka q
  obtain ⟨b, eb⟩ : ∃ b, nx a.2 q = b := ⟨_, rfl⟩
  rw [eb] at hb bb okb
  obtain ⟨l, el⟩ : ∃ l : Nat, 1 + b.1 = l := ⟨(1 + b.1).toNat, by omega⟩
  have hc := xW_ b.2 okb 4 (by omega)
  have bc := yO_ b.2 (n := 4) (by omega)
  have okc := yp_ okb 4
  obtain ⟨c, ec⟩ : ∃ c, nx b.2 4 = c := ⟨_, rfl⟩
  rw [ec] at hc bc okc
  obtain ⟨k, ek⟩ : ∃ k : Nat, c.1 = k := ⟨c.1.toNat, by omega⟩
  rw [ek] at hc bc
  have l1 : 1 ≤ l := by omega
  have nl : n * l ≤ 8 := by
   have : n * l ≤ n * q := Nat.mul_le_mul_left n (by omega)
   omega
  exact ⟨_, _, _, c.2, okc, be9 (k := k) n1 l1 nl, by simp, .inr (.inl ⟨hd, a, b, n, q, l, k, ha, ba.1, by omega, en, eq8, q8, hb, bb.1, by omega, el, hc, TC_ n l k n1 l1 nl (by omega)⟩)⟩
 ·exact ⟨_, _, _, r.2, okr, bf0, by simp, .inr (.inr ⟨hd, KP_, rfl⟩)⟩
theorem RD_ (s : Src) (hs : s.Ok) : ∃ (o : List Int) (m : Int) (W : List (List (List Int))) (s' : Src), s'.Ok ∧ CocS o m W ∧ o.length ≤ 10 ∧ DrC Tryz.prog 87 s o m W s' := by
 have hb := yO_ s (n := 5) (by omega)
 by_cases h4 : (nx s 5).1 = 4
 ·exact ag4 s hs h4
 ·obtain ⟨o, m, W, s1, ok1, hC, lo, hw⟩ := aG9 s hs (by omega)
  by_cases h2 : (nx s1 2).1 = 0
  ·obtain ⟨V, s', ok', hV, hD⟩ := ag3 s hs o m W s1 W.length ok1 hC lo rfl hw h2
   exact ⟨o, m, V, s', ok', hV, lo, hD⟩
  ·exact ⟨o, m, W, _, yp_ ok1 2, hC, lo, ag2 s hs o m W s1 W.length ok1 hC lo rfl hw h2⟩
end Go.Proofs.YtjbdiekkjegckaaGreat
namespace Go.Proofs.YtjbdiekkjegckaaGreat
open Go Go.Aw Go.Pl
attribute [local go_sem] y9_ yB_ za_ zb_ wE_ yq_ List.getElem?_toArray List.getElem?_cons_zero List.getElem?_cons_succ
attribute [local go_sem] yq_ List.getElem?_toArray List.getElem?_cons_zero List.getElem?_cons_succ Option.getD_some and_true true_and and_self
theorem dtr {b : Bool} {P : Program} {ops : Array Oper} {n m : Nat} {l : List Oper} {cx : Cx} {a c sa sc : St} (ea : a = sa) (ec : c = sc) (h : y0_ b P ops n l sa (fun st' => yy_ cx m st' sc)) : y0_ b P ops n l a (fun st' => yy_ cx m st' c) := by rw [ea, ec]; exact h
set_option maxRecDepth 100000 in
set_option maxHeartbeats 8000000 in
theorem VL_ (s : Src) (hs : s.Ok) : ∃ (o : List Int) (m : Int) (W : List (List (List Int))) (s' : Src), s'.Ok ∧ o.length ≤ 11 ∧ W.length ≤ 8 ∧ DrC Tryz.prog 60 s o m W s' := by
 obtain ⟨o, m, W, s1, ok1, hC, lo, hD⟩ := RD_ s hs
 have n8 := hC.n8
 have m1 := hC.2.2.1
 have m2 := hC.2.2.2.1
 have p6 := hC.2.2.2.2.2
 obtain ⟨n, en⟩ : ∃ n, W.length = n := ⟨_, rfl⟩
 rw [en] at n8 p6
 have hc := xW_ s1 ok1 16 (by omega)
 have okc := yp_ ok1 16
 obtain ⟨c, ec⟩ : ∃ c, nx s1 16 = c := ⟨_, rfl⟩
 rw [ec] at hc okc
 unfold DrC at hD ⊢
 by_cases c0 : c.1 = 0
 ·rw [c0] at hc
  have h1 := xW_ c.2 okc n (by omega)
  have b1 := yO_ c.2 (n := (n : Int)) (by omega)
  have ok1 := yp_ okc n
  obtain ⟨a1, e1⟩ : ∃ a, nx c.2 n = a := ⟨_, rfl⟩
  rw [e1] at h1 b1 ok1
  obtain ⟨i, ei⟩ : ∃ i : Nat, a1.1 = i := ⟨a1.1.toNat, by omega⟩
  rw [ei] at h1 b1
  have h2 := xW_ a1.2 ok1 n (by omega)
  have b2 := yO_ a1.2 (n := (n : Int)) (by omega)
  have ok2 := yp_ ok1 n
  obtain ⟨a2, e2⟩ : ∃ a, nx a1.2 n = a := ⟨_, rfl⟩
  rw [e2] at h2 b2 ok2
  obtain ⟨j, ej⟩ : ∃ j : Nat, a2.1 = j := ⟨a2.1.toNat, by omega⟩
  rw [ej] at h2 b2
  have h3 := xW_ a2.2 ok2 n (by omega)
  have b3 := yO_ a2.2 (n := (n : Int)) (by omega)
  have ok3 := yp_ ok2 n
  obtain ⟨a3, e3'⟩ : ∃ a, nx a2.2 n = a := ⟨_, rfl⟩
  rw [e3'] at h3 b3 ok3
  obtain ⟨k, ek⟩ : ∃ k : Nat, a3.1 = k := ⟨a3.1.toNat, by omega⟩
  rw [ek] at h3 b3
  have h4 := xW_ a3.2 ok3 (m + 1) (by omega)
  have b4 := yO_ a3.2 (n := m + 1) (by omega)
  have ok4 := yp_ ok3 (m + 1)
  obtain ⟨a4, e4⟩ : ∃ a, nx a3.2 (m + 1) = a := ⟨_, rfl⟩
  rw [e4] at h4 b4 ok4
  have hi : i < n := by omega
  have hj : j < n := by omega
  have hk : k < n := by omega
  have mi := p6.mat hi
  have rj := p6.row hi hj
  obtain ⟨v, ev⟩ : ∃ v, a4.1 = v := ⟨_, rfl⟩
  rw [ev] at h4 b4
  refine ⟨o, m, W.set i ((W.getD i []).set j (((W.getD i []).getD j []).set k v)), a4.2, ok4, by omega, by rw [List.length_set]; omega, ?_⟩
  refine OwnCall.introR (n := 52) (rs := [.cell 2 27]) 1 [0] (X := [0]) Tryz.call60 Tryz.func60 rfl rfl rfl (by simp only [List.length_cons, List.length_nil]; omega) (by simp [Aw.ids, x3_, xQ_, xl_, xg_]) (fun cx hcx hrd => AT.weakG (x2_ ?_)); refine gE ?_
  refine gBN ?_
  (repeat refine xb_ ?_); refine AT.ghost (st' := ⟨[(0, .bptr 0 0), (2, .bptr 5 0)], [(0, xv_ s), (5, .bx [.nil, .int 0, .nil])]⟩) (xm_ [] [(1, 5)]) ?_
  refine gCN fun K hK => ?_
  refine xN_ (hD) (k := ?_); simp only [Aw.ids, go_sem, seval]
  refine hK _ ?_; clear hK K
  (repeat refine xb_ ?_); refine AT.ghost (st' := ⟨[(0, .bptr 0 0), (2, .bptr 5 0), (3, .bptr 8 0)], [(0, xv_ s1), (1, .t1 o), (2, .t3 W), (5, .bx [.nil, .int 0, .nil]), (8, .bx [.ref 1 [], .int m, .ref 2 []])]⟩) (xm_ [3] [(6, 8)]) ?_
  (repeat refine xb_ ?_); refine xx_ (by first | exact xO_ hcx | exact wJ_ hcx rfl | exact y2_ hcx rfl) fun K hK => ?_; simp only [go_sem, seval, en]
  refine gU ?_
  refine hK _ ?_; clear hK K
  refine gCN fun K hK => ?_
  refine xp_ (hc) rfl rfl ?_; simp only [go_sem, seval]
  refine hK _ ?_; clear hK K
  (repeat refine xb_ ?_); refine AT.ghost (st' := ⟨[(0, .bptr 0 0), (2, .bptr 5 0), (3, .bptr 8 0), (4, .int n), (11, .int 0)], [(0, xv_ c.2), (1, .t1 o), (2, .t3 W), (5, .bx [.nil, .int 0, .nil]), (8, .bx [.ref 1 [], .int m, .ref 2 []])]⟩) (xr_ [] (by simp only [go_sem, seval, AV.int.injEq, AV.bool.injEq, AV.l1.injEq, AV.l2.injEq, AV.l3.injEq]) (by simp only [go_sem, seval])) ?_
  refine gO ?_
  refine gBN ?_
  refine gR ?_
  (repeat refine xb_ ?_)
  obtain ⟨mk, emk⟩ : ∃ mk : List (Nat × AV) → List (Nat × Tree) → St, mk = fun s h => ⟨[(0, .bptr 0 0), (2, .bptr 5 0), (3, .bptr 8 0)] ++ s, h ++ [(1, .t1 o), (2, .t3 W), (5, .bx [.nil, .int 0, .nil]), (8, .bx [.ref 1 [], .int m, .ref 2 []])]⟩ := ⟨_, rfl⟩
  obtain ⟨z0, ez0⟩ := gZ (⟨[(0, .bptr 0 0), (2, .bptr 5 0), (3, .bptr 8 0), (16, .bptr 0 0), (17, .int n), (21, .bptr 0 0), (22, .int n), (26, .bptr 0 0), (27, .int n), (29, .bptr 0 0)], [(0, xv_ c.2), (1, .t1 o), (2, .t3 W), (5, .bx [.nil, .int 0, .nil]), (8, .bx [.ref 1 [], .int m, .ref 2 []])]⟩ : St)
  obtain ⟨z1, ez1⟩ := gZ (mk [(14, .bptr 8 2), (16, .bptr 0 0), (17, .int n), (21, .bptr 0 0), (22, .int n), (26, .bptr 0 0), (27, .int n), (29, .bptr 0 0)] [(0, xv_ c.2)])
  obtain ⟨z2, ez2⟩ := gZ (mk [(18, .int i), (21, .bptr 0 0), (22, .int n), (26, .bptr 0 0), (27, .int n), (29, .bptr 0 0)] [(0, xv_ a1.2)])
  obtain ⟨z3, ez3⟩ := gZ (mk [(16, .bptr 0 0), (17, .int n), (21, .bptr 0 0), (22, .int n), (26, .bptr 0 0), (27, .int n), (29, .bptr 0 0), (30, .bptr 8 1)] [(0, xv_ c.2)])
  obtain ⟨z4, ez4⟩ := gZ (mk [(15, .ref 2 []), (16, .bptr 0 0), (17, .int n), (21, .bptr 0 0), (22, .int n), (26, .bptr 0 0), (27, .int n), (29, .bptr 0 0)] [(0, xv_ c.2)])
  obtain ⟨z5, ez5⟩ := gZ (mk [(14, .bptr 8 2), (18, .int i), (21, .bptr 0 0), (22, .int n), (26, .bptr 0 0), (27, .int n), (29, .bptr 0 0)] [(0, xv_ a1.2)])
  obtain ⟨z6, ez6⟩ := gZ (mk [(14, .bptr 8 2), (16, .bptr 0 0), (17, .int n), (21, .bptr 0 0), (22, .int n), (26, .bptr 0 0), (27, .int n), (29, .bptr 0 0), (30, .bptr 8 1)] [(0, xv_ c.2)])
  obtain ⟨z7, ez7⟩ := gZ (mk [(18, .int i), (23, .int j), (26, .bptr 0 0), (27, .int n), (29, .bptr 0 0)] [(0, xv_ a2.2)])
  obtain ⟨z8, ez8⟩ := gZ (mk [(18, .int i), (21, .bptr 0 0), (22, .int n), (26, .bptr 0 0), (27, .int n), (29, .bptr 0 0), (30, .bptr 8 1)] [(0, xv_ a1.2)])
  obtain ⟨z9, ez9⟩ := gZ (mk [(16, .bptr 0 0), (17, .int n), (21, .bptr 0 0), (22, .int n), (26, .bptr 0 0), (27, .int n), (29, .bptr 0 0), (31, .int m)] [(0, xv_ c.2)])
  obtain ⟨z10, ez10⟩ := gZ (mk [(15, .ref 2 []), (18, .int i), (21, .bptr 0 0), (22, .int n), (26, .bptr 0 0), (27, .int n), (29, .bptr 0 0)] [(0, xv_ a1.2)])
  obtain ⟨z11, ez11⟩ := gZ (mk [(15, .ref 2 []), (16, .bptr 0 0), (17, .int n), (21, .bptr 0 0), (22, .int n), (26, .bptr 0 0), (27, .int n), (29, .bptr 0 0), (30, .bptr 8 1)] [(0, xv_ c.2)])
  obtain ⟨z12, ez12⟩ := gZ (mk [(14, .bptr 8 2), (18, .int i), (23, .int j), (26, .bptr 0 0), (27, .int n), (29, .bptr 0 0)] [(0, xv_ a2.2)])
  obtain ⟨z13, ez13⟩ := gZ (mk [(14, .bptr 8 2), (18, .int i), (21, .bptr 0 0), (22, .int n), (26, .bptr 0 0), (27, .int n), (29, .bptr 0 0), (30, .bptr 8 1)] [(0, xv_ a1.2)])
  obtain ⟨z14, ez14⟩ := gZ (mk [(14, .bptr 8 2), (16, .bptr 0 0), (17, .int n), (21, .bptr 0 0), (22, .int n), (26, .bptr 0 0), (27, .int n), (29, .bptr 0 0), (31, .int m)] [(0, xv_ c.2)])
  obtain ⟨z15, ez15⟩ := gZ (mk [(18, .int i), (23, .int j), (28, .int k), (29, .bptr 0 0)] [(0, xv_ a3.2)])
  obtain ⟨z16, ez16⟩ := gZ (mk [(18, .int i), (23, .int j), (26, .bptr 0 0), (27, .int n), (29, .bptr 0 0), (30, .bptr 8 1)] [(0, xv_ a2.2)])
  obtain ⟨z17, ez17⟩ := gZ (mk [(18, .int i), (21, .bptr 0 0), (22, .int n), (26, .bptr 0 0), (27, .int n), (29, .bptr 0 0), (31, .int m)] [(0, xv_ a1.2)])
  obtain ⟨z18, ez18⟩ := gZ (mk [(16, .bptr 0 0), (17, .int n), (21, .bptr 0 0), (22, .int n), (26, .bptr 0 0), (27, .int n), (29, .bptr 0 0), (32, .int (m + 1))] [(0, xv_ c.2)])
  obtain ⟨z19, ez19⟩ := gZ (mk [(19, .eref 2 [] i), (21, .bptr 0 0), (22, .int n), (26, .bptr 0 0), (27, .int n), (29, .bptr 0 0)] [(0, xv_ a1.2)])
  obtain ⟨z20, ez20⟩ := gZ (mk [(15, .ref 2 []), (18, .int i), (23, .int j), (26, .bptr 0 0), (27, .int n), (29, .bptr 0 0)] [(0, xv_ a2.2)])
  obtain ⟨z21, ez21⟩ := gZ (mk [(15, .ref 2 []), (18, .int i), (21, .bptr 0 0), (22, .int n), (26, .bptr 0 0), (27, .int n), (29, .bptr 0 0), (30, .bptr 8 1)] [(0, xv_ a1.2)])
  obtain ⟨z22, ez22⟩ := gZ (mk [(15, .ref 2 []), (16, .bptr 0 0), (17, .int n), (21, .bptr 0 0), (22, .int n), (26, .bptr 0 0), (27, .int n), (29, .bptr 0 0), (31, .int m)] [(0, xv_ c.2)])
  obtain ⟨z23, ez23⟩ := gZ (mk [(14, .bptr 8 2), (18, .int i), (23, .int j), (28, .int k), (29, .bptr 0 0)] [(0, xv_ a3.2)])
  obtain ⟨z24, ez24⟩ := gZ (mk [(14, .bptr 8 2), (18, .int i), (23, .int j), (26, .bptr 0 0), (27, .int n), (29, .bptr 0 0), (30, .bptr 8 1)] [(0, xv_ a2.2)])
  obtain ⟨z25, ez25⟩ := gZ (mk [(14, .bptr 8 2), (18, .int i), (21, .bptr 0 0), (22, .int n), (26, .bptr 0 0), (27, .int n), (29, .bptr 0 0), (31, .int m)] [(0, xv_ a1.2)])
  obtain ⟨z26, ez26⟩ := gZ (mk [(14, .bptr 8 2), (16, .bptr 0 0), (17, .int n), (21, .bptr 0 0), (22, .int n), (26, .bptr 0 0), (27, .int n), (29, .bptr 0 0), (32, .int (m + 1))] [(0, xv_ c.2)])
  obtain ⟨z27, ez27⟩ := gZ (mk [(18, .int i), (23, .int j), (28, .int k), (29, .bptr 0 0), (30, .bptr 8 1)] [(0, xv_ a3.2)])
  obtain ⟨z28, ez28⟩ := gZ (mk [(18, .int i), (23, .int j), (26, .bptr 0 0), (27, .int n), (29, .bptr 0 0), (31, .int m)] [(0, xv_ a2.2)])
  obtain ⟨z29, ez29⟩ := gZ (mk [(18, .int i), (21, .bptr 0 0), (22, .int n), (26, .bptr 0 0), (27, .int n), (29, .bptr 0 0), (32, .int (m + 1))] [(0, xv_ a1.2)])
  obtain ⟨z30, ez30⟩ := gZ (mk [(20, .ref 2 [i]), (21, .bptr 0 0), (22, .int n), (26, .bptr 0 0), (27, .int n), (29, .bptr 0 0)] [(0, xv_ a1.2)])
  obtain ⟨z31, ez31⟩ := gZ (mk [(19, .eref 2 [] i), (23, .int j), (26, .bptr 0 0), (27, .int n), (29, .bptr 0 0)] [(0, xv_ a2.2)])
  obtain ⟨z32, ez32⟩ := gZ (mk [(19, .eref 2 [] i), (21, .bptr 0 0), (22, .int n), (26, .bptr 0 0), (27, .int n), (29, .bptr 0 0), (30, .bptr 8 1)] [(0, xv_ a1.2)])
  obtain ⟨z33, ez33⟩ := gZ (mk [(15, .ref 2 []), (18, .int i), (23, .int j), (28, .int k), (29, .bptr 0 0)] [(0, xv_ a3.2)])
  obtain ⟨z34, ez34⟩ := gZ (mk [(15, .ref 2 []), (18, .int i), (23, .int j), (26, .bptr 0 0), (27, .int n), (29, .bptr 0 0), (30, .bptr 8 1)] [(0, xv_ a2.2)])
  obtain ⟨z35, ez35⟩ := gZ (mk [(15, .ref 2 []), (18, .int i), (21, .bptr 0 0), (22, .int n), (26, .bptr 0 0), (27, .int n), (29, .bptr 0 0), (31, .int m)] [(0, xv_ a1.2)])
  obtain ⟨z36, ez36⟩ := gZ (mk [(15, .ref 2 []), (16, .bptr 0 0), (17, .int n), (21, .bptr 0 0), (22, .int n), (26, .bptr 0 0), (27, .int n), (29, .bptr 0 0), (32, .int (m + 1))] [(0, xv_ c.2)])
  obtain ⟨z37, ez37⟩ := gZ (mk [(14, .bptr 8 2), (18, .int i), (23, .int j), (28, .int k), (29, .bptr 0 0), (30, .bptr 8 1)] [(0, xv_ a3.2)])
  obtain ⟨z38, ez38⟩ := gZ (mk [(14, .bptr 8 2), (18, .int i), (23, .int j), (26, .bptr 0 0), (27, .int n), (29, .bptr 0 0), (31, .int m)] [(0, xv_ a2.2)])
  obtain ⟨z39, ez39⟩ := gZ (mk [(14, .bptr 8 2), (18, .int i), (21, .bptr 0 0), (22, .int n), (26, .bptr 0 0), (27, .int n), (29, .bptr 0 0), (32, .int (m + 1))] [(0, xv_ a1.2)])
  obtain ⟨z40, ez40⟩ := gZ (mk [(18, .int i), (23, .int j), (28, .int k), (29, .bptr 0 0), (31, .int m)] [(0, xv_ a3.2)])
  obtain ⟨z41, ez41⟩ := gZ (mk [(18, .int i), (23, .int j), (26, .bptr 0 0), (27, .int n), (29, .bptr 0 0), (32, .int (m + 1))] [(0, xv_ a2.2)])
  obtain ⟨z42, ez42⟩ := gZ (mk [(20, .ref 2 [i]), (23, .int j), (26, .bptr 0 0), (27, .int n), (29, .bptr 0 0)] [(0, xv_ a2.2)])
  obtain ⟨z43, ez43⟩ := gZ (mk [(20, .ref 2 [i]), (21, .bptr 0 0), (22, .int n), (26, .bptr 0 0), (27, .int n), (29, .bptr 0 0), (30, .bptr 8 1)] [(0, xv_ a1.2)])
  obtain ⟨z44, ez44⟩ := gZ (mk [(19, .eref 2 [] i), (23, .int j), (28, .int k), (29, .bptr 0 0)] [(0, xv_ a3.2)])
  obtain ⟨z45, ez45⟩ := gZ (mk [(19, .eref 2 [] i), (23, .int j), (26, .bptr 0 0), (27, .int n), (29, .bptr 0 0), (30, .bptr 8 1)] [(0, xv_ a2.2)])
  obtain ⟨z46, ez46⟩ := gZ (mk [(19, .eref 2 [] i), (21, .bptr 0 0), (22, .int n), (26, .bptr 0 0), (27, .int n), (29, .bptr 0 0), (31, .int m)] [(0, xv_ a1.2)])
  obtain ⟨z47, ez47⟩ := gZ (mk [(15, .ref 2 []), (18, .int i), (23, .int j), (28, .int k), (29, .bptr 0 0), (30, .bptr 8 1)] [(0, xv_ a3.2)])
  obtain ⟨z48, ez48⟩ := gZ (mk [(15, .ref 2 []), (18, .int i), (23, .int j), (26, .bptr 0 0), (27, .int n), (29, .bptr 0 0), (31, .int m)] [(0, xv_ a2.2)])
  obtain ⟨z49, ez49⟩ := gZ (mk [(15, .ref 2 []), (18, .int i), (21, .bptr 0 0), (22, .int n), (26, .bptr 0 0), (27, .int n), (29, .bptr 0 0), (32, .int (m + 1))] [(0, xv_ a1.2)])
  obtain ⟨z50, ez50⟩ := gZ (mk [(14, .bptr 8 2), (18, .int i), (23, .int j), (28, .int k), (29, .bptr 0 0), (31, .int m)] [(0, xv_ a3.2)])
  obtain ⟨z51, ez51⟩ := gZ (mk [(14, .bptr 8 2), (18, .int i), (23, .int j), (26, .bptr 0 0), (27, .int n), (29, .bptr 0 0), (32, .int (m + 1))] [(0, xv_ a2.2)])
  obtain ⟨z52, ez52⟩ := gZ (mk [(18, .int i), (23, .int j), (28, .int k), (29, .bptr 0 0), (32, .int (m + 1))] [(0, xv_ a3.2)])
  obtain ⟨z53, ez53⟩ := gZ (mk [(24, .eref 2 [i] j), (26, .bptr 0 0), (27, .int n), (29, .bptr 0 0)] [(0, xv_ a2.2)])
  obtain ⟨z54, ez54⟩ := gZ (mk [(20, .ref 2 [i]), (23, .int j), (28, .int k), (29, .bptr 0 0)] [(0, xv_ a3.2)])
  obtain ⟨z55, ez55⟩ := gZ (mk [(20, .ref 2 [i]), (23, .int j), (26, .bptr 0 0), (27, .int n), (29, .bptr 0 0), (30, .bptr 8 1)] [(0, xv_ a2.2)])
  obtain ⟨z56, ez56⟩ := gZ (mk [(20, .ref 2 [i]), (21, .bptr 0 0), (22, .int n), (26, .bptr 0 0), (27, .int n), (29, .bptr 0 0), (31, .int m)] [(0, xv_ a1.2)])
  obtain ⟨z57, ez57⟩ := gZ (mk [(19, .eref 2 [] i), (23, .int j), (28, .int k), (29, .bptr 0 0), (30, .bptr 8 1)] [(0, xv_ a3.2)])
  obtain ⟨z58, ez58⟩ := gZ (mk [(19, .eref 2 [] i), (23, .int j), (26, .bptr 0 0), (27, .int n), (29, .bptr 0 0), (31, .int m)] [(0, xv_ a2.2)])
  obtain ⟨z59, ez59⟩ := gZ (mk [(19, .eref 2 [] i), (21, .bptr 0 0), (22, .int n), (26, .bptr 0 0), (27, .int n), (29, .bptr 0 0), (32, .int (m + 1))] [(0, xv_ a1.2)])
  obtain ⟨z60, ez60⟩ := gZ (mk [(15, .ref 2 []), (18, .int i), (23, .int j), (28, .int k), (29, .bptr 0 0), (31, .int m)] [(0, xv_ a3.2)])
  obtain ⟨z61, ez61⟩ := gZ (mk [(15, .ref 2 []), (18, .int i), (23, .int j), (26, .bptr 0 0), (27, .int n), (29, .bptr 0 0), (32, .int (m + 1))] [(0, xv_ a2.2)])
  obtain ⟨z62, ez62⟩ := gZ (mk [(14, .bptr 8 2), (18, .int i), (23, .int j), (28, .int k), (29, .bptr 0 0), (32, .int (m + 1))] [(0, xv_ a3.2)])
  obtain ⟨z63, ez63⟩ := gZ (mk [(18, .int i), (23, .int j), (28, .int k), (33, .int v)] [(0, xv_ a4.2)])
  obtain ⟨z64, ez64⟩ := gZ (mk [(25, .ref 2 [i, j]), (26, .bptr 0 0), (27, .int n), (29, .bptr 0 0)] [(0, xv_ a2.2)])
  obtain ⟨z65, ez65⟩ := gZ (mk [(24, .eref 2 [i] j), (28, .int k), (29, .bptr 0 0)] [(0, xv_ a3.2)])
  obtain ⟨z66, ez66⟩ := gZ (mk [(24, .eref 2 [i] j), (26, .bptr 0 0), (27, .int n), (29, .bptr 0 0), (30, .bptr 8 1)] [(0, xv_ a2.2)])
  obtain ⟨z67, ez67⟩ := gZ (mk [(20, .ref 2 [i]), (23, .int j), (28, .int k), (29, .bptr 0 0), (30, .bptr 8 1)] [(0, xv_ a3.2)])
  obtain ⟨z68, ez68⟩ := gZ (mk [(20, .ref 2 [i]), (23, .int j), (26, .bptr 0 0), (27, .int n), (29, .bptr 0 0), (31, .int m)] [(0, xv_ a2.2)])
  obtain ⟨z69, ez69⟩ := gZ (mk [(20, .ref 2 [i]), (21, .bptr 0 0), (22, .int n), (26, .bptr 0 0), (27, .int n), (29, .bptr 0 0), (32, .int (m + 1))] [(0, xv_ a1.2)])
  obtain ⟨z70, ez70⟩ := gZ (mk [(19, .eref 2 [] i), (23, .int j), (28, .int k), (29, .bptr 0 0), (31, .int m)] [(0, xv_ a3.2)])
  obtain ⟨z71, ez71⟩ := gZ (mk [(19, .eref 2 [] i), (23, .int j), (26, .bptr 0 0), (27, .int n), (29, .bptr 0 0), (32, .int (m + 1))] [(0, xv_ a2.2)])
  obtain ⟨z72, ez72⟩ := gZ (mk [(15, .ref 2 []), (18, .int i), (23, .int j), (28, .int k), (29, .bptr 0 0), (32, .int (m + 1))] [(0, xv_ a3.2)])
  obtain ⟨z73, ez73⟩ := gZ (mk [(14, .bptr 8 2), (18, .int i), (23, .int j), (28, .int k), (33, .int v)] [(0, xv_ a4.2)])
  obtain ⟨z74, ez74⟩ := gZ (mk [(25, .ref 2 [i, j]), (28, .int k), (29, .bptr 0 0)] [(0, xv_ a3.2)])
  obtain ⟨z75, ez75⟩ := gZ (mk [(25, .ref 2 [i, j]), (26, .bptr 0 0), (27, .int n), (29, .bptr 0 0), (30, .bptr 8 1)] [(0, xv_ a2.2)])
  obtain ⟨z76, ez76⟩ := gZ (mk [(24, .eref 2 [i] j), (28, .int k), (29, .bptr 0 0), (30, .bptr 8 1)] [(0, xv_ a3.2)])
  obtain ⟨z77, ez77⟩ := gZ (mk [(24, .eref 2 [i] j), (26, .bptr 0 0), (27, .int n), (29, .bptr 0 0), (31, .int m)] [(0, xv_ a2.2)])
  obtain ⟨z78, ez78⟩ := gZ (mk [(20, .ref 2 [i]), (23, .int j), (28, .int k), (29, .bptr 0 0), (31, .int m)] [(0, xv_ a3.2)])
  obtain ⟨z79, ez79⟩ := gZ (mk [(20, .ref 2 [i]), (23, .int j), (26, .bptr 0 0), (27, .int n), (29, .bptr 0 0), (32, .int (m + 1))] [(0, xv_ a2.2)])
  obtain ⟨z80, ez80⟩ := gZ (mk [(19, .eref 2 [] i), (23, .int j), (28, .int k), (29, .bptr 0 0), (32, .int (m + 1))] [(0, xv_ a3.2)])
  obtain ⟨z81, ez81⟩ := gZ (mk [(15, .ref 2 []), (18, .int i), (23, .int j), (28, .int k), (33, .int v)] [(0, xv_ a4.2)])
  obtain ⟨z82, ez82⟩ := gZ (mk [(25, .ref 2 [i, j]), (28, .int k), (29, .bptr 0 0), (30, .bptr 8 1)] [(0, xv_ a3.2)])
  obtain ⟨z83, ez83⟩ := gZ (mk [(25, .ref 2 [i, j]), (26, .bptr 0 0), (27, .int n), (29, .bptr 0 0), (31, .int m)] [(0, xv_ a2.2)])
  obtain ⟨z84, ez84⟩ := gZ (mk [(24, .eref 2 [i] j), (28, .int k), (29, .bptr 0 0), (31, .int m)] [(0, xv_ a3.2)])
  obtain ⟨z85, ez85⟩ := gZ (mk [(24, .eref 2 [i] j), (26, .bptr 0 0), (27, .int n), (29, .bptr 0 0), (32, .int (m + 1))] [(0, xv_ a2.2)])
  obtain ⟨z86, ez86⟩ := gZ (mk [(20, .ref 2 [i]), (23, .int j), (28, .int k), (29, .bptr 0 0), (32, .int (m + 1))] [(0, xv_ a3.2)])
  obtain ⟨z87, ez87⟩ := gZ (mk [(19, .eref 2 [] i), (23, .int j), (28, .int k), (33, .int v)] [(0, xv_ a4.2)])
  obtain ⟨z88, ez88⟩ := gZ (mk [(25, .ref 2 [i, j]), (28, .int k), (29, .bptr 0 0), (31, .int m)] [(0, xv_ a3.2)])
  obtain ⟨z89, ez89⟩ := gZ (mk [(25, .ref 2 [i, j]), (26, .bptr 0 0), (27, .int n), (29, .bptr 0 0), (32, .int (m + 1))] [(0, xv_ a2.2)])
  obtain ⟨z90, ez90⟩ := gZ (mk [(24, .eref 2 [i] j), (28, .int k), (29, .bptr 0 0), (32, .int (m + 1))] [(0, xv_ a3.2)])
  obtain ⟨z91, ez91⟩ := gZ (mk [(20, .ref 2 [i]), (23, .int j), (28, .int k), (33, .int v)] [(0, xv_ a4.2)])
  obtain ⟨z92, ez92⟩ := gZ (mk [(25, .ref 2 [i, j]), (28, .int k), (29, .bptr 0 0), (32, .int (m + 1))] [(0, xv_ a3.2)])
  obtain ⟨z93, ez93⟩ := gZ (mk [(24, .eref 2 [i] j), (28, .int k), (33, .int v)] [(0, xv_ a4.2)])
  obtain ⟨z94, ez94⟩ := gZ (mk [(25, .ref 2 [i, j]), (28, .int k), (33, .int v)] [(0, xv_ a4.2)])
  obtain ⟨z95, ez95⟩ := gZ (mk [(33, .int v), (34, .eref 2 [i, j] k)] [(0, xv_ a4.2)])
  obtain ⟨z96, ez96⟩ := gZ (⟨[(0, .bptr 0 0), (2, .bptr 5 0), (3, .bptr 8 0)], [(0, xv_ a4.2), (1, .t1 o), (2, .t3 (W.set i ((W.getD i []).set j (((W.getD i []).getD j []).set k v)))), (5, .bx [.nil, .int 0, .nil]), (8, .bx [.ref 1 [], .int m, .ref 2 []])]⟩ : St)
  refine w2_ [4, 9, 14, 19] [2, 3, 7, 8, 12, 13, 15] [[2, 3, 7, 8, 12, 13, 15], [0, 2, 3, 7, 8, 12, 13, 15], [2, 3, 4, 7, 8, 12, 13, 15], [2, 3, 7, 8, 12, 13, 15, 16], [0, 1, 2, 3, 7, 8, 12, 13, 15], [0, 2, 3, 4, 7, 8, 12, 13, 15], [0, 2, 3, 7, 8, 12, 13, 15, 16], [2, 3, 4, 7, 8, 9, 12, 13, 15], [2, 3, 4, 7, 8, 12, 13, 15, 16], [2, 3, 7, 8, 12, 13, 15, 16, 17], [0, 1, 2, 3, 4, 7, 8, 12, 13, 15], [0, 1, 2, 3, 7, 8, 12, 13, 15, 16], [0, 2, 3, 4, 7, 8, 9, 12, 13, 15], [0, 2, 3, 4, 7, 8, 12, 13, 15, 16], [0, 2, 3, 7, 8, 12, 13, 15, 16, 17], [2, 3, 4, 7, 8, 9, 12, 13, 14, 15], [2, 3, 4, 7, 8, 9, 12, 13, 15, 16], [2, 3, 4, 7, 8, 12, 13, 15, 16, 17], [2, 3, 7, 8, 12, 13, 15, 16, 17, 18], [0, 1, 2, 3, 4, 5, 7, 8, 12, 13, 15], [0, 1, 2, 3, 4, 7, 8, 9, 12, 13, 15], [0, 1, 2, 3, 4, 7, 8, 12, 13, 15, 16], [0, 1, 2, 3, 7, 8, 12, 13, 15, 16, 17], [0, 2, 3, 4, 7, 8, 9, 12, 13, 14, 15], [0, 2, 3, 4, 7, 8, 9, 12, 13, 15, 16], [0, 2, 3, 4, 7, 8, 12, 13, 15, 16, 17], [0, 2, 3, 7, 8, 12, 13, 15, 16, 17, 18], [2, 3, 4, 7, 8, 9, 12, 13, 14, 15, 16], [2, 3, 4, 7, 8, 9, 12, 13, 15, 16, 17], [2, 3, 4, 7, 8, 12, 13, 15, 16, 17, 18], [0, 1, 2, 3, 4, 5, 6, 7, 8, 12, 13, 15], [0, 1, 2, 3, 4, 5, 7, 8, 9, 12, 13, 15], [0, 1, 2, 3, 4, 5, 7, 8, 12, 13, 15, 16], [0, 1, 2, 3, 4, 7, 8, 9, 12, 13, 14, 15], [0, 1, 2, 3, 4, 7, 8, 9, 12, 13, 15, 16], [0, 1, 2, 3, 4, 7, 8, 12, 13, 15, 16, 17], [0, 1, 2, 3, 7, 8, 12, 13, 15, 16, 17, 18], [0, 2, 3, 4, 7, 8, 9, 12, 13, 14, 15, 16], [0, 2, 3, 4, 7, 8, 9, 12, 13, 15, 16, 17], [0, 2, 3, 4, 7, 8, 12, 13, 15, 16, 17, 18], [2, 3, 4, 7, 8, 9, 12, 13, 14, 15, 16, 17], [2, 3, 4, 7, 8, 9, 12, 13, 15, 16, 17, 18], [0, 1, 2, 3, 4, 5, 6, 7, 8, 9, 12, 13, 15], [0, 1, 2, 3, 4, 5, 6, 7, 8, 12, 13, 15, 16], [0, 1, 2, 3, 4, 5, 7, 8, 9, 12, 13, 14, 15], [0, 1, 2, 3, 4, 5, 7, 8, 9, 12, 13, 15, 16], [0, 1, 2, 3, 4, 5, 7, 8, 12, 13, 15, 16, 17], [0, 1, 2, 3, 4, 7, 8, 9, 12, 13, 14, 15, 16], [0, 1, 2, 3, 4, 7, 8, 9, 12, 13, 15, 16, 17], [0, 1, 2, 3, 4, 7, 8, 12, 13, 15, 16, 17, 18], [0, 2, 3, 4, 7, 8, 9, 12, 13, 14, 15, 16, 17], [0, 2, 3, 4, 7, 8, 9, 12, 13, 15, 16, 17, 18], [2, 3, 4, 7, 8, 9, 12, 13, 14, 15, 16, 17, 18], [0, 1, 2, 3, 4, 5, 6, 7, 8, 9, 10, 12, 13, 15], [0, 1, 2, 3, 4, 5, 6, 7, 8, 9, 12, 13, 14, 15], [0, 1, 2, 3, 4, 5, 6, 7, 8, 9, 12, 13, 15, 16], [0, 1, 2, 3, 4, 5, 6, 7, 8, 12, 13, 15, 16, 17], [0, 1, 2, 3, 4, 5, 7, 8, 9, 12, 13, 14, 15, 16], [0, 1, 2, 3, 4, 5, 7, 8, 9, 12, 13, 15, 16, 17], [0, 1, 2, 3, 4, 5, 7, 8, 12, 13, 15, 16, 17, 18], [0, 1, 2, 3, 4, 7, 8, 9, 12, 13, 14, 15, 16, 17], [0, 1, 2, 3, 4, 7, 8, 9, 12, 13, 15, 16, 17, 18], [0, 2, 3, 4, 7, 8, 9, 12, 13, 14, 15, 16, 17, 18], [2, 3, 4, 7, 8, 9, 12, 13, 14, 15, 16, 17, 18, 19], [0, 1, 2, 3, 4, 5, 6, 7, 8, 9, 10, 11, 12, 13, 15], [0, 1, 2, 3, 4, 5, 6, 7, 8, 9, 10, 12, 13, 14, 15], [0, 1, 2, 3, 4, 5, 6, 7, 8, 9, 10, 12, 13, 15, 16], [0, 1, 2, 3, 4, 5, 6, 7, 8, 9, 12, 13, 14, 15, 16], [0, 1, 2, 3, 4, 5, 6, 7, 8, 9, 12, 13, 15, 16, 17], [0, 1, 2, 3, 4, 5, 6, 7, 8, 12, 13, 15, 16, 17, 18], [0, 1, 2, 3, 4, 5, 7, 8, 9, 12, 13, 14, 15, 16, 17], [0, 1, 2, 3, 4, 5, 7, 8, 9, 12, 13, 15, 16, 17, 18], [0, 1, 2, 3, 4, 7, 8, 9, 12, 13, 14, 15, 16, 17, 18], [0, 2, 3, 4, 7, 8, 9, 12, 13, 14, 15, 16, 17, 18, 19], [0, 1, 2, 3, 4, 5, 6, 7, 8, 9, 10, 11, 12, 13, 14, 15], [0, 1, 2, 3, 4, 5, 6, 7, 8, 9, 10, 11, 12, 13, 15, 16], [0, 1, 2, 3, 4, 5, 6, 7, 8, 9, 10, 12, 13, 14, 15, 16], [0, 1, 2, 3, 4, 5, 6, 7, 8, 9, 10, 12, 13, 15, 16, 17], [0, 1, 2, 3, 4, 5, 6, 7, 8, 9, 12, 13, 14, 15, 16, 17], [0, 1, 2, 3, 4, 5, 6, 7, 8, 9, 12, 13, 15, 16, 17, 18], [0, 1, 2, 3, 4, 5, 7, 8, 9, 12, 13, 14, 15, 16, 17, 18], [0, 1, 2, 3, 4, 7, 8, 9, 12, 13, 14, 15, 16, 17, 18, 19], [0, 1, 2, 3, 4, 5, 6, 7, 8, 9, 10, 11, 12, 13, 14, 15, 16], [0, 1, 2, 3, 4, 5, 6, 7, 8, 9, 10, 11, 12, 13, 15, 16, 17], [0, 1, 2, 3, 4, 5, 6, 7, 8, 9, 10, 12, 13, 14, 15, 16, 17], [0, 1, 2, 3, 4, 5, 6, 7, 8, 9, 10, 12, 13, 15, 16, 17, 18], [0, 1, 2, 3, 4, 5, 6, 7, 8, 9, 12, 13, 14, 15, 16, 17, 18], [0, 1, 2, 3, 4, 5, 7, 8, 9, 12, 13, 14, 15, 16, 17, 18, 19], [0, 1, 2, 3, 4, 5, 6, 7, 8, 9, 10, 11, 12, 13, 14, 15, 16, 17], [0, 1, 2, 3, 4, 5, 6, 7, 8, 9, 10, 11, 12, 13, 15, 16, 17, 18], [0, 1, 2, 3, 4, 5, 6, 7, 8, 9, 10, 12, 13, 14, 15, 16, 17, 18], [0, 1, 2, 3, 4, 5, 6, 7, 8, 9, 12, 13, 14, 15, 16, 17, 18, 19], [0, 1, 2, 3, 4, 5, 6, 7, 8, 9, 10, 11, 12, 13, 14, 15, 16, 17, 18], [0, 1, 2, 3, 4, 5, 6, 7, 8, 9, 10, 12, 13, 14, 15, 16, 17, 18, 19], [0, 1, 2, 3, 4, 5, 6, 7, 8, 9, 10, 11, 12, 13, 14, 15, 16, 17, 18, 19], [0, 1, 2, 3, 4, 5, 6, 7, 8, 9, 10, 11, 12, 13, 14, 15, 16, 17, 18, 19, 20], [0, 1, 2, 3, 4, 5, 6, 7, 8, 9, 10, 11, 12, 13, 14, 15, 16, 17, 18, 19, 20, 21]] [(0, 0, 1), (0, 4, 2), (0, 16, 3), (1, 1, 4), (1, 4, 5), (1, 16, 6), (2, 0, 5), (2, 9, 7), (2, 16, 8), (3, 0, 6), (3, 4, 8), (3, 17, 9), (4, 4, 10), (4, 16, 11), (5, 1, 10), (5, 9, 12), (5, 16, 13), (6, 1, 11), (6, 4, 13), (6, 17, 14), (7, 0, 12), (7, 14, 15), (7, 16, 16), (8, 0, 13), (8, 9, 16), (8, 17, 17), (9, 0, 14), (9, 4, 17), (9, 18, 18), (10, 5, 19), (10, 9, 20), (10, 16, 21), (11, 4, 21), (11, 17, 22), (12, 1, 20), (12, 14, 23), (12, 16, 24), (13, 1, 21), (13, 9, 24), (13, 17, 25), (14, 1, 22), (14, 4, 25), (14, 18, 26), (15, 0, 23), (15, 16, 27), (16, 0, 24), (16, 14, 27), (16, 17, 28), (17, 0, 25), (17, 9, 28), (17, 18, 29), (18, 0, 26), (18, 4, 29), (19, 6, 30), (19, 9, 31), (19, 16, 32), (20, 5, 31), (20, 14, 33), (20, 16, 34), (21, 5, 32), (21, 9, 34), (21, 17, 35), (22, 4, 35), (22, 18, 36), (23, 1, 33), (23, 16, 37), (24, 1, 34), (24, 14, 37), (24, 17, 38), (25, 1, 35), (25, 9, 38), (25, 18, 39), (26, 1, 36), (26, 4, 39), (27, 0, 37), (27, 17, 40), (28, 0, 38), (28, 14, 40), (28, 18, 41), (29, 0, 39), (29, 9, 41), (30, 9, 42), (30, 16, 43), (31, 6, 42), (31, 14, 44), (31, 16, 45), (32, 6, 43), (32, 9, 45), (32, 17, 46), (33, 5, 44), (33, 16, 47), (34, 5, 45), (34, 14, 47), (34, 17, 48), (35, 5, 46), (35, 9, 48), (35, 18, 49), (36, 4, 49), (37, 1, 47), (37, 17, 50), (38, 1, 48), (38, 14, 50), (38, 18, 51), (39, 1, 49), (39, 9, 51), (40, 0, 50), (40, 18, 52), (41, 0, 51), (41, 14, 52), (42, 10, 53), (42, 14, 54), (42, 16, 55), (43, 9, 55), (43, 17, 56), (44, 6, 54), (44, 16, 57), (45, 6, 55), (45, 14, 57), (45, 17, 58), (46, 6, 56), (46, 9, 58), (46, 18, 59), (47, 5, 57), (47, 17, 60), (48, 5, 58), (48, 14, 60), (48, 18, 61), (49, 5, 59), (49, 9, 61), (50, 1, 60), (50, 18, 62), (51, 1, 61), (51, 14, 62), (52, 0, 62), (52, 19, 63), (53, 11, 64), (53, 14, 65), (53, 16, 66), (54, 10, 65), (54, 16, 67), (55, 10, 66), (55, 14, 67), (55, 17, 68), (56, 9, 68), (56, 18, 69), (57, 6, 67), (57, 17, 70), (58, 6, 68), (58, 14, 70), (58, 18, 71), (59, 6, 69), (59, 9, 71), (60, 5, 70), (60, 18, 72), (61, 5, 71), (61, 14, 72), (62, 1, 72), (62, 19, 73), (63, 0, 73), (64, 14, 74), (64, 16, 75), (65, 11, 74), (65, 16, 76), (66, 11, 75), (66, 14, 76), (66, 17, 77), (67, 10, 76), (67, 17, 78), (68, 10, 77), (68, 14, 78), (68, 18, 79), (69, 9, 79), (70, 6, 78), (70, 18, 80), (71, 6, 79), (71, 14, 80), (72, 5, 80), (72, 19, 81), (73, 1, 81), (74, 16, 82), (75, 14, 82), (75, 17, 83), (76, 11, 82), (76, 17, 84), (77, 11, 83), (77, 14, 84), (77, 18, 85), (78, 10, 84), (78, 18, 86), (79, 10, 85), (79, 14, 86), (80, 6, 86), (80, 19, 87), (81, 5, 87), (82, 17, 88), (83, 14, 88), (83, 18, 89), (84, 11, 88), (84, 18, 90), (85, 11, 89), (85, 14, 90), (86, 10, 90), (86, 19, 91), (87, 6, 91), (88, 18, 92), (89, 14, 92), (90, 11, 92), (90, 19, 93), (91, 10, 93), (92, 19, 94), (93, 11, 94), (94, 20, 95), (95, 21, 96)] [z0, z1, z2, z3, z4, z5, z6, z7, z8, z9, z10, z11, z12, z13, z14, z15, z16, z17, z18, z19, z20, z21, z22, z23, z24, z25, z26, z27, z28, z29, z30, z31, z32, z33, z34, z35, z36, z37, z38, z39, z40, z41, z42, z43, z44, z45, z46, z47, z48, z49, z50, z51, z52, z53, z54, z55, z56, z57, z58, z59, z60, z61, z62, z63, z64, z65, z66, z67, z68, z69, z70, z71, z72, z73, z74, z75, z76, z77, z78, z79, z80, z81, z82, z83, z84, z85, z86, z87, z88, z89, z90, z91, z92, z93, z94, z95, z96] hrd (by first | exact xO_ hcx | exact wJ_ hcx rfl | exact y2_ hcx rfl) mixed (by kernel_rfl) ?_ ?_ ?_
  ·show wj_ _ _ _ _ _ _ (fun s => yy_ _ _ s z0)
   rw [ez0]; simp only [go_sem, seval]; repeat' (first | (refine Xq_ ?_ rfl; (focus ((repeat' (first | exact True.intro | refine And.intro rfl ?_)); done))) | with_reducible refine And.intro ?_ ?_ | omega)
  ·refine ⟨dtr ez0 ez1 ?_, dtr ez0 ez2 ?_, dtr ez0 ez3 ?_, dtr ez1 ez4 ?_, dtr ez1 ez5 ?_, dtr ez1 ez6 ?_, dtr ez2 ez5 ?_, dtr ez2 ez7 ?_, dtr ez2 ez8 ?_, dtr ez3 ez6 ?_, dtr ez3 ez8 ?_, dtr ez3 ez9 ?_, dtr ez4 ez10 ?_, dtr ez4 ez11 ?_, dtr ez5 ez10 ?_, dtr ez5 ez12 ?_, dtr ez5 ez13 ?_, dtr ez6 ez11 ?_, dtr ez6 ez13 ?_, dtr ez6 ez14 ?_, dtr ez7 ez12 ?_, dtr ez7 ez15 ?_, dtr ez7 ez16 ?_, dtr ez8 ez13 ?_, dtr ez8 ez16 ?_, dtr ez8 ez17 ?_, dtr ez9 ez14 ?_, dtr ez9 ez17 ?_, dtr ez9 ez18 ?_, dtr ez10 ez19 ?_, dtr ez10 ez20 ?_, dtr ez10 ez21 ?_, dtr ez11 ez21 ?_, dtr ez11 ez22 ?_, dtr ez12 ez20 ?_, dtr ez12 ez23 ?_, dtr ez12 ez24 ?_, dtr ez13 ez21 ?_, dtr ez13 ez24 ?_, dtr ez13 ez25 ?_, dtr ez14 ez22 ?_, dtr ez14 ez25 ?_, dtr ez14 ez26 ?_, dtr ez15 ez23 ?_, dtr ez15 ez27 ?_, dtr ez16 ez24 ?_, dtr ez16 ez27 ?_, dtr ez16 ez28 ?_, dtr ez17 ez25 ?_, dtr ez17 ez28 ?_, dtr ez17 ez29 ?_, dtr ez18 ez26 ?_, dtr ez18 ez29 ?_, dtr ez19 ez30 ?_, dtr ez19 ez31 ?_, dtr ez19 ez32 ?_, dtr ez20 ez31 ?_, dtr ez20 ez33 ?_, dtr ez20 ez34 ?_, dtr ez21 ez32 ?_, dtr ez21 ez34 ?_, dtr ez21 ez35 ?_, dtr ez22 ez35 ?_, dtr ez22 ez36 ?_, dtr ez23 ez33 ?_, dtr ez23 ez37 ?_, dtr ez24 ez34 ?_, dtr ez24 ez37 ?_, dtr ez24 ez38 ?_, dtr ez25 ez35 ?_, dtr ez25 ez38 ?_, dtr ez25 ez39 ?_, dtr ez26 ez36 ?_, dtr ez26 ez39 ?_, dtr ez27 ez37 ?_, dtr ez27 ez40 ?_, dtr ez28 ez38 ?_, dtr ez28 ez40 ?_, dtr ez28 ez41 ?_, dtr ez29 ez39 ?_, dtr ez29 ez41 ?_, dtr ez30 ez42 ?_, dtr ez30 ez43 ?_, dtr ez31 ez42 ?_, dtr ez31 ez44 ?_, dtr ez31 ez45 ?_, dtr ez32 ez43 ?_, dtr ez32 ez45 ?_, dtr ez32 ez46 ?_, dtr ez33 ez44 ?_, dtr ez33 ez47 ?_, dtr ez34 ez45 ?_, dtr ez34 ez47 ?_, dtr ez34 ez48 ?_, dtr ez35 ez46 ?_, dtr ez35 ez48 ?_, dtr ez35 ez49 ?_, dtr ez36 ez49 ?_, dtr ez37 ez47 ?_, dtr ez37 ez50 ?_, dtr ez38 ez48 ?_, dtr ez38 ez50 ?_, dtr ez38 ez51 ?_, dtr ez39 ez49 ?_, dtr ez39 ez51 ?_, dtr ez40 ez50 ?_, dtr ez40 ez52 ?_, dtr ez41 ez51 ?_, dtr ez41 ez52 ?_, dtr ez42 ez53 ?_, dtr ez42 ez54 ?_, dtr ez42 ez55 ?_, dtr ez43 ez55 ?_, dtr ez43 ez56 ?_, dtr ez44 ez54 ?_, dtr ez44 ez57 ?_, dtr ez45 ez55 ?_, dtr ez45 ez57 ?_, dtr ez45 ez58 ?_, dtr ez46 ez56 ?_, dtr ez46 ez58 ?_, dtr ez46 ez59 ?_, dtr ez47 ez57 ?_, dtr ez47 ez60 ?_, dtr ez48 ez58 ?_, dtr ez48 ez60 ?_, dtr ez48 ez61 ?_, dtr ez49 ez59 ?_, dtr ez49 ez61 ?_, dtr ez50 ez60 ?_, dtr ez50 ez62 ?_, dtr ez51 ez61 ?_, dtr ez51 ez62 ?_, dtr ez52 ez62 ?_, dtr ez52 ez63 ?_, dtr ez53 ez64 ?_, dtr ez53 ez65 ?_, dtr ez53 ez66 ?_, dtr ez54 ez65 ?_, dtr ez54 ez67 ?_, dtr ez55 ez66 ?_, dtr ez55 ez67 ?_, dtr ez55 ez68 ?_, dtr ez56 ez68 ?_, dtr ez56 ez69 ?_, dtr ez57 ez67 ?_, dtr ez57 ez70 ?_, dtr ez58 ez68 ?_, dtr ez58 ez70 ?_, dtr ez58 ez71 ?_, dtr ez59 ez69 ?_, dtr ez59 ez71 ?_, dtr ez60 ez70 ?_, dtr ez60 ez72 ?_, dtr ez61 ez71 ?_, dtr ez61 ez72 ?_, dtr ez62 ez72 ?_, dtr ez62 ez73 ?_, dtr ez63 ez73 ?_, dtr ez64 ez74 ?_, dtr ez64 ez75 ?_, dtr ez65 ez74 ?_, dtr ez65 ez76 ?_, dtr ez66 ez75 ?_, dtr ez66 ez76 ?_, dtr ez66 ez77 ?_, dtr ez67 ez76 ?_, dtr ez67 ez78 ?_, dtr ez68 ez77 ?_, dtr ez68 ez78 ?_, dtr ez68 ez79 ?_, dtr ez69 ez79 ?_, dtr ez70 ez78 ?_, dtr ez70 ez80 ?_, dtr ez71 ez79 ?_, dtr ez71 ez80 ?_, dtr ez72 ez80 ?_, dtr ez72 ez81 ?_, dtr ez73 ez81 ?_, dtr ez74 ez82 ?_, dtr ez75 ez82 ?_, dtr ez75 ez83 ?_, dtr ez76 ez82 ?_, dtr ez76 ez84 ?_, dtr ez77 ez83 ?_, dtr ez77 ez84 ?_, dtr ez77 ez85 ?_, dtr ez78 ez84 ?_, dtr ez78 ez86 ?_, dtr ez79 ez85 ?_, dtr ez79 ez86 ?_, dtr ez80 ez86 ?_, dtr ez80 ez87 ?_, dtr ez81 ez87 ?_, dtr ez82 ez88 ?_, dtr ez83 ez88 ?_, dtr ez83 ez89 ?_, dtr ez84 ez88 ?_, dtr ez84 ez90 ?_, dtr ez85 ez89 ?_, dtr ez85 ez90 ?_, dtr ez86 ez90 ?_, dtr ez86 ez91 ?_, dtr ez87 ez91 ?_, dtr ez88 ez92 ?_, dtr ez89 ez92 ?_, dtr ez90 ez92 ?_, dtr ez90 ez93 ?_, dtr ez91 ez93 ?_, dtr ez92 ez94 ?_, dtr ez93 ez94 ?_, dtr ez94 ez95 ?_, dtr ez95 ez96 ?_, trivial⟩
   all_goals simp only [emk, List.cons_append, List.nil_append, List.append_nil, go_sem, seval]
   all_goals repeat' (first | (refine Xq_ ?_ rfl; (focus ((repeat' (first | exact True.intro | refine And.intro rfl ?_)); done))) | with_reducible refine And.intro ?_ ?_ | omega | (refine xp_ (h1) rfl rfl ?_; simp only [go_sem, seval]) | (refine xp_ (h2) rfl rfl ?_; simp only [go_sem, seval]) | (refine xp_ (h3) rfl rfl ?_; simp only [go_sem, seval]) | (refine xp_ (h4) rfl rfl ?_; simp only [go_sem, seval]))
  show ATs _ _ _ _ _ z96
  rw [ez96]
  clear emk ez0 ez1 ez2 ez3 ez4 ez5 ez6 ez7 ez8 ez9 ez10 ez11 ez12 ez13 ez14 ez15 ez16 ez17 ez18 ez19 ez20 ez21 ez22 ez23 ez24 ez25 ez26 ez27 ez28 ez29 ez30 ez31 ez32 ez33 ez34 ez35 ez36 ez37 ez38 ez39 ez40 ez41 ez42 ez43 ez44 ez45 ez46 ez47 ez48 ez49 ez50 ez51 ez52 ez53 ez54 ez55 ez56 ez57 ez58 ez59 ez60 ez61 ez62 ez63 ez64 ez65 ez66 ez67 ez68 ez69 ez70 ez71 ez72 ez73 ez74 ez75 ez76 ez77 ez78 ez79 ez80 ez81 ez82 ez83 ez84 ez85 ez86 ez87 ez88 ez89 ez90 ez91 ez92 ez93 ez94 ez95 ez96
  refine gBN ?_
  refine xf_ ⟨⟨[(0, .bptr 0 0), (2, .bptr 3 0)], [(0, xv_ a4.2), (1, .t1 o), (2, .t3 (W.set i ((W.getD i []).set j (((W.getD i []).getD j []).set k v)))), (3, .bx [.ref 1 [], .int m, .ref 2 []])]⟩, xm_ [8] [(5, 3)], .inr rfl, (by first | rfl | exact ⟨trivial, rfl⟩ | (simp only [y1_, zZ_, go_sem, seval]; done)), (by simp [St.get, xg_, xl_]), rfl⟩
 ·by_cases c1 : c.1 = 1
  ·rw [c1] at hc
   have hQk := Yg_ c.2 okc [0, 1001, 2] (by decide) (by decide)
   rw [show (([0, 1001, 2] : List Int).length : Int) = 3 from rfl] at hQk
   have okK := yp_ okc 3
   obtain ⟨q, eq⟩ : ∃ q, nx c.2 3 = q := ⟨_, rfl⟩
   rw [eq] at hQk okK
   obtain ⟨v, ev⟩ : ∃ v, ([0, 1001, 2] : List Int).getD q.1.toNat 0 = v := ⟨_, rfl⟩
   rw [ev] at hQk
   refine ⟨o, v, W, q.2, okK, by omega, by omega, ?_⟩
   refine OwnCall.intro (n := 52) (rs := [.cell 2 27]) 1 [0] (X := [0]) Tryz.call60 Tryz.func60 rfl rfl rfl (by simp only [List.length_cons, List.length_nil]; omega) (by simp [Aw.ids, x3_, xQ_, xl_, xg_]) (fun cx hcx => AT.weakG (x2_ ?_)); refine gE ?_
   refine gBN ?_
   (repeat refine xb_ ?_); refine AT.ghost (st' := ⟨[(0, .bptr 0 0), (2, .bptr 5 0)], [(0, xv_ s), (5, .bx [.nil, .int 0, .nil])]⟩) (xm_ [] [(1, 5)]) ?_
   refine gCN fun K hK => ?_
   refine xN_ (hD) (k := ?_); simp only [Aw.ids, go_sem, seval]
   refine hK _ ?_; clear hK K
   (repeat refine xb_ ?_); refine AT.ghost (st' := ⟨[(0, .bptr 0 0), (2, .bptr 5 0), (3, .bptr 8 0)], [(0, xv_ s1), (1, .t1 o), (2, .t3 W), (5, .bx [.nil, .int 0, .nil]), (8, .bx [.ref 1 [], .int m, .ref 2 []])]⟩) (xm_ [3] [(6, 8)]) ?_
   (repeat refine xb_ ?_); refine xx_ (by first | exact xO_ hcx | exact wJ_ hcx rfl | exact y2_ hcx rfl) fun K hK => ?_; simp only [go_sem, seval, en]
   refine gU ?_
   refine hK _ ?_; clear hK K
   refine gCN fun K hK => ?_
   refine xp_ (hc) rfl rfl ?_; simp only [go_sem, seval]
   refine hK _ ?_; clear hK K
   (repeat refine xb_ ?_); refine AT.ghost (st' := ⟨[(0, .bptr 0 0), (2, .bptr 5 0), (3, .bptr 8 0), (4, .int n), (11, .int 1)], [(0, xv_ c.2), (1, .t1 o), (2, .t3 W), (5, .bx [.nil, .int 0, .nil]), (8, .bx [.ref 1 [], .int m, .ref 2 []])]⟩) (xr_ [] (by simp only [go_sem, seval, AV.int.injEq, AV.bool.injEq, AV.l1.injEq, AV.l2.injEq, AV.l3.injEq]) (by simp only [go_sem, seval])) ?_
   refine gO ?_
   refine gBN ?_
   refine gQ ?_
   refine gBN ?_
   refine gR ?_
   refine gCN fun K hK => ?_
   refine xN_ (hQk) (k := ?_); simp only [Aw.ids, go_sem, seval]
   refine hK _ ?_; clear hK K
   refine gBN ?_
   refine xf_ ⟨⟨[(0, .bptr 0 0), (2, .bptr 3 0)], [(0, xv_ q.2), (1, .t1 o), (2, .t3 W), (3, .bx [.ref 1 [], .int v, .ref 2 []])]⟩, xm_ [8, 9] [(5, 3)], .inr rfl, (by first | rfl | exact ⟨trivial, rfl⟩ | (simp only [y1_, zZ_, go_sem, seval]; done)), (by simp [St.get, xg_, xl_]), rfl⟩
  ·by_cases c2 : c.1 = 2
   ·rw [c2] at hc
    have hQk := Yg_ c.2 okc [0, 2] (by decide) (by decide)
    rw [show (([0, 2] : List Int).length : Int) = 2 from rfl] at hQk
    have okK := yp_ okc 2
    obtain ⟨q, eq⟩ : ∃ q, nx c.2 2 = q := ⟨_, rfl⟩
    rw [eq] at hQk okK
    obtain ⟨v, ev⟩ : ∃ v, ([0, 2] : List Int).getD q.1.toNat 0 = v := ⟨_, rfl⟩
    rw [ev] at hQk
    refine ⟨o ++ [v], m, W, q.2, okK, by rw [List.length_append, List.length_singleton]; omega, by omega, ?_⟩
    refine OwnCall.intro (n := 52) (rs := [.cell 2 27]) 1 [0] (X := [0]) Tryz.call60 Tryz.func60 rfl rfl rfl (by simp only [List.length_cons, List.length_nil]; omega) (by simp [Aw.ids, x3_, xQ_, xl_, xg_]) (fun cx hcx => AT.weakG (x2_ ?_)); refine gE ?_
    refine gBN ?_
    (repeat refine xb_ ?_); refine AT.ghost (st' := ⟨[(0, .bptr 0 0), (2, .bptr 5 0)], [(0, xv_ s), (5, .bx [.nil, .int 0, .nil])]⟩) (xm_ [] [(1, 5)]) ?_
    refine gCN fun K hK => ?_
    refine xN_ (hD) (k := ?_); simp only [Aw.ids, go_sem, seval]
    refine hK _ ?_; clear hK K
    (repeat refine xb_ ?_); refine AT.ghost (st' := ⟨[(0, .bptr 0 0), (2, .bptr 5 0), (3, .bptr 8 0)], [(0, xv_ s1), (1, .t1 o), (2, .t3 W), (5, .bx [.nil, .int 0, .nil]), (8, .bx [.ref 1 [], .int m, .ref 2 []])]⟩) (xm_ [3] [(6, 8)]) ?_
    (repeat refine xb_ ?_); refine xx_ (by first | exact xO_ hcx | exact wJ_ hcx rfl | exact y2_ hcx rfl) fun K hK => ?_; simp only [go_sem, seval, en]
    refine gU ?_
    refine hK _ ?_; clear hK K
    refine gCN fun K hK => ?_
    refine xp_ (hc) rfl rfl ?_; simp only [go_sem, seval]
    refine hK _ ?_; clear hK K
    (repeat refine xb_ ?_); refine AT.ghost (st' := ⟨[(0, .bptr 0 0), (2, .bptr 5 0), (3, .bptr 8 0), (4, .int n), (11, .int 2)], [(0, xv_ c.2), (1, .t1 o), (2, .t3 W), (5, .bx [.nil, .int 0, .nil]), (8, .bx [.ref 1 [], .int m, .ref 2 []])]⟩) (xr_ [] (by simp only [go_sem, seval, AV.int.injEq, AV.bool.injEq, AV.l1.injEq, AV.l2.injEq, AV.l3.injEq]) (by simp only [go_sem, seval])) ?_
    refine gO ?_
    refine gBN ?_
    refine gQ ?_
    refine gBN ?_
    refine gQ ?_
    refine gBN ?_
    refine gR ?_
    (repeat refine xb_ ?_)
    refine xZ_ [4] (.one 2 (.alt 0 (.alt 1 (.alt 3 (.alt 4 (.alt 5 (.alt 6 (.one 7 (.alt 8 .fin .stop)) .stop) .stop) .stop) .stop) (.alt 3 (.alt 1 (.alt 4 (.alt 5 (.alt 6 (.one 7 (.alt 8 .fin .stop)) .stop) .stop) .stop) (.alt 4 (.one 1 (.alt 5 (.alt 6 (.one 7 (.alt 8 .fin .stop)) .stop) .stop)) .stop)) .stop)) (.alt 3 (.alt 0 (.alt 1 (.alt 4 (.alt 5 (.alt 6 (.one 7 (.alt 8 .fin .stop)) .stop) .stop) .stop) (.alt 4 (.one 1 (.alt 5 (.alt 6 (.one 7 (.alt 8 .fin .stop)) .stop) .stop)) .stop)) (.alt 4 (.one 0 (.one 1 (.alt 5 (.alt 6 (.one 7 (.alt 8 .fin .stop)) .stop) .stop))) .stop)) .stop))) ⟨[(0, .bptr 0 0), (2, .bptr 5 0), (3, .bptr 8 0)], [(0, xv_ q.2), (9, .t1 [0, 2]), (1, .t1 (o ++ [v])), (2, .t3 W), (5, .bx [.nil, .int 0, .nil]), (8, .bx [.ref 1 [], .int m, .ref 2 []]), (10, .t1 [v])]⟩ (by first | exact xO_ hcx | exact y2_ hcx rfl) mixed (by kernel_rfl) (fun K hK => ?_) ?_
    ·simp only [go_sem, seval, Option.getD_some, and_true, true_and, and_self, List.contains_cons, List.contains_nil, Bool.or_false, Bool.or_true]
     repeat' (first | exact hK _ gM  | with_reducible refine And.intro ?_ ?_ | omega | (refine zz_ (hQk) (by simp [Aw.ids]) (by simp [find]) (by simp [zQ_, zC_, xH_, xu_, YV_, Aw.ids]) (by simp [xH_, xu_, YV_, Aw.ids]) (by simp [Aw.ids]) ?_; simp only [Aw.ids, List.map_cons, List.map_nil, List.filter_cons, List.filter_nil, List.contains_cons, List.contains_nil, Bool.or_false, Bool.or_true, Bool.not_true, Bool.not_false, Nat.reduceBEq, Bool.false_eq_true, if_true, if_false, List.cons_append, List.nil_append]; simp only [go_sem, seval, Option.getD_some, and_true, true_and, and_self, List.contains_cons, List.contains_nil, Bool.or_false, Bool.or_true]))
    refine gBN ?_
    refine xf_ ⟨⟨[(0, .bptr 0 0), (2, .bptr 3 0)], [(0, xv_ q.2), (1, .t1 (o ++ [v])), (2, .t3 W), (3, .bx [.ref 1 [], .int m, .ref 2 []])]⟩, xm_ [8, 9, 10] [(5, 3)], .inr rfl, (by first | rfl | exact ⟨trivial, rfl⟩ | (simp only [y1_, zZ_, go_sem, seval]; done)), (by simp [St.get, xg_, xl_]), rfl⟩
   ·refine ⟨o, m, W, c.2, okc, by omega, by omega, ?_⟩
    obtain ⟨d, ed⟩ : ∃ d, c.1 = d := ⟨_, rfl⟩
    rw [ed] at hc c0 c1 c2
    refine OwnCall.intro (n := 52) (rs := [.cell 2 27]) 1 [0] (X := [0]) Tryz.call60 Tryz.func60 rfl rfl rfl (by simp only [List.length_cons, List.length_nil]; omega) (by simp [Aw.ids, x3_, xQ_, xl_, xg_]) (fun cx hcx => AT.weakG (x2_ ?_)); refine gE ?_
    refine gBN ?_
    (repeat refine xb_ ?_); refine AT.ghost (st' := ⟨[(0, .bptr 0 0), (2, .bptr 5 0)], [(0, xv_ s), (5, .bx [.nil, .int 0, .nil])]⟩) (xm_ [] [(1, 5)]) ?_
    refine gCN fun K hK => ?_
    refine xN_ (hD) (k := ?_); simp only [Aw.ids, go_sem, seval]
    refine hK _ ?_; clear hK K
    (repeat refine xb_ ?_); refine AT.ghost (st' := ⟨[(0, .bptr 0 0), (2, .bptr 5 0), (3, .bptr 8 0)], [(0, xv_ s1), (1, .t1 o), (2, .t3 W), (5, .bx [.nil, .int 0, .nil]), (8, .bx [.ref 1 [], .int m, .ref 2 []])]⟩) (xm_ [3] [(6, 8)]) ?_
    (repeat refine xb_ ?_); refine xx_ (by first | exact xO_ hcx | exact wJ_ hcx rfl | exact y2_ hcx rfl) fun K hK => ?_; simp only [go_sem, seval, en]
    refine gU ?_
    refine hK _ ?_; clear hK K
    refine gCN fun K hK => ?_
    refine xp_ (hc) rfl rfl ?_; simp only [go_sem, seval]
    refine hK _ ?_; clear hK K
    (repeat refine xb_ ?_); refine AT.ghost (st' := ⟨[(0, .bptr 0 0), (2, .bptr 5 0), (3, .bptr 8 0), (4, .int n), (11, .int d)], [(0, xv_ c.2), (1, .t1 o), (2, .t3 W), (5, .bx [.nil, .int 0, .nil]), (8, .bx [.ref 1 [], .int m, .ref 2 []])]⟩) (xr_ [] (by simp only [go_sem, seval, AV.int.injEq, AV.bool.injEq, AV.l1.injEq, AV.l2.injEq, AV.l3.injEq]) (by simp only [go_sem, seval])) ?_
    refine gO ?_
    refine gBN ?_
    refine gI (fun g0 => ?_) fun g0 => ?_
    ·exact absurd g0 c0
    ·refine gBN ?_
     refine gI (fun g1 => ?_) fun g1 => ?_
     ·exact absurd g1 c1
     ·refine gBN ?_
      refine gI (fun g2 => ?_) fun g2 => ?_
      ·exact absurd g2 c2
      ·refine xe_ ?_
       refine gBN ?_
       refine xf_ ⟨⟨[(0, .bptr 0 0), (2, .bptr 3 0)], [(0, xv_ c.2), (1, .t1 o), (2, .t3 W), (3, .bx [.ref 1 [], .int m, .ref 2 []])]⟩, xm_ [8] [(5, 3)], .inr rfl, (by first | rfl | exact ⟨trivial, rfl⟩ | (simp only [y1_, zZ_, go_sem, seval]; done)), (by simp [St.get, xg_, xl_]), rfl⟩
end Go.Proofs.YtjbdiekkjegckaaGreat
