import Derived.Test.YtjbdiekkjegckaaGreatHy2
set_option linter.unusedSimpArgs false
set_option linter.unusedVariables false
namespace Go.Proofs.YtjbdiekkjegckaaGreat
open Go Go.Aw Go.Pl
attribute [local go_sem] y9_ yB_ za_ zb_ wE_ yq_ List.getElem?_toArray List.getElem?_cons_zero List.getElem?_cons_succ
end Go.Proofs.YtjbdiekkjegckaaGreat
namespace Go.Proofs.YtjbdiekkjegckaaGreat
open Go Go.Aw Go.Pl
end Go.Proofs.YtjbdiekkjegckaaGreat
namespace Go.Proofs.YtjbdiekkjegckaaGreat
open Go Go.Aw Go.Pl
attribute [local go_sem] y9_ yB_ za_ zb_ wE_ yq_ List.getElem?_toArray List.getElem?_cons_zero List.getElem?_cons_succ
theorem VI_ (o : List Int) (m : Int) (n : Int) (h1 : 1 ≤ m) (h2 : m ≤ 1000) : PureCall Tryz.prog 66 [.agg [.l1 o, .int m, .nil], .int n] (.int (n % m)) := by
 have a1 : -m < n.tmod m := by
  have := Int.tmod_lt_of_pos (-n) (show 0 < m by omega)
  rw [Int.neg_tmod] at this
  omega
 have a2 := Int.tmod_lt_of_pos n (show 0 < m by omega)
 have a3 := Zk_ (n := n) h1
 have a4 := Int.emod_nonneg n (show m ≠ 0 by omega)
 have a5 := Int.emod_lt_of_pos n (show 0 < m by omega)
 refine gPC 15 [.tmp 4] Tryz.call66 Tryz.func66 fun cx hcx => gE ?_
 refine gA ?_
 (repeat refine xb_ ?_); refine xI_ (xO_ hcx) mixed (by kernel_rfl) fun K hK => ?_; simp only [go_sem, seval]
 simp only [a3]
 refine gU ?_
 refine hK _ ?_; clear hK K
 refine xf_ (zY_ rfl ?_)
 rfl
theorem Sf_ (n : Nat) (o : List Int) (m : Int) (w : List (List (List Int))) (o' : List Int) (w' : List (List (List Int))) (m2 : m ≤ 1000) (h : CubB n m w) (h' : CubB n m w') (x y z : Nat) (hx : x < n) (hy : y < n) (hz : z < n) : PureCall Tryz.prog 78 [.int x, .int y, .int z, .cptr [.l1 o, .int m, .l3 w] 0, .cptr [.l1 o', .int m, .l3 w'] 0] (.int (e3 w x y z + e3 w' x y z)) := by
 have l1 := h.1
 have l2 := h'.1
 have mx := h.mat hx
 have mx' := h'.mat hx
 have rx := h.row hx hy
 have rx' := h'.row hx hy
 have v1 := h.bd hx hy hz
 have v2 := h'.bd hx hy hz
 simp only [e3] at v1 v2 ⊢
 refine gPC 32 [.tmp 8] Tryz.call78 Tryz.func78 fun cx hcx => gE ?_
 refine gA ?_
 (repeat refine xb_ ?_); refine xI_ (xO_ hcx) mixed (by kernel_rfl) fun K hK => ?_; simp only [go_sem, seval]; (repeat refine aI (hb := ?_)); refine hK _ ?_; clear hK K
 refine xf_ (zY_ rfl ?_)
 rfl
set_option maxRecDepth 100000 in
set_option maxHeartbeats 8000000 in
theorem UG_ (n : Nat) (o : List Int) (m : Int) (w : List (List (List Int))) (o' : List Int) (w' : List (List (List Int))) (hp : PosO o) (hg : gsz o = n) (n1 : 1 ≤ n) (n8 : n ≤ 8) (m1 : 1 ≤ m) (m2 : m ≤ 1000) (hc : CubB n m w) (h' : CubB n m w') (hl : o.length ≤ 1048576) : FreshCall Tryz.prog 54 [.l1 o, .int m, .fn 78 [.cptr [.l1 o, .int m, .l3 w] 0, .cptr [.l1 o', .int m, .l3 w'] 0]] (.agg [.l1 o, .int m, .l3 (sumW m n w w')]) := by
 have hC := XK_ o hp.1 (by omega)
 have hG := yv_ o
 rw [hg] at hG
 have hz := Xg_ n n (by omega) (by omega)
 obtain ⟨f, ef⟩ : ∃ f : Nat → Nat → Nat → Int, f = fun i j k => (e3 w i j k + e3 w' i j k) % m := ⟨_, rfl⟩
 have es : sumW m n w w' = z5_ n f := by unfold sumW; rw [ef]
 rw [es]
 have z0 : ∀ i, List.replicate n (List.replicate n (0 : Int)) = wrM n (f i) (fun _ _ => 0) 0 0 := fun i => by rw [w6_, zK_]
 obtain ⟨g, eg⟩ : ∃ g : Nat → Nat → Int, g = fun _ _ => 0 := ⟨_, rfl⟩
 rw [← eg] at z0
 refine gFC 57 [.cell 6 27] Tryz.call54 Tryz.func54 fun cx hcx => gE ?_
 refine gA ?_
 refine gC fun K hK => ?_
 refine gU ?_
 refine xq_ rfl (hC) rfl ?_; simp only [go_sem, seval]
 refine gU ?_
 first | refine xc_ (hG) rfl ?_ | refine xd_ (xa_ (hG) rfl) ?_
 refine gW ?_
 refine hK _ ?_; clear hK K
 refine gB ?_
 (repeat refine xb_ ?_)
 refine xt_ (fun q : Option Nat => match q with
  | none => ⟨[(0, .l1 o), (1, .int m), (2, .fn 78 [.cptr [.l1 o, .int m, .l3 w] 0, .cptr [.l1 o', .int m, .l3 w'] 0]), (6, .bptr 0 0), (7, .bptr 2 0), (8, .int n), (19, .int n), (20, .int 0)], [(1, .t1 o), (0, .bx [.nil, .int 0, .nil]), (2, .bx [.ref 1 [], .int m, .nil])]⟩
  | some i => ⟨[(0, .l1 o), (1, .int m), (2, .fn 78 [.cptr [.l1 o, .int m, .l3 w] 0, .cptr [.l1 o', .int m, .l3 w'] 0]), (6, .bptr 0 0), (7, .bptr 2 0), (8, .int n), (19, .int n), (20, .int i)], [(1, .t1 o), (0, .bx [.nil, .int 0, .nil]), (2, .bx [.ref 1 [], .int m, .ref 5 []]), (5, .t3 (We_ n f i))]⟩) (fun q => match q with
  | none => True
  | some i => 1 ≤ i ∧ i ≤ n) (fun q => match q with
  | none => n + 1
  | some i => n - i) none trivial ⟨by simp only [xs_, St.get, xg_, Nat.reduceEqDiff, ↓reduceIte, true_and, and_true], rfl⟩ (fun q hq => ?_)
 cases q with
 | none =>
  dsimp only at hq ⊢
  refine gB ?_
  refine gI (fun hli => ?_) fun hli => ?_
  ·have mi := hc.mat (show 0 < n by omega)
   have mi' := h'.mat (show 0 < n by omega)
   have z1 := z0 0
   have hlm := w7_ (n := n) (f := f) (i := 0)
   refine xe_ ?_
   refine gO ?_
   refine gB ?_
   refine gC fun K hK => ?_
   refine gU ?_
   refine xq_ rfl (hz) rfl ?_; simp only [go_sem, seval]
   refine gU ?_
   refine hK _ ?_; clear hK K
   rw [z1]
   refine gB ?_
   (repeat refine xb_ ?_); refine gLp (fun j : Nat => ⟨[(0, .l1 o), (1, .int m), (2, .fn 78 [.cptr [.l1 o, .int m, .l3 w] 0, .cptr [.l1 o', .int m, .l3 w'] 0]), (6, .bptr 0 0), (7, .bptr 2 0), (8, .int n), (9, .int 0), (10, .ref 3 []), (19, .int n), (20, .int 0), (26, .int n), (27, .int j)], [(3, .t2 (wrM n (f 0) g j 0)), (1, .t1 o), (0, .bx [.nil, .int 0, .nil]), (2, .bx [.ref 1 [], .int m, .nil])]⟩) n fun j hj => ?_
   refine gB ?_
   refine gI (fun hlj => ?_) fun hlj => ?_
   ·refine xe_ ?_
    refine gO ?_
    refine gB ?_
    refine gB ?_
    (repeat refine xb_ ?_); refine gLp (fun k : Nat => ⟨[(0, .l1 o), (1, .int m), (2, .fn 78 [.cptr [.l1 o, .int m, .l3 w] 0, .cptr [.l1 o', .int m, .l3 w'] 0]), (6, .bptr 0 0), (7, .bptr 2 0), (8, .int n), (9, .int 0), (10, .ref 3 []), (11, .int j), (19, .int n), (20, .int 0), (26, .int n), (27, .int j), (30, .int n), (31, .int k)], [(3, .t2 (wrM n (f 0) g j k)), (1, .t1 o), (0, .bx [.nil, .int 0, .nil]), (2, .bx [.ref 1 [], .int m, .nil])]⟩) n fun k hk => ?_
    refine gB ?_
    refine gI (fun hlk => ?_) fun hlk => ?_
    ·have l1 := yT_ (n := n) (f := f 0) (g := g) (i := j) (j := k)
     have l2 := XL_ (n := n) (f := f 0) (g := g) (i := j) (j := k) (x := j) (by omega)
     have hA := Sf_ n o m w o' w' m2 hc h' 0 j k (by omega) (by omega) (by omega)
     have hR := VI_ o m (e3 w 0 j k + e3 w' 0 j k) m1 m2
     have ev : (e3 w 0 j k + e3 w' 0 j k) % m = f 0 j k := by rw [ef]
     have b1 := Int.emod_nonneg (e3 w 0 j k + e3 w' 0 j k) (show m ≠ 0 by omega)
     have b2 := Int.emod_lt_of_pos (e3 w 0 j k + e3 w' 0 j k) (show 0 < m by omega)
     rw [ev] at hR b1 b2
     have sk := ws_ (n := n) (f := f 0) (g := g) (i := j) (j := k) (by omega)
     refine xe_ ?_
     refine gO ?_
     refine gB ?_
     (repeat refine xb_ ?_)
     refine xZ_ [] (.one 0 (.one 1 (.one 2 (.one 3 (.one 4 (.one 5 (.one 6 (.one 7 (.one 8 (.one 9 (.one 10 (.one 11 (.one 12 (.alt 13 .fin .stop)))))))))))))) ⟨[(0, .l1 o), (1, .int m), (2, .fn 78 [.cptr [.l1 o, .int m, .l3 w] 0, .cptr [.l1 o', .int m, .l3 w'] 0]), (6, .bptr 0 0), (7, .bptr 2 0), (8, .int n), (9, .int 0), (10, .ref 3 []), (11, .int j), (19, .int n), (20, .int 0), (26, .int n), (27, .int j), (30, .int n), (31, .int k)], [(3, .t2 ((wrM n (f 0) g j k).set j (((wrM n (f 0) g j k).getD j []).set k (f 0 j k)))), (1, .t1 o), (0, .bx [.nil, .int 0, .nil]), (2, .bx [.ref 1 [], .int m, .nil])]⟩ (xO_ hcx) mixed (by kernel_rfl) (fun K hK => ?_) ?_
     ·simp only [go_sem, seval, Option.getD_some, and_true, true_and, and_self, List.contains_cons, List.contains_nil, Bool.or_false, Bool.or_true]
      repeat' (first | exact hK _ gM  | with_reducible refine And.intro ?_ ?_ | omega | ((first | refine xc_ (hA) rfl ?_ | refine xd_ (xa_ (hA) rfl) ?_); simp only [go_sem, seval, Option.getD_some, and_true, true_and, and_self, List.contains_cons, List.contains_nil, Bool.or_false, Bool.or_true]) | ((first | refine x0_ rfl rfl (hR) ?_ | refine xd_ (xR_ rfl rfl (hR)) ?_); simp only [go_sem, seval, Option.getD_some, and_true, true_and, and_self, List.contains_cons, List.contains_nil, Bool.or_false, Bool.or_true]))
     rw [sk]
     refine gB ?_
     refine ⟨k + 1,  by omega, by omega, .inl ⟨gH,  rfl⟩⟩
    ·obtain rfl : k = n := by omega
     rw [wt_]
     refine xh_ (x9_ ?_)
     refine gB ?_
     refine ⟨j + 1,  by omega, by omega, .inl ⟨gH,  rfl⟩⟩
   ·obtain rfl : j = n := by omega
    rw [wu_]
    refine xh_ (x9_ ?_)
    refine gC fun K hK => ?_
    try simp only [hlm]
    refine gU ?_
    refine hK _ ?_; clear hK K
    refine gB ?_
    refine ⟨some (0 + 1), ⟨by omega, by omega⟩, by show j - (0 + 1) < j + 1; omega, .inl ⟨?_, ?_⟩⟩
    ·simp only [xs_, St.get, xg_, Nat.reduceEqDiff, ↓reduceIte, AV.int.injEq, true_and, and_true]
     omega
    ·dsimp only
     rw [wb_]
     try rfl
  ·omega
 | some i =>
  dsimp only at hq ⊢
  refine gB ?_
  refine gI (fun hli => ?_) fun hli => ?_
  ·have mi := hc.mat (show i < n by omega)
   have mi' := h'.mat (show i < n by omega)
   have z1 := z0 i
   have hlm := w7_ (n := n) (f := f) (i := i)
   refine xe_ ?_
   refine gO ?_
   refine gB ?_
   refine gC fun K hK => ?_
   refine gU ?_
   refine xq_ rfl (hz) rfl ?_; simp only [go_sem, seval]
   refine gU ?_
   refine hK _ ?_; clear hK K
   rw [z1]
   refine gB ?_
   (repeat refine xb_ ?_); refine gLp (fun j : Nat => ⟨[(0, .l1 o), (1, .int m), (2, .fn 78 [.cptr [.l1 o, .int m, .l3 w] 0, .cptr [.l1 o', .int m, .l3 w'] 0]), (6, .bptr 0 0), (7, .bptr 2 0), (8, .int n), (9, .int i), (10, .ref 6 []), (19, .int n), (20, .int i), (26, .int n), (27, .int j)], [(6, .t2 (wrM n (f i) g j 0)), (1, .t1 o), (0, .bx [.nil, .int 0, .nil]), (2, .bx [.ref 1 [], .int m, .ref 5 []]), (5, .t3 (We_ n f i))]⟩) n fun j hj => ?_
   refine gB ?_
   refine gI (fun hlj => ?_) fun hlj => ?_
   ·refine xe_ ?_
    refine gO ?_
    refine gB ?_
    refine gB ?_
    (repeat refine xb_ ?_); refine gLp (fun k : Nat => ⟨[(0, .l1 o), (1, .int m), (2, .fn 78 [.cptr [.l1 o, .int m, .l3 w] 0, .cptr [.l1 o', .int m, .l3 w'] 0]), (6, .bptr 0 0), (7, .bptr 2 0), (8, .int n), (9, .int i), (10, .ref 6 []), (11, .int j), (19, .int n), (20, .int i), (26, .int n), (27, .int j), (30, .int n), (31, .int k)], [(6, .t2 (wrM n (f i) g j k)), (1, .t1 o), (0, .bx [.nil, .int 0, .nil]), (2, .bx [.ref 1 [], .int m, .ref 5 []]), (5, .t3 (We_ n f i))]⟩) n fun k hk => ?_
    refine gB ?_
    refine gI (fun hlk => ?_) fun hlk => ?_
    ·have l1 := yT_ (n := n) (f := f i) (g := g) (i := j) (j := k)
     have l2 := XL_ (n := n) (f := f i) (g := g) (i := j) (j := k) (x := j) (by omega)
     have hA := Sf_ n o m w o' w' m2 hc h' i j k (by omega) (by omega) (by omega)
     have hR := zB_ o m (We_ n f i) (e3 w i j k + e3 w' i j k) m1 m2
     have ev : (e3 w i j k + e3 w' i j k) % m = f i j k := by rw [ef]
     have b1 := Int.emod_nonneg (e3 w i j k + e3 w' i j k) (show m ≠ 0 by omega)
     have b2 := Int.emod_lt_of_pos (e3 w i j k + e3 w' i j k) (show 0 < m by omega)
     rw [ev] at hR b1 b2
     have sk := ws_ (n := n) (f := f i) (g := g) (i := j) (j := k) (by omega)
     refine xe_ ?_
     refine gO ?_
     refine gB ?_
     (repeat refine xb_ ?_)
     refine xZ_ [] (.one 0 (.one 1 (.one 2 (.one 3 (.one 4 (.one 5 (.one 6 (.one 7 (.one 8 (.one 9 (.one 10 (.one 11 (.one 12 (.alt 13 .fin .stop)))))))))))))) ⟨[(0, .l1 o), (1, .int m), (2, .fn 78 [.cptr [.l1 o, .int m, .l3 w] 0, .cptr [.l1 o', .int m, .l3 w'] 0]), (6, .bptr 0 0), (7, .bptr 2 0), (8, .int n), (9, .int i), (10, .ref 6 []), (11, .int j), (19, .int n), (20, .int i), (26, .int n), (27, .int j), (30, .int n), (31, .int k)], [(6, .t2 ((wrM n (f i) g j k).set j (((wrM n (f i) g j k).getD j []).set k (f i j k)))), (1, .t1 o), (0, .bx [.nil, .int 0, .nil]), (2, .bx [.ref 1 [], .int m, .ref 5 []]), (5, .t3 (We_ n f i))]⟩ (xO_ hcx) mixed (by kernel_rfl) (fun K hK => ?_) ?_
     ·simp only [go_sem, seval, Option.getD_some, and_true, true_and, and_self, List.contains_cons, List.contains_nil, Bool.or_false, Bool.or_true]
      repeat' (first | exact hK _ gM  | with_reducible refine And.intro ?_ ?_ | omega | ((first | refine xc_ (hA) rfl ?_ | refine xd_ (xa_ (hA) rfl) ?_); simp only [go_sem, seval, Option.getD_some, and_true, true_and, and_self, List.contains_cons, List.contains_nil, Bool.or_false, Bool.or_true]) | ((first | refine x0_ rfl rfl (hR) ?_ | refine xd_ (xR_ rfl rfl (hR)) ?_); simp only [go_sem, seval, Option.getD_some, and_true, true_and, and_self, List.contains_cons, List.contains_nil, Bool.or_false, Bool.or_true]))
     rw [sk]
     refine gB ?_
     refine ⟨k + 1,  by omega, by omega, .inl ⟨gH,  rfl⟩⟩
    ·obtain rfl : k = n := by omega
     rw [wt_]
     refine xh_ (x9_ ?_)
     refine gB ?_
     refine ⟨j + 1,  by omega, by omega, .inl ⟨gH,  rfl⟩⟩
   ·obtain rfl : j = n := by omega
    rw [wu_]
    refine xh_ (x9_ ?_)
    refine gC fun K hK => ?_
    try simp only [hlm]
    refine gU ?_
    refine hK _ ?_; clear hK K
    refine gB ?_
    refine ⟨some (i + 1), ⟨by omega, by omega⟩, by show j - (i + 1) < j - i; omega, .inl ⟨?_, ?_⟩⟩
    ·simp only [xs_, St.get, xg_, Nat.reduceEqDiff, ↓reduceIte, AV.int.injEq, true_and, and_true]
     omega
    ·dsimp only
     rw [wb_]
     try rfl
  ·obtain rfl : i = n := by omega
   rw [W4_]
   refine xh_ (x9_ ?_)
   refine gB ?_
   exact xf_ (RI_ (v := .agg [.ref 1 [], .int m, .ref 5 []]) (by simp only [go_sem, seval]) rfl (by simp))
theorem Wp_ (n : Nat) (o : List Int) (m : Int) (w : List (List (List Int))) (o' : List Int) (w' : List (List (List Int))) (hp : PosO o) (hg : gsz o = n) (n1 : 1 ≤ n) (n8 : n ≤ 8) (m1 : 1 ≤ m) (m2 : m ≤ 1000) (hc : CubB n m w) (h' : CubB n m w') (hl : o.length ≤ 1048576) : FreshCall Tryz.prog 48 [.agg [.l1 o, .int m, .l3 w], .agg [.l1 o', .int m, .l3 w']] (.agg [.l1 o, .int m, .l3 (sumW m n w w')]) := by
 have hC := UG_ n o m w o' w' hp hg n1 n8 m1 m2 hc h' hl
 refine gFC 11 [.cell 4 27] Tryz.call48 Tryz.func48 fun cx hcx => gE ?_
 refine gA ?_
 refine gC fun K hK => ?_
 refine gU ?_
 refine xq_ rfl (hC) rfl ?_; simp only [go_sem, seval]
 refine gU ?_
 refine hK _ ?_; clear hK K
 exact xf_ (RI_ (v := .agg [.ref 3 [], .int m, .ref 4 []]) (by simp only [go_sem, seval]) rfl (by simp))
end Go.Proofs.YtjbdiekkjegckaaGreat
