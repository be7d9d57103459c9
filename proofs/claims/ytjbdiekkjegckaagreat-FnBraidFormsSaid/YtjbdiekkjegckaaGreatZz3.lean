import Derived.Test.YtjbdiekkjegckaaGreatZz2
import Derived.Test.YtjbdiekkjegckaaGreatJz3
set_option linter.unusedSimpArgs false
set_option linter.unusedVariables false
namespace Go.Proofs.YtjbdiekkjegckaaGreat
open Go Go.Aw Go.Pl
attribute [local go_sem] y9_ yB_ za_ zb_ wE_ yq_ List.getElem?_toArray List.getElem?_cons_zero List.getElem?_cons_succ
theorem K0_ (k : Int) (y z n : Nat) (hy : y ≤ 8) (hz : z ≤ 8) (hn : n ≤ 8) : PureCall Tryz.prog 56 [.int k, .int y, .int z, .int n] (.int (if n ≤ y + z then k else 0)) := by
 by_cases h : n ≤ y + z
 ·rw [if_pos h]
  refine gPC 15 [.tmp 8] Tryz.call56 Tryz.func56 fun cx hcx => gE ?_
  refine gB ?_
  refine gB ?_
  refine gI (fun hh => ?_) fun hh => ?_
  ·refine gB ?_
   refine xf_ (zY_ rfl ?_)
   rfl
  ·omega
 ·rw [if_neg h]
  refine gPC 15 [.tmp 8] Tryz.call56 Tryz.func56 fun cx hcx => gE ?_
  refine gB ?_
  refine gB ?_
  refine gI (fun hh => ?_) fun hh => ?_
  ·omega
  ·refine xe_ ?_
   refine gB ?_
   refine xf_ (zY_ rfl ?_)
   rfl
def cyv (n : Nat) (a : Int) (x y z : Nat) : Int := if n ≤ y + z then a * n * x else 0
theorem Wt_ {a : Int} {n x : Nat} (n8 : n ≤ 8) (a0 : 0 ≤ a) (a1 : a ≤ 16) (hx : x ≤ 8) : (0 ≤ a * n ∧ a * n ≤ 128) ∧ 0 ≤ a * n * x ∧ a * n * x ≤ 1024 := Wu_ a0 a1 n8 hx
theorem ag8 {n : Nat} {a : Int} {x y z : Nat} (n8 : n ≤ 8) (a0 : 0 ≤ a) (a1 : a ≤ 16) (hx : x ≤ 8) : 0 ≤ cyv n a x y z ∧ cyv n a x y z ≤ 1024 := by
 unfold cyv
 split
 ·exact (Wt_ n8 a0 a1 hx).2
 ·omega
theorem ag9 {n : Nat} {a : Int} {x y z : Nat} : cyv n a x y z % (2 * n) = sdF n a x y z := by
 unfold cyv sdF
 split
 ·rfl
 ·exact Int.zero_emod _
theorem RQ_ (n : Nat) (n8 : n ≤ 8) (a : Int) (a0 : 0 ≤ a) (a1 : a ≤ 16) (x y z : Nat) (hx : x < n) (hy : y < n) (hz : z < n) : PureCall Tryz.prog 55 [.int x, .int y, .int z, .cptr [.int a] 0, .cptr [.int n] 0] (.int (cyv n a x y z)) := by
 obtain ⟨b1, b2⟩ := Wt_ (x := x) n8 a0 a1 (by omega)
 have hC := K0_ (a * n * x) y z n (by omega) (by omega) n8
 have e : (if n ≤ y + z then a * n * x else 0) = cyv n a x y z := rfl
 rw [e] at hC
 clear e
 generalize cyv n a x y z = V at *
 obtain ⟨A, eA⟩ : ∃ A, a * (n : Int) = A := ⟨_, rfl⟩
 rw [eA] at b1 b2 hC
 obtain ⟨B, eB⟩ : ∃ B, A * (x : Int) = B := ⟨_, rfl⟩
 rw [eB] at b2 hC
 refine gPC 18 [.tmp 8] Tryz.call55 Tryz.func55 fun cx hcx => gE ?_
 refine gB ?_
 (repeat refine xb_ ?_); refine xx_ (xO_ hcx) fun K hK => ?_; simp only [go_sem, seval, eA, eB]
 refine gU ?_
 first | refine xc_ (hC) rfl ?_ | refine xd_ (xa_ (hC) rfl) ?_
 refine gV ?_
 refine hK _ ?_; clear hK K
 refine xf_ (zY_ rfl ?_)
 rfl
set_option maxRecDepth 100000 in
set_option maxHeartbeats 8000000 in
theorem WX_ (n : Nat) (o : List Int) (m : Int) (a : Int) (a0 : 0 ≤ a) (a1 : a ≤ 16) (em : m = 2 * n) (hp : PosO o) (hg : gsz o = n) (hN : (n : Int) = xA_ o) (n1 : 1 ≤ n) (n8 : n ≤ 8) (m1 : 1 ≤ m) (m2 : m ≤ 1000) (hl : o.length ≤ 1048576) : FreshCall Tryz.prog 54 [.l1 o, .int m, .fn 55 [.cptr [.int a] 0, .cptr [.int n] 0]] (.agg [.l1 o, .int m, .l3 (sdW n a)]) := by
 have hC := XK_ o hp.1 (by omega)
 have hG := yv_ o
 rw [hg] at hG
 have hz := Xg_ n n (by omega) (by omega)
 have g8 : xA_ o ≤ 8 := by omega
 obtain ⟨f, ef⟩ : ∃ f : Nat → Nat → Nat → Int, f = sdF n a := ⟨_, rfl⟩
 have eres : (.agg [.l1 o, .int m, .l3 (sdW n a)] : AV) = .agg [.l1 o, .int m, .l3 (z5_ n f)] := by rw [ef]; rfl
 rw [eres]
 have z0 : ∀ i, List.replicate n (List.replicate n (0 : Int)) = wrM n (f i) (fun _ _ => 0) 0 0 := fun i => by rw [w6_, zK_]
 obtain ⟨g, eg⟩ : ∃ g : Nat → Nat → Int, g = fun _ _ => 0 := ⟨_, rfl⟩
 rw [← eg] at z0
 refine gFC 57 [.cell 6 27] Tryz.call54 Tryz.func54 fun cx hcx => gE ?_
 refine gA ?_
 refine gC fun K hK => ?_
 refine gU ?_
 refine xq_ rfl (hC) rfl ?_; simp only [go_sem, seval]
 refine gU ?_
 first | refine xc_ (hG) rfl ?_ | refine xd_ (xa_ (hG) rfl) ?_
 refine gW ?_
 refine hK _ ?_; clear hK K
 refine gB ?_
 (repeat refine xb_ ?_)
 refine xt_ (fun q : Option Nat => match q with
  | none => ⟨[(0, .l1 o), (1, .int m), (2, .fn 55 [.cptr [.int a] 0, .cptr [.int n] 0]), (6, .bptr 0 0), (7, .bptr 2 0), (8, .int n), (19, .int n), (20, .int 0)], [(1, .t1 o), (0, .bx [.nil, .int 0, .nil]), (2, .bx [.ref 1 [], .int m, .nil])]⟩
  | some i => ⟨[(0, .l1 o), (1, .int m), (2, .fn 55 [.cptr [.int a] 0, .cptr [.int n] 0]), (6, .bptr 0 0), (7, .bptr 2 0), (8, .int n), (19, .int n), (20, .int i)], [(1, .t1 o), (0, .bx [.nil, .int 0, .nil]), (2, .bx [.ref 1 [], .int m, .ref 5 []]), (5, .t3 (We_ n f i))]⟩) (fun q => match q with
  | none => True
  | some i => 1 ≤ i ∧ i ≤ n) (fun q => match q with
  | none => n + 1
  | some i => n - i) none trivial ⟨by simp only [xs_, St.get, xg_, Nat.reduceEqDiff, ↓reduceIte, true_and, and_true], rfl⟩ (fun q hq => ?_)
 cases q with
 | none =>
  dsimp only at hq ⊢
  refine gB ?_
  refine gI (fun hli => ?_) fun hli => ?_
  ·have z1 := z0 0
   have hlm := w7_ (n := n) (f := f) (i := 0)
   refine xe_ ?_
   refine gO ?_
   refine gB ?_
   refine gC fun K hK => ?_
   refine gU ?_
   refine xq_ rfl (hz) rfl ?_; simp only [go_sem, seval]
   refine gU ?_
   refine hK _ ?_; clear hK K
   rw [z1]
   refine gB ?_
   (repeat refine xb_ ?_); refine gLp (fun j : Nat => ⟨[(0, .l1 o), (1, .int m), (2, .fn 55 [.cptr [.int a] 0, .cptr [.int n] 0]), (6, .bptr 0 0), (7, .bptr 2 0), (8, .int n), (9, .int 0), (10, .ref 3 []), (19, .int n), (20, .int 0), (26, .int n), (27, .int j)], [(3, .t2 (wrM n (f 0) g j 0)), (1, .t1 o), (0, .bx [.nil, .int 0, .nil]), (2, .bx [.ref 1 [], .int m, .nil])]⟩) n fun j hj => ?_
   refine gB ?_
   refine gI (fun hlj => ?_) fun hlj => ?_
   ·refine xe_ ?_
    refine gO ?_
    refine gB ?_
    refine gB ?_
    (repeat refine xb_ ?_); refine gLp (fun k : Nat => ⟨[(0, .l1 o), (1, .int m), (2, .fn 55 [.cptr [.int a] 0, .cptr [.int n] 0]), (6, .bptr 0 0), (7, .bptr 2 0), (8, .int n), (9, .int 0), (10, .ref 3 []), (11, .int j), (19, .int n), (20, .int 0), (26, .int n), (27, .int j), (30, .int n), (31, .int k)], [(3, .t2 (wrM n (f 0) g j k)), (1, .t1 o), (0, .bx [.nil, .int 0, .nil]), (2, .bx [.ref 1 [], .int m, .nil])]⟩) n fun k hk => ?_
    refine gB ?_
    refine gI (fun hlk => ?_) fun hlk => ?_
    ·have l1 := yT_ (n := n) (f := f 0) (g := g) (i := j) (j := k)
     have l2 := XL_ (n := n) (f := f 0) (g := g) (i := j) (j := k) (x := j) (by omega)
     have hA := RQ_ n n8 a a0 a1 0 j k (by omega) (by omega) (by omega)
     have bK := ag8 (y := j) (z := k) n8 a0 a1 (show 0 ≤ 8 by omega)
     have eW : cyv n a 0 j k % m = f 0 j k := by rw [em, ef]; exact ag9
     obtain ⟨K, eK⟩ : ∃ K, cyv n a 0 j k = K := ⟨_, rfl⟩
     rw [eK] at hA bK eW
     have hR := VI_ o m K m1 m2
     have ev := eW
     have b1 := Int.emod_nonneg K (show m ≠ 0 by omega)
     have b2 := Int.emod_lt_of_pos K (show 0 < m by omega)
     rw [ev] at hR b1 b2
     have sk := ws_ (n := n) (f := f 0) (g := g) (i := j) (j := k) (by omega)
     refine xe_ ?_
     refine gO ?_
     refine gB ?_
     (repeat refine xb_ ?_)
     refine xZ_ [] (.one 0 (.one 1 (.one 2 (.one 3 (.one 4 (.one 5 (.one 6 (.one 7 (.one 8 (.one 9 (.one 10 (.one 11 (.one 12 (.alt 13 .fin .stop)))))))))))))) ⟨[(0, .l1 o), (1, .int m), (2, .fn 55 [.cptr [.int a] 0, .cptr [.int n] 0]), (6, .bptr 0 0), (7, .bptr 2 0), (8, .int n), (9, .int 0), (10, .ref 3 []), (11, .int j), (19, .int n), (20, .int 0), (26, .int n), (27, .int j), (30, .int n), (31, .int k)], [(3, .t2 ((wrM n (f 0) g j k).set j (((wrM n (f 0) g j k).getD j []).set k (f 0 j k)))), (1, .t1 o), (0, .bx [.nil, .int 0, .nil]), (2, .bx [.ref 1 [], .int m, .nil])]⟩ (xO_ hcx) mixed (by kernel_rfl) (fun K hK => ?_) ?_
     ·simp only [go_sem, seval, Option.getD_some, and_true, true_and, and_self, List.contains_cons, List.contains_nil, Bool.or_false, Bool.or_true]
      repeat' (first | exact hK _ gM  | with_reducible refine And.intro ?_ ?_ | omega | ((first | refine xc_ (hA) rfl ?_ | refine xd_ (xa_ (hA) rfl) ?_); simp only [go_sem, seval, Option.getD_some, and_true, true_and, and_self, List.contains_cons, List.contains_nil, Bool.or_false, Bool.or_true]) | ((first | refine x0_ rfl rfl (hR) ?_ | refine xd_ (xR_ rfl rfl (hR)) ?_); simp only [go_sem, seval, Option.getD_some, and_true, true_and, and_self, List.contains_cons, List.contains_nil, Bool.or_false, Bool.or_true]))
     rw [sk]
     refine gB ?_
     refine ⟨k + 1,  by omega, by omega, .inl ⟨gH,  rfl⟩⟩
    ·obtain rfl : k = n := by omega
     rw [wt_]
     refine xh_ (x9_ ?_)
     refine gB ?_
     refine ⟨j + 1,  by omega, by omega, .inl ⟨gH,  rfl⟩⟩
   ·obtain rfl : j = n := by omega
    rw [wu_]
    refine xh_ (x9_ ?_)
    refine gC fun K hK => ?_
    try simp only [hlm]
    refine gU ?_
    refine hK _ ?_; clear hK K
    refine gB ?_
    refine ⟨some (0 + 1), ⟨by omega, by omega⟩, by show j - (0 + 1) < j + 1; omega, .inl ⟨?_, ?_⟩⟩
    ·simp only [xs_, St.get, xg_, Nat.reduceEqDiff, ↓reduceIte, AV.int.injEq, true_and, and_true]
     omega
    ·dsimp only
     rw [wb_]
     try rfl
  ·omega
 | some i =>
  dsimp only at hq ⊢
  refine gB ?_
  refine gI (fun hli => ?_) fun hli => ?_
  ·have z1 := z0 i
   have hlm := w7_ (n := n) (f := f) (i := i)
   refine xe_ ?_
   refine gO ?_
   refine gB ?_
   refine gC fun K hK => ?_
   refine gU ?_
   refine xq_ rfl (hz) rfl ?_; simp only [go_sem, seval]
   refine gU ?_
   refine hK _ ?_; clear hK K
   rw [z1]
   refine gB ?_
   (repeat refine xb_ ?_); refine gLp (fun j : Nat => ⟨[(0, .l1 o), (1, .int m), (2, .fn 55 [.cptr [.int a] 0, .cptr [.int n] 0]), (6, .bptr 0 0), (7, .bptr 2 0), (8, .int n), (9, .int i), (10, .ref 6 []), (19, .int n), (20, .int i), (26, .int n), (27, .int j)], [(6, .t2 (wrM n (f i) g j 0)), (1, .t1 o), (0, .bx [.nil, .int 0, .nil]), (2, .bx [.ref 1 [], .int m, .ref 5 []]), (5, .t3 (We_ n f i))]⟩) n fun j hj => ?_
   refine gB ?_
   refine gI (fun hlj => ?_) fun hlj => ?_
   ·refine xe_ ?_
    refine gO ?_
    refine gB ?_
    refine gB ?_
    (repeat refine xb_ ?_); refine gLp (fun k : Nat => ⟨[(0, .l1 o), (1, .int m), (2, .fn 55 [.cptr [.int a] 0, .cptr [.int n] 0]), (6, .bptr 0 0), (7, .bptr 2 0), (8, .int n), (9, .int i), (10, .ref 6 []), (11, .int j), (19, .int n), (20, .int i), (26, .int n), (27, .int j), (30, .int n), (31, .int k)], [(6, .t2 (wrM n (f i) g j k)), (1, .t1 o), (0, .bx [.nil, .int 0, .nil]), (2, .bx [.ref 1 [], .int m, .ref 5 []]), (5, .t3 (We_ n f i))]⟩) n fun k hk => ?_
    refine gB ?_
    refine gI (fun hlk => ?_) fun hlk => ?_
    ·have l1 := yT_ (n := n) (f := f i) (g := g) (i := j) (j := k)
     have l2 := XL_ (n := n) (f := f i) (g := g) (i := j) (j := k) (x := j) (by omega)
     have hA := RQ_ n n8 a a0 a1 i j k (by omega) (by omega) (by omega)
     have bK := ag8 (y := j) (z := k) n8 a0 a1 (show i ≤ 8 by omega)
     have eW : cyv n a i j k % m = f i j k := by rw [em, ef]; exact ag9
     obtain ⟨K, eK⟩ : ∃ K, cyv n a i j k = K := ⟨_, rfl⟩
     rw [eK] at hA bK eW
     have hR := zB_ o m (We_ n f i) K m1 m2
     have ev := eW
     have b1 := Int.emod_nonneg K (show m ≠ 0 by omega)
     have b2 := Int.emod_lt_of_pos K (show 0 < m by omega)
     rw [ev] at hR b1 b2
     have sk := ws_ (n := n) (f := f i) (g := g) (i := j) (j := k) (by omega)
     refine xe_ ?_
     refine gO ?_
     refine gB ?_
     (repeat refine xb_ ?_)
     refine xZ_ [] (.one 0 (.one 1 (.one 2 (.one 3 (.one 4 (.one 5 (.one 6 (.one 7 (.one 8 (.one 9 (.one 10 (.one 11 (.one 12 (.alt 13 .fin .stop)))))))))))))) ⟨[(0, .l1 o), (1, .int m), (2, .fn 55 [.cptr [.int a] 0, .cptr [.int n] 0]), (6, .bptr 0 0), (7, .bptr 2 0), (8, .int n), (9, .int i), (10, .ref 6 []), (11, .int j), (19, .int n), (20, .int i), (26, .int n), (27, .int j), (30, .int n), (31, .int k)], [(6, .t2 ((wrM n (f i) g j k).set j (((wrM n (f i) g j k).getD j []).set k (f i j k)))), (1, .t1 o), (0, .bx [.nil, .int 0, .nil]), (2, .bx [.ref 1 [], .int m, .ref 5 []]), (5, .t3 (We_ n f i))]⟩ (xO_ hcx) mixed (by kernel_rfl) (fun K hK => ?_) ?_
     ·simp only [go_sem, seval, Option.getD_some, and_true, true_and, and_self, List.contains_cons, List.contains_nil, Bool.or_false, Bool.or_true]
      repeat' (first | exact hK _ gM  | with_reducible refine And.intro ?_ ?_ | omega | ((first | refine xc_ (hA) rfl ?_ | refine xd_ (xa_ (hA) rfl) ?_); simp only [go_sem, seval, Option.getD_some, and_true, true_and, and_self, List.contains_cons, List.contains_nil, Bool.or_false, Bool.or_true]) | ((first | refine x0_ rfl rfl (hR) ?_ | refine xd_ (xR_ rfl rfl (hR)) ?_); simp only [go_sem, seval, Option.getD_some, and_true, true_and, and_self, List.contains_cons, List.contains_nil, Bool.or_false, Bool.or_true]))
     rw [sk]
     refine gB ?_
     refine ⟨k + 1,  by omega, by omega, .inl ⟨gH,  rfl⟩⟩
    ·obtain rfl : k = n := by omega
     rw [wt_]
     refine xh_ (x9_ ?_)
     refine gB ?_
     refine ⟨j + 1,  by omega, by omega, .inl ⟨gH,  rfl⟩⟩
   ·obtain rfl : j = n := by omega
    rw [wu_]
    refine xh_ (x9_ ?_)
    refine gC fun K hK => ?_
    try simp only [hlm]
    refine gU ?_
    refine hK _ ?_; clear hK K
    refine gB ?_
    refine ⟨some (i + 1), ⟨by omega, by omega⟩, by show j - (i + 1) < j - i; omega, .inl ⟨?_, ?_⟩⟩
    ·simp only [xs_, St.get, xg_, Nat.reduceEqDiff, ↓reduceIte, AV.int.injEq, true_and, and_true]
     omega
    ·dsimp only
     rw [wb_]
     try rfl
  ·obtain rfl : i = n := by omega
   rw [W4_]
   refine xh_ (x9_ ?_)
   refine gB ?_
   exact xf_ (RI_ (v := .agg [.ref 1 [], .int m, .ref 5 []]) (by simp only [go_sem, seval]) rfl (by simp))
theorem RR_ (n : Nat) (a : Int) (n1 : 1 ≤ n) (n8 : n ≤ 8) (a0 : 0 ≤ a) (a1 : a ≤ 2 * n - 1) (h2 : a * n % 2 = 0) : FreshCall Tryz.prog 21 [.int n, .int a] (.tup [.agg [.l1 [(n : Int)], .int (2 * n), .l3 (sdW n a), .l2 (sdC n a)], .int 0]) := by
 have w1 := yf_ (n : Int) 1 8
 rw [decide_eq_true (show (1 : Int) ≤ n by omega), decide_eq_true (show (n : Int) ≤ 8 by omega)] at w1
 have w2 := yf_ a 0 (2 * (n : Int) - 1)
 rw [decide_eq_true a0, decide_eq_true a1] at w2
 have b := (Wt_ (x := 0) n8 a0 (show a ≤ 16 by omega) (by omega)).1
 have e2 : (a * (n : Int)).tmod 2 = 0 := by rw [Int.tmod_eq_emod_of_nonneg b.1]; exact h2
 have hp := (aH4 (a := a) n1 n8).1
 have eP : xA_ [(n : Int)] = n := by show (n : Int) * 1 = n; omega
 have hC := WX_ n [(n : Int)] (2 * n) a a0 (by omega) rfl hp (aG2 hp (by omega) eP.symm) eP.symm n1 n8 (by omega) (by omega) (by simp)
 have hY := K4_ n (sdW n a) [(n : Int)] (2 * n) a a0 (by omega) (xL_ ..) n8 (by omega) (by omega)
 have eT : (yW_ n n fun x y => a * (x : Int) * (y : Int) % (2 * (n : Int))) = sdC n a := rfl
 rw [eT] at hY
 generalize sdC n a = D at *
 generalize sdW n a = V at *
 obtain ⟨A, eA⟩ : ∃ A, a * (n : Int) = A := ⟨_, rfl⟩
 rw [eA] at b e2
 refine gFC 34 [.cell 4 30, .tmp 5] Tryz.call21 Tryz.func21 fun cx hcx => gE ?_
 refine gB ?_
 refine gC fun K hK => ?_
 first | refine xc_ (w1) rfl ?_ | refine xd_ (xa_ (w1) rfl) ?_
 refine gW ?_
 first | refine xc_ (w2) rfl ?_ | refine xd_ (xa_ (w2) rfl) ?_
 refine gV ?_
 refine hK _ ?_; clear hK K
 refine gQ ?_
 refine xe_ ?_
 (repeat refine xb_ ?_); refine xx_ (xO_ hcx) fun K hK => ?_; simp only [go_sem, seval, eA, e2]
 refine gU ?_
 refine hK _ ?_; clear hK K
 refine gQ ?_
 refine xe_ ?_
 refine gC fun K hK => ?_
 refine gU ?_
 refine xq_ rfl (hC) rfl ?_; simp only [go_sem, seval]
 refine hK _ ?_; clear hK K
 (repeat refine xb_ ?_); refine AT.ghost (st' := ⟨[(3, .bptr 0 0), (4, .bptr 2 0), (6, .bptr 7 0)], [(0, .bx [.int a]), (2, .bx [.nil, .int 0, .nil, .nil]), (3, .t1 [(n : Int)]), (4, .t3 V), (7, .bx [.ref 3 [], .int (2 * n), .ref 4 []])]⟩) (xm_ [0, 3] [(1, 0), (4, 3), (5, 4), (6, 7)]) ?_
 refine gC fun K hK => ?_
 refine xN_ (hY) (k := ?_); simp only [Aw.ids, go_sem, seval]
 refine hK _ ?_; clear hK K
 exact xf_ (Wj_ (v := .agg [.ref 3 [], .int (2 * n), .ref 4 [], .ref 5 []]) (by simp only [go_sem, seval]) trivial rfl (by simp))
end Go.Proofs.YtjbdiekkjegckaaGreat
namespace Go.Proofs.YtjbdiekkjegckaaGreat
open Go Go.Aw Go.Pl
attribute [local go_sem] y9_ yB_ za_ zb_ wE_ yq_ List.getElem?_toArray List.getElem?_cons_zero List.getElem?_cons_succ
theorem RS_ (o : List Int) (m : Int) (k : Int) (m1 : 1 ≤ m) (m2 : m ≤ 1000) : PureCall Tryz.prog 58 [.agg [.l1 o, .int m, .nil], .int k] (.int (k % m)) := by
 have a1 : -m < k.tmod m := by
  have := Int.tmod_lt_of_pos (-k) (show 0 < m by omega)
  rw [Int.neg_tmod] at this
  omega
 have a2 := Int.tmod_lt_of_pos k (show 0 < m by omega)
 have a3 := Zk_ (n := k) m1
 have a4 := Int.emod_nonneg k (show m ≠ 0 by omega)
 have a5 := Int.emod_lt_of_pos k (show 0 < m by omega)
 refine gPC 15 [.tmp 4] Tryz.call58 Tryz.func58 fun cx hcx => gE ?_
 refine gB ?_
 (repeat refine xb_ ?_); refine xI_ (xO_ hcx) mixed (by kernel_rfl) fun K hK => ?_; simp only [go_sem, seval, a3]
 refine gU ?_
 refine hK _ ?_; clear hK K
 refine xf_ (zY_ rfl ?_)
 rfl
set_option maxRecDepth 100000 in
set_option maxHeartbeats 8000000 in
theorem RT_ (n : Nat) (a : Int) (h2 : 2 ≤ n) (n8 : n ≤ 8) (he : n % 2 = 0) (a0 : 0 ≤ a) (a1 : a ≤ 2 * n - 1) : PureCall Tryz.prog 22 [.int n, .int a] (.tup [.agg [.l1 [(n : Int)], .int (2 * n), .l1 (cyL n a)], .int 0]) := by
 have w1 := yf_ (n : Int) 2 16
 rw [decide_eq_true (show (2 : Int) ≤ n by omega), decide_eq_true (show (n : Int) ≤ 16 by omega)] at w1
 have w2 := yf_ a 0 (2 * (n : Int) - 1)
 rw [decide_eq_true a0, decide_eq_true a1] at w2
 have hD := Zd_ (2 * (n : Int)) (by omega) (by omega)
 rw [ah0 h2 n8 he] at hD
 have e2 : (n : Int).tmod 2 = 0 := by rw [Int.tmod_eq_emod_of_nonneg (by omega)]; omega
 obtain ⟨f, ef⟩ : ∃ f : Nat → Int, f = fun x : Nat => a * (x : Int) * (x : Int) % (2 * (n : Int)) := ⟨_, rfl⟩
 have er : cyL n a = zo_ n f := by unfold cyL; rw [ef]
 rw [er]
 obtain ⟨m, em⟩ : ∃ m : Int, 2 * (n : Int) = m := ⟨_, rfl⟩
 rw [em] at hD w2 ⊢
 refine gPC 53 [.cell 4 33, .tmp 5] Tryz.call22 Tryz.func22 fun cx hcx => gE ?_
 refine gB ?_
 (repeat refine xb_ ?_); refine xx_ (xO_ hcx) fun K hK => ?_; simp only [go_sem, seval, em]
 refine gU ?_
 first | refine xc_ (w1) rfl ?_ | refine xd_ (xa_ (w1) rfl) ?_
 refine gV ?_
 simp only [go_sem, seval, em]
 refine gU ?_
 first | refine xc_ (w2) rfl ?_ | refine xd_ (xa_ (w2) rfl) ?_
 refine gV ?_
 refine hK _ ?_; clear hK K
 refine gQ ?_
 refine xe_ ?_
 refine gB ?_
 (repeat refine xb_ ?_); refine xx_ (xO_ hcx) fun K hK => ?_; simp only [go_sem, seval, e2]
 refine gU ?_
 refine hK _ ?_; clear hK K
 refine gR ?_
 (repeat refine xb_ ?_); refine xx_ (xO_ hcx) fun K hK => ?_; simp only [go_sem, seval, em]
 refine gU ?_
 refine hK _ ?_; clear hK K
 refine gC fun K hK => ?_
 first | refine xc_ (hD) rfl ?_ | refine xd_ (xa_ (hD) rfl) ?_
 refine gV ?_
 refine hK _ ?_; clear hK K
 refine gQ ?_
 refine xe_ ?_
 (repeat refine xb_ ?_); refine AT.ghost (st' := ⟨[(0, .int n), (1, .int a), (4, .bptr 0 0), (6, .bptr 2 0)], [(0, .bx [.nil, .int 0, .nil]), (1, .t1 [(n : Int)]), (2, .bx [.ref 1 [], .int m, .nil])]⟩) (xr_ [] (by simp only [go_sem, seval, AV.int.injEq, AV.bool.injEq, AV.l1.injEq, AV.l2.injEq, AV.l3.injEq]) (by simp only [go_sem, seval])) ?_
 refine gB ?_
 (repeat refine xb_ ?_)
 refine xt_ (fun q : Option Nat => match q with
  | none => ⟨[(1, .int a), (4, .bptr 0 0), (6, .bptr 2 0), (35, .int n), (36, .int 0)], [(0, .bx [.nil, .int 0, .nil]), (1, .t1 [(n : Int)]), (2, .bx [.ref 1 [], .int m, .nil])]⟩
  | some i => ⟨[(1, .int a), (4, .bptr 0 0), (6, .bptr 2 0), (35, .int n), (36, .int i)], [(0, .bx [.nil, .int 0, .nil]), (1, .t1 [(n : Int)]), (2, .bx [.ref 1 [], .int m, .ref 4 []]), (4, .t1 (zo_ i f))]⟩) (fun q => match q with
  | none => True
  | some i => 1 ≤ i ∧ i ≤ n) (fun q => match q with
  | none => n + 1
  | some i => n - i) none trivial ⟨by simp only [xs_, St.get, xg_, Nat.reduceEqDiff, ↓reduceIte, true_and, and_true], rfl⟩ (fun q hq => ?_)
 cases q with
 | none =>
  dsimp only at hq ⊢
  have hR := RS_ [(n : Int)] m 0 (by omega) (by omega)
  have v0 : (0 : Int) % m = f 0 := by rw [ef, ← em]; simp
  rw [v0] at hR
  refine gB ?_
  refine gI (fun hli => ?_) fun hli => ?_
  ·refine xe_ ?_
   refine gO ?_
   refine gB ?_
   (repeat refine xb_ ?_)
   refine xZ_ [] (.one 0 (.one 1 (.one 2 (.one 3 (.one 4 (.one 5 (.one 6 (.one 7 (.one 8 (.alt 9 (.alt 10 (.one 11 (.alt 12 .fin .stop)) .stop) .stop)))))))))) ⟨[(1, .int a), (4, .bptr 0 0), (6, .bptr 2 0), (35, .int n), (36, .int 0)], [(0, .bx [.nil, .int 0, .nil]), (1, .t1 [(n : Int)]), (2, .bx [.ref 1 [], .int m, .ref 4 []]), (3, .t1 [f 0]), (4, .t1 [f 0])]⟩ (xO_ hcx) mixed (by kernel_rfl) (fun K hK => ?_) ?_
   ·simp only [go_sem, seval, Option.getD_some, and_true, true_and, and_self, List.contains_cons, List.contains_nil, Bool.or_false, Bool.or_true]
    repeat' (first | exact hK _ gM  | with_reducible refine And.intro ?_ ?_ | omega | ((first | refine x0_ rfl rfl (hR) ?_ | refine xd_ (xR_ rfl rfl (hR)) ?_); simp only [go_sem, seval, Option.getD_some, and_true, true_and, and_self, List.contains_cons, List.contains_nil, Bool.or_false, Bool.or_true]) | ((simp only [Int.mul_zero])))
   (repeat refine xb_ ?_); refine AT.ghost (st' := ⟨[(1, .int a), (4, .bptr 0 0), (6, .bptr 2 0), (35, .int n), (36, .int 0)], [(0, .bx [.nil, .int 0, .nil]), (1, .t1 [(n : Int)]), (2, .bx [.ref 1 [], .int m, .ref 4 []]), (4, .t1 [f 0])]⟩) (xm_ [3] []) ?_
   refine gB ?_
   refine ⟨some 1, ⟨by omega, by omega⟩, (show n - 1 < n + 1 by omega), .inl ⟨?_, ?_⟩⟩
   ·simp only [xs_, St.get, xg_, Nat.reduceEqDiff, ↓reduceIte, AV.int.injEq, true_and, and_true]
    try omega
   ·rfl
  ·omega
 | some i =>
  dsimp only at hq ⊢
  refine gB ?_
  refine gI (fun hli => ?_) fun hli => ?_
  ·have hi : i < n := by omega
   obtain ⟨b1, b2⟩ := Wu_ (x := i) (y := i) a0 (show a ≤ 16 by omega) (by omega) (by omega)
   have hR := WZ_ [(n : Int)] m (zo_ i f) (a * i * i) (by omega) (by omega)
   have v0 : a * i * i % m = f i := by rw [ef, ← em]
   rw [v0] at hR
   obtain ⟨A, eA⟩ : ∃ A, a * (i : Int) = A := ⟨_, rfl⟩
   rw [eA] at b1 b2 hR
   obtain ⟨B, eB⟩ : ∃ B, A * (i : Int) = B := ⟨_, rfl⟩
   rw [eB] at b2 hR
   have lr := xT_ i f
   clear v0
   refine xe_ ?_
   refine gO ?_
   refine gB ?_
   (repeat refine xb_ ?_)
   refine xZ_ [] (.one 0 (.one 1 (.one 2 (.one 3 (.one 4 (.one 5 (.one 6 (.one 7 (.one 8 (.alt 9 (.alt 10 (.one 11 (.alt 12 .fin .stop)) .stop) .stop)))))))))) ⟨[(1, .int a), (4, .bptr 0 0), (6, .bptr 2 0), (35, .int n), (36, .int i)], [(0, .bx [.nil, .int 0, .nil]), (1, .t1 [(n : Int)]), (2, .bx [.ref 1 [], .int m, .ref 4 []]), (4, .t1 (zo_ i f ++ [f i])), (5, .t1 [f i])]⟩ (xO_ hcx) mixed (by kernel_rfl) (fun K hK => ?_) ?_
   ·simp only [go_sem, seval, Option.getD_some, and_true, true_and, and_self, List.contains_cons, List.contains_nil, Bool.or_false, Bool.or_true]
    repeat' (first | exact hK _ gM  | with_reducible refine And.intro ?_ ?_ | omega | ((first | refine x0_ rfl rfl (hR) ?_ | refine xd_ (xR_ rfl rfl (hR)) ?_); simp only [go_sem, seval, Option.getD_some, and_true, true_and, and_self, List.contains_cons, List.contains_nil, Bool.or_false, Bool.or_true]) | ((simp only [eA, eB])))
   rw [← yR_]
   (repeat refine xb_ ?_); refine AT.ghost (st' := ⟨[(1, .int a), (4, .bptr 0 0), (6, .bptr 2 0), (35, .int n), (36, .int i)], [(0, .bx [.nil, .int 0, .nil]), (1, .t1 [(n : Int)]), (2, .bx [.ref 1 [], .int m, .ref 4 []]), (4, .t1 (zo_ (i + 1) f))]⟩) (xm_ [5] []) ?_
   refine gB ?_
   refine ⟨some (i + 1), ⟨by omega, by omega⟩, (show n - (i + 1) < n - i by omega), .inl ⟨?_, ?_⟩⟩
   ·simp only [xs_, St.get, xg_, Nat.reduceEqDiff, ↓reduceIte, AV.int.injEq, true_and, and_true]
    try omega
   ·rfl
  ·obtain rfl : i = n := by omega
   refine xh_ (x9_ ?_)
   refine gB ?_
   exact xf_ (Ur_ (v := .agg [.ref 1 [], .int m, .ref 4 []]) (by simp only [go_sem, seval]) trivial rfl)
end Go.Proofs.YtjbdiekkjegckaaGreat
namespace Go.Proofs.YtjbdiekkjegckaaGreat
open Go Go.Aw Go.Pl
theorem TF_ (o : List Int) (m : Int) (v : List Int) : PureCall Tryz.prog 10 [.agg [.l1 o, .int m, .l1 v], .agg [.l1 o, .int m, .l1 v]] (.bool true) := by
 have h1 := XF_ o o
 have h2 := XF_ v v
 rw [decide_eq_true rfl] at h1 h2
 refine gPC 24 [.tmp 4] Tryz.call10 Tryz.func10 fun cx hcx => gE ?_
 refine gBN ?_
 (repeat refine xb_ ?_); refine xx_ (by first | exact xO_ hcx | exact y2_ hcx rfl) fun K hK => ?_; simp only [go_sem, seval, decide_true]
 first | refine xc_ (h1) rfl ?_ | refine xd_ (xa_ (h1) rfl) ?_
 refine gV ?_
 (try simp only [go_sem, seval, decide_true])
 first | refine xd_ (fun _ => xa_ (h2) rfl) ?_ | refine xd_ (xa_ (h2) rfl) ?_
 refine gV ?_
 (try simp only [go_sem, seval, decide_true])
 refine hK _ ?_; clear hK K
 refine xf_ (yu_ rfl ?_)
 rfl
theorem Su_ (n a : Int) (h : ¬ (1 ≤ n ∧ n ≤ 8 ∧ 0 ≤ a ∧ a ≤ 2 * n - 1)) : PureCall Tryz.prog 21 [.int n, .int a] (.tup [.agg [.nil, .int 0, .nil, .nil], .int 2]) := by
 have w1 := yf_ n 1 8
 by_cases h1 : 1 ≤ n ∧ n ≤ 8
 ·have w2 := yf_ a 0 (2 * n - 1)
  rw [decide_eq_true h1.1, decide_eq_true h1.2] at w1
  have hd : (decide (0 ≤ a) && decide (a ≤ 2 * n - 1)) = false := by
   rw [← Bool.not_eq_true, Bool.and_eq_true, decide_eq_true_eq, decide_eq_true_eq]
   exact fun hh => h ⟨h1.1, h1.2, hh.1, hh.2⟩
  rw [hd] at w2
  refine gPC 34 [.cell 4 30, .tmp 5] Tryz.call21 Tryz.func21 fun cx hcx => gE ?_
  refine gBN ?_
  refine gCN fun K hK => ?_
  first | refine xc_ (w1) rfl ?_ | refine xd_ (xa_ (w1) rfl) ?_
  refine gW ?_
  first | refine xc_ (w2) rfl ?_ | refine xd_ (xa_ (w2) rfl) ?_
  refine gV ?_
  refine hK _ ?_; clear hK K
  refine gR ?_
  refine gBN ?_
  exact xf_ (Ur_ (v := .agg [.nil, .int 0, .nil, .nil]) (by simp only [go_sem, seval]) trivial rfl)
 ·have hd : (decide (1 ≤ n) && decide (n ≤ 8)) = false := by
   rw [← Bool.not_eq_true, Bool.and_eq_true, decide_eq_true_eq, decide_eq_true_eq]
   exact h1
  rw [hd] at w1
  refine gPC 34 [.cell 4 30, .tmp 5] Tryz.call21 Tryz.func21 fun cx hcx => gE ?_
  refine gBN ?_
  refine gCN fun K hK => ?_
  first | refine xc_ (w1) rfl ?_ | refine xd_ (xa_ (w1) rfl) ?_
  refine gW ?_
  refine xd_ (v := .bool false) (by first | trivial | (intro h; cases h)) ?_
  refine gV ?_
  refine hK _ ?_; clear hK K
  refine gR ?_
  refine gBN ?_
  exact xf_ (Ur_ (v := .agg [.nil, .int 0, .nil, .nil]) (by simp only [go_sem, seval]) trivial rfl)
theorem Sv_ (n : Nat) (a : Int) (n1 : 1 ≤ n) (n8 : n ≤ 8) (a0 : 0 ≤ a) (a1 : a ≤ 2 * n - 1) (h2 : a * n % 2 = 1) : PureCall Tryz.prog 21 [.int n, .int a] (.tup [.agg [.nil, .int 0, .nil, .nil], .int 5]) := by
 have w1 := yf_ (n : Int) 1 8
 rw [decide_eq_true (show (1 : Int) ≤ n by omega), decide_eq_true (show (n : Int) ≤ 8 by omega)] at w1
 have w2 := yf_ a 0 (2 * (n : Int) - 1)
 rw [decide_eq_true a0, decide_eq_true a1] at w2
 have b := (Wt_ (x := 0) n8 a0 (show a ≤ 16 by omega) (by omega)).1
 have e2 : (a * (n : Int)).tmod 2 = 1 := by rw [Int.tmod_eq_emod_of_nonneg b.1]; exact h2
 obtain ⟨A, eA⟩ : ∃ A, a * (n : Int) = A := ⟨_, rfl⟩
 rw [eA] at b e2
 refine gPC 34 [.cell 4 30, .tmp 5] Tryz.call21 Tryz.func21 fun cx hcx => gE ?_
 refine gBN ?_
 refine gCN fun K hK => ?_
 first | refine xc_ (w1) rfl ?_ | refine xd_ (xa_ (w1) rfl) ?_
 refine gW ?_
 first | refine xc_ (w2) rfl ?_ | refine xd_ (xa_ (w2) rfl) ?_
 refine gV ?_
 refine hK _ ?_; clear hK K
 refine gQ ?_
 refine xe_ ?_
 (repeat refine xb_ ?_); refine xx_ (by first | exact xO_ hcx | exact y2_ hcx rfl) fun K hK => ?_; simp only [go_sem, seval, eA, e2]
 refine gU ?_
 refine hK _ ?_; clear hK K
 refine gR ?_
 refine gBN ?_
 exact xf_ (Ur_ (v := .agg [.nil, .int 0, .nil, .nil]) (by simp only [go_sem, seval]) trivial rfl)
theorem UM_ (s : Src) (hs : s.Ok) (most : Int) (h0 : -1000 ≤ most) (h1 : most ≤ 1000) : ∃ (v : Int) (s' : Src), s'.Ok ∧ OwnCall Tryz.prog 52 [.bptr 0 0, .int most] [(0, xv_ s)] [(0, xv_ s')] (.int v) [0] := by
 have hN := xW_ s hs 14 (by omega)
 have ok1 := yp_ hs 14
 obtain ⟨r, er⟩ : ∃ r, nx s 14 = r := ⟨_, rfl⟩
 rw [er] at hN ok1
 by_cases c : r.1 = 0
 ·rw [c] at hN
  have hP := Sk_ r.2 ok1 [-1, most + 1, 1099511627776, -4611686018427387904] (by simp) (by simp)
  rw [show (([-1, most + 1, 1099511627776, -4611686018427387904] : List Int).length : Int) = 4 from rfl] at hP
  have ok2 := yp_ ok1 4
  obtain ⟨q, eq⟩ : ∃ q, nx r.2 4 = q := ⟨_, rfl⟩
  rw [eq] at hP ok2
  obtain ⟨v, ev⟩ : ∃ v, ([-1, most + 1, 1099511627776, -4611686018427387904] : List Int).getD q.1.toNat 0 = v := ⟨_, rfl⟩
  rw [ev] at hP
  refine ⟨v, q.2, ok2, ?_⟩
  refine OwnCall.intro (n := 17) (rs := [.tmp 4]) 2 [0, 1] (X := [0]) Tryz.call52 Tryz.func52 rfl rfl rfl (by simp only [List.length_cons, List.length_nil]; omega) (by simp [Aw.ids, x3_, xQ_, xl_, xg_]) (fun cx hcx => AT.weakG (x2_ ?_)); refine gE ?_
  refine gBN ?_
  refine gCN fun K hK => ?_
  refine xp_ (hN) rfl rfl ?_; simp only [go_sem, seval]
  refine hK _ ?_; clear hK K
  refine gR ?_
  refine gCN fun K hK => ?_
  refine gU ?_
  refine xN_ (hP) (k := ?_); simp only [Aw.ids, go_sem, seval]
  refine hK _ ?_; clear hK K
  refine xf_ ⟨⟨[(0, .bptr 0 0), (1, .int most), (4, .int v)], [(0, xv_ q.2)]⟩, xm_ [1] [], .inr rfl, (by first | rfl | exact ⟨trivial, rfl⟩ | (simp only [y1_, zZ_, go_sem, seval]; done)), (by simp [St.get, xg_, xl_]), rfl⟩
 ·have hM := xW_ r.2 ok1 (most + 1) (by omega)
  have ok2 := yp_ ok1 (most + 1)
  obtain ⟨q, eq⟩ : ∃ q, nx r.2 (most + 1) = q := ⟨_, rfl⟩
  rw [eq] at hM ok2
  obtain ⟨d, ed⟩ : ∃ d, r.1 = d := ⟨_, rfl⟩
  rw [ed] at hN c
  refine ⟨q.1, q.2, ok2, ?_⟩
  refine OwnCall.intro (n := 17) (rs := [.tmp 4]) 2 [0, 1] (X := [0]) Tryz.call52 Tryz.func52 rfl rfl rfl (by simp only [List.length_cons, List.length_nil]; omega) (by simp [Aw.ids, x3_, xQ_, xl_, xg_]) (fun cx hcx => AT.weakG (x2_ ?_)); refine gE ?_
  refine gBN ?_
  refine gCN fun K hK => ?_
  refine xp_ (hN) rfl rfl ?_; simp only [go_sem, seval]
  refine hK _ ?_; clear hK K
  refine gI (fun hh => ?_) fun hh => ?_
  ·exact absurd hh c
  ·refine xe_ ?_
   refine gCN fun K hK => ?_
   refine gU ?_
   refine xp_ (hM) rfl rfl ?_; simp only [go_sem, seval]
   refine hK _ ?_; clear hK K
   refine xf_ ⟨⟨[(0, .bptr 0 0), (1, .int most), (4, .int q.1)], [(0, xv_ q.2)]⟩, xm_ [] [], .inr rfl, (by first | rfl | exact ⟨trivial, rfl⟩ | (simp only [y1_, zZ_, go_sem, seval]; done)), (by simp [St.get, xg_, xl_]), rfl⟩
set_option maxRecDepth 100000 in
set_option maxHeartbeats 4000000 in
theorem wo_ (c : List Int) (hl : c.length ≤ 1048576) (hb : ∀ i, i < c.length → 0 ≤ c.getD i 0 ∧ c.getD i 0 ≤ 255) : ∃ (n a : Int), 0 ≤ n ∧ n ≤ 9 ∧ PureCall Tryz.prog 20 [.lv (bsV c)] (.tup [.int n, .int a]) := by
 have hF := KN_ c hl hb
 have ok0 := aj3 hl hb
 generalize frS c = s at *
 have h1 := xW_ s ok0 8 (by omega)
 have b1 := yO_ s (n := 8) (by omega)
 have ok1 := yp_ ok0 8
 generalize nx s 8 = r1 at *
 have h2 := xW_ r1.2 ok1 8 (by omega)
 have b2 := yO_ r1.2 (n := 8) (by omega)
 have ok2 := yp_ ok1 8
 generalize nx r1.2 8 = r2 at *
 have h3 := xW_ r2.2 ok2 8 (by omega)
 have b3 := yO_ r2.2 (n := 8) (by omega)
 have ok3 := yp_ ok2 8
 generalize nx r2.2 8 = r3 at *
 have hP := Sk_ r3.2 ok3 [1 + r1.1, 1 + r2.1, 1 + r3.1, 0, 9] (by simp) (by simp)
 rw [show (([1 + r1.1, 1 + r2.1, 1 + r3.1, 0, 9] : List Int).length : Int) = 5 from rfl] at hP
 have ok4 := yp_ ok3 5
 have b4 := yO_ r3.2 (n := 5) (by omega)
 generalize nx r3.2 5 = q at *
 have hv : 0 ≤ ([1 + r1.1, 1 + r2.1, 1 + r3.1, 0, 9] : List Int).getD q.1.toNat 0 ∧ ([1 + r1.1, 1 + r2.1, 1 + r3.1, 0, 9] : List Int).getD q.1.toNat 0 ≤ 9 := by
  have h5 : q.1.toNat = 0 ∨ q.1.toNat = 1 ∨ q.1.toNat = 2 ∨ q.1.toNat = 3 ∨ q.1.toNat = 4 := by omega
  rcases h5 with h | h | h | h | h <;> rw [h] <;> simp <;> omega
 obtain ⟨n, en⟩ : ∃ n, ([1 + r1.1, 1 + r2.1, 1 + r3.1, 0, 9] : List Int).getD q.1.toNat 0 = n := ⟨_, rfl⟩
 rw [en] at hP hv
 obtain ⟨a, s5, _, hC⟩ := UM_ q.2 ok4 (2 * n - 1) (by omega) (by omega)
 refine ⟨n, a, hv.1, hv.2, ?_⟩
 refine PureCall.introR (n := 26) (rs := [.tmp 2, .tmp 3]) Tryz.call20 Tryz.func20 rfl rfl rfl (by simp only [List.length_cons, List.length_nil]; omega) (fun cx hcx hrd => x2_ ?_); refine gE ?_
 refine gBN ?_
 refine gCN fun K hK => ?_
 refine xN_ (hF) (k := ?_); simp only [Aw.ids, go_sem, seval]
 refine hK _ ?_; clear hK K
 refine gCN fun K hK => ?_
 refine xp_ (h1) rfl rfl ?_; simp only [go_sem, seval]
 refine gU ?_
 refine xp_ (h2) rfl rfl ?_; simp only [go_sem, seval]
 refine gU ?_
 refine xp_ (h3) rfl rfl ?_; simp only [go_sem, seval]
 refine gU ?_
 refine xN_ (hP) (k := ?_); simp only [Aw.ids, go_sem, seval]
 refine hK _ ?_; clear hK K
 refine gCN fun K hK => ?_
 refine gU ?_
 refine xp_ (hC) rfl rfl ?_; simp only [go_sem, seval]
 refine hK _ ?_; clear hK K
 exact xf_ (av2 trivial trivial rfl)
end Go.Proofs.YtjbdiekkjegckaaGreat
