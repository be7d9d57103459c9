import Derived.Test.YtjbdiekkjegckaaGreatYz1
import Derived.Test.YtjbdiekkjegckaaGreatVx2
set_option linter.unusedSimpArgs false
set_option linter.unusedVariables false
namespace Go.Proofs.YtjbdiekkjegckaaGreat
open Go Go.Aw Go.Pl
attribute [local go_sem] y9_ yB_ za_ zb_ wE_ yq_ List.getElem?_toArray List.getElem?_cons_zero List.getElem?_cons_succ
theorem Sg_ (o : List Int) (m : Int) (h : PosO o) (h8 : xA_ o ≤ 8) (x y : Nat) (hx : x ≤ 8) (hy : y ≤ 8) : PureCall Tryz.prog 76 [.agg [.l1 o, .int m, .nil], .int x, .int y] (.int (ad o x y)) := by
 refine gPC 12 [.tmp 6] Tryz.call76 Tryz.func76 fun cx hcx => gE ?_
 refine gB ?_
 refine gC fun K hK => ?_
 refine gU ?_
 first | refine xc_ (yQ_ o h h8 x y hx hy) rfl ?_ | refine xd_ (xa_ (yQ_ o h h8 x y hx hy) rfl) ?_
 refine gW ?_
 refine hK _ ?_; clear hK K
 refine xf_ (zY_ rfl ?_)
 rfl
theorem aj2 {o : List Int} {m : Int} {n : Nat} {q : List (List Int)} (hp : PosO o) (hN : (n : Int) = xA_ o) (hq : GridB n m q) {x y z : Nat} (hx : x < n) (hy : y < n) (hz : z < n) : -2 * m ≤ cbR o q x y z ∧ cbR o q x y z ≤ 2 * m := by
 have g := hp.grp
 rw [nO hN] at g
 have v1 := hq.bd hy hz
 have v2 := hq.bd (g.lt x hx y hy) hz
 have v3 := hq.bd hx (g.lt y hy z hz)
 have v4 := hq.bd hx hy
 unfold cbR
 omega
set_option maxHeartbeats 4000000 in
theorem Sh_ (n : Nat) (o : List Int) (m : Int) (q : List (List Int)) (hp : PosO o) (hN : (n : Int) = xA_ o) (h8 : xA_ o ≤ 8) (m1 : 1 ≤ m) (m2 : m ≤ 1000) (hq : GridB n m q) (x y z : Nat) (hx : x < n) (hy : y < n) (hz : z < n) :
  PureCall Tryz.prog 75 [.int x, .int y, .int z, .cptr [.l2 q] 0, .cptr [.l1 o, .int m, .nil] 0] (.int (cbR o q x y z)) := by
 have g := hp.grp
 rw [nO hN] at g
 have lq := hq.1
 have xy := g.lt x hx y hy
 have yz := g.lt y hy z hz
 have c1 := Sg_ o m hp h8 x y (by omega) (by omega)
 have c2 := Sg_ o m hp h8 y z (by omega) (by omega)
 have ecb : cbR o q x y z = (q.getD y []).getD z 0 - (q.getD (ad o x y) []).getD z 0 + (q.getD x []).getD (ad o y z) 0 - (q.getD x []).getD y 0 := rfl
 obtain ⟨A, eA⟩ : ∃ A, A = ad o x y := ⟨_, rfl⟩
 obtain ⟨B, eB⟩ : ∃ B, B = ad o y z := ⟨_, rfl⟩
 rw [← eA] at xy c1 ecb
 rw [← eB] at yz c2 ecb
 have r1 := hq.row hy
 have r2 := hq.row xy
 have r3 := hq.row hx
 have v1 := hq.bd hy hz
 have v2 := hq.bd xy hz
 have v3 := hq.bd hx yz
 have v4 := hq.bd hx hy
 unfold e2 at v1 v2 v3 v4
 rw [ecb]
 refine gPC 46 [.tmp 8] Tryz.call75 Tryz.func75 fun cx hcx => gE ?_
 refine gB ?_
 (repeat refine xb_ ?_); refine xI_ (xO_ hcx) mixed (by kernel_rfl) fun K hK => ?_; simp only [go_sem, seval]
 refine gU ?_
 first | refine xc_ (c1) rfl ?_ | refine xd_ (xa_ (c1) rfl) ?_
 refine gW ?_
 first | refine xc_ (c2) rfl ?_ | refine xd_ (xa_ (c2) rfl) ?_
 refine gW ?_
 refine hK _ ?_; clear hK K
 refine xf_ (zY_ rfl ?_)
 rfl
set_option maxRecDepth 100000 in
set_option maxHeartbeats 8000000 in
theorem VJ_ (n : Nat) (o : List Int) (m : Int) (pq : List (List Int)) (hp : PosO o) (hg : gsz o = n) (hN : (n : Int) = xA_ o) (n1 : 1 ≤ n) (n8 : n ≤ 8) (m1 : 1 ≤ m) (m2 : m ≤ 1000) (hc : GridB n m pq) (hl : o.length ≤ 1048576) : FreshCall Tryz.prog 54 [.l1 o, .int m, .fn 75 [.cptr [.l2 pq] 0, .cptr [.l1 o, .int m, .nil] 0]] (.agg [.l1 o, .int m, .l3 (Xl_ o m n pq)]) := by
 have hC := XK_ o hp.1 (by omega)
 have hG := yv_ o
 rw [hg] at hG
 have hz := Xg_ n n (by omega) (by omega)
 have g8 : xA_ o ≤ 8 := by omega
 obtain ⟨f, ef⟩ : ∃ f : Nat → Nat → Nat → Int, f = cbV o m pq := ⟨_, rfl⟩
 have eres : (.agg [.l1 o, .int m, .l3 (Xl_ o m n pq)] : AV) = .agg [.l1 o, .int m, .l3 (z5_ n f)] := by rw [ef]; rfl
 rw [eres]
 have z0 : ∀ i, List.replicate n (List.replicate n (0 : Int)) = wrM n (f i) (fun _ _ => 0) 0 0 := fun i => by rw [w6_, zK_]
 obtain ⟨g, eg⟩ : ∃ g : Nat → Nat → Int, g = fun _ _ => 0 := ⟨_, rfl⟩
 rw [← eg] at z0
 refine gFC 57 [.cell 6 27] Tryz.call54 Tryz.func54 fun cx hcx => gE ?_
 refine gA ?_
 refine gC fun K hK => ?_
 refine gU ?_
 refine xq_ rfl (hC) rfl ?_; simp only [go_sem, seval]
 refine gU ?_
 first | refine xc_ (hG) rfl ?_ | refine xd_ (xa_ (hG) rfl) ?_
 refine gW ?_
 refine hK _ ?_; clear hK K
 refine gB ?_
 (repeat refine xb_ ?_)
 refine xt_ (fun q : Option Nat => match q with
  | none => ⟨[(0, .l1 o), (1, .int m), (2, .fn 75 [.cptr [.l2 pq] 0, .cptr [.l1 o, .int m, .nil] 0]), (6, .bptr 0 0), (7, .bptr 2 0), (8, .int n), (19, .int n), (20, .int 0)], [(1, .t1 o), (0, .bx [.nil, .int 0, .nil]), (2, .bx [.ref 1 [], .int m, .nil])]⟩
  | some i => ⟨[(0, .l1 o), (1, .int m), (2, .fn 75 [.cptr [.l2 pq] 0, .cptr [.l1 o, .int m, .nil] 0]), (6, .bptr 0 0), (7, .bptr 2 0), (8, .int n), (19, .int n), (20, .int i)], [(1, .t1 o), (0, .bx [.nil, .int 0, .nil]), (2, .bx [.ref 1 [], .int m, .ref 5 []]), (5, .t3 (We_ n f i))]⟩) (fun q => match q with
  | none => True
  | some i => 1 ≤ i ∧ i ≤ n) (fun q => match q with
  | none => n + 1
  | some i => n - i) none trivial ⟨by simp only [xs_, St.get, xg_, Nat.reduceEqDiff, ↓reduceIte, true_and, and_true], rfl⟩ (fun q hq => ?_)
 cases q with
 | none =>
  dsimp only at hq ⊢
  refine gB ?_
  refine gI (fun hli => ?_) fun hli => ?_
  ·have z1 := z0 0
   have hlm := w7_ (n := n) (f := f) (i := 0)
   refine xe_ ?_
   refine gO ?_
   refine gB ?_
   refine gC fun K hK => ?_
   refine gU ?_
   refine xq_ rfl (hz) rfl ?_; simp only [go_sem, seval]
   refine gU ?_
   refine hK _ ?_; clear hK K
   rw [z1]
   refine gB ?_
   (repeat refine xb_ ?_); refine gLp (fun j : Nat => ⟨[(0, .l1 o), (1, .int m), (2, .fn 75 [.cptr [.l2 pq] 0, .cptr [.l1 o, .int m, .nil] 0]), (6, .bptr 0 0), (7, .bptr 2 0), (8, .int n), (9, .int 0), (10, .ref 3 []), (19, .int n), (20, .int 0), (26, .int n), (27, .int j)], [(3, .t2 (wrM n (f 0) g j 0)), (1, .t1 o), (0, .bx [.nil, .int 0, .nil]), (2, .bx [.ref 1 [], .int m, .nil])]⟩) n fun j hj => ?_
   refine gB ?_
   refine gI (fun hlj => ?_) fun hlj => ?_
   ·refine xe_ ?_
    refine gO ?_
    refine gB ?_
    refine gB ?_
    (repeat refine xb_ ?_); refine gLp (fun k : Nat => ⟨[(0, .l1 o), (1, .int m), (2, .fn 75 [.cptr [.l2 pq] 0, .cptr [.l1 o, .int m, .nil] 0]), (6, .bptr 0 0), (7, .bptr 2 0), (8, .int n), (9, .int 0), (10, .ref 3 []), (11, .int j), (19, .int n), (20, .int 0), (26, .int n), (27, .int j), (30, .int n), (31, .int k)], [(3, .t2 (wrM n (f 0) g j k)), (1, .t1 o), (0, .bx [.nil, .int 0, .nil]), (2, .bx [.ref 1 [], .int m, .nil])]⟩) n fun k hk => ?_
    refine gB ?_
    refine gI (fun hlk => ?_) fun hlk => ?_
    ·have l1 := yT_ (n := n) (f := f 0) (g := g) (i := j) (j := k)
     have l2 := XL_ (n := n) (f := f 0) (g := g) (i := j) (j := k) (x := j) (by omega)
     have hA := Sh_ n o m pq hp hN g8 m1 m2 hc 0 j k (by omega) (by omega) (by omega)
     have bK := aj2 hp hN hc (show 0 < n by omega) (show j < n by omega) (show k < n by omega)
     obtain ⟨K, eK⟩ : ∃ K, cbR o pq 0 j k = K := ⟨_, rfl⟩
     rw [eK] at hA bK
     have hR := VI_ o m K m1 m2
     have ev : K % m = f 0 j k := by rw [ef, ← eK]; rfl
     have b1 := Int.emod_nonneg K (show m ≠ 0 by omega)
     have b2 := Int.emod_lt_of_pos K (show 0 < m by omega)
     rw [ev] at hR b1 b2
     have sk := ws_ (n := n) (f := f 0) (g := g) (i := j) (j := k) (by omega)
     refine xe_ ?_
     refine gO ?_
     refine gB ?_
     (repeat refine xb_ ?_)
     refine xZ_ [] (.one 0 (.one 1 (.one 2 (.one 3 (.one 4 (.one 5 (.one 6 (.one 7 (.one 8 (.one 9 (.one 10 (.one 11 (.one 12 (.alt 13 .fin .stop)))))))))))))) ⟨[(0, .l1 o), (1, .int m), (2, .fn 75 [.cptr [.l2 pq] 0, .cptr [.l1 o, .int m, .nil] 0]), (6, .bptr 0 0), (7, .bptr 2 0), (8, .int n), (9, .int 0), (10, .ref 3 []), (11, .int j), (19, .int n), (20, .int 0), (26, .int n), (27, .int j), (30, .int n), (31, .int k)], [(3, .t2 ((wrM n (f 0) g j k).set j (((wrM n (f 0) g j k).getD j []).set k (f 0 j k)))), (1, .t1 o), (0, .bx [.nil, .int 0, .nil]), (2, .bx [.ref 1 [], .int m, .nil])]⟩ (xO_ hcx) mixed (by kernel_rfl) (fun K hK => ?_) ?_
     ·simp only [go_sem, seval, Option.getD_some, and_true, true_and, and_self, List.contains_cons, List.contains_nil, Bool.or_false, Bool.or_true]
      repeat' (first | exact hK _ gM  | with_reducible refine And.intro ?_ ?_ | omega | ((first | refine xc_ (hA) rfl ?_ | refine xd_ (xa_ (hA) rfl) ?_); simp only [go_sem, seval, Option.getD_some, and_true, true_and, and_self, List.contains_cons, List.contains_nil, Bool.or_false, Bool.or_true]) | ((first | refine x0_ rfl rfl (hR) ?_ | refine xd_ (xR_ rfl rfl (hR)) ?_); simp only [go_sem, seval, Option.getD_some, and_true, true_and, and_self, List.contains_cons, List.contains_nil, Bool.or_false, Bool.or_true]))
     rw [sk]
     refine gB ?_
     refine ⟨k + 1,  by omega, by omega, .inl ⟨gH,  rfl⟩⟩
    ·obtain rfl : k = n := by omega
     rw [wt_]
     refine xh_ (x9_ ?_)
     refine gB ?_
     refine ⟨j + 1,  by omega, by omega, .inl ⟨gH,  rfl⟩⟩
   ·obtain rfl : j = n := by omega
    rw [wu_]
    refine xh_ (x9_ ?_)
    refine gC fun K hK => ?_
    try simp only [hlm]
    refine gU ?_
    refine hK _ ?_; clear hK K
    refine gB ?_
    refine ⟨some (0 + 1), ⟨by omega, by omega⟩, by show j - (0 + 1) < j + 1; omega, .inl ⟨?_, ?_⟩⟩
    ·simp only [xs_, St.get, xg_, Nat.reduceEqDiff, ↓reduceIte, AV.int.injEq, true_and, and_true]
     omega
    ·dsimp only
     rw [wb_]
     try rfl
  ·omega
 | some i =>
  dsimp only at hq ⊢
  refine gB ?_
  refine gI (fun hli => ?_) fun hli => ?_
  ·have z1 := z0 i
   have hlm := w7_ (n := n) (f := f) (i := i)
   refine xe_ ?_
   refine gO ?_
   refine gB ?_
   refine gC fun K hK => ?_
   refine gU ?_
   refine xq_ rfl (hz) rfl ?_; simp only [go_sem, seval]
   refine gU ?_
   refine hK _ ?_; clear hK K
   rw [z1]
   refine gB ?_
   (repeat refine xb_ ?_); refine gLp (fun j : Nat => ⟨[(0, .l1 o), (1, .int m), (2, .fn 75 [.cptr [.l2 pq] 0, .cptr [.l1 o, .int m, .nil] 0]), (6, .bptr 0 0), (7, .bptr 2 0), (8, .int n), (9, .int i), (10, .ref 6 []), (19, .int n), (20, .int i), (26, .int n), (27, .int j)], [(6, .t2 (wrM n (f i) g j 0)), (1, .t1 o), (0, .bx [.nil, .int 0, .nil]), (2, .bx [.ref 1 [], .int m, .ref 5 []]), (5, .t3 (We_ n f i))]⟩) n fun j hj => ?_
   refine gB ?_
   refine gI (fun hlj => ?_) fun hlj => ?_
   ·refine xe_ ?_
    refine gO ?_
    refine gB ?_
    refine gB ?_
    (repeat refine xb_ ?_); refine gLp (fun k : Nat => ⟨[(0, .l1 o), (1, .int m), (2, .fn 75 [.cptr [.l2 pq] 0, .cptr [.l1 o, .int m, .nil] 0]), (6, .bptr 0 0), (7, .bptr 2 0), (8, .int n), (9, .int i), (10, .ref 6 []), (11, .int j), (19, .int n), (20, .int i), (26, .int n), (27, .int j), (30, .int n), (31, .int k)], [(6, .t2 (wrM n (f i) g j k)), (1, .t1 o), (0, .bx [.nil, .int 0, .nil]), (2, .bx [.ref 1 [], .int m, .ref 5 []]), (5, .t3 (We_ n f i))]⟩) n fun k hk => ?_
    refine gB ?_
    refine gI (fun hlk => ?_) fun hlk => ?_
    ·have l1 := yT_ (n := n) (f := f i) (g := g) (i := j) (j := k)
     have l2 := XL_ (n := n) (f := f i) (g := g) (i := j) (j := k) (x := j) (by omega)
     have hA := Sh_ n o m pq hp hN g8 m1 m2 hc i j k (by omega) (by omega) (by omega)
     have bK := aj2 hp hN hc (show i < n by omega) (show j < n by omega) (show k < n by omega)
     obtain ⟨K, eK⟩ : ∃ K, cbR o pq i j k = K := ⟨_, rfl⟩
     rw [eK] at hA bK
     have hR := zB_ o m (We_ n f i) K m1 m2
     have ev : K % m = f i j k := by rw [ef, ← eK]; rfl
     have b1 := Int.emod_nonneg K (show m ≠ 0 by omega)
     have b2 := Int.emod_lt_of_pos K (show 0 < m by omega)
     rw [ev] at hR b1 b2
     have sk := ws_ (n := n) (f := f i) (g := g) (i := j) (j := k) (by omega)
     refine xe_ ?_
     refine gO ?_
     refine gB ?_
     (repeat refine xb_ ?_)
     refine xZ_ [] (.one 0 (.one 1 (.one 2 (.one 3 (.one 4 (.one 5 (.one 6 (.one 7 (.one 8 (.one 9 (.one 10 (.one 11 (.one 12 (.alt 13 .fin .stop)))))))))))))) ⟨[(0, .l1 o), (1, .int m), (2, .fn 75 [.cptr [.l2 pq] 0, .cptr [.l1 o, .int m, .nil] 0]), (6, .bptr 0 0), (7, .bptr 2 0), (8, .int n), (9, .int i), (10, .ref 6 []), (11, .int j), (19, .int n), (20, .int i), (26, .int n), (27, .int j), (30, .int n), (31, .int k)], [(6, .t2 ((wrM n (f i) g j k).set j (((wrM n (f i) g j k).getD j []).set k (f i j k)))), (1, .t1 o), (0, .bx [.nil, .int 0, .nil]), (2, .bx [.ref 1 [], .int m, .ref 5 []]), (5, .t3 (We_ n f i))]⟩ (xO_ hcx) mixed (by kernel_rfl) (fun K hK => ?_) ?_
     ·simp only [go_sem, seval, Option.getD_some, and_true, true_and, and_self, List.contains_cons, List.contains_nil, Bool.or_false, Bool.or_true]
      repeat' (first | exact hK _ gM  | with_reducible refine And.intro ?_ ?_ | omega | ((first | refine xc_ (hA) rfl ?_ | refine xd_ (xa_ (hA) rfl) ?_); simp only [go_sem, seval, Option.getD_some, and_true, true_and, and_self, List.contains_cons, List.contains_nil, Bool.or_false, Bool.or_true]) | ((first | refine x0_ rfl rfl (hR) ?_ | refine xd_ (xR_ rfl rfl (hR)) ?_); simp only [go_sem, seval, Option.getD_some, and_true, true_and, and_self, List.contains_cons, List.contains_nil, Bool.or_false, Bool.or_true]))
     rw [sk]
     refine gB ?_
     refine ⟨k + 1,  by omega, by omega, .inl ⟨gH,  rfl⟩⟩
    ·obtain rfl : k = n := by omega
     rw [wt_]
     refine xh_ (x9_ ?_)
     refine gB ?_
     refine ⟨j + 1,  by omega, by omega, .inl ⟨gH,  rfl⟩⟩
   ·obtain rfl : j = n := by omega
    rw [wu_]
    refine xh_ (x9_ ?_)
    refine gC fun K hK => ?_
    try simp only [hlm]
    refine gU ?_
    refine hK _ ?_; clear hK K
    refine gB ?_
    refine ⟨some (i + 1), ⟨by omega, by omega⟩, by show j - (i + 1) < j - i; omega, .inl ⟨?_, ?_⟩⟩
    ·simp only [xs_, St.get, xg_, Nat.reduceEqDiff, ↓reduceIte, AV.int.injEq, true_and, and_true]
     omega
    ·dsimp only
     rw [wb_]
     try rfl
  ·obtain rfl : i = n := by omega
   rw [W4_]
   refine xh_ (x9_ ?_)
   refine gB ?_
   exact xf_ (RI_ (v := .agg [.ref 1 [], .int m, .ref 5 []]) (by simp only [go_sem, seval]) rfl (by simp))
theorem VK_ (o : List Int) (m : Int) (n : Nat) (q : List (List Int)) (hp : PosO o) (h8 : xA_ o ≤ 8) (hN : (n : Int) = xA_ o) (m1 : 1 ≤ m) (m2 : m ≤ 1000) (hq : GridB n m q) (hl : o.length ≤ 1048576) : FreshCall Tryz.prog 45 [.l1 o, .int m, .l2 q] (.agg [.l1 o, .int m, .l3 (Xl_ o m n q)]) := by
 have n1 := yk_ hp
 have hg : gsz o = n := by
  unfold gsz
  rw [if_pos (xS_ hp)]
  unfold yG_
  rw [if_pos (by omega)]
  exact hN.symm
 have hC := VJ_ n o m q hp hg hN (by omega) (by omega) m1 m2 hq hl
 refine gFC 15 [.cell 6 27] Tryz.call45 Tryz.func45 fun cx hcx => gE ?_
 refine gB ?_
 refine gB ?_
 refine gC fun K hK => ?_
 refine gU ?_
 refine xq_ rfl (hC) rfl ?_; simp only [go_sem, seval]
 refine gU ?_
 refine hK _ ?_; clear hK K
 exact xf_ (RI_ (v := .agg [.ref 3 [], .int m, .ref 4 []]) (by simp only [go_sem, seval]) rfl (by simp))
noncomputable def Si_ (o : List Int) (m : Int) (q : List (List Int)) : Int :=
 if bd (PosO o) = true then (if xA_ o ≤ 8 then (if 1 ≤ m ∧ m ≤ 1000 ∧ bd (wq_ (xA_ o).toNat m q) = true then 0 else 2) else 3) else 1
end Go.Proofs.YtjbdiekkjegckaaGreat
namespace Go.Proofs.YtjbdiekkjegckaaGreat
open Go Go.Aw Go.Pl
end Go.Proofs.YtjbdiekkjegckaaGreat
namespace Go.Proofs.YtjbdiekkjegckaaGreat
open Go Go.Aw Go.Pl
end Go.Proofs.YtjbdiekkjegckaaGreat
