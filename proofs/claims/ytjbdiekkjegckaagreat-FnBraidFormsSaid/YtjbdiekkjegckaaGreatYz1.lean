import Derived.Test.YtjbdiekkjegckaaGreatPm1
import Derived.Test.YtjbdiekkjegckaaGreatHy3
import Derived.Test.YtjbdiekkjegckaaGreatDz1
set_option linter.unusedSimpArgs false
set_option linter.unusedVariables false
namespace Go.Proofs.YtjbdiekkjegckaaGreat
open Go Go.Aw Go.Pl
attribute [local go_sem] y9_ yB_ za_ zb_ wE_ yq_ List.getElem?_toArray List.getElem?_cons_zero List.getElem?_cons_succ
set_option maxHeartbeats 8000000 in
theorem yS_ (o : List Int) (m : Int) (n : Nat) (f : List (List Int)) (hp : PosO o) (h8 : xA_ o ≤ 8) (hn : (n : Int) = xA_ o) (m1 : 1 ≤ m) (m2 : m ≤ 1000) (hf : GridB n m f) (hl : o.length ≤ 1048576) : FreshCall Tryz.prog 82 [.l1 o, .int m, .l2 f] (.agg [.l1 o, .int m, .l3 (Xl_ o m n f)]) := by
 have n8 : n ≤ 8 := by omega
 have g := hp.grp
 rw [nO hn] at g
 have lf := hf.1
 have k1 := Zh_ o (by omega)
 have e0 : List.replicate n (List.replicate n (List.replicate n (0 : Int))) = wrC n (cbV o m f) (fun _ _ _ => 0) 0 0 0 := by
  rw [Y2_]
  simp [z5_, yW_, zo_, List.map_const']
 have k3 : FreshCall Tryz.prog 98 [.int n] (.l3 (wrC n (cbV o m f) (fun _ _ _ => 0) 0 0 0)) := by rw [← e0]; exact zn_ n (by omega)
 show FreshCall _ _ _ (.agg [.l1 o, .int m, .l3 (z5_ n (cbV o m f))])
 clear e0
 obtain ⟨z0, ez0⟩ : ∃ z0 : Nat → Nat → Nat → Int, z0 = fun _ _ _ => 0 := ⟨_, rfl⟩
 rw [← ez0] at k3
 refine gFC 90 [.cell 6 27] Tryz.call82 Tryz.func82 fun cx hcx => gE ?_
 refine gA ?_
 (repeat refine xb_ ?_); refine xx_ (by first | exact xO_ hcx | exact wJ_ hcx rfl) fun K hK => ?_; simp only [go_sem, seval, lf]
 refine hK _ ?_; clear hK K
 refine gC fun K hK => ?_
 refine gU ?_
 refine xq_ rfl (k1) rfl ?_; simp only [go_sem, seval]
 refine gU ?_
 refine xq_ rfl (k3) rfl ?_; simp only [go_sem, seval]
 refine gU ?_
 refine hK _ ?_; clear hK K
 (repeat refine xb_ ?_); refine AT.ghost (st' := ⟨[(0, .l1 o), (1, .int m), (2, .l2 f), (6, .bptr 0 0), (7, .int n), (8, .bptr 3 0)], [(0, .bx [.nil, .int 0, .nil]), (1, .t1 o), (2, .t3 (wrC n (cbV o m f) z0 0 0 0)), (3, .bx [.ref 1 [], .int m, .ref 2 []])]⟩) (xm_ [] []) ?_
 refine gB ?_
 (repeat refine xb_ ?_); refine gLp (fun i : Nat => ⟨[(0, .l1 o), (1, .int m), (2, .l2 f), (6, .bptr 0 0), (7, .int n), (8, .bptr 3 0), (9, .int i)], [(0, .bx [.nil, .int 0, .nil]), (1, .t1 o), (2, .t3 (wrC n (cbV o m f) z0 i 0 0)), (3, .bx [.ref 1 [], .int m, .ref 2 []])]⟩) n fun i hi => ?_
 refine gB ?_
 refine gI (fun hi2 => ?_) fun hi2 => ?_
 ·refine xe_ ?_
  refine gO ?_
  refine gB ?_
  (repeat refine xb_ ?_); refine gLp (fun j : Nat => ⟨[(0, .l1 o), (1, .int m), (2, .l2 f), (6, .bptr 0 0), (7, .int n), (8, .bptr 3 0), (9, .int i), (10, .int j)], [(0, .bx [.nil, .int 0, .nil]), (1, .t1 o), (2, .t3 (wrC n (cbV o m f) z0 i j 0)), (3, .bx [.ref 1 [], .int m, .ref 2 []])]⟩) n fun j hj => ?_
  refine gB ?_
  refine gI (fun hj2 => ?_) fun hj2 => ?_
  ·refine xe_ ?_
   refine gO ?_
   refine gB ?_
   (repeat refine xb_ ?_); refine gLp (fun k : Nat => ⟨[(0, .l1 o), (1, .int m), (2, .l2 f), (6, .bptr 0 0), (7, .int n), (8, .bptr 3 0), (9, .int i), (10, .int j), (11, .int k)], [(0, .bx [.nil, .int 0, .nil]), (1, .t1 o), (2, .t3 (wrC n (cbV o m f) z0 i j k)), (3, .bx [.ref 1 [], .int m, .ref 2 []])]⟩) n fun k hk => ?_
   refine gB ?_
   refine gI (fun hk2 => ?_) fun hk2 => ?_
   ·have hi : i < n := by omega
    have hj : j < n := by omega
    have hk : k < n := by omega
    have l3 := wr_ (n := n) (f := cbV o m f) (g := z0) (i := i) (j := j) (k := k)
    have l4 := Zm_ (n := n) (f := cbV o m f) (g := z0) (i := i) (j := j) (k := k) (x := i) (by omega)
    have l5 := Zn_ (n := n) (f := cbV o m f) (g := z0) (i := i) (j := j) (k := k) (x := i) (y := j) (by omega) (by omega)
    have xy := g.lt i hi j hj
    have yz := g.lt j hj k hk
    have c1 := zO_ o hp h8 i j (by omega) (by omega)
    have c2 := zO_ o hp h8 j k (by omega) (by omega)
    have sk := Xs_ (n := n) (f := cbV o m f) (g := z0) (i := i) (j := j) (k := k) hi hj
    have ecb : cbV o m f i j k = ((f.getD j []).getD k 0 - (f.getD (ad o i j) []).getD k 0 + (f.getD i []).getD (ad o j k) 0 - (f.getD i []).getD j 0) % m := rfl
    obtain ⟨A, eA⟩ : ∃ A, A = ad o i j := ⟨_, rfl⟩
    obtain ⟨B, eB⟩ : ∃ B, B = ad o j k := ⟨_, rfl⟩
    rw [← eA] at xy c1 ecb
    rw [← eB] at yz c2 ecb
    have r1 := hf.row hj
    have r2 := hf.row xy
    have r3 := hf.row hi
    have v1 := hf.bd hj hk
    have v2 := hf.bd xy hk
    have v3 := hf.bd hi yz
    have v4 := hf.bd hi hj
    unfold e2 at v1 v2 v3 v4
    obtain ⟨V, eV⟩ : ∃ V, V = (f.getD j []).getD k 0 - (f.getD A []).getD k 0 + (f.getD i []).getD B 0 - (f.getD i []).getD j 0 := ⟨_, rfl⟩
    have hV : -2 * m ≤ V ∧ V ≤ 2 * m := by omega
    have ev : (V + 2 * m).tmod m = cbV o m f i j k := by
     rw [ecb, ← eV, Int.tmod_eq_emod_of_nonneg (by omega), Int.add_mul_emod_self_right]
    have bt1 : 0 ≤ cbV o m f i j k ∧ cbV o m f i j k < m := at7 m1 i j k
    refine xe_ ?_
    refine gO ?_
    (repeat refine xb_ ?_)
    refine xZ_ [] (.one 0 (.one 1 (.one 2 (.one 3 (.one 4 (.one 5 (.one 6 (.one 7 (.one 8 (.one 9 (.one 10 (.one 11 (.one 12 (.one 13 (.one 14 (.one 15 (.one 16 (.one 17 (.one 18 (.one 19 (.one 20 (.one 21 (.one 22 (.one 23 (.one 24 (.one 25 (.one 26 (.one 27 (.one 28 (.one 29 (.one 30 (.one 31 (.one 32 (.one 33 (.one 34 (.one 35 (.one 36 (.one 37 .fin)))))))))))))))))))))))))))))))))))))) ⟨[(0, .l1 o), (1, .int m), (2, .l2 f), (6, .bptr 0 0), (7, .int n), (8, .bptr 3 0), (9, .int i), (10, .int j), (11, .int k), (12, .int ((f.getD j []).getD k 0 - (f.getD A []).getD k 0 + (f.getD i []).getD B 0 - (f.getD i []).getD j 0))], [(0, .bx [.nil, .int 0, .nil]), (1, .t1 o), (2, .t3 (wrC n (cbV o m f) z0 i j k)), (3, .bx [.ref 1 [], .int m, .ref 2 []])]⟩ (xO_ hcx) mixed (by kernel_rfl) (fun K hK => ?_) ?_
    ·simp only [go_sem, seval, Option.getD_some, and_true, true_and, and_self, List.contains_cons, List.contains_nil, Bool.or_false, Bool.or_true]
     repeat' (first | exact hK _ gM  | with_reducible refine And.intro ?_ ?_ | omega | ((first | refine xc_ (c1) rfl ?_ | refine xd_ (xa_ (c1) rfl) ?_); simp only [go_sem, seval, Option.getD_some, and_true, true_and, and_self, List.contains_cons, List.contains_nil, Bool.or_false, Bool.or_true]) | ((first | refine xc_ (c2) rfl ?_ | refine xd_ (xa_ (c2) rfl) ?_); simp only [go_sem, seval, Option.getD_some, and_true, true_and, and_self, List.contains_cons, List.contains_nil, Bool.or_false, Bool.or_true]))
    rw [← eV]
    (repeat refine xb_ ?_)
    refine xZ_ [] (.one 0 (.one 1 (.one 2 (.one 3 (.one 4 (.one 5 (.one 6 (.one 7 (.one 8 (.one 9 (.one 10 (.one 11 (.one 12 (.one 13 (.one 14 (.one 15 (.alt 16 .fin .stop))))))))))))))))) ⟨[(0, .l1 o), (1, .int m), (2, .l2 f), (6, .bptr 0 0), (7, .int n), (8, .bptr 3 0), (9, .int i), (10, .int j), (11, .int k)], [(0, .bx [.nil, .int 0, .nil]), (1, .t1 o), (2, .t3 ((wrC n (cbV o m f) z0 i j k).set i (((wrC n (cbV o m f) z0 i j k).getD i []).set j ((((wrC n (cbV o m f) z0 i j k).getD i []).getD j []).set k ((V + 2 * m).tmod m))))), (3, .bx [.ref 1 [], .int m, .ref 2 []])]⟩ (xO_ hcx) mixed (by kernel_rfl) (fun K hK => ?_) ?_
    ·simp only [go_sem, seval, Option.getD_some, and_true, true_and, and_self, List.contains_cons, List.contains_nil, Bool.or_false, Bool.or_true]
     repeat' (first | exact hK _ gM  | with_reducible refine And.intro ?_ ?_ | omega | ((rw [ev]; omega)))
    rw [ev, sk]
    refine gB ?_
    refine ⟨k + 1,  by omega, by omega, .inl ⟨gH,  rfl⟩⟩
   ·obtain rfl : k = n := by omega
    rw [Xt_]
    refine xh_ (x9_ ?_)
    refine gB ?_
    refine ⟨j + 1,  by omega, by omega, .inl ⟨gH,  rfl⟩⟩
  ·obtain rfl : j = n := by omega
   rw [Xu_]
   refine xh_ (x9_ ?_)
   refine gB ?_
   refine ⟨i + 1,  by omega, by omega, .inl ⟨gH,  rfl⟩⟩
 ·obtain rfl : i = n := by omega
  rw [Yj_]
  refine xh_ (x9_ ?_)
  refine gB ?_
  exact xf_ (RI_ (v := .agg [.ref 1 [], .int m, .ref 2 []]) (is := [1, 2]) (by simp only [go_sem, seval]) rfl (by simp))
end Go.Proofs.YtjbdiekkjegckaaGreat
namespace Go.Proofs.YtjbdiekkjegckaaGreat
open Go Go.Aw Go.Pl
end Go.Proofs.YtjbdiekkjegckaaGreat
namespace Go.Proofs.YtjbdiekkjegckaaGreat
open Go Go.Aw Go.Pl
theorem KM_ {o : List Int} {n : Nat} (h8 : xA_ o ≤ 8) (hn : (n : Int) = xA_ o) : RE_ o = (n : Int) := by
 unfold RE_
 rw [if_pos h8, hn]
end Go.Proofs.YtjbdiekkjegckaaGreat
