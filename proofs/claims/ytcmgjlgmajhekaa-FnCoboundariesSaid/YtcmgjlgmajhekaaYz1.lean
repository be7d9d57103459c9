import Derived.Test.YtcmgjlgmajhekaaPm1
import Derived.Test.YtcmgjlgmajhekaaHy3
import Derived.Test.YtcmgjlgmajhekaaDz1
import Derived.Test.YtcmgjlgmajhekaaHy2
import Derived.Test.YtcmgjlgmajhekaaLib7
set_option linter.unusedSimpArgs false
set_option linter.unusedVariables false
namespace Go.Proofs.Ytcmgjlgmajhekaa
open Go Go.Aw Go.Pl
attribute [local go_sem] pl_fin pl_stop pl_one pl_alt PK_ap pickO List.getElem?_toArray List.getElem?_cons_zero List.getElem?_cons_succ
set_option maxHeartbeats 8000000 in
theorem l17Coboundary_ok (o : List Int) (m : Int) (n : Nat) (f : List (List Int)) (hp : PosO o) (h8 : prodO o ≤ 8) (hn : (n : Int) = prodO o) (m1 : 1 ≤ m) (m2 : m ≤ 1000) (hf : GridB n m f) (hl : o.length ≤ 1048576) : FreshCall Try.prog 32 [.l1 o, .int m, .l2 f] (.agg [.l1 o, .int m, .l3 (cobW o m n f)]) := by
 have n8 : n ≤ 8 := by omega
 have g := hp.grp
 rw [nO hn] at g
 have lf := hf.1
 have k1 := bOwn_ok o (by omega)
 have e0 : List.replicate n (List.replicate n (List.replicate n (0 : Int))) = wrC n (cbV o m f) (fun _ _ _ => 0) 0 0 0 := by
  rw [wrC_zero]
  simp [cubF, matF, rowF, List.map_const']
 have k3 : FreshCall Try.prog 62 [.int n] (.l3 (wrC n (cbV o m f) (fun _ _ _ => 0) 0 0 0)) := by rw [← e0]; exact l06Empty_ok n (by omega)
 show FreshCall _ _ _ (.agg [.l1 o, .int m, .l3 (cubF n (cbV o m f))])
 clear e0
 obtain ⟨z0, ez0⟩ : ∃ z0 : Nat → Nat → Nat → Int, z0 = fun _ _ _ => 0 := ⟨_, rfl⟩
 rw [← ez0] at k3
 refine FreshCall.intro (n := 90) (rs := [.cell 6 30]) Try.call32 Try.func32 rfl rfl rfl (by simp only [List.length_cons, List.length_nil]; omega) (fun cx hcx => ats_of ?_); simp only [argSlots, Nat.zero_add, Nat.reduceAdd]
 refine gA ?_
 (repeat refine ats_seq ?_); refine ats_go (by first | exact fix0 hcx | exact fix1 hcx rfl) fun K hK => ?_; simp only [go_sem, seval, lf]
 refine hK _ ?_; clear hK K
 refine gC fun K hK => ?_
 (repeat refine aI (hb := ?_))
 refine fcall_own rfl (k1) rfl ?_; simp only [go_sem, seval]
 (repeat refine aI (hb := ?_))
 refine fcall_own rfl (k3) rfl ?_; simp only [go_sem, seval]
 (repeat refine aI (hb := ?_))
 refine hK _ ?_; clear hK K
 (repeat refine ats_seq ?_); refine AT.ghost (st' := ⟨[(0, .l1 o), (1, .int m), (2, .l2 f), (6, .bptr 0 0), (7, .int n), (8, .bptr 3 0)], [(0, .bx [.nil, .int 0, .nil]), (1, .t1 o), (2, .t3 (wrC n (cbV o m f) z0 0 0 0)), (3, .bx [.ref 1 [], .int m, .ref 2 []])]⟩) (ghost_can [] (by simp only [rnLs, rnL, rn, rns, sw, SlotsLe, St.get, slotGet, List.map_cons, List.map_nil, seval, AV.int.injEq, AV.bool.injEq, AV.l1.injEq, AV.l2.injEq, AV.l3.injEq, true_and, and_true]) (by simp only [sortH, insH, rnHs, rnH, rnT, rn, rns, sw, List.map_cons, List.map_nil, seval])) ?_
 refine gB ?_
 (repeat refine ats_seq ?_); refine ats_loop (fun i : Nat => ⟨[(0, .l1 o), (1, .int m), (2, .l2 f), (6, .bptr 0 0), (7, .int n), (8, .bptr 3 0), (9, .int i)], [(0, .bx [.nil, .int 0, .nil]), (1, .t1 o), (2, .t3 (wrC n (cbV o m f) z0 i 0 0)), (3, .bx [.ref 1 [], .int m, .ref 2 []])]⟩) (fun i => i ≤ n) (fun i => n - i) 0 (Nat.zero_le _) (by refine And.intro ?_ rfl; simp only [leS, Nat.reduceEqDiff, ↓reduceIte, true_and, and_true]; repeat' (first | rfl | with_reducible refine And.intro ?_ ?_ | omega)) (fun i hi => ?_)
 refine gB ?_
 refine gI (fun hi2 => ?_) fun hi2 => ?_
 ·refine ats_skip ?_
  (repeat refine ats_seq ?_); refine ats_block ?_
  refine gB ?_
  (repeat refine ats_seq ?_); refine ats_loop (fun j : Nat => ⟨[(0, .l1 o), (1, .int m), (2, .l2 f), (6, .bptr 0 0), (7, .int n), (8, .bptr 3 0), (9, .int i), (10, .int j)], [(0, .bx [.nil, .int 0, .nil]), (1, .t1 o), (2, .t3 (wrC n (cbV o m f) z0 i j 0)), (3, .bx [.ref 1 [], .int m, .ref 2 []])]⟩) (fun j => j ≤ n) (fun j => n - j) 0 (Nat.zero_le _) (by refine And.intro ?_ rfl; simp only [leS, Nat.reduceEqDiff, ↓reduceIte, true_and, and_true]; repeat' (first | rfl | with_reducible refine And.intro ?_ ?_ | omega)) (fun j hj => ?_)
  refine gB ?_
  refine gI (fun hj2 => ?_) fun hj2 => ?_
  ·refine ats_skip ?_
   (repeat refine ats_seq ?_); refine ats_block ?_
   refine gB ?_
   (repeat refine ats_seq ?_); refine ats_loop (fun k : Nat => ⟨[(0, .l1 o), (1, .int m), (2, .l2 f), (6, .bptr 0 0), (7, .int n), (8, .bptr 3 0), (9, .int i), (10, .int j), (11, .int k)], [(0, .bx [.nil, .int 0, .nil]), (1, .t1 o), (2, .t3 (wrC n (cbV o m f) z0 i j k)), (3, .bx [.ref 1 [], .int m, .ref 2 []])]⟩) (fun k => k ≤ n) (fun k => n - k) 0 (Nat.zero_le _) (by refine And.intro ?_ rfl; simp only [leS, Nat.reduceEqDiff, ↓reduceIte, true_and, and_true]; repeat' (first | rfl | with_reducible refine And.intro ?_ ?_ | omega)) (fun k hk => ?_)
   refine gB ?_
   refine gI (fun hk2 => ?_) fun hk2 => ?_
   ·have hi : i < n := by omega
    have hj : j < n := by omega
    have hk : k < n := by omega
    have l3 := wrC_len (n := n) (f := cbV o m f) (g := z0) (i := i) (j := j) (k := k)
    have l4 := wrC_l2 (n := n) (f := cbV o m f) (g := z0) (i := i) (j := j) (k := k) (x := i) (by omega)
    have l5 := wrC_l3 (n := n) (f := cbV o m f) (g := z0) (i := i) (j := j) (k := k) (x := i) (y := j) (by omega) (by omega)
    have xy := g.lt i hi j hj
    have yz := g.lt j hj k hk
    have c1 := l06Add_ok o hp h8 i j (by omega) (by omega)
    have c2 := l06Add_ok o hp h8 j k (by omega) (by omega)
    have sk := wrC_set (n := n) (f := cbV o m f) (g := z0) (i := i) (j := j) (k := k) hi hj
    have ecb : cbV o m f i j k = ((f.getD j []).getD k 0 - (f.getD (ad o i j) []).getD k 0 + (f.getD i []).getD (ad o j k) 0 - (f.getD i []).getD j 0) % m := rfl
    obtain ⟨A, eA⟩ : ∃ A, A = ad o i j := ⟨_, rfl⟩
    obtain ⟨B, eB⟩ : ∃ B, B = ad o j k := ⟨_, rfl⟩
    rw [← eA] at xy c1 ecb
    rw [← eB] at yz c2 ecb
    have r1 := hf.row hj
    have r2 := hf.row xy
    have r3 := hf.row hi
    have v1 := hf.bd hj hk
    have v2 := hf.bd xy hk
    have v3 := hf.bd hi yz
    have v4 := hf.bd hi hj
    unfold e2 at v1 v2 v3 v4
    obtain ⟨V, eV⟩ : ∃ V, V = (f.getD j []).getD k 0 - (f.getD A []).getD k 0 + (f.getD i []).getD B 0 - (f.getD i []).getD j 0 := ⟨_, rfl⟩
    have hV : -2 * m ≤ V ∧ V ≤ 2 * m := by omega
    have ev : (V + 2 * m).tmod m = cbV o m f i j k := by
     rw [ecb, ← eV, Int.tmod_eq_emod_of_nonneg (by omega), Int.add_mul_emod_self_right]
    have bt1 : 0 ≤ cbV o m f i j k ∧ cbV o m f i j k < m := cbV_rng m1 i j k
    refine ats_skip ?_
    (repeat refine ats_seq ?_); refine ats_block ?_
    (repeat refine ats_seq ?_)
    refine ats_plan [] (.one 0 (.one 1 (.one 2 (.one 3 (.one 4 (.one 5 (.one 6 (.one 7 (.one 8 (.one 9 (.one 10 (.one 11 (.one 12 (.one 13 (.one 14 (.one 15 (.one 16 (.one 17 (.one 18 (.one 19 (.one 20 (.one 21 (.one 22 (.one 23 (.one 24 (.one 25 (.one 26 (.one 27 (.one 28 (.one 29 (.one 30 (.one 31 (.one 32 (.one 33 (.one 34 (.one 35 (.one 36 (.one 37 .fin)))))))))))))))))))))))))))))))))))))) ⟨[(0, .l1 o), (1, .int m), (2, .l2 f), (6, .bptr 0 0), (7, .int n), (8, .bptr 3 0), (9, .int i), (10, .int j), (11, .int k), (12, .int ((f.getD j []).getD k 0 - (f.getD A []).getD k 0 + (f.getD i []).getD B 0 - (f.getD i []).getD j 0))], [(0, .bx [.nil, .int 0, .nil]), (1, .t1 o), (2, .t3 (wrC n (cbV o m f) z0 i j k)), (3, .bx [.ref 1 [], .int m, .ref 2 []])]⟩ (fix0 hcx) mixed (by kernel_rfl) (fun K hK => ?_) ?_
    ·simp only [go_sem, seval, Option.getD_some, and_true, true_and, and_self, List.contains_cons, List.contains_nil, Bool.or_false, Bool.or_true]
     repeat' (first | exact hK _ (by refine And.intro ?_ rfl; simp only [leS, Nat.reduceEqDiff, ↓reduceIte, true_and, and_true])  | with_reducible refine And.intro ?_ ?_ | omega | ((first | refine fcall_data (c1) rfl ?_ | refine YR_intro (acall_data (c1) rfl) ?_); simp only [go_sem, seval, Option.getD_some, and_true, true_and, and_self, List.contains_cons, List.contains_nil, Bool.or_false, Bool.or_true]) | ((first | refine fcall_data (c2) rfl ?_ | refine YR_intro (acall_data (c2) rfl) ?_); simp only [go_sem, seval, Option.getD_some, and_true, true_and, and_self, List.contains_cons, List.contains_nil, Bool.or_false, Bool.or_true]))
    rw [← eV]
    (repeat refine ats_seq ?_)
    refine ats_plan [] (.one 0 (.one 1 (.one 2 (.one 3 (.one 4 (.one 5 (.one 6 (.one 7 (.one 8 (.one 9 (.one 10 (.one 11 (.one 12 (.one 13 (.one 14 (.one 15 (.alt 16 .fin .stop))))))))))))))))) ⟨[(0, .l1 o), (1, .int m), (2, .l2 f), (6, .bptr 0 0), (7, .int n), (8, .bptr 3 0), (9, .int i), (10, .int j), (11, .int k)], [(0, .bx [.nil, .int 0, .nil]), (1, .t1 o), (2, .t3 ((wrC n (cbV o m f) z0 i j k).set i (((wrC n (cbV o m f) z0 i j k).getD i []).set j ((((wrC n (cbV o m f) z0 i j k).getD i []).getD j []).set k ((V + 2 * m).tmod m))))), (3, .bx [.ref 1 [], .int m, .ref 2 []])]⟩ (fix0 hcx) mixed (by kernel_rfl) (fun K hK => ?_) ?_
    ·simp only [go_sem, seval, Option.getD_some, and_true, true_and, and_self, List.contains_cons, List.contains_nil, Bool.or_false, Bool.or_true]
     repeat' (first | exact hK _ (by refine And.intro ?_ rfl; simp only [leS, Nat.reduceEqDiff, ↓reduceIte, true_and, and_true])  | with_reducible refine And.intro ?_ ?_ | omega | ((rw [ev]; omega)))
    rw [ev, sk]
    refine gB ?_
    refine ⟨k + 1,  by omega, by omega, .inl ⟨by simp only [leS, Nat.reduceEqDiff, ↓reduceIte, true_and, and_true]; omega,  rfl⟩⟩
   ·obtain rfl : k = n := by omega
    rw [wrC_row]
    refine ats_exit (lq_x ?_)
    refine gB ?_
    refine ⟨j + 1,  by omega, by omega, .inl ⟨by simp only [leS, Nat.reduceEqDiff, ↓reduceIte, true_and, and_true]; omega,  rfl⟩⟩
  ·obtain rfl : j = n := by omega
   rw [wrC_mat]
   refine ats_exit (lq_x ?_)
   refine gB ?_
   refine ⟨i + 1,  by omega, by omega, .inl ⟨by simp only [leS, Nat.reduceEqDiff, ↓reduceIte, true_and, and_true]; omega,  rfl⟩⟩
 ·obtain rfl : i = n := by omega
  rw [wrC_end]
  refine ats_exit (lq_x ?_)
  refine gB ?_
  exact ats_ret (ownC (v := .agg [.ref 1 [], .int m, .ref 2 []]) (is := [1, 2]) (by simp only [go_sem, seval]) rfl (by simp))
end Go.Proofs.Ytcmgjlgmajhekaa
namespace Go.Proofs.Ytcmgjlgmajhekaa
open Go Go.Aw Go.Pl
attribute [local go_sem] pl_fin pl_stop pl_one pl_alt PK_ap pickO List.getElem?_toArray List.getElem?_cons_zero List.getElem?_cons_succ
theorem mul_le7 {a b : Int} (h1 : 0 ≤ a) (h2 : a ≤ 7) (h3 : 0 ≤ b) (h4 : b ≤ 7) : 0 ≤ a * b ∧ a * b ≤ 49 :=
 ⟨Int.mul_nonneg h1 h3, by have := Int.mul_le_mul h2 h4 h3 (by omega : (0 : Int) ≤ 7); omega⟩
theorem flT_len {n : Nat} {F : Nat → Nat → Nat → Int} {x y : Nat} : (flT n F x y).length = (x * n + y) * n := rowF_length ..
theorem flT_le {n : Nat} {F : Nat → Nat → Nat → Int} {x y : Nat} (h8 : n ≤ 8) (hx : x ≤ n) (hy : y ≤ n) : (flT n F x y).length ≤ 1000 := by
 rw [flT_len]
 have h1 : x * n ≤ 8 * 8 := Nat.mul_le_mul (by omega) h8
 have h2 : (x * n + y) * n ≤ 72 * 8 := Nat.mul_le_mul (by omega) h8
 omega
theorem l17Flat_ok (o : List Int) (m : Int) (n : Nat) (w : List (List (List Int))) (hw : CubB n m w) (h8 : n ≤ 8) : FreshCall Try.prog 48 [.agg [.l1 o, .int m, .l3 w]] (.l1 (flF n (e3 w))) := by
 have lw := hw.1
 have e0 : ([] : List Int) = flT n (e3 w) 0 0 := flT_zero.symm
 refine FreshCall.intro (n := 32) (rs := [.tmp 2]) Try.call48 Try.func48 rfl rfl rfl (by simp only [List.length_cons, List.length_nil]; omega) (fun cx hcx => ats_of ?_); simp only [argSlots, Nat.zero_add, Nat.reduceAdd]
 refine gB ?_
 refine gB ?_
 rw [e0]
 refine gB ?_
 (repeat refine ats_seq ?_); refine ats_loop (fun i : Nat => ⟨[(1, .bptr 0 0), (3, .ref 1 []), (4, .int i)], [(0, .bx [.l1 o, .int m, .l3 w]), (1, .t1 (flT n (e3 w) i 0))]⟩) (fun i => i ≤ n) (fun i => n - i) 0 (Nat.zero_le _) (by refine And.intro ?_ rfl; simp only [leS, Nat.reduceEqDiff, ↓reduceIte, true_and, and_true]; repeat' (first | rfl | with_reducible refine And.intro ?_ ?_ | omega)) (fun i hi => ?_)
 (repeat refine ats_seq ?_); refine ats_go (fix0 hcx) fun K hK => ?_; simp only [go_sem, seval, lw]
 (repeat refine aI (hb := ?_))
 refine hK _ ?_; clear hK K
 refine gI (fun hc2 => ?_) fun hc2 => ?_
 ·have hi : i < n := by omega
  have mi := hw.mat hi
  refine ats_skip ?_
  (repeat refine ats_seq ?_); refine ats_block ?_
  refine gB ?_
  (repeat refine ats_seq ?_); refine ats_loop (fun j : Nat => ⟨[(1, .bptr 0 0), (3, .ref 1 []), (4, .int i), (5, .int j)], [(0, .bx [.l1 o, .int m, .l3 w]), (1, .t1 (flT n (e3 w) i j))]⟩) (fun j => j ≤ n) (fun j => n - j) 0 (Nat.zero_le _) (by refine And.intro ?_ rfl; simp only [leS, Nat.reduceEqDiff, ↓reduceIte, true_and, and_true]; repeat' (first | rfl | with_reducible refine And.intro ?_ ?_ | omega)) (fun j hj => ?_)
  (repeat refine ats_seq ?_); refine ats_go (fix0 hcx) fun K hK => ?_; simp only [go_sem, seval, lw]
  (repeat refine aI (hb := ?_))
  refine hK _ ?_; clear hK K
  refine gI (fun hc4 => ?_) fun hc4 => ?_
  ·have hj : j < n := by omega
   have rj := hw.row hi hj
   have st := flT_row (n := n) (F := e3 w) (x := i) hj
   rw [show rowF n (e3 w i j) = (w.getD i []).getD j [] from rowF_own rj] at st
   have hl := flT_le (F := e3 w) h8 (show i ≤ n by omega) (show j ≤ n by omega)
   refine ats_skip ?_
   (repeat refine ats_seq ?_); refine ats_block ?_
   refine gB ?_
   rw [st]
   refine gB ?_
   refine ⟨j + 1,  by omega, by omega, .inl ⟨by simp only [leS, Nat.reduceEqDiff, ↓reduceIte, true_and, and_true]; omega,  rfl⟩⟩
  ·obtain rfl : j = n := by omega
   rw [flT_mat]
   refine ats_exit (lq_x ?_)
   refine gB ?_
   refine ⟨i + 1,  by omega, by omega, .inl ⟨by simp only [leS, Nat.reduceEqDiff, ↓reduceIte, true_and, and_true]; omega,  rfl⟩⟩
 ·obtain rfl : i = n := by omega
  rw [flT_end]
  refine ats_exit (lq_x ?_)
  refine gB ?_
  exact ats_ret (ownV (is := [1]) rfl ⟨rfl, trivial⟩ rfl (by simp))
theorem l17Less_ok (p : Int) (n : Nat) (a b : List Int) (c : Int) (hp : SmP p) (ha : Lst p n a) (hb : Lst p n b) (c0 : 0 ≤ c) (c1 : c ≤ p) (hn : n ≤ 1000) : FreshCall Try.prog 75 [.int p, .l1 a, .l1 b, .int c] (.l1 (lessL p n a b c)) := by
 have h2 := hp.two
 have la := ha.1
 have lb := hb.1
 show FreshCall _ _ _ (.l1 (rowF n fun i => (a.getD i 0 + (p - c) * b.getD i 0) % p))
 obtain ⟨f, ef⟩ : ∃ f : Nat → Int, f = fun i => (a.getD i 0 + (p - c) * b.getD i 0) % p := ⟨_, rfl⟩
 rw [← ef]
 refine FreshCall.intro (n := 37) (rs := [.tmp 8]) Try.call75 Try.func75 rfl rfl rfl (by simp only [List.length_cons, List.length_nil]; omega) (fun cx hcx => ats_of ?_); simp only [argSlots, Nat.zero_add, Nat.reduceAdd]
 refine gB ?_
 refine gB ?_
 refine gB ?_
 (repeat refine ats_seq ?_); refine ats_loop (fun i : Nat => ⟨[(0, .int p), (1, .l1 a), (2, .l1 b), (3, .int c), (9, .ref 0 []), (10, .int i)], [(0, .t1 (rowF i f))]⟩) (fun i => i ≤ n) (fun i => n - i) 0 (Nat.zero_le _) (by refine And.intro ?_ rfl; simp only [leS, Nat.reduceEqDiff, ↓reduceIte, true_and, and_true]; repeat' (first | rfl | with_reducible refine And.intro ?_ ?_ | omega)) (fun i hi => ?_)
 have l1 := rowF_length i f
 (repeat refine ats_seq ?_); refine ats_go (fix0 hcx) fun K hK => ?_; simp only [go_sem, seval, la]
 (repeat refine aI (hb := ?_))
 refine hK _ ?_; clear hK K
 refine gI (fun hc2 => ?_) fun hc2 => ?_
 ·have hi : i < n := by omega
  have b1 := ha.2 i hi
  have b2 := hb.2 i hi
  have st := rowP_succ (k := i) (f := f)
  have ev : (a.getD i 0 + (p - c) * b.getD i 0).tmod p = f i := by
   rw [ef]
   have := mul_le7 (a := p - c) (b := b.getD i 0) (by omega) (by omega) (by omega) (by omega)
   exact Int.tmod_eq_emod_of_nonneg (by omega)
  obtain ⟨P, eP⟩ : ∃ P, P = (p - c) * b.getD i 0 := ⟨_, rfl⟩
  have bP : 0 ≤ P ∧ P ≤ 49 := by rw [eP]; exact mul_le7 (by omega) (by omega) (by omega) (by omega)
  rw [← eP] at ev
  have bv : 0 ≤ f i ∧ f i < p := by
   rw [ef]; exact ⟨Int.emod_nonneg _ (by omega), Int.emod_lt_of_pos _ (by omega)⟩
  refine ats_skip ?_
  (repeat refine ats_seq ?_); refine ats_block ?_
  (repeat refine ats_seq ?_)
  refine ats_plan [] (.one 0 (.one 1 (.one 2 (.one 3 (.one 4 (.one 5 (.one 6 (.one 7 (.one 8 (.one 9 (.one 10 (.one 11 (.one 12 (.one 13 (.one 14 (.one 15 (.alt 16 (.alt 17 (.one 18 .fin) .stop) .stop))))))))))))))))) ⟨[(0, .int p), (1, .l1 a), (2, .l1 b), (3, .int c), (10, .int i), (9, .ref 0 [])], [(0, .t1 (rowF i f ++ [f i])), (1, .t1 [f i])]⟩ (fix0 hcx) mixed (by kernel_rfl) (fun K hK => ?_) ?_
  ·simp only [go_sem, seval, Option.getD_some, and_true, true_and, and_self, List.contains_cons, List.contains_nil, Bool.or_false, Bool.or_true]
   repeat' (first | exact hK _ (by refine And.intro ?_ rfl; simp only [leS, Nat.reduceEqDiff, ↓reduceIte, true_and, and_true])  | with_reducible refine And.intro ?_ ?_ | omega | ((simp only [← eP, ev])))
  rw [← st]
  refine gB ?_
  refine ⟨i + 1, by omega, by omega, .inr ⟨[1], by simp only [killL, List.map_cons, List.map_nil, killA, killAs, qOf, rmT, killH, killT, List.filter_cons, List.filter_nil, List.contains_cons, List.contains_nil, SlotsLe, St.get, slotGet, Nat.reduceEqDiff, Nat.reduceBEq, Bool.or_false, Bool.or_true, Bool.false_and, Bool.not_true, Bool.not_false, Bool.false_eq_true, ↓reduceIte, if_true, if_false, AV.int.injEq, AV.bool.injEq, AV.l1.injEq, AV.l2.injEq, AV.l3.injEq, true_and, and_true]; omega, by simp only [killL, List.map_cons, List.map_nil, killA, killAs, qOf, rmT, killH, killT, List.filter_cons, List.filter_nil, List.contains_cons, List.contains_nil, SlotsLe, St.get, slotGet, Nat.reduceEqDiff, Nat.reduceBEq, Bool.or_false, Bool.or_true, Bool.false_and, Bool.not_true, Bool.not_false, Bool.false_eq_true, ↓reduceIte, if_true, if_false, AV.int.injEq, AV.bool.injEq, AV.l1.injEq, AV.l2.injEq, AV.l3.injEq, true_and, and_true]; (try rfl)⟩⟩
 ·obtain rfl : i = n := by omega
  refine ats_exit (lq_x ?_)
  refine gB ?_
  exact ats_ret (ownV (is := [0]) rfl ⟨rfl, trivial⟩ rfl (by simp))
def smB (p : Int) : Bool := decide (p = 2) || decide (p = 3) || decide (p = 5) || decide (p = 7)
theorem smB_iff {p : Int} : smB p = true ↔ SmP p := by
 unfold smB SmP
 simp only [Bool.or_eq_true, decide_eq_true_eq, or_assoc]
theorem l17Prime_ok (p : Int) : PureCall Try.prog 46 [.int p] (.bool (smB p)) := by
 unfold smB
 by_cases h2 : p = 2
 ·subst h2
  refine PureCall.intro (n := 17) (rs := [.tmp 2]) Try.call46 Try.func46 rfl rfl rfl (by simp only [List.length_cons, List.length_nil]; omega) (fun cx hcx => ats_of ?_); simp only [argSlots, Nat.zero_add, Nat.reduceAdd]
  refine gB ?_
  refine gB ?_
  refine ats_ret (finB rfl ?_)
  first | rfl | simp
 ·by_cases h3 : p = 3
  ·subst h3
   refine PureCall.intro (n := 17) (rs := [.tmp 2]) Try.call46 Try.func46 rfl rfl rfl (by simp only [List.length_cons, List.length_nil]; omega) (fun cx hcx => ats_of ?_); simp only [argSlots, Nat.zero_add, Nat.reduceAdd]
   refine gB ?_
   refine gB ?_
   refine ats_ret (finB rfl ?_)
   first | rfl | simp
  ·refine PureCall.intro (n := 17) (rs := [.tmp 2]) Try.call46 Try.func46 rfl rfl rfl (by simp only [List.length_cons, List.length_nil]; omega) (fun cx hcx => ats_of ?_); simp only [argSlots, Nat.zero_add, Nat.reduceAdd]
   refine gB ?_
   refine gB ?_
   refine ats_ret (finB rfl ?_)
   first | rfl | simp
theorem isSmall_ok (p : Int) : PureCall Try.prog 37 [.int p] (.bool (smB p)) := by
 unfold smB
 by_cases h2 : p = 2
 ·subst h2
  refine PureCall.intro (n := 17) (rs := [.tmp 2]) Try.call37 Try.func37 rfl rfl rfl (by simp only [List.length_cons, List.length_nil]; omega) (fun cx hcx => ats_of ?_); simp only [argSlots, Nat.zero_add, Nat.reduceAdd]
  refine gB ?_
  refine gB ?_
  refine ats_ret (finB rfl ?_)
  first | rfl | simp
 ·by_cases h3 : p = 3
  ·subst h3
   refine PureCall.intro (n := 17) (rs := [.tmp 2]) Try.call37 Try.func37 rfl rfl rfl (by simp only [List.length_cons, List.length_nil]; omega) (fun cx hcx => ats_of ?_); simp only [argSlots, Nat.zero_add, Nat.reduceAdd]
   refine gB ?_
   refine gB ?_
   refine ats_ret (finB rfl ?_)
   first | rfl | simp
  ·refine PureCall.intro (n := 17) (rs := [.tmp 2]) Try.call37 Try.func37 rfl rfl rfl (by simp only [List.length_cons, List.length_nil]; omega) (fun cx hcx => ats_of ?_); simp only [argSlots, Nat.zero_add, Nat.reduceAdd]
   refine gB ?_
   refine gB ?_
   refine ats_ret (finB rfl ?_)
   first | rfl | simp
end Go.Proofs.Ytcmgjlgmajhekaa
namespace Go.Proofs.Ytcmgjlgmajhekaa
open Go Go.Aw Go.Pl
theorem siz8_n {o : List Int} {n : Nat} (h8 : prodO o ≤ 8) (hn : (n : Int) = prodO o) : siz8 o = (n : Int) := by
 unfold siz8
 rw [if_pos h8, hn]
theorem bdP_len {o : List Int} {p : Int} {n x y : Nat} (h8 : n ≤ 8) (hx : x ≤ 7) (hy : y ≤ 7) : (bdP o p n x y).length ≤ 100 := by
 have h1 : ∀ x, ((List.range x).flatMap fun i => (List.range (n - 1)).map fun j => flF n (cbV o p (unM n (i + 1) (j + 1)))).length = x * (n - 1) := by
  intro x
  induction x with
  | zero => simp
  | succ x ih =>
   rw [List.range_succ, List.flatMap_append, List.length_append, ih, Nat.succ_mul]
   simp
 unfold bdP
 rw [List.length_append, h1, List.length_map, List.length_range]
 have : x * (n - 1) ≤ 7 * 7 := Nat.mul_le_mul hx (by omega)
 omega
theorem unM_B {n : Nat} {p : Int} (h2 : 2 ≤ p) {x y : Nat} : GridB n p (unM n x y) := by
 refine ⟨matF_length .., fun j hj => ?_⟩
 unfold unM
 rw [matF_get hj]
 refine ⟨rowF_length .., fun k hk => ?_⟩
 rw [rowF_get hk]
 split <;> omega
theorem cubF_e3 {n : Nat} {F : Nat → Nat → Nat → Int} : flF n (e3 (cubF n F)) = flF n F := by
 unfold flF
 refine rowF_congr fun k hk => ?_
 obtain ⟨h1, h3, h4⟩ := fl_bd hk
 unfold e3
 rw [cubF_get h1, matF_get h3, rowF_get h4]
set_option maxHeartbeats 8000000 in
theorem l17Bounds_ok (o : List Int) (p : Int) (n : Nat) (hp : PosO o) (h8 : prodO o ≤ 8) (hn : (n : Int) = prodO o) (p2 : 2 ≤ p) (p7 : p ≤ 1000) (hl : o.length ≤ 1048576) : FreshCall Try.prog 47 [.l1 o, .int p] (.l2 (bdL o p n)) := by
 have n8 : n ≤ 8 := by omega
 have n1 : 1 ≤ n := by have := prodO_pos hp; omega
 have hS := l17Size_ok o hp
 rw [siz8_n h8 hn] at hS
 have e0 : ([] : List (List Int)) = bdP o p n (1 - 1) 0 := rfl
 have zs : ∀ k, List.replicate (k + 1) (List.replicate n (0 : Int)) = List.replicate k (List.replicate n 0) ++ [List.replicate n 0] := fun k => List.replicate_succ'
 have hCob : ∀ x y, FreshCall Try.prog 32 [.l1 o, .int p, .l2 (unM n x y)] (.agg [.l1 o, .int p, .l3 (cobW o p n (unM n x y))]) := fun x y =>
  l17Coboundary_ok o p n (unM n x y) hp h8 hn (by omega) p7 (unM_B p2) hl
 have hFl : ∀ x y, FreshCall Try.prog 48 [.agg [.l1 o, .int p, .l3 (cobW o p n (unM n x y))]] (.l1 (flF n (cbV o p (unM n x y)))) := fun x y => by
  have := l17Flat_ok o p n _ (cobW_B (o := o) (n := n) (f := unM n x y) (show 1 ≤ p by omega)) n8
  unfold cobW at this ⊢
  rwa [cubF_e3] at this
 refine FreshCall.intro (n := 52) (rs := [.tmp 4]) Try.call47 Try.func47 rfl rfl rfl (by simp only [List.length_cons, List.length_nil]; omega) (fun cx hcx => ats_of ?_); simp only [argSlots, Nat.zero_add, Nat.reduceAdd]
 refine gB ?_
 refine gC fun K hK => ?_
 first | refine fcall_data (hS) rfl ?_ | refine YR_intro (acall_data (hS) rfl) ?_
 simp only [go_sem, seval]
 (repeat refine aI (hb := ?_))
 refine hK _ ?_; clear hK K
 refine gB ?_
 (repeat refine ats_seq ?_)
 rw [e0]
 (repeat refine ats_seq ?_); refine ats_loop (fun x : Nat => ⟨[(0, .l1 o), (1, .int p), (5, .int n), (6, .ref 0 []), (7, .int x)], [(0, .t2 (bdP o p n (x - 1) 0))]⟩) (fun x => 1 ≤ x ∧ x ≤ n) (fun x => n - x) 1 ⟨Nat.le_refl _, n1⟩ (by
  refine And.intro ?_ rfl; simp only [leS, Nat.reduceEqDiff, ↓reduceIte, true_and, and_true]
  try rfl) (fun x hx => ?_)
 obtain ⟨x1, xn⟩ := hx
 refine gB ?_
 refine gI (fun hc2 => ?_) fun hc2 => ?_
 ·have hxn : x < n := by omega
  refine ats_skip ?_
  (repeat refine ats_seq ?_); refine ats_block ?_
  refine gB ?_
  (repeat refine ats_seq ?_)
  (repeat refine ats_seq ?_); refine ats_loop (fun y : Nat => ⟨[(0, .l1 o), (1, .int p), (5, .int n), (6, .ref 0 []), (7, .int x), (8, .int y)], [(0, .t2 (bdP o p n (x - 1) (y - 1)))]⟩) (fun y => 1 ≤ y ∧ y ≤ n) (fun y => n - y) 1 ⟨Nat.le_refl _, n1⟩ (by
   refine And.intro ?_ rfl; simp only [leS, Nat.reduceEqDiff, ↓reduceIte, true_and, and_true]
   try rfl) (fun y hy => ?_)
  obtain ⟨y1, yn⟩ := hy
  refine gB ?_
  refine gI (fun hc4 => ?_) fun hc4 => ?_
  ·have hyn : y < n := by omega
   refine ats_skip ?_
   (repeat refine ats_seq ?_); refine ats_block ?_
   refine gB ?_
   refine gB ?_
   (repeat refine ats_seq ?_); refine ats_loop (fun k : Nat => ⟨[(0, .l1 o), (1, .int p), (5, .int n), (6, .ref 0 []), (7, .int x), (8, .int y), (9, .ref 1 []), (10, .int k)], [(0, .t2 (bdP o p n (x - 1) (y - 1))), (1, .t2 (List.replicate k (List.replicate n 0)))]⟩) (fun k => k ≤ n) (fun k => n - k) 0 (Nat.zero_le _) (by refine And.intro ?_ rfl; simp only [leS, Nat.reduceEqDiff, ↓reduceIte, true_and, and_true]; repeat' (first | rfl | with_reducible refine And.intro ?_ ?_ | omega)) (fun k hk => ?_)
   refine gB ?_
   refine gI (fun hc6 => ?_) fun hc6 => ?_
   ·have zk := zs k
    have lk : (List.replicate k (List.replicate n (0 : Int))).length = k := List.length_replicate ..
    refine ats_skip ?_
    (repeat refine ats_seq ?_); refine ats_block ?_
    (repeat refine ats_seq ?_); refine ats_go (fix0 hcx) fun K hK => ?_; simp only [go_sem, seval, lk]
    (repeat refine aI (hb := ?_))
    refine hK _ ?_; clear hK K
    rw [← zk]
    refine gB ?_
    refine ⟨k + 1,  by omega, by omega, .inl ⟨by simp only [leS, Nat.reduceEqDiff, ↓reduceIte, true_and, and_true]; omega,  rfl⟩⟩
   ·obtain rfl : k = n := by omega
    have um : (List.replicate k (List.replicate k (0 : Int))).set x (((List.replicate k (List.replicate k (0 : Int))).getD x []).set y 1) = unM k x y := by
     rw [zeros_matF, matF_set hxn]; rfl
    have lz : (List.replicate k (List.replicate k (0 : Int))).length = k := List.length_replicate ..
    have rz : (List.replicate k (List.replicate k (0 : Int))).getD x [] = List.replicate k 0 := by
     rw [List.getD_eq_getElem?_getD, List.getElem?_replicate, if_pos hxn]; rfl
    have lr : (List.replicate k (0 : Int)).length = k := List.length_replicate ..
    have hC := hCob x y
    have hF := hFl x y
    have st := bdP_row (o := o) (p := p) (n := k) (x := x - 1) (y := y - 1)
    rw [show x - 1 + 1 = x by omega, show y - 1 + 1 = y by omega] at st
    have bl := bdP_len (o := o) (p := p) (n := k) (x := x - 1) (y := y - 1) n8 (by omega) (by omega)
    rw [rz] at um
    refine ats_exit (lq_x ?_)
    (repeat refine ats_seq ?_); refine ats_go (fix0 hcx) fun K hK => ?_; simp only [go_sem, seval, lz, rz, lr]
    (repeat refine aI (hb := ?_))
    refine hK _ ?_; clear hK K
    (repeat refine ats_seq ?_); refine ats_go (fix0 hcx) fun K hK => ?_; simp only [go_sem, seval, lz, rz, lr]
    (repeat refine aI (hb := ?_))
    refine hK _ ?_; clear hK K
    rw [um]
    refine gC fun K hK => ?_
    first | refine fcall_fresh rfl (hC) ?_ | refine YR_intro (acall_fresh rfl (hC)) ?_
    simp only [go_sem, seval]
    refine fcall_own rfl (hF) rfl ?_; simp only [go_sem, seval]
    (repeat refine aI (hb := ?_))
    refine hK _ ?_; clear hK K
    rw [st]
    refine gB ?_
    refine ⟨y + 1, ⟨by omega, by omega⟩, by omega, .inr ⟨[1], by simp only [killL, List.map_cons, List.map_nil, killA, killAs, qOf, rmT, killH, killT, List.filter_cons, List.filter_nil, List.contains_cons, List.contains_nil, SlotsLe, St.get, slotGet, Nat.reduceEqDiff, Nat.reduceBEq, Bool.or_false, Bool.or_true, Bool.false_and, Bool.not_true, Bool.not_false, Bool.false_eq_true, ↓reduceIte, if_true, if_false, AV.int.injEq, AV.bool.injEq, AV.l1.injEq, AV.l2.injEq, AV.l3.injEq, true_and, and_true]; omega, by simp only [killL, List.map_cons, List.map_nil, killA, killAs, qOf, rmT, killH, killT, List.filter_cons, List.filter_nil, List.contains_cons, List.contains_nil, SlotsLe, St.get, slotGet, Nat.reduceEqDiff, Nat.reduceBEq, Bool.or_false, Bool.or_true, Bool.false_and, Bool.not_true, Bool.not_false, Bool.false_eq_true, ↓reduceIte, if_true, if_false, AV.int.injEq, AV.bool.injEq, AV.l1.injEq, AV.l2.injEq, AV.l3.injEq, true_and, and_true]; (rw [show y + 1 - 1 = y by omega])⟩⟩
  ·obtain rfl : y = n := by omega
   refine ats_exit (lq_x ?_)
   rw [bdP_mat]
   refine gB ?_
   refine ⟨x + 1,  ⟨by omega, by omega⟩, by omega, .inl ⟨by simp only [leS, Nat.reduceEqDiff, ↓reduceIte, true_and, and_true]; omega,  by rw [show x + 1 - 1 = x - 1 + 1 by omega]⟩⟩
 ·obtain rfl : x = n := by omega
  refine ats_exit (lq_x ?_)
  refine gB ?_
  exact ats_ret (ownV (is := [0]) rfl ⟨rfl, trivial⟩ rfl (by simp))
theorem redR_L {p : Int} {n : Nat} {L : List (List Int)} {i : Nat} {s : Rk} (hp : 2 ≤ p) (h : RkP p n L i s) {l : List Int} (hl : Lst p n l) {k : Nat} (hk : k ≤ s.1.length) : Lst p n (redR p n s k l) := (redR_P hp h hl k hk).1
def pvs (s : Rk) : List Int := s.2.map fun k => ((k : Nat) : Int)
theorem pvs_get {s : Rk} {k : Nat} (h : k < s.2.length) : (pvs s).getD k 0 = ((s.2.getD k 0 : Nat) : Int) := by
 unfold pvs
 rw [List.getD_eq_getElem?_getD, List.getElem?_map, List.getD_eq_getElem?_getD, List.getElem?_eq_getElem h]
 rfl
theorem pvs_len {s : Rk} : (pvs s).length = s.2.length := by unfold pvs; rw [List.length_map]
theorem pvs_app {a : List (List Int)} {b : List Nat} {k : Nat} : pvs (a, b ++ [k]) = pvs (a, b) ++ [(k : Int)] := by unfold pvs; simp
theorem mul_tm {p e d : Int} (hp : 2 ≤ p) (p7 : p ≤ 7) (h0 : 1 ≤ e) (h1 : e ≤ 7) (d0 : 0 ≤ d) (d1 : d < p) : (e * d).tmod p = e * d % p ∧ 0 ≤ e * d ∧ e * d ≤ 49 := by
 have := mul_le7 (a := e) (b := d) (by omega) h1 d0 (by omega)
 exact ⟨Int.tmod_eq_emod_of_nonneg this.1, this⟩
set_option maxHeartbeats 16000000 in
theorem l17Rank_ok (p : Int) (n : Nat) (L : List (List Int)) (hp : SmP p) (hL : ∀ k, k < L.length → Lst p n (L.getD k [])) (hn : n ≤ 1000) (hm : L.length ≤ 1000) : PureCall Try.prog 49 [.int p, .l2 L] (.int (rkA p n L)) := by
 have h2 := hp.two
 refine PureCall.intro (n := 99) (rs := [.tmp 4]) Try.call49 Try.func49 rfl rfl rfl (by simp only [List.length_cons, List.length_nil]; omega) (fun cx hcx => ats_of ?_); simp only [argSlots, Nat.zero_add, Nat.reduceAdd]
 refine gB ?_
 refine gB ?_
 (repeat refine ats_seq ?_); refine AT.ghost (ghost_r2 0 rfl) ?_; simp only [find, killL, killA, killAs, qOf, rmT, killH, killT, putT, List.map_cons, List.map_nil, List.filter_cons, List.filter_nil, List.contains_cons, List.contains_nil, List.isEmpty_nil, List.isEmpty_cons, Bool.or_false, Bool.or_true, Bool.false_and, Bool.true_and, Bool.and_false, Bool.and_true, Bool.not_true, Bool.not_false, Bool.false_eq_true, if_true, if_false, seval]
 refine gB ?_
 (repeat refine ats_seq ?_); refine ats_loop (fun i : Nat => ⟨[(0, .int p), (1, .l2 L), (5, .ref 0 []), (6, .ref 1 []), (7, .int i)], [(0, .r2 (rkR p n L i).1), (1, .t1 (pvs (rkR p n L i)))]⟩) (fun i => i ≤ L.length) (fun i => L.length - i) 0 (Nat.zero_le _) (by refine And.intro ?_ rfl; simp only [leS, Nat.reduceEqDiff, ↓reduceIte, true_and, and_true]; repeat' (first | rfl | with_reducible refine And.intro ?_ ?_ | omega)) (fun i hi => ?_)
 refine gB ?_
 refine gI (fun hc2 => ?_) fun hc2 => ?_
 ·have hi : i < L.length := by omega
  have hPi := rkR_P hp hL i (by omega)
  have hstep : rkR p n L (i + 1) = stpR p n (rkR p n L i) (L.getD i []) := rfl
  have hli := hL i hi
  obtain ⟨s, es⟩ : ∃ s, rkR p n L i = s := ⟨_, rfl⟩
  rw [es] at hPi hstep ⊢
  obtain ⟨l, el⟩ : ∃ l, L.getD i [] = l := ⟨_, rfl⟩
  rw [el] at hli hstep
  have hO := bOwn_ok l (by have := hli.1; omega)
  have sl := hPi.len
  have sle := hPi.le
  have pl := pvs_len (s := s)
  unfold stpR at hstep
  refine ats_skip ?_
  (repeat refine ats_seq ?_); refine ats_block ?_
  (repeat refine ats_seq ?_); refine ats_go (by first | exact fix0 hcx | exact fix1 hcx rfl) fun K hK => ?_; simp only [go_sem, seval, el]
  (repeat refine aI (hb := ?_))
  first | refine fcall_fresh rfl (hO) ?_ | refine YR_intro (acall_fresh rfl (hO)) ?_
  simp only [go_sem, seval]
  refine hK _ ?_; clear hK K
  refine gB ?_
  (repeat refine ats_seq ?_); refine ats_loop (fun j : Nat => ⟨[(0, .int p), (1, .l2 L), (5, .ref 0 []), (6, .ref 1 []), (7, .int i), (8, .l1 (redR p n s j l)), (9, .int j)], [(0, .r2 s.1), (1, .t1 (pvs s))]⟩) (fun j => j ≤ s.1.length) (fun j => s.1.length - j) 0 (Nat.zero_le _) (by refine And.intro ?_ rfl; simp only [leS, Nat.reduceEqDiff, ↓reduceIte, true_and, and_true]; repeat' (first | rfl | with_reducible refine And.intro ?_ ?_ | omega)) (fun j hj => ?_)
  refine gB ?_
  refine gI (fun hc4 => ?_) fun hc4 => ?_
  ·have hj : j < s.1.length := by omega
   have hR := redR_L h2.1 hPi hli (k := j) (by omega)
   have hst : redR p n s (j + 1) l = if (redR p n s j l).getD (s.2.getD j 0) 0 ≠ 0 then lessL p n (redR p n s j l) (s.1.getD j []) ((redR p n s j l).getD (s.2.getD j 0) 0) else redR p n s j l := rfl
   have pg := pvs_get (s := s) (k := j) (by omega)
   have pv := hPi.pv j hj
   have hrow := hPi.row j hj
   obtain ⟨r, er⟩ : ∃ r, redR p n s j l = r := ⟨_, rfl⟩
   rw [er] at hR hst ⊢
   obtain ⟨q, eq⟩ : ∃ q, s.2.getD j 0 = q := ⟨_, rfl⟩
   rw [eq] at pg pv hst
   have lr := hR.1
   have vr := hR.2 q pv
   have hLs := l17Less_ok p n r (s.1.getD j []) (r.getD q 0) hp hR hrow vr.1 (by omega) hn
   refine ats_skip ?_
   (repeat refine ats_seq ?_); refine ats_block ?_
   (repeat refine ats_seq ?_); refine ats_go (by first | exact fix0 hcx | exact fix1 hcx rfl) fun K hK => ?_; simp only [go_sem, seval, pg, lr, pl]
   (repeat refine aI (hb := ?_))
   refine hK _ ?_; clear hK K
   refine gI (fun hc5 => ?_) fun hc5 => ?_
   ·rw [if_pos hc5] at hst
    (repeat refine ats_seq ?_); refine ats_pick (fix0 hcx) mixed (by kernel_rfl) fun K hK => ?_; simp only [go_sem, seval, pg, lr, pl]
    (repeat refine aI (hb := ?_))
    first | refine fcall_fresh rfl (hLs) ?_ | refine YR_intro (acall_fresh rfl (hLs)) ?_
    simp only [go_sem, seval]
    refine hK _ ?_; clear hK K
    rw [← hst]
    refine gB ?_
    refine ⟨j + 1,  by omega, by omega, .inl ⟨by simp only [leS, Nat.reduceEqDiff, ↓reduceIte, true_and, and_true]; omega,  rfl⟩⟩
   ·rw [if_neg (fun h => h hc5)] at hst
    rw [← hst]
    refine ats_skip ?_
    refine gB ?_
    refine ⟨j + 1,  by omega, by omega, .inl ⟨by simp only [leS, Nat.reduceEqDiff, ↓reduceIte, true_and, and_true]; omega,  rfl⟩⟩
  ·obtain rfl : j = s.1.length := by omega
   have hR := redR_L h2.1 hPi hli (k := s.1.length) (by omega)
   obtain ⟨r, er⟩ : ∃ r, redR p n s s.1.length l = r := ⟨_, rfl⟩
   rw [er] at hR hstep ⊢
   have lr := hR.1
   obtain ⟨f1, f2, f3, f4⟩ := fnz_fact r n 0
   obtain ⟨a, ea⟩ : ∃ a, fnz r n 0 = a := ⟨_, rfl⟩
   rw [ea] at f1 f2 f3 f4 hstep
   rw [Nat.zero_add] at f2 f4
   clear hO er
   refine ats_exit (lq_x ?_)
   refine gB ?_
   (repeat refine ats_seq ?_); refine ats_loop (fun j : Nat => ⟨[(0, .int p), (1, .l2 L), (5, .ref 0 []), (6, .ref 1 []), (7, .int i), (8, .l1 r), (10, .int j)], [(0, .r2 s.1), (1, .t1 (pvs s))]⟩) (fun j => j ≤ a) (fun j => a - j) 0 (Nat.zero_le _) (by refine And.intro ?_ rfl; simp only [leS, Nat.reduceEqDiff, ↓reduceIte, true_and, and_true]; repeat' (first | rfl | with_reducible refine And.intro ?_ ?_ | omega)) (fun j hj => ?_)
   by_cases hjn : j = n
   ·obtain rfl : j = a := by omega
    subst hjn
    have jneg : ((j : Int) < (j : Int)) = False := eq_false (by omega)
    (repeat refine ats_seq ?_); refine ats_go (by first | exact fix0 hcx | exact fix1 hcx rfl) fun K hK => ?_; simp only [go_sem, seval, lr, jneg, decide_false]
    (repeat refine aI (hb := ?_))
    refine hK _ ?_; clear hK K
    refine gI (fun hc => ?_) fun hc => ?_
    ·simp at hc
    ·rw [if_pos rfl] at hstep
     refine ats_exit (lq_x ?_)
     (repeat refine ats_seq ?_); refine ats_go (by first | exact fix0 hcx | exact fix1 hcx rfl) fun K hK => ?_; simp only [go_sem, seval, lr]
     (repeat refine aI (hb := ?_))
     refine hK _ ?_; clear hK K
     refine gI (fun hc2 => ?_) fun hc2 => ?_
     ·refine ats_exit (bq_x ?_)
      refine gB ?_
      refine ⟨i + 1,  by omega, by omega, .inl ⟨by simp only [leS, Nat.reduceEqDiff, ↓reduceIte, true_and, and_true]; omega,  by rw [hstep]⟩⟩
     ·first | exact absurd rfl hc2 | exact absurd trivial hc2
   ·have jpos : ((j : Int) < (n : Int)) = True := eq_true (by omega)
    have vr := hR.2 j (by omega)
    (repeat refine ats_seq ?_); refine ats_go (by first | exact fix0 hcx | exact fix1 hcx rfl) fun K hK => ?_; simp only [go_sem, seval, lr, jpos, decide_true, Bool.true_and]
    (repeat refine aI (hb := ?_))
    refine hK _ ?_; clear hK K
    by_cases hja : j = a
    ·subst hja
     have hz := f4 (by omega)
     rw [if_neg hjn] at hstep
     have Fm : ¬ ((j : Int) = (n : Int)) := by omega
     obtain ⟨i1, i2, i3, i4, i5⟩ := inP_ok hp (d := r.getD j 0) (by omega) (by omega)
     obtain ⟨e, ee⟩ : ∃ e, inP p (r.getD j 0) = e := ⟨_, rfl⟩
     rw [ee] at i1 i2 i3 i4 i5
     have nr : nrmL p n r j = lessL p n (List.replicate n 0) r (p - e) := by unfold nrmL; rw [ee]
     have hz0 : Lst p n (List.replicate n 0) := ⟨List.length_replicate .., fun k hk => by
      rw [List.getD_eq_getElem?_getD, List.getElem?_replicate, if_pos hk]
      exact ⟨Int.le_refl _, by show (0 : Int) < p; omega⟩⟩
     have hLs := l17Less_ok p n (List.replicate n 0) r (p - e) hp hz0 hR (by omega) (by omega) hn
     rw [← nr] at hLs
     refine gI (fun hc => ?_) fun hc => ?_
     ·exact absurd hc hz
     ·refine ats_exit (lq_x ?_)
      (repeat refine ats_seq ?_); refine ats_go (by first | exact fix0 hcx | exact fix1 hcx rfl) fun K hK => ?_; simp only [go_sem, seval, lr]
      (repeat refine aI (hb := ?_))
      refine hK _ ?_; clear hK K
      refine gI (fun hc2 => ?_) fun hc2 => ?_
      ·exact absurd hc2 Fm
      ·refine ats_skip ?_
       refine gB ?_
       (repeat refine ats_seq ?_)
       (repeat refine ats_seq ?_); refine ats_loop (fun t : Nat => ⟨[(0, .int p), (1, .l2 L), (5, .ref 0 []), (6, .ref 1 []), (7, .int i), (8, .l1 r), (10, .int j), (11, .int t)], [(0, .r2 s.1), (1, .t1 (pvs s))]⟩) (fun t => 1 ≤ t ∧ t ≤ e) (fun t => e - t) 1 ⟨Nat.le_refl _, i1⟩ (by
        refine And.intro ?_ rfl; simp only [leS, Nat.reduceEqDiff, ↓reduceIte, true_and, and_true]
        try rfl) (fun t ht => ?_)
       obtain ⟨t1, te⟩ := ht
       have tm := mul_tm (p := p) (e := t) (d := r.getD j 0) h2.1 h2.2 (by omega) (by omega) vr.1 vr.2
       obtain ⟨V, eV⟩ : ∃ V, (t : Int) * r.getD j 0 = V := ⟨_, rfl⟩
       rw [eV] at tm
       have bV : 0 ≤ V % p ∧ V % p < p := ⟨Int.emod_nonneg _ (by omega), Int.emod_lt_of_pos _ (by omega)⟩
       (repeat refine ats_seq ?_); refine ats_go (by first | exact fix0 hcx | exact fix1 hcx rfl) fun K hK => ?_; simp only [go_sem, seval, lr, eV, tm.1]
       (repeat refine aI (hb := ?_))
       refine hK _ ?_; clear hK K
       by_cases ht2 : t = e
       ·subst ht2
        rw [eV] at i4
        refine gI (fun hc3 => ?_) fun hc3 => ?_
        ·exact absurd i4 hc3
        ·refine ats_exit (lq_x ?_)
         (repeat refine ats_seq ?_); refine ats_go (by first | exact fix0 hcx | exact fix1 hcx rfl) fun K hK => ?_; simp only [go_sem, seval, lr, Int.toNat_natCast]
         (repeat refine aI (hb := ?_))
         first | refine fcall_fresh rfl (hLs) ?_ | refine YR_intro (acall_fresh rfl (hLs)) ?_
         simp only [go_sem, seval]
         (repeat refine aI (hb := ?_))
         refine hK _ ?_; clear hK K
         refine gB ?_
         rw [← pvs_app (a := s.1)]
         refine gB ?_
         refine ⟨i + 1, by omega, by omega, .inr ⟨[2, 3, 4], by simp only [killL, List.map_cons, List.map_nil, killA, killAs, qOf, rmT, killH, killT, List.filter_cons, List.filter_nil, List.contains_cons, List.contains_nil, SlotsLe, St.get, slotGet, Nat.reduceEqDiff, Nat.reduceBEq, Bool.or_false, Bool.or_true, Bool.false_and, Bool.not_true, Bool.not_false, Bool.false_eq_true, ↓reduceIte, if_true, if_false, AV.int.injEq, AV.bool.injEq, AV.l1.injEq, AV.l2.injEq, AV.l3.injEq, true_and, and_true]; omega, by simp only [killL, List.map_cons, List.map_nil, killA, killAs, qOf, rmT, killH, killT, List.filter_cons, List.filter_nil, List.contains_cons, List.contains_nil, SlotsLe, St.get, slotGet, Nat.reduceEqDiff, Nat.reduceBEq, Bool.or_false, Bool.or_true, Bool.false_and, Bool.not_true, Bool.not_false, Bool.false_eq_true, ↓reduceIte, if_true, if_false, AV.int.injEq, AV.bool.injEq, AV.l1.injEq, AV.l2.injEq, AV.l3.injEq, true_and, and_true]; (rw [hstep]; rfl)⟩⟩
       ·have := i5 t t1 (by omega)
        rw [eV] at this
        refine gI (fun hc3 => ?_) fun hc3 => ?_
        ·refine ats_skip ?_
         (repeat refine ats_seq ?_); refine ats_block ?_
         refine gB ?_
         refine ⟨t + 1,  ⟨by omega, by omega⟩, by omega, .inl ⟨by simp only [leS, Nat.reduceEqDiff, ↓reduceIte, true_and, and_true]; omega,  rfl⟩⟩
        ·first | exact absurd hc3 this | exact absurd (Classical.byContradiction fun hh => hc3 hh) this
    ·have hz := f3 j (by omega) (by omega)
     refine gI (fun hc => ?_) fun hc => ?_
     ·refine ats_skip ?_
      (repeat refine ats_seq ?_); refine ats_block ?_
      refine gB ?_
      refine ⟨j + 1,  by omega, by omega, .inl ⟨by simp only [leS, Nat.reduceEqDiff, ↓reduceIte, true_and, and_true]; omega,  rfl⟩⟩
     ·exact absurd hz hc
 ·obtain rfl : i = L.length := by omega
  refine ats_exit (lq_x ?_)
  refine gB ?_
  refine ats_ret (finI rfl ?_)
  rfl
end Go.Proofs.Ytcmgjlgmajhekaa
