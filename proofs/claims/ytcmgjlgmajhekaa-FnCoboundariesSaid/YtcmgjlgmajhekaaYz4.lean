import Derived.Test.YtcmgjlgmajhekaaYz1
import Derived.Test.YtcmgjlgmajhekaaJz2
import Derived.Test.YtcmgjlgmajhekaaHy2
set_option linter.unusedSimpArgs false
set_option linter.unusedVariables false
namespace Go.Proofs.Ytcmgjlgmajhekaa
open Go Go.Aw Go.Pl
theorem wrC_skip {n : Nat} {f : Nat → Nat → Nat → Int} {i j k k2 : Nat} (h : ∀ z, k ≤ z → z < k2 → f i j z = 0) (hk : k ≤ k2) : wrC n f (fun _ _ _ => 0) i j k2 = wrC n f (fun _ _ _ => 0) i j k := by
 unfold wrC
 refine cubF_congr fun x _ y _ z _ => ?_
 unfold lx3
 by_cases c1 : x < i ∨ (x = i ∧ (y < j ∨ (y = j ∧ z < k)))
 ·rw [if_pos c1, if_pos (by omega)]
 ·rw [if_neg c1]
  by_cases c2 : x < i ∨ (x = i ∧ (y < j ∨ (y = j ∧ z < k2)))
  ·rw [if_pos c2]
   obtain ⟨rfl, rfl, h3⟩ : x = i ∧ y = j ∧ z < k2 := by omega
   exact h z (by omega) h3
  ·rw [if_neg c2]
theorem mul_le_64 {a b c : Int} (h1 : 0 ≤ a) (h2 : a ≤ c) (h3 : 0 ≤ b) (h4 : b ≤ 8) (hc : 0 ≤ c) : 0 ≤ a * b ∧ a * b ≤ c * 8 :=
 ⟨Int.mul_nonneg h1 h3, Int.mul_le_mul h2 h4 h3 hc⟩
theorem zero_wrC (n : Nat) (f : Nat → Nat → Nat → Int) : List.replicate n (List.replicate n (List.replicate n (0 : Int))) = wrC n f (fun _ _ _ => 0) 0 0 0 := by
 rw [wrC_zero]
 simp [cubF, matF, rowF, List.map_const']
def cycF (n k : Nat) (x y z : Nat) : Int := if n ≤ y + z then (k : Int) * x % n else 0
set_option maxHeartbeats 4000000 in
theorem l17Cyclic_ok (n k : Nat) (n1 : 1 ≤ n) (n8 : n ≤ 8) (hk : k ≤ 8) : FreshCall Try.prog 83 [.int n, .int k] (.agg [.l1 [(n : Int)], .int n, .l3 (cubF n (cycF n k))]) := by
 obtain ⟨f, ef⟩ : ∃ f, f = cycF n k := ⟨_, rfl⟩
 have k3 := l06Empty_ok n (by omega)
 rw [zero_wrC n f] at k3
 rw [← ef]
 refine FreshCall.intro (n := 49) (rs := [.cell 4 30]) Try.call83 Try.func83 rfl rfl rfl (by simp only [List.length_cons, List.length_nil]; omega) (fun cx hcx => ats_of ?_); simp only [argSlots, Nat.zero_add, Nat.reduceAdd]
 refine gB ?_
 refine gC fun K hK => ?_
 (repeat refine aI (hb := ?_))
 refine fcall_own rfl (k3) rfl ?_; simp only [go_sem, seval]
 (repeat refine aI (hb := ?_))
 refine hK _ ?_; clear hK K
 (repeat refine ats_seq ?_); refine AT.ghost (st' := ⟨[(0, .int n), (1, .int k), (4, .bptr 0 0), (5, .bptr 3 0)], [(0, .bx [.nil, .int 0, .nil]), (1, .t1 [(n : Int)]), (2, .t3 (wrC n f (fun _ _ _ => 0) 0 0 0)), (3, .bx [.ref 1 [], .int n, .ref 2 []])]⟩) (ghost_can [] (by simp only [rnLs, rnL, rn, rns, sw, SlotsLe, St.get, slotGet, List.map_cons, List.map_nil, seval, AV.int.injEq, AV.bool.injEq, AV.l1.injEq, AV.l2.injEq, AV.l3.injEq, true_and, and_true]) (by simp only [sortH, insH, rnHs, rnH, rnT, rn, rns, sw, List.map_cons, List.map_nil, seval])) ?_
 refine gB ?_
 (repeat refine ats_seq ?_); refine ats_loop (fun x : Nat => ⟨[(0, .int n), (1, .int k), (4, .bptr 0 0), (5, .bptr 3 0), (6, .int x)], [(0, .bx [.nil, .int 0, .nil]), (1, .t1 [(n : Int)]), (2, .t3 (wrC n f (fun _ _ _ => 0) x 0 0)), (3, .bx [.ref 1 [], .int n, .ref 2 []])]⟩) (fun x => x ≤ n) (fun x => n - x) 0 (Nat.zero_le _) (by refine And.intro ?_ rfl; simp only [leS, Nat.reduceEqDiff, ↓reduceIte, true_and, and_true]; repeat' (first | rfl | with_reducible refine And.intro ?_ ?_ | omega)) (fun x hx => ?_)
 refine gB ?_
 refine gI (fun hx2 => ?_) fun hx2 => ?_
 ·have hx : x < n := by omega
  refine ats_skip ?_
  (repeat refine ats_seq ?_); refine ats_block ?_
  refine gB ?_
  (repeat refine ats_seq ?_); refine ats_loop (fun y : Nat => ⟨[(0, .int n), (1, .int k), (4, .bptr 0 0), (5, .bptr 3 0), (6, .int x), (7, .int y)], [(0, .bx [.nil, .int 0, .nil]), (1, .t1 [(n : Int)]), (2, .t3 (wrC n f (fun _ _ _ => 0) x y 0)), (3, .bx [.ref 1 [], .int n, .ref 2 []])]⟩) (fun y => y ≤ n) (fun y => n - y) 0 (Nat.zero_le _) (by refine And.intro ?_ rfl; simp only [leS, Nat.reduceEqDiff, ↓reduceIte, true_and, and_true]; repeat' (first | rfl | with_reducible refine And.intro ?_ ?_ | omega)) (fun y hy => ?_)
  refine gB ?_
  refine gI (fun hy2 => ?_) fun hy2 => ?_
  ·have hy : y < n := by omega
   have e0 : wrC n f (fun _ _ _ => 0) x y (n - y) = wrC n f (fun _ _ _ => 0) x y 0 := wrC_skip (fun z _ hz => by rw [ef]; exact if_neg (by omega)) (Nat.zero_le _)
   have eny : (n : Int) - y = ((n - y : Nat) : Int) := by omega
   refine ats_skip ?_
   (repeat refine ats_seq ?_); refine ats_block ?_
   refine gC fun K hK => ?_
   simp only [eny]
   (repeat refine aI (hb := ?_))
   refine hK _ ?_; clear hK K
   rw [← e0]
   (repeat refine ats_seq ?_)
   (repeat refine ats_seq ?_); refine ats_loop (fun z : Nat => ⟨[(0, .int n), (1, .int k), (4, .bptr 0 0), (5, .bptr 3 0), (6, .int x), (7, .int y), (8, .int z)], [(0, .bx [.nil, .int 0, .nil]), (1, .t1 [(n : Int)]), (2, .t3 (wrC n f (fun _ _ _ => 0) x y z)), (3, .bx [.ref 1 [], .int n, .ref 2 []])]⟩) (fun z => n - y ≤ z ∧ z ≤ n) (fun z => n - z) (n - y) ⟨Nat.le_refl _, by omega⟩ (by
    refine And.intro ?_ rfl; simp only [leS, Nat.reduceEqDiff, ↓reduceIte, true_and, and_true]
    try rfl) (fun z hz => ?_)
   obtain ⟨z1, zn⟩ := hz
   refine gB ?_
   refine gI (fun hz2 => ?_) fun hz2 => ?_
   ·have hz : z < n := by omega
    have l3 := wrC_len (n := n) (f := f) (g := fun _ _ _ => 0) (i := x) (j := y) (k := z)
    have l4 := wrC_l2 (n := n) (f := f) (g := fun _ _ _ => 0) (i := x) (j := y) (k := z) (x := x) (by omega)
    have l5 := wrC_l3 (n := n) (f := f) (g := fun _ _ _ => 0) (i := x) (j := y) (k := z) (x := x) (y := y) (by omega) (by omega)
    have sk := wrC_set (n := n) (f := f) (g := fun _ _ _ => 0) (i := x) (j := y) (k := z) hx hy
    have mb := mul_le_64 (a := (k : Int)) (b := (x : Int)) (c := 8) (by omega) (by omega) (by omega) (by omega) (by omega)
    have ev : ((k : Int) * x).tmod n = f x y z := by
     rw [ef, Int.tmod_eq_emod_of_nonneg mb.1]
     exact (if_pos (by omega)).symm
    obtain ⟨M, eM⟩ : ∃ M, (k : Int) * x = M := ⟨_, rfl⟩
    rw [eM] at mb ev
    have bv : 0 ≤ f x y z ∧ f x y z ≤ 8 := by
     rw [← ev, Int.tmod_eq_emod_of_nonneg mb.1]
     have := Int.emod_nonneg M (show (n : Int) ≠ 0 by omega)
     have := Int.emod_lt_of_pos M (show (0 : Int) < n by omega)
     omega
    refine ats_skip ?_
    (repeat refine ats_seq ?_); refine ats_block ?_
    (repeat refine ats_seq ?_); refine ats_pick (fix0 hcx) mixed (by kernel_rfl) fun K hK => ?_; simp only [go_sem, seval, l3, l4, l5, eM, ev, sk]
    (repeat refine aI (hb := ?_))
    refine hK _ ?_; clear hK K
    refine gB ?_
    refine ⟨z + 1,  ⟨by omega, by omega⟩, by omega, .inl ⟨by simp only [leS, Nat.reduceEqDiff, ↓reduceIte, true_and, and_true]; omega,  rfl⟩⟩
   ·obtain rfl : z = n := by omega
    rw [wrC_row]
    refine ats_exit (lq_x ?_)
    refine gB ?_
    refine ⟨y + 1,  by omega, by omega, .inl ⟨by simp only [leS, Nat.reduceEqDiff, ↓reduceIte, true_and, and_true]; omega,  rfl⟩⟩
  ·obtain rfl : y = n := by omega
   rw [wrC_mat]
   refine ats_exit (lq_x ?_)
   refine gB ?_
   refine ⟨x + 1,  by omega, by omega, .inl ⟨by simp only [leS, Nat.reduceEqDiff, ↓reduceIte, true_and, and_true]; omega,  rfl⟩⟩
 ·obtain rfl : x = n := by omega
  rw [wrC_end]
  refine ats_exit (lq_x ?_)
  refine gB ?_
  exact ats_ret (ownC (v := .agg [.ref 1 [], .int x, .ref 2 []]) (by simp only [go_sem, seval]) rfl (by simp))
def mixF (m k a : Nat) (x y z : Nat) : Int := if m ≤ y % m + z % m then (k : Int) * (x / m : Nat) % a else 0
set_option maxHeartbeats 8000000 in
theorem l17Mixed_ok (n m k : Nat) (n1 : 1 ≤ n) (m1 : 1 ≤ m) (h8 : n * m ≤ 8) (hk : k ≤ 8) : FreshCall Try.prog 84 [.int n, .int m, .int k] (.agg [.l1 [(n : Int), (m : Int)], .int (Nat.gcd n m : Nat), .l3 (cubF (n * m) (mixF m k (Nat.gcd n m)))]) := by
 obtain ⟨N, eN⟩ : ∃ N, n * m = N := ⟨_, rfl⟩
 have eN1 : (n : Int) * (m : Int) = (N : Int) := by rw [← eN]; exact (Int.natCast_mul _ _).symm
 rw [eN] at h8 ⊢
 have n8 : n ≤ 8 := by
  have : n * 1 ≤ n * m := Nat.mul_le_mul_left n m1
  omega
 have m8 : m ≤ 8 := by
  have : 1 * m ≤ n * m := Nat.mul_le_mul_right m n1
  omega
 obtain ⟨a, ea⟩ : ∃ a, Nat.gcd n m = a := ⟨_, rfl⟩
 have a1 : 1 ≤ a := by rw [← ea]; exact Nat.gcd_pos_of_pos_left _ n1
 have a8 : a ≤ 8 := by
  have := Nat.le_of_dvd n1 (Nat.gcd_dvd_left n m)
  omega
 rw [ea]
 obtain ⟨f, ef⟩ : ∃ f, f = mixF m k a := ⟨_, rfl⟩
 have k3 := l06Empty_ok N (by omega)
 rw [zero_wrC N f] at k3
 rw [← ef]
 refine FreshCall.intro (n := 80) (rs := [.cell 6 30]) Try.call84 Try.func84 rfl rfl rfl (by simp only [List.length_cons, List.length_nil]; omega) (fun cx hcx => ats_of ?_); simp only [argSlots, Nat.zero_add, Nat.reduceAdd]
 refine gB ?_
 refine gB ?_
 (repeat refine ats_seq ?_); refine AT.ghost (st' := ⟨[(0, .int n), (1, .int m), (2, .int k), (6, .bptr 0 0), (7, .int n), (8, .int m)], [(0, .bx [.nil, .int 0, .nil])]⟩) (ghost_can [] (by simp only [rnLs, rnL, rn, rns, sw, SlotsLe, St.get, slotGet, List.map_cons, List.map_nil, seval, AV.int.injEq, AV.bool.injEq, AV.l1.injEq, AV.l2.injEq, AV.l3.injEq, true_and, and_true]) (by simp only [sortH, insH, rnHs, rnH, rnT, rn, rns, sw, List.map_cons, List.map_nil, seval])) ?_
 (repeat refine ats_seq ?_)
 (repeat refine ats_seq ?_); refine ats_loop (fun q : Nat × Nat => ⟨[(0, .int n), (1, .int m), (2, .int k), (6, .bptr 0 0), (7, .int q.1), (8, .int q.2)], [(0, .bx [.nil, .int 0, .nil])]⟩) (fun q => Nat.gcd q.1 q.2 = a ∧ q.1 ≤ 8 ∧ q.2 ≤ 8) (fun q => q.2) (n, m) ⟨ea, n8, m8⟩ (by
  refine And.intro ?_ rfl; simp only [leS, Nat.reduceEqDiff, ↓reduceIte, true_and, and_true]
  try rfl) (fun q hq => ?_)
 obtain ⟨u, v⟩ := q
 obtain ⟨g1, g2, g3⟩ := hq
 dsimp only at g1 g2 g3 ⊢
 refine gB ?_
 refine gI (fun hv => ?_) fun hv => ?_
 ·have et : (u : Int).tmod (v : Int) = ((u % v : Nat) : Int) := by
   rw [Int.tmod_eq_emod_of_nonneg (by omega)]; exact (Int.natCast_emod u v).symm
  have hlt : u % v < v := Nat.mod_lt _ (by omega)
  have gg : Nat.gcd v (u % v) = a := by rw [← g1, Nat.gcd_comm v, ← Nat.gcd_rec, Nat.gcd_comm]
  obtain ⟨R, eR⟩ : ∃ R, u % v = R := ⟨_, rfl⟩
  rw [eR] at et hlt gg
  refine ats_skip ?_
  (repeat refine ats_seq ?_); refine ats_block ?_
  (repeat refine ats_seq ?_); refine ats_go (fix0 hcx) fun K hK => ?_; simp only [go_sem, seval, et]
  (repeat refine aI (hb := ?_))
  refine hK _ ?_; clear hK K
  refine gB ?_
  refine gB ?_
  refine ⟨(v, R),  ⟨gg, by dsimp only; omega, by dsimp only; omega⟩, by omega, .inl ⟨by simp only [leS, Nat.reduceEqDiff, ↓reduceIte, true_and, and_true]; (try omega),  rfl⟩⟩
 ·have v0 : v = 0 := by omega
  subst v0
  have eu : u = a := by rw [← g1]; exact (Nat.gcd_zero_right u).symm
  subst eu
  refine ats_exit (lq_x ?_)
  (repeat refine ats_seq ?_); refine ats_go (fix0 hcx) fun K hK => ?_; simp only [go_sem, seval, eN1]
  (repeat refine aI (hb := ?_))
  refine fcall_own rfl (k3) rfl ?_; simp only [go_sem, seval]
  (repeat refine aI (hb := ?_))
  refine hK _ ?_; clear hK K
  (repeat refine ats_seq ?_); refine AT.ghost (st' := ⟨[(0, .int n), (1, .int m), (2, .int k), (6, .bptr 0 0), (7, .int u), (10, .bptr 3 0)], [(0, .bx [.nil, .int 0, .nil]), (1, .t1 [(n : Int), (m : Int)]), (2, .t3 (wrC N f (fun _ _ _ => 0) 0 0 0)), (3, .bx [.ref 1 [], .int u, .ref 2 []])]⟩) (ghost_can [] (by simp only [rnLs, rnL, rn, rns, sw, SlotsLe, St.get, slotGet, List.map_cons, List.map_nil, seval, AV.int.injEq, AV.bool.injEq, AV.l1.injEq, AV.l2.injEq, AV.l3.injEq, true_and, and_true]) (by simp only [sortH, insH, rnHs, rnH, rnT, rn, rns, sw, List.map_cons, List.map_nil, seval])) ?_
  refine gB ?_
  (repeat refine ats_seq ?_); refine ats_loop (fun x : Nat => ⟨[(0, .int n), (1, .int m), (2, .int k), (6, .bptr 0 0), (7, .int u), (10, .bptr 3 0), (11, .int x)], [(0, .bx [.nil, .int 0, .nil]), (1, .t1 [(n : Int), (m : Int)]), (2, .t3 (wrC N f (fun _ _ _ => 0) x 0 0)), (3, .bx [.ref 1 [], .int u, .ref 2 []])]⟩) (fun x => x ≤ N) (fun x => N - x) 0 (Nat.zero_le _) (by refine And.intro ?_ rfl; simp only [leS, Nat.reduceEqDiff, ↓reduceIte, true_and, and_true]; repeat' (first | rfl | with_reducible refine And.intro ?_ ?_ | omega)) (fun x hx => ?_)
  (repeat refine ats_seq ?_); refine ats_go (fix0 hcx) fun K hK => ?_; simp only [go_sem, seval, eN1]
  (repeat refine aI (hb := ?_))
  refine hK _ ?_; clear hK K
  refine gI (fun hx2 => ?_) fun hx2 => ?_
  ·have hx : x < N := by omega
   refine ats_skip ?_
   (repeat refine ats_seq ?_); refine ats_block ?_
   refine gB ?_
   (repeat refine ats_seq ?_); refine ats_loop (fun y : Nat => ⟨[(0, .int n), (1, .int m), (2, .int k), (6, .bptr 0 0), (7, .int u), (10, .bptr 3 0), (11, .int x), (12, .int y)], [(0, .bx [.nil, .int 0, .nil]), (1, .t1 [(n : Int), (m : Int)]), (2, .t3 (wrC N f (fun _ _ _ => 0) x y 0)), (3, .bx [.ref 1 [], .int u, .ref 2 []])]⟩) (fun y => y ≤ N) (fun y => N - y) 0 (Nat.zero_le _) (by refine And.intro ?_ rfl; simp only [leS, Nat.reduceEqDiff, ↓reduceIte, true_and, and_true]; repeat' (first | rfl | with_reducible refine And.intro ?_ ?_ | omega)) (fun y hy => ?_)
   (repeat refine ats_seq ?_); refine ats_go (fix0 hcx) fun K hK => ?_; simp only [go_sem, seval, eN1]
   (repeat refine aI (hb := ?_))
   refine hK _ ?_; clear hK K
   refine gI (fun hy2 => ?_) fun hy2 => ?_
   ·have hy : y < N := by omega
    refine ats_skip ?_
    (repeat refine ats_seq ?_); refine ats_block ?_
    refine gB ?_
    (repeat refine ats_seq ?_); refine ats_loop (fun z : Nat => ⟨[(0, .int n), (1, .int m), (2, .int k), (6, .bptr 0 0), (7, .int u), (10, .bptr 3 0), (11, .int x), (12, .int y), (13, .int z)], [(0, .bx [.nil, .int 0, .nil]), (1, .t1 [(n : Int), (m : Int)]), (2, .t3 (wrC N f (fun _ _ _ => 0) x y z)), (3, .bx [.ref 1 [], .int u, .ref 2 []])]⟩) (fun z => z ≤ N) (fun z => N - z) 0 (Nat.zero_le _) (by refine And.intro ?_ rfl; simp only [leS, Nat.reduceEqDiff, ↓reduceIte, true_and, and_true]; repeat' (first | rfl | with_reducible refine And.intro ?_ ?_ | omega)) (fun z hz => ?_)
    (repeat refine ats_seq ?_); refine ats_go (fix0 hcx) fun K hK => ?_; simp only [go_sem, seval, eN1]
    (repeat refine aI (hb := ?_))
    refine hK _ ?_; clear hK K
    refine gI (fun hz2 => ?_) fun hz2 => ?_
    ·have hz : z < N := by omega
     have ey : (y : Int).tmod (m : Int) = ((y % m : Nat) : Int) := by rw [Int.tmod_eq_emod_of_nonneg (by omega)]; exact (Int.natCast_emod y m).symm
     have ez : (z : Int).tmod (m : Int) = ((z % m : Nat) : Int) := by rw [Int.tmod_eq_emod_of_nonneg (by omega)]; exact (Int.natCast_emod z m).symm
     have ly : y % m < m := Nat.mod_lt _ (by omega)
     have lz : z % m < m := Nat.mod_lt _ (by omega)
     have fv : f x y z = if m ≤ y % m + z % m then (k : Int) * (x / m : Nat) % u else 0 := by rw [ef]; rfl
     obtain ⟨Y, eY⟩ : ∃ Y, y % m = Y := ⟨_, rfl⟩
     obtain ⟨Z, eZ⟩ : ∃ Z, z % m = Z := ⟨_, rfl⟩
     rw [eY] at ey ly fv
     rw [eZ] at ez lz fv
     refine ats_skip ?_
     (repeat refine ats_seq ?_); refine ats_block ?_
     (repeat refine ats_seq ?_); refine ats_pick (fix0 hcx) mixed (by kernel_rfl) fun K hK => ?_; simp only [go_sem, seval, ey, ez]
     (repeat refine aI (hb := ?_))
     refine hK _ ?_; clear hK K
     refine gI (fun hc => ?_) fun hc => ?_
     ·have l3 := wrC_len (n := N) (f := f) (g := fun _ _ _ => 0) (i := x) (j := y) (k := z)
      have l4 := wrC_l2 (n := N) (f := f) (g := fun _ _ _ => 0) (i := x) (j := y) (k := z) (x := x) (by omega)
      have l5 := wrC_l3 (n := N) (f := f) (g := fun _ _ _ => 0) (i := x) (j := y) (k := z) (x := x) (y := y) (by omega) (by omega)
      have sk := wrC_set (n := N) (f := f) (g := fun _ _ _ => 0) (i := x) (j := y) (k := z) hx hy
      have ed : (x : Int).tdiv (m : Int) = ((x / m : Nat) : Int) := by rw [Int.tdiv_eq_ediv_of_nonneg (by omega)]; exact (Int.natCast_ediv x m).symm
      have ld : x / m ≤ 8 := by have := Nat.div_le_self x m; omega
      rw [if_pos (by omega)] at fv
      obtain ⟨D, eD⟩ : ∃ D, x / m = D := ⟨_, rfl⟩
      rw [eD] at ed ld fv
      have mb := mul_le_64 (a := (k : Int)) (b := (D : Int)) (c := 8) (by omega) (by omega) (by omega) (by omega) (by omega)
      obtain ⟨M, eM⟩ : ∃ M, (k : Int) * (D : Int) = M := ⟨_, rfl⟩
      rw [eM] at mb fv
      have ev : M.tmod u = f x y z := by rw [fv]; exact Int.tmod_eq_emod_of_nonneg mb.1
      have bv : 0 ≤ f x y z ∧ f x y z ≤ 8 := by
       rw [fv]
       have := Int.emod_nonneg M (show (u : Int) ≠ 0 by omega)
       have := Int.emod_lt_of_pos M (show (0 : Int) < u by omega)
       omega
      (repeat refine ats_seq ?_); refine ats_pick (fix0 hcx) mixed (by kernel_rfl) fun K hK => ?_; simp only [go_sem, seval, l3, l4, l5, ed, eM, ev, sk]
      (repeat refine aI (hb := ?_))
      refine hK _ ?_; clear hK K
      refine gB ?_
      refine ⟨z + 1,  by omega, by omega, .inl ⟨by simp only [leS, Nat.reduceEqDiff, ↓reduceIte, true_and, and_true]; omega,  rfl⟩⟩
     ·have e0 : wrC N f (fun _ _ _ => 0) x y (z + 1) = wrC N f (fun _ _ _ => 0) x y z := wrC_skip (fun z' h1 h2 => by
       obtain rfl : z' = z := by omega
       rw [fv, if_neg (by omega)]) (Nat.le_succ z)
      rw [← e0]
      refine ats_skip ?_
      refine gB ?_
      refine ⟨z + 1,  by omega, by omega, .inl ⟨by simp only [leS, Nat.reduceEqDiff, ↓reduceIte, true_and, and_true]; omega,  rfl⟩⟩
    ·obtain rfl : z = N := by omega
     rw [wrC_row]
     refine ats_exit (lq_x ?_)
     refine gB ?_
     refine ⟨y + 1,  by omega, by omega, .inl ⟨by simp only [leS, Nat.reduceEqDiff, ↓reduceIte, true_and, and_true]; omega,  rfl⟩⟩
   ·obtain rfl : y = N := by omega
    rw [wrC_mat]
    refine ats_exit (lq_x ?_)
    refine gB ?_
    refine ⟨x + 1,  by omega, by omega, .inl ⟨by simp only [leS, Nat.reduceEqDiff, ↓reduceIte, true_and, and_true]; omega,  rfl⟩⟩
  ·obtain rfl : x = N := by omega
   rw [wrC_end]
   refine ats_exit (lq_x ?_)
   refine gB ?_
   exact ats_ret (ownC (v := .agg [.ref 1 [], .int u, .ref 2 []]) (by simp only [go_sem, seval]) rfl (by simp))
def triF (x y z : Nat) : Int := (x / 4 : Nat) * (y / 2 % 2 : Nat) * (z % 2 : Nat)
theorem tri_bd {x y z : Nat} (hx : x < 8) : 0 ≤ triF x y z ∧ triF x y z ≤ 1 := by
 unfold triF
 have h1 : x / 4 = 0 ∨ x / 4 = 1 := by omega
 have h2 : y / 2 % 2 = 0 ∨ y / 2 % 2 = 1 := by omega
 have h3 : z % 2 = 0 ∨ z % 2 = 1 := by omega
 rcases h1 with h | h <;> rcases h2 with h' | h' <;> rcases h3 with h'' | h'' <;> rw [h, h', h''] <;> decide
set_option maxRecDepth 100000 in
set_option maxHeartbeats 4000000 in
theorem Triple_ok : FreshCall Try.prog 85 [] (.agg [.l1 [2, 2, 2], .int 2, .l3 (cubF 8 triF)]) := by
 obtain ⟨f, ef⟩ : ∃ f, f = triF := ⟨_, rfl⟩
 obtain ⟨n, en⟩ : ∃ n, n = 8 := ⟨_, rfl⟩
 have k3 := l06Empty_ok n (by omega)
 rw [zero_wrC n f] at k3
 have ei : (n : Int) = 8 := by omega
 rw [ei] at k3
 rw [← ef, ← en]
 refine FreshCall.intro (n := 40) (rs := [.cell 0 30]) Try.call85 Try.func85 rfl rfl rfl (by simp only [List.length_cons, List.length_nil]; omega) (fun cx hcx => ats_of ?_); simp only [argSlots, Nat.zero_add, Nat.reduceAdd]
 refine gB ?_
 refine gC fun K hK => ?_
 (repeat refine aI (hb := ?_))
 refine fcall_own rfl (k3) rfl ?_; simp only [go_sem, seval]
 (repeat refine aI (hb := ?_))
 refine hK _ ?_; clear hK K
 (repeat refine ats_seq ?_); refine AT.ghost (st' := ⟨[(0, .bptr 0 0), (1, .bptr 3 0)], [(0, .bx [.nil, .int 0, .nil]), (1, .t1 [2, 2, 2]), (2, .t3 (wrC n f (fun _ _ _ => 0) 0 0 0)), (3, .bx [.ref 1 [], .int 2, .ref 2 []])]⟩) (ghost_can [] (by simp only [rnLs, rnL, rn, rns, sw, SlotsLe, St.get, slotGet, List.map_cons, List.map_nil, seval, AV.int.injEq, AV.bool.injEq, AV.l1.injEq, AV.l2.injEq, AV.l3.injEq, true_and, and_true]) (by simp only [sortH, insH, rnHs, rnH, rnT, rn, rns, sw, List.map_cons, List.map_nil, seval])) ?_
 refine gB ?_
 (repeat refine ats_seq ?_); refine ats_loop (fun x : Nat => ⟨[(0, .bptr 0 0), (1, .bptr 3 0), (2, .int x)], [(0, .bx [.nil, .int 0, .nil]), (1, .t1 [2, 2, 2]), (2, .t3 (wrC n f (fun _ _ _ => 0) x 0 0)), (3, .bx [.ref 1 [], .int 2, .ref 2 []])]⟩) (fun x => x ≤ n) (fun x => n - x) 0 (Nat.zero_le _) (by refine And.intro ?_ rfl; simp only [leS, Nat.reduceEqDiff, ↓reduceIte, true_and, and_true]; repeat' (first | rfl | with_reducible refine And.intro ?_ ?_ | omega)) (fun x hx => ?_)
 refine gB ?_
 refine gI (fun hx2 => ?_) fun hx2 => ?_
 ·have hx : x < n := by omega
  refine ats_skip ?_
  (repeat refine ats_seq ?_); refine ats_block ?_
  refine gB ?_
  (repeat refine ats_seq ?_); refine ats_loop (fun y : Nat => ⟨[(0, .bptr 0 0), (1, .bptr 3 0), (2, .int x), (3, .int y)], [(0, .bx [.nil, .int 0, .nil]), (1, .t1 [2, 2, 2]), (2, .t3 (wrC n f (fun _ _ _ => 0) x y 0)), (3, .bx [.ref 1 [], .int 2, .ref 2 []])]⟩) (fun y => y ≤ n) (fun y => n - y) 0 (Nat.zero_le _) (by refine And.intro ?_ rfl; simp only [leS, Nat.reduceEqDiff, ↓reduceIte, true_and, and_true]; repeat' (first | rfl | with_reducible refine And.intro ?_ ?_ | omega)) (fun y hy => ?_)
  refine gB ?_
  refine gI (fun hy2 => ?_) fun hy2 => ?_
  ·have hy : y < n := by omega
   refine ats_skip ?_
   (repeat refine ats_seq ?_); refine ats_block ?_
   refine gB ?_
   (repeat refine ats_seq ?_); refine ats_loop (fun z : Nat => ⟨[(0, .bptr 0 0), (1, .bptr 3 0), (2, .int x), (3, .int y), (4, .int z)], [(0, .bx [.nil, .int 0, .nil]), (1, .t1 [2, 2, 2]), (2, .t3 (wrC n f (fun _ _ _ => 0) x y z)), (3, .bx [.ref 1 [], .int 2, .ref 2 []])]⟩) (fun z => z ≤ n) (fun z => n - z) 0 (Nat.zero_le _) (by refine And.intro ?_ rfl; simp only [leS, Nat.reduceEqDiff, ↓reduceIte, true_and, and_true]; repeat' (first | rfl | with_reducible refine And.intro ?_ ?_ | omega)) (fun z hz => ?_)
   refine gB ?_
   refine gI (fun hz2 => ?_) fun hz2 => ?_
   ·have hz : z < n := by omega
    have l3 := wrC_len (n := n) (f := f) (g := fun _ _ _ => 0) (i := x) (j := y) (k := z)
    have l4 := wrC_l2 (n := n) (f := f) (g := fun _ _ _ => 0) (i := x) (j := y) (k := z) (x := x) (by omega)
    have l5 := wrC_l3 (n := n) (f := f) (g := fun _ _ _ => 0) (i := x) (j := y) (k := z) (x := x) (y := y) (by omega) (by omega)
    have sk := wrC_set (n := n) (f := f) (g := fun _ _ _ => 0) (i := x) (j := y) (k := z) hx hy
    have e1 : (x : Int).tdiv 4 = ((x / 4 : Nat) : Int) := by rw [Int.tdiv_eq_ediv_of_nonneg (by omega)]; omega
    have e2 : (y : Int).tdiv 2 = ((y / 2 : Nat) : Int) := by rw [Int.tdiv_eq_ediv_of_nonneg (by omega)]; omega
    have e3 : ((y / 2 : Nat) : Int).tmod 2 = ((y / 2 % 2 : Nat) : Int) := by rw [Int.tmod_eq_emod_of_nonneg (by omega)]; omega
    have e4 : (z : Int).tmod 2 = ((z % 2 : Nat) : Int) := by rw [Int.tmod_eq_emod_of_nonneg (by omega)]; omega
    have b1 : x / 4 ≤ 1 := by omega
    have b2 : y / 2 % 2 ≤ 1 := by omega
    have b3 : z % 2 ≤ 1 := by omega
    have b4 : y / 2 ≤ 8 := by omega
    have m1 := mul_le_64 (a := ((x / 4 : Nat) : Int)) (b := ((y / 2 % 2 : Nat) : Int)) (c := 8) (by omega) (by omega) (by omega) (by omega) (by omega)
    have ev : ((x / 4 : Nat) : Int) * ((y / 2 % 2 : Nat) : Int) * ((z % 2 : Nat) : Int) = f x y z := by rw [ef]; rfl
    have bv : 0 ≤ f x y z ∧ f x y z ≤ 1 := by rw [ef]; exact tri_bd (by omega)
    obtain ⟨A, eA⟩ : ∃ A, x / 4 = A := ⟨_, rfl⟩
    obtain ⟨B, eB⟩ : ∃ B, y / 2 = B := ⟨_, rfl⟩
    rw [eA] at e1 b1 m1 ev
    rw [eB] at e2 e3 b2 b4 m1 ev
    obtain ⟨C, eC⟩ : ∃ C, B % 2 = C := ⟨_, rfl⟩
    obtain ⟨D, eD⟩ : ∃ D, z % 2 = D := ⟨_, rfl⟩
    rw [eC] at e3 b2 m1 ev
    rw [eD] at e4 b3 ev
    obtain ⟨M, eM⟩ : ∃ M, (A : Int) * (C : Int) = M := ⟨_, rfl⟩
    rw [eM] at m1 ev
    clear eA eB eC eD
    refine ats_skip ?_
    (repeat refine ats_seq ?_); refine ats_block ?_
    (repeat refine ats_seq ?_); refine ats_go (fix0 hcx) fun K hK => ?_; simp only [go_sem, seval, l3, l4, l5, e1, e2, e3, e4, eM, ev, sk]
    (repeat refine aI (hb := ?_))
    refine hK _ ?_; clear hK K
    refine gB ?_
    refine ⟨z + 1,  by omega, by omega, .inl ⟨by simp only [leS, Nat.reduceEqDiff, ↓reduceIte, true_and, and_true]; omega,  rfl⟩⟩
   ·obtain rfl : z = n := by omega
    rw [wrC_row]
    refine ats_exit (lq_x ?_)
    refine gB ?_
    refine ⟨y + 1,  by omega, by omega, .inl ⟨by simp only [leS, Nat.reduceEqDiff, ↓reduceIte, true_and, and_true]; omega,  rfl⟩⟩
  ·obtain rfl : y = n := by omega
   rw [wrC_mat]
   refine ats_exit (lq_x ?_)
   refine gB ?_
   refine ⟨x + 1,  by omega, by omega, .inl ⟨by simp only [leS, Nat.reduceEqDiff, ↓reduceIte, true_and, and_true]; omega,  rfl⟩⟩
 ·obtain rfl : x = n := by omega
  rw [wrC_end]
  refine ats_exit (lq_x ?_)
  refine gB ?_
  exact ats_ret (ownC (v := .agg [.ref 1 [], .int 2, .ref 2 []]) (by simp only [go_sem, seval]) rfl (by simp))
end Go.Proofs.Ytcmgjlgmajhekaa
namespace Go.Proofs.Ytcmgjlgmajhekaa
open Go Go.Aw Go.Pl
attribute [local go_sem] pl_fin pl_stop pl_one pl_alt PK_ap pickO List.getElem?_toArray List.getElem?_cons_zero List.getElem?_cons_succ
set_option maxRecDepth 100000 in
set_option maxHeartbeats 8000000 in
theorem l17SumF_ok (o : List Int) (m : Int) (w : List (List (List Int))) (o' : List Int) (w' : List (List (List Int))) (h : CocS o m w) (hn : w'.length = w.length) (h' : CubB w.length m w') (hl : o.length ≤ 1048576) : FreshCall Try.prog 86 [.agg [.l1 o, .int m, .l3 w], .agg [.l1 o', .int m, .l3 w']] (.agg [.l1 o, .int m, .l3 (sumW m w.length w w')]) := by
 have n8 := h.n8
 have m1 := h.2.2.1
 have m2 := h.2.2.2.1
 have hc := h.2.2.2.2.2
 have k1 := bOwn_ok o (by omega)
 have k2 := bOwn3_ok w m n8.2 hc
 obtain ⟨f, ef⟩ : ∃ f : Nat → Nat → Nat → Int, f = fun i j k => (e3 w i j k + e3 w' i j k) % m := ⟨_, rfl⟩
 have e0 : w = wrC w.length f (e3 w) 0 0 0 := by rw [wrC_zero, cubF_own hc]
 have es : sumW m w.length w w' = cubF w.length f := by unfold sumW; rw [ef]
 have k3 : FreshCall Try.prog 90 [.l3 w] (.l3 (wrC w.length f (e3 w) 0 0 0)) := by rw [← e0]; exact k2
 rw [es]
 clear e0 es
 obtain ⟨g, eg⟩ : ∃ g : Nat → Nat → Nat → Int, g = e3 w := ⟨_, rfl⟩
 rw [← eg] at k3
 obtain ⟨n, en⟩ : ∃ n, w.length = n := ⟨_, rfl⟩
 rw [en] at k3 h' hc n8 hn ⊢
 refine FreshCall.intro (n := 76) (rs := [.cell 4 30]) Try.call86 Try.func86 rfl rfl rfl (by simp only [List.length_cons, List.length_nil]; omega) (fun cx hcx => ats_of ?_); simp only [argSlots, Nat.zero_add, Nat.reduceAdd]
 refine gA ?_
 (repeat refine ats_seq ?_)
 refine ats_planG [2, 7] (.one 0 (.one 1 (.alt 2 (.one 5 (.one 6 (.alt 3 (.alt 4 (.alt 7 (.one 8 (.alt 9 (.alt 10 .fin .stop) .stop)) (.alt 9 (.alt 7 (.one 8 (.alt 10 .fin .stop)) .stop) .stop)) (.alt 7 (.one 4 (.one 8 (.alt 9 (.alt 10 .fin .stop) .stop))) (.alt 9 (.alt 4 (.alt 7 (.one 8 (.alt 10 .fin .stop)) .stop) (.alt 7 (.one 4 (.one 8 (.alt 10 .fin .stop))) .stop)) .stop))) (.alt 7 (.one 3 (.one 4 (.one 8 (.alt 9 (.alt 10 .fin .stop) .stop)))) (.alt 9 (.alt 3 (.alt 4 (.alt 7 (.one 8 (.alt 10 .fin .stop)) .stop) (.alt 7 (.one 4 (.one 8 (.alt 10 .fin .stop))) .stop)) (.alt 7 (.one 3 (.one 4 (.one 8 (.alt 10 .fin .stop)))) .stop)) .stop))))) (.alt 3 (.alt 2 (.one 5 (.one 6 (.alt 4 (.alt 7 (.one 8 (.alt 9 (.alt 10 .fin .stop) .stop)) (.alt 9 (.alt 7 (.one 8 (.alt 10 .fin .stop)) .stop) .stop)) (.alt 7 (.one 4 (.one 8 (.alt 9 (.alt 10 .fin .stop) .stop))) (.alt 9 (.alt 4 (.alt 7 (.one 8 (.alt 10 .fin .stop)) .stop) (.alt 7 (.one 4 (.one 8 (.alt 10 .fin .stop))) .stop)) .stop))))) (.alt 4 (.alt 2 (.one 5 (.one 6 (.alt 7 (.one 8 (.alt 9 (.alt 10 .fin .stop) .stop)) (.alt 9 (.alt 7 (.one 8 (.alt 10 .fin .stop)) .stop) .stop)))) (.alt 5 (.alt 2 (.one 6 (.alt 7 (.one 8 (.alt 9 (.alt 10 .fin .stop) .stop)) (.alt 9 (.alt 7 (.one 8 (.alt 10 .fin .stop)) .stop) .stop))) (.alt 6 (.alt 2 (.alt 7 (.one 8 (.alt 9 (.alt 10 .fin .stop) .stop)) (.alt 9 (.alt 7 (.one 8 (.alt 10 .fin .stop)) .stop) .stop)) (.alt 9 (.alt 2 (.alt 7 (.one 8 (.alt 10 .fin .stop)) .stop) .stop) .stop)) (.alt 9 (.alt 2 (.one 6 (.alt 7 (.one 8 (.alt 10 .fin .stop)) .stop)) (.alt 6 (.alt 2 (.alt 7 (.one 8 (.alt 10 .fin .stop)) .stop) .stop) .stop)) .stop))) (.alt 9 (.alt 2 (.one 5 (.one 6 (.alt 7 (.one 8 (.alt 10 .fin .stop)) .stop))) (.alt 5 (.alt 2 (.one 6 (.alt 7 (.one 8 (.alt 10 .fin .stop)) .stop)) (.alt 6 (.alt 2 (.alt 7 (.one 8 (.alt 10 .fin .stop)) .stop) .stop) .stop)) .stop)) .stop))) (.alt 5 (.alt 2 (.one 6 (.alt 4 (.alt 7 (.one 8 (.alt 9 (.alt 10 .fin .stop) .stop)) (.alt 9 (.alt 7 (.one 8 (.alt 10 .fin .stop)) .stop) .stop)) (.alt 7 (.one 4 (.one 8 (.alt 9 (.alt 10 .fin .stop) .stop))) (.alt 9 (.alt 4 (.alt 7 (.one 8 (.alt 10 .fin .stop)) .stop) (.alt 7 (.one 4 (.one 8 (.alt 10 .fin .stop))) .stop)) .stop)))) (.alt 4 (.alt 2 (.one 6 (.alt 7 (.one 8 (.alt 9 (.alt 10 .fin .stop) .stop)) (.alt 9 (.alt 7 (.one 8 (.alt 10 .fin .stop)) .stop) .stop))) (.alt 6 (.alt 2 (.alt 7 (.one 8 (.alt 9 (.alt 10 .fin .stop) .stop)) (.alt 9 (.alt 7 (.one 8 (.alt 10 .fin .stop)) .stop) .stop)) (.alt 9 (.alt 2 (.alt 7 (.one 8 (.alt 10 .fin .stop)) .stop) .stop) .stop)) (.alt 9 (.alt 2 (.one 6 (.alt 7 (.one 8 (.alt 10 .fin .stop)) .stop)) (.alt 6 (.alt 2 (.alt 7 (.one 8 (.alt 10 .fin .stop)) .stop) .stop) .stop)) .stop))) (.alt 6 (.alt 2 (.alt 4 (.alt 7 (.one 8 (.alt 9 (.alt 10 .fin .stop) .stop)) (.alt 9 (.alt 7 (.one 8 (.alt 10 .fin .stop)) .stop) .stop)) (.alt 7 (.one 4 (.one 8 (.alt 9 (.alt 10 .fin .stop) .stop))) (.alt 9 (.alt 4 (.alt 7 (.one 8 (.alt 10 .fin .stop)) .stop) (.alt 7 (.one 4 (.one 8 (.alt 10 .fin .stop))) .stop)) .stop))) (.alt 4 (.alt 2 (.alt 7 (.one 8 (.alt 9 (.alt 10 .fin .stop) .stop)) (.alt 9 (.alt 7 (.one 8 (.alt 10 .fin .stop)) .stop) .stop)) (.alt 9 (.alt 2 (.alt 7 (.one 8 (.alt 10 .fin .stop)) .stop) .stop) .stop)) (.alt 9 (.alt 2 (.alt 4 (.alt 7 (.one 8 (.alt 10 .fin .stop)) .stop) (.alt 7 (.one 4 (.one 8 (.alt 10 .fin .stop))) .stop)) (.alt 4 (.alt 2 (.alt 7 (.one 8 (.alt 10 .fin .stop)) .stop) .stop) .stop)) .stop))) (.alt 9 (.alt 2 (.one 6 (.alt 4 (.alt 7 (.one 8 (.alt 10 .fin .stop)) .stop) (.alt 7 (.one 4 (.one 8 (.alt 10 .fin .stop))) .stop))) (.alt 4 (.alt 2 (.one 6 (.alt 7 (.one 8 (.alt 10 .fin .stop)) .stop)) (.alt 6 (.alt 2 (.alt 7 (.one 8 (.alt 10 .fin .stop)) .stop) .stop) .stop)) (.alt 6 (.alt 2 (.alt 4 (.alt 7 (.one 8 (.alt 10 .fin .stop)) .stop) (.alt 7 (.one 4 (.one 8 (.alt 10 .fin .stop))) .stop)) (.alt 4 (.alt 2 (.alt 7 (.one 8 (.alt 10 .fin .stop)) .stop) .stop) .stop)) .stop))) .stop)))) (.alt 9 (.alt 2 (.one 5 (.one 6 (.alt 4 (.alt 7 (.one 8 (.alt 10 .fin .stop)) .stop) (.alt 7 (.one 4 (.one 8 (.alt 10 .fin .stop))) .stop)))) (.alt 4 (.alt 2 (.one 5 (.one 6 (.alt 7 (.one 8 (.alt 10 .fin .stop)) .stop))) (.alt 5 (.alt 2 (.one 6 (.alt 7 (.one 8 (.alt 10 .fin .stop)) .stop)) (.alt 6 (.alt 2 (.alt 7 (.one 8 (.alt 10 .fin .stop)) .stop) .stop) .stop)) .stop)) (.alt 5 (.alt 2 (.one 6 (.alt 4 (.alt 7 (.one 8 (.alt 10 .fin .stop)) .stop) (.alt 7 (.one 4 (.one 8 (.alt 10 .fin .stop))) .stop))) (.alt 4 (.alt 2 (.one 6 (.alt 7 (.one 8 (.alt 10 .fin .stop)) .stop)) (.alt 6 (.alt 2 (.alt 7 (.one 8 (.alt 10 .fin .stop)) .stop) .stop) .stop)) (.alt 6 (.alt 2 (.alt 4 (.alt 7 (.one 8 (.alt 10 .fin .stop)) .stop) (.alt 7 (.one 4 (.one 8 (.alt 10 .fin .stop))) .stop)) (.alt 4 (.alt 2 (.alt 7 (.one 8 (.alt 10 .fin .stop)) .stop) .stop) .stop)) .stop))) .stop))) .stop)))) (.alt 5 (.alt 2 (.one 6 (.alt 3 (.alt 4 (.alt 7 (.one 8 (.alt 9 (.alt 10 .fin .stop) .stop)) (.alt 9 (.alt 7 (.one 8 (.alt 10 .fin .stop)) .stop) .stop)) (.alt 7 (.one 4 (.one 8 (.alt 9 (.alt 10 .fin .stop) .stop))) (.alt 9 (.alt 4 (.alt 7 (.one 8 (.alt 10 .fin .stop)) .stop) (.alt 7 (.one 4 (.one 8 (.alt 10 .fin .stop))) .stop)) .stop))) (.alt 7 (.one 3 (.one 4 (.one 8 (.alt 9 (.alt 10 .fin .stop) .stop)))) (.alt 9 (.alt 3 (.alt 4 (.alt 7 (.one 8 (.alt 10 .fin .stop)) .stop) (.alt 7 (.one 4 (.one 8 (.alt 10 .fin .stop))) .stop)) (.alt 7 (.one 3 (.one 4 (.one 8 (.alt 10 .fin .stop)))) .stop)) .stop)))) (.alt 3 (.alt 2 (.one 6 (.alt 4 (.alt 7 (.one 8 (.alt 9 (.alt 10 .fin .stop) .stop)) (.alt 9 (.alt 7 (.one 8 (.alt 10 .fin .stop)) .stop) .stop)) (.alt 7 (.one 4 (.one 8 (.alt 9 (.alt 10 .fin .stop) .stop))) (.alt 9 (.alt 4 (.alt 7 (.one 8 (.alt 10 .fin .stop)) .stop) (.alt 7 (.one 4 (.one 8 (.alt 10 .fin .stop))) .stop)) .stop)))) (.alt 4 (.alt 2 (.one 6 (.alt 7 (.one 8 (.alt 9 (.alt 10 .fin .stop) .stop)) (.alt 9 (.alt 7 (.one 8 (.alt 10 .fin .stop)) .stop) .stop))) (.alt 6 (.alt 2 (.alt 7 (.one 8 (.alt 9 (.alt 10 .fin .stop) .stop)) (.alt 9 (.alt 7 (.one 8 (.alt 10 .fin .stop)) .stop) .stop)) (.alt 9 (.alt 2 (.alt 7 (.one 8 (.alt 10 .fin .stop)) .stop) .stop) .stop)) (.alt 9 (.alt 2 (.one 6 (.alt 7 (.one 8 (.alt 10 .fin .stop)) .stop)) (.alt 6 (.alt 2 (.alt 7 (.one 8 (.alt 10 .fin .stop)) .stop) .stop) .stop)) .stop))) (.alt 6 (.alt 2 (.alt 4 (.alt 7 (.one 8 (.alt 9 (.alt 10 .fin .stop) .stop)) (.alt 9 (.alt 7 (.one 8 (.alt 10 .fin .stop)) .stop) .stop)) (.alt 7 (.one 4 (.one 8 (.alt 9 (.alt 10 .fin .stop) .stop))) (.alt 9 (.alt 4 (.alt 7 (.one 8 (.alt 10 .fin .stop)) .stop) (.alt 7 (.one 4 (.one 8 (.alt 10 .fin .stop))) .stop)) .stop))) (.alt 4 (.alt 2 (.alt 7 (.one 8 (.alt 9 (.alt 10 .fin .stop) .stop)) (.alt 9 (.alt 7 (.one 8 (.alt 10 .fin .stop)) .stop) .stop)) (.alt 9 (.alt 2 (.alt 7 (.one 8 (.alt 10 .fin .stop)) .stop) .stop) .stop)) (.alt 9 (.alt 2 (.alt 4 (.alt 7 (.one 8 (.alt 10 .fin .stop)) .stop) (.alt 7 (.one 4 (.one 8 (.alt 10 .fin .stop))) .stop)) (.alt 4 (.alt 2 (.alt 7 (.one 8 (.alt 10 .fin .stop)) .stop) .stop) .stop)) .stop))) (.alt 9 (.alt 2 (.one 6 (.alt 4 (.alt 7 (.one 8 (.alt 10 .fin .stop)) .stop) (.alt 7 (.one 4 (.one 8 (.alt 10 .fin .stop))) .stop))) (.alt 4 (.alt 2 (.one 6 (.alt 7 (.one 8 (.alt 10 .fin .stop)) .stop)) (.alt 6 (.alt 2 (.alt 7 (.one 8 (.alt 10 .fin .stop)) .stop) .stop) .stop)) (.alt 6 (.alt 2 (.alt 4 (.alt 7 (.one 8 (.alt 10 .fin .stop)) .stop) (.alt 7 (.one 4 (.one 8 (.alt 10 .fin .stop))) .stop)) (.alt 4 (.alt 2 (.alt 7 (.one 8 (.alt 10 .fin .stop)) .stop) .stop) .stop)) .stop))) .stop)))) (.alt 6 (.alt 2 (.alt 3 (.alt 4 (.alt 7 (.one 8 (.alt 9 (.alt 10 .fin .stop) .stop)) (.alt 9 (.alt 7 (.one 8 (.alt 10 .fin .stop)) .stop) .stop)) (.alt 7 (.one 4 (.one 8 (.alt 9 (.alt 10 .fin .stop) .stop))) (.alt 9 (.alt 4 (.alt 7 (.one 8 (.alt 10 .fin .stop)) .stop) (.alt 7 (.one 4 (.one 8 (.alt 10 .fin .stop))) .stop)) .stop))) (.alt 7 (.one 3 (.one 4 (.one 8 (.alt 9 (.alt 10 .fin .stop) .stop)))) (.alt 9 (.alt 3 (.alt 4 (.alt 7 (.one 8 (.alt 10 .fin .stop)) .stop) (.alt 7 (.one 4 (.one 8 (.alt 10 .fin .stop))) .stop)) (.alt 7 (.one 3 (.one 4 (.one 8 (.alt 10 .fin .stop)))) .stop)) .stop))) (.alt 3 (.alt 2 (.alt 4 (.alt 7 (.one 8 (.alt 9 (.alt 10 .fin .stop) .stop)) (.alt 9 (.alt 7 (.one 8 (.alt 10 .fin .stop)) .stop) .stop)) (.alt 7 (.one 4 (.one 8 (.alt 9 (.alt 10 .fin .stop) .stop))) (.alt 9 (.alt 4 (.alt 7 (.one 8 (.alt 10 .fin .stop)) .stop) (.alt 7 (.one 4 (.one 8 (.alt 10 .fin .stop))) .stop)) .stop))) (.alt 4 (.alt 2 (.alt 7 (.one 8 (.alt 9 (.alt 10 .fin .stop) .stop)) (.alt 9 (.alt 7 (.one 8 (.alt 10 .fin .stop)) .stop) .stop)) (.alt 9 (.alt 2 (.alt 7 (.one 8 (.alt 10 .fin .stop)) .stop) .stop) .stop)) (.alt 9 (.alt 2 (.alt 4 (.alt 7 (.one 8 (.alt 10 .fin .stop)) .stop) (.alt 7 (.one 4 (.one 8 (.alt 10 .fin .stop))) .stop)) (.alt 4 (.alt 2 (.alt 7 (.one 8 (.alt 10 .fin .stop)) .stop) .stop) .stop)) .stop))) (.alt 9 (.alt 2 (.alt 3 (.alt 4 (.alt 7 (.one 8 (.alt 10 .fin .stop)) .stop) (.alt 7 (.one 4 (.one 8 (.alt 10 .fin .stop))) .stop)) (.alt 7 (.one 3 (.one 4 (.one 8 (.alt 10 .fin .stop)))) .stop)) (.alt 3 (.alt 2 (.alt 4 (.alt 7 (.one 8 (.alt 10 .fin .stop)) .stop) (.alt 7 (.one 4 (.one 8 (.alt 10 .fin .stop))) .stop)) (.alt 4 (.alt 2 (.alt 7 (.one 8 (.alt 10 .fin .stop)) .stop) .stop) .stop)) .stop)) .stop))) (.alt 9 (.alt 2 (.one 6 (.alt 3 (.alt 4 (.alt 7 (.one 8 (.alt 10 .fin .stop)) .stop) (.alt 7 (.one 4 (.one 8 (.alt 10 .fin .stop))) .stop)) (.alt 7 (.one 3 (.one 4 (.one 8 (.alt 10 .fin .stop)))) .stop))) (.alt 3 (.alt 2 (.one 6 (.alt 4 (.alt 7 (.one 8 (.alt 10 .fin .stop)) .stop) (.alt 7 (.one 4 (.one 8 (.alt 10 .fin .stop))) .stop))) (.alt 4 (.alt 2 (.one 6 (.alt 7 (.one 8 (.alt 10 .fin .stop)) .stop)) (.alt 6 (.alt 2 (.alt 7 (.one 8 (.alt 10 .fin .stop)) .stop) .stop) .stop)) (.alt 6 (.alt 2 (.alt 4 (.alt 7 (.one 8 (.alt 10 .fin .stop)) .stop) (.alt 7 (.one 4 (.one 8 (.alt 10 .fin .stop))) .stop)) (.alt 4 (.alt 2 (.alt 7 (.one 8 (.alt 10 .fin .stop)) .stop) .stop) .stop)) .stop))) (.alt 6 (.alt 2 (.alt 3 (.alt 4 (.alt 7 (.one 8 (.alt 10 .fin .stop)) .stop) (.alt 7 (.one 4 (.one 8 (.alt 10 .fin .stop))) .stop)) (.alt 7 (.one 3 (.one 4 (.one 8 (.alt 10 .fin .stop)))) .stop)) (.alt 3 (.alt 2 (.alt 4 (.alt 7 (.one 8 (.alt 10 .fin .stop)) .stop) (.alt 7 (.one 4 (.one 8 (.alt 10 .fin .stop))) .stop)) (.alt 4 (.alt 2 (.alt 7 (.one 8 (.alt 10 .fin .stop)) .stop) .stop) .stop)) .stop)) .stop))) .stop)))) (.alt 9 (.alt 2 (.one 5 (.one 6 (.alt 3 (.alt 4 (.alt 7 (.one 8 (.alt 10 .fin .stop)) .stop) (.alt 7 (.one 4 (.one 8 (.alt 10 .fin .stop))) .stop)) (.alt 7 (.one 3 (.one 4 (.one 8 (.alt 10 .fin .stop)))) .stop)))) (.alt 3 (.alt 2 (.one 5 (.one 6 (.alt 4 (.alt 7 (.one 8 (.alt 10 .fin .stop)) .stop) (.alt 7 (.one 4 (.one 8 (.alt 10 .fin .stop))) .stop)))) (.alt 4 (.alt 2 (.one 5 (.one 6 (.alt 7 (.one 8 (.alt 10 .fin .stop)) .stop))) (.alt 5 (.alt 2 (.one 6 (.alt 7 (.one 8 (.alt 10 .fin .stop)) .stop)) (.alt 6 (.alt 2 (.alt 7 (.one 8 (.alt 10 .fin .stop)) .stop) .stop) .stop)) .stop)) (.alt 5 (.alt 2 (.one 6 (.alt 4 (.alt 7 (.one 8 (.alt 10 .fin .stop)) .stop) (.alt 7 (.one 4 (.one 8 (.alt 10 .fin .stop))) .stop))) (.alt 4 (.alt 2 (.one 6 (.alt 7 (.one 8 (.alt 10 .fin .stop)) .stop)) (.alt 6 (.alt 2 (.alt 7 (.one 8 (.alt 10 .fin .stop)) .stop) .stop) .stop)) (.alt 6 (.alt 2 (.alt 4 (.alt 7 (.one 8 (.alt 10 .fin .stop)) .stop) (.alt 7 (.one 4 (.one 8 (.alt 10 .fin .stop))) .stop)) (.alt 4 (.alt 2 (.alt 7 (.one 8 (.alt 10 .fin .stop)) .stop) .stop) .stop)) .stop))) .stop))) (.alt 5 (.alt 2 (.one 6 (.alt 3 (.alt 4 (.alt 7 (.one 8 (.alt 10 .fin .stop)) .stop) (.alt 7 (.one 4 (.one 8 (.alt 10 .fin .stop))) .stop)) (.alt 7 (.one 3 (.one 4 (.one 8 (.alt 10 .fin .stop)))) .stop))) (.alt 3 (.alt 2 (.one 6 (.alt 4 (.alt 7 (.one 8 (.alt 10 .fin .stop)) .stop) (.alt 7 (.one 4 (.one 8 (.alt 10 .fin .stop))) .stop))) (.alt 4 (.alt 2 (.one 6 (.alt 7 (.one 8 (.alt 10 .fin .stop)) .stop)) (.alt 6 (.alt 2 (.alt 7 (.one 8 (.alt 10 .fin .stop)) .stop) .stop) .stop)) (.alt 6 (.alt 2 (.alt 4 (.alt 7 (.one 8 (.alt 10 .fin .stop)) .stop) (.alt 7 (.one 4 (.one 8 (.alt 10 .fin .stop))) .stop)) (.alt 4 (.alt 2 (.alt 7 (.one 8 (.alt 10 .fin .stop)) .stop) .stop) .stop)) .stop))) (.alt 6 (.alt 2 (.alt 3 (.alt 4 (.alt 7 (.one 8 (.alt 10 .fin .stop)) .stop) (.alt 7 (.one 4 (.one 8 (.alt 10 .fin .stop))) .stop)) (.alt 7 (.one 3 (.one 4 (.one 8 (.alt 10 .fin .stop)))) .stop)) (.alt 3 (.alt 2 (.alt 4 (.alt 7 (.one 8 (.alt 10 .fin .stop)) .stop) (.alt 7 (.one 4 (.one 8 (.alt 10 .fin .stop))) .stop)) (.alt 4 (.alt 2 (.alt 7 (.one 8 (.alt 10 .fin .stop)) .stop) .stop) .stop)) .stop)) .stop))) .stop))) .stop)))))) ⟨[(2, .bptr 0 0), (3, .bptr 1 0), (4, .bptr 2 0), (5, .bptr 5 0)], [(0, .bx [.l1 o, .int m, .l3 w]), (1, .bx [.l1 o', .int m, .l3 w']), (2, .bx [.nil, .int 0, .nil]), (3, .t1 o), (4, .t3 (wrC n f g 0 0 0)), (5, .bx [.ref 3 [], .int m, .ref 4 []])]⟩ (fix0 hcx) mixed (by kernel_rfl) (fun K hK => ?_) ?_
 ·simp only [go_sem, seval, Option.getD_some, and_true, true_and, and_self, List.contains_cons, List.contains_nil, Bool.or_false, Bool.or_true]
  repeat' (first | (refine hK _ (ghost_can [] ?_ ?_); (focus (simp only [rnLs, rnL, rn, rns, sw, SlotsLe, St.get, slotGet, List.map_cons, List.map_nil, seval, AV.int.injEq, AV.bool.injEq, AV.l1.injEq, AV.l2.injEq, AV.l3.injEq, true_and, and_true]; done)); (focus (simp only [sortH, insH, rnHs, rnH, rnT, rn, rns, sw, List.map_cons, List.map_nil, seval]; done))) | (refine hK _ (ghost_can [(3, 4)] ?_ ?_); (focus (simp only [rnLs, rnL, rn, rns, sw, SlotsLe, St.get, slotGet, List.map_cons, List.map_nil, seval, AV.int.injEq, AV.bool.injEq, AV.l1.injEq, AV.l2.injEq, AV.l3.injEq, true_and, and_true]; done)); (focus (simp only [sortH, insH, rnHs, rnH, rnT, rn, rns, sw, List.map_cons, List.map_nil, seval]; done))) | (refine hK _ (ghost_can [(3, 5)] ?_ ?_); (focus (simp only [rnLs, rnL, rn, rns, sw, SlotsLe, St.get, slotGet, List.map_cons, List.map_nil, seval, AV.int.injEq, AV.bool.injEq, AV.l1.injEq, AV.l2.injEq, AV.l3.injEq, true_and, and_true]; done)); (focus (simp only [sortH, insH, rnHs, rnH, rnT, rn, rns, sw, List.map_cons, List.map_nil, seval]; done))) | (refine hK _ (ghost_can [(4, 5)] ?_ ?_); (focus (simp only [rnLs, rnL, rn, rns, sw, SlotsLe, St.get, slotGet, List.map_cons, List.map_nil, seval, AV.int.injEq, AV.bool.injEq, AV.l1.injEq, AV.l2.injEq, AV.l3.injEq, true_and, and_true]; done)); (focus (simp only [sortH, insH, rnHs, rnH, rnT, rn, rns, sw, List.map_cons, List.map_nil, seval]; done))) | (refine hK _ (ghost_can [(3, 4), (4, 5)] ?_ ?_); (focus (simp only [rnLs, rnL, rn, rns, sw, SlotsLe, St.get, slotGet, List.map_cons, List.map_nil, seval, AV.int.injEq, AV.bool.injEq, AV.l1.injEq, AV.l2.injEq, AV.l3.injEq, true_and, and_true]; done)); (focus (simp only [sortH, insH, rnHs, rnH, rnT, rn, rns, sw, List.map_cons, List.map_nil, seval]; done))) | (refine hK _ (ghost_can [(4, 5), (3, 4)] ?_ ?_); (focus (simp only [rnLs, rnL, rn, rns, sw, SlotsLe, St.get, slotGet, List.map_cons, List.map_nil, seval, AV.int.injEq, AV.bool.injEq, AV.l1.injEq, AV.l2.injEq, AV.l3.injEq, true_and, and_true]; done)); (focus (simp only [sortH, insH, rnHs, rnH, rnT, rn, rns, sw, List.map_cons, List.map_nil, seval]; done))) | with_reducible refine And.intro ?_ ?_ | omega | (refine fcall_own rfl (k1) rfl ?_; simp only [go_sem, seval, Option.getD_some, and_true, true_and, and_self, List.contains_cons, List.contains_nil, Bool.or_false, Bool.or_true]) | (refine fcall_own rfl (k3) rfl ?_; simp only [go_sem, seval, Option.getD_some, and_true, true_and, and_self, List.contains_cons, List.contains_nil, Bool.or_false, Bool.or_true]))
 refine gB ?_
 (repeat refine ats_seq ?_); refine ats_loop (fun i : Nat => ⟨[(2, .bptr 0 0), (3, .bptr 1 0), (4, .bptr 2 0), (5, .bptr 5 0), (6, .int i)], [(0, .bx [.l1 o, .int m, .l3 w]), (1, .bx [.l1 o', .int m, .l3 w']), (2, .bx [.nil, .int 0, .nil]), (3, .t1 o), (4, .t3 (wrC n f g i 0 0)), (5, .bx [.ref 3 [], .int m, .ref 4 []])]⟩) (fun i => i ≤ n) (fun i => n - i) 0 (Nat.zero_le _) (by refine And.intro ?_ rfl; simp only [leS, Nat.reduceEqDiff, ↓reduceIte, true_and, and_true]; repeat' (first | rfl | with_reducible refine And.intro ?_ ?_ | omega)) (fun i hi => ?_)
 have l1 := wrC_len (n := n) (f := f) (g := g) (i := i) (j := 0) (k := 0)
 refine gC fun K hK => ?_
 simp only [l1]
 (repeat refine aI (hb := ?_))
 refine hK _ ?_; clear hK K
 refine gI (fun hi2 => ?_) fun hi2 => ?_
 ·have mi := hc.mat (show i < n by omega)
  have mi' := h'.mat (show i < n by omega)
  refine ats_skip ?_
  (repeat refine ats_seq ?_); refine ats_block ?_
  refine gB ?_
  (repeat refine ats_seq ?_); refine ats_loop (fun j : Nat => ⟨[(2, .bptr 0 0), (3, .bptr 1 0), (4, .bptr 2 0), (5, .bptr 5 0), (6, .int i), (7, .int j)], [(0, .bx [.l1 o, .int m, .l3 w]), (1, .bx [.l1 o', .int m, .l3 w']), (2, .bx [.nil, .int 0, .nil]), (3, .t1 o), (4, .t3 (wrC n f g i j 0)), (5, .bx [.ref 3 [], .int m, .ref 4 []])]⟩) (fun j => j ≤ n) (fun j => n - j) 0 (Nat.zero_le _) (by refine And.intro ?_ rfl; simp only [leS, Nat.reduceEqDiff, ↓reduceIte, true_and, and_true]; repeat' (first | rfl | with_reducible refine And.intro ?_ ?_ | omega)) (fun j hj => ?_)
  have l2 := wrC_len (n := n) (f := f) (g := g) (i := i) (j := j) (k := 0)
  refine gC fun K hK => ?_
  simp only [l2]
  (repeat refine aI (hb := ?_))
  refine hK _ ?_; clear hK K
  refine gI (fun hj2 => ?_) fun hj2 => ?_
  ·have rj := hc.row (show i < n by omega) (show j < n by omega)
   have rj' := h'.row (show i < n by omega) (show j < n by omega)
   refine ats_skip ?_
   (repeat refine ats_seq ?_); refine ats_block ?_
   refine gB ?_
   (repeat refine ats_seq ?_); refine ats_loop (fun k : Nat => ⟨[(2, .bptr 0 0), (3, .bptr 1 0), (4, .bptr 2 0), (5, .bptr 5 0), (6, .int i), (7, .int j), (8, .int k)], [(0, .bx [.l1 o, .int m, .l3 w]), (1, .bx [.l1 o', .int m, .l3 w']), (2, .bx [.nil, .int 0, .nil]), (3, .t1 o), (4, .t3 (wrC n f g i j k)), (5, .bx [.ref 3 [], .int m, .ref 4 []])]⟩) (fun k => k ≤ n) (fun k => n - k) 0 (Nat.zero_le _) (by refine And.intro ?_ rfl; simp only [leS, Nat.reduceEqDiff, ↓reduceIte, true_and, and_true]; repeat' (first | rfl | with_reducible refine And.intro ?_ ?_ | omega)) (fun k hk => ?_)
   have l3 := wrC_len (n := n) (f := f) (g := g) (i := i) (j := j) (k := k)
   refine gC fun K hK => ?_
   simp only [l3]
   (repeat refine aI (hb := ?_))
   refine hK _ ?_; clear hK K
   refine gI (fun hk2 => ?_) fun hk2 => ?_
   ·have l4 := wrC_l2 (n := n) (f := f) (g := g) (i := i) (j := j) (k := k) (x := i) (by omega)
    have l5 := wrC_l3 (n := n) (f := f) (g := g) (i := i) (j := j) (k := k) (x := i) (y := j) (by omega) (by omega)
    have v1 := hc.bd (show i < n by omega) (show j < n by omega) (show k < n by omega)
    have v2 := h'.bd (show i < n by omega) (show j < n by omega) (show k < n by omega)
    have ev : (e3 w i j k + e3 w' i j k).tmod m = f i j k := by rw [ef]; exact Int.tmod_eq_emod_of_nonneg (by omega)
    have bt : -m < (e3 w i j k + e3 w' i j k).tmod m := by rw [Int.tmod_eq_emod_of_nonneg (by omega)]; have := Int.emod_nonneg (e3 w i j k + e3 w' i j k) (show m ≠ 0 by omega); omega
    have bt2 : (e3 w i j k + e3 w' i j k).tmod m < m := Int.tmod_lt_of_pos _ (by omega)
    have sk := wrC_set (n := n) (f := f) (g := g) (i := i) (j := j) (k := k) (by omega) (by omega)
    simp only [e3] at v1 v2 ev bt bt2
    refine ats_skip ?_
    (repeat refine ats_seq ?_); refine ats_block ?_
    have mi := hc.mat (show i < n by omega)
    (repeat refine ats_seq ?_); refine ats_pick (fix0 hcx) mixed (by kernel_rfl) fun K hK => ?_; simp only [go_sem, seval, l3, l4, l5, mi, rj, mi', rj', ev, sk]
    (repeat refine aI (hb := ?_))
    refine hK _ ?_; clear hK K
    refine gB ?_
    refine ⟨k + 1,  by omega, by omega, .inl ⟨by simp only [leS, Nat.reduceEqDiff, ↓reduceIte, true_and, and_true]; omega,  rfl⟩⟩
   ·obtain rfl : k = n := by omega
    rw [wrC_row]
    refine ats_exit (lq_x ?_)
    refine gB ?_
    refine ⟨j + 1,  by omega, by omega, .inl ⟨by simp only [leS, Nat.reduceEqDiff, ↓reduceIte, true_and, and_true]; omega,  rfl⟩⟩
  ·obtain rfl : j = n := by omega
   rw [wrC_mat]
   refine ats_exit (lq_x ?_)
   refine gB ?_
   refine ⟨i + 1,  by omega, by omega, .inl ⟨by simp only [leS, Nat.reduceEqDiff, ↓reduceIte, true_and, and_true]; omega,  rfl⟩⟩
 ·obtain rfl : i = n := by omega
  rw [wrC_end]
  refine ats_exit (lq_x ?_)
  refine gB ?_
  exact ats_ret (ownC (v := .agg [.ref 3 [], .int m, .ref 4 []]) (by simp only [go_sem, seval]) rfl (by simp))
end Go.Proofs.Ytcmgjlgmajhekaa
namespace Go.Proofs.Ytcmgjlgmajhekaa
open Go Go.Aw Go.Pl
def mxm (m : Int) : Int := if 1 ≤ m then m else 1
def pRow (m : Int) (x : Nat) : Nat → Src → List Int × Src
 | 0, s => ([], s)
 | k + 1, s => if x = 0 ∨ k = 0 then ((pRow m x k s).1 ++ [0], (pRow m x k s).2) else ((pRow m x k s).1 ++ [(nx (pRow m x k s).2 (mxm m)).1], (nx (pRow m x k s).2 (mxm m)).2)
def pMat (n : Nat) (m : Int) : Nat → Src → List (List Int) × Src
 | 0, s => ([], s)
 | i + 1, s => ((pMat n m i s).1 ++ [(pRow m i n (pMat n m i s).2).1], (pRow m i n (pMat n m i s).2).2)
theorem getD_snoc {α : Type} {l : List α} {a d : α} {k : Nat} : (l ++ [a]).getD k d = if k < l.length then l.getD k d else if k = l.length then a else d := by
 rw [List.getD_eq_getElem?_getD, List.getElem?_append]
 by_cases c : k < l.length
 ·rw [if_pos c, if_pos c, List.getD_eq_getElem?_getD]
 ·rw [if_neg c, if_neg c]
  by_cases e : k = l.length
  ·subst e; simp
  ·rw [if_neg e, List.getElem?_eq_none (by simp; omega)]; rfl
theorem mxm_bd (m : Int) : 1 ≤ mxm m := by unfold mxm; split <;> omega
theorem pRow_fact {m : Int} {x : Nat} {s : Src} (hs : s.Ok) : ∀ k, (pRow m x k s).2.Ok ∧ (pRow m x k s).1.length = k ∧ (∀ j, j < k → 0 ≤ (pRow m x k s).1.getD j 0 ∧ (pRow m x k s).1.getD j 0 < mxm m) ∧ (1 ≤ k → (pRow m x k s).1.getD 0 0 = 0) ∧ (x = 0 → ∀ j, (pRow m x k s).1.getD j 0 = 0)
 | 0 => ⟨hs, rfl, fun j hj => absurd hj (Nat.not_lt_zero j), fun h => absurd h (by decide), fun _ j => rfl⟩
 | k + 1 => by
  obtain ⟨h1, h2, h3, h4, h5⟩ := pRow_fact hs k
  have hm := mxm_bd m
  rw [pRow]
  by_cases c : x = 0 ∨ k = 0
  ·rw [if_pos c]
   refine ⟨h1, by rw [List.length_append, h2]; rfl, fun j hj => ?_, fun _ => ?_, fun hx j => ?_⟩
   ·rw [getD_snoc, h2]
    by_cases c1 : j < k
    ·rw [if_pos c1]; exact h3 j c1
    ·rw [if_neg c1, if_pos (by omega)]; exact ⟨Int.le_refl _, by omega⟩
   ·rw [getD_snoc, h2]
    by_cases c1 : 0 < k
    ·rw [if_pos c1]; exact h4 c1
    ·rw [if_neg c1]; split <;> rfl
   ·rw [getD_snoc, h2]
    by_cases c1 : j < k
    ·rw [if_pos c1]; exact h5 hx j
    ·rw [if_neg c1]; split <;> rfl
  ·rw [if_neg c]
   have hb := nx_bd (pRow m x k s).2 hm
   refine ⟨nx_ok h1 _, by rw [List.length_append, h2]; rfl, fun j hj => ?_, fun _ => ?_, fun hx => absurd (.inl hx) c⟩
   ·rw [getD_snoc, h2]
    by_cases c1 : j < k
    ·rw [if_pos c1]; exact h3 j c1
    ·rw [if_neg c1, if_pos (by omega)]; exact hb
   ·rw [getD_snoc, h2, if_pos (by omega)]; exact h4 (by omega)
theorem pMat_fact {n : Nat} {m : Int} {s : Src} (hs : s.Ok) : ∀ i, (pMat n m i s).2.Ok ∧ (pMat n m i s).1.length = i ∧ (∀ x, x < i → ((pMat n m i s).1.getD x []).length = n ∧ (∀ y, y < n → 0 ≤ e2 (pMat n m i s).1 x y ∧ e2 (pMat n m i s).1 x y < mxm m) ∧ (1 ≤ n → e2 (pMat n m i s).1 x 0 = 0) ∧ (x = 0 → ∀ y, e2 (pMat n m i s).1 x y = 0))
 | 0 => ⟨hs, rfl, fun j hj => absurd hj (Nat.not_lt_zero j)⟩
 | i + 1 => by
  obtain ⟨h1, h2, h3⟩ := pMat_fact hs i
  obtain ⟨r1, r2, r3, r4, r5⟩ := pRow_fact (m := m) (x := i) h1 n
  rw [pMat]
  refine ⟨r1, by rw [List.length_append, h2]; rfl, fun x hx => ?_⟩
  unfold e2
  dsimp only
  rw [getD_snoc, h2]
  by_cases c1 : x < i
  ·rw [if_pos c1]; exact h3 x c1
  ·rw [if_neg c1, if_pos (by omega)]
   refine ⟨r2, r3, r4, fun hx0 => r5 (by omega)⟩
theorem pMat_pair {n : Nat} {m : Int} {s : Src} (hs : s.Ok) (m1 : 1 ≤ m) : PairB n m (pMat n m n s).1 := by
 obtain ⟨h1, h2, h3⟩ := pMat_fact (n := n) (m := m) hs n
 have em : mxm m = m := if_pos m1
 refine ⟨⟨h2, fun j hj => ⟨(h3 j hj).1, fun k hk => ?_⟩⟩, fun x hx => ⟨(h3 0 (by omega)).2.2.2 rfl x, (h3 x hx).2.2.1 (by omega)⟩⟩
 have := (h3 j hj).2.1 k hk
 rw [em] at this
 unfold e2 at this
 omega
set_option maxHeartbeats 4000000 in
theorem drawPairing_ok (s : Src) (hs : s.Ok) (n : Nat) (m : Int) (n8 : n ≤ 8) (m2 : m ≤ 2000) : OwnCall Try.prog 24 [.bptr 0 0, .int n, .int m] [(0, srcB s)] [(0, srcB (pMat n m n s).2), (1, .t2 (pMat n m n s).1)] (.ref 1 []) [0] := by
 have hm := mxm_bd m
 have hm2 : mxm m ≤ 2000 := by unfold mxm; split <;> omega
 have eMx : (if 1 < m then m else 1) = mxm m := by unfold mxm; split <;> split <;> omega
 have eMx2 : (if m > 1 then m else 1) = mxm m := eMx
 obtain ⟨P, eP⟩ : ∃ P : Nat → List (List Int) × Src, P = fun i => pMat n m i s := ⟨_, rfl⟩
 have hP : ∀ i, P i = pMat n m i s := fun i => by rw [eP]
 have hP0 : P 0 = ([], s) := by rw [eP]; rfl
 rw [← hP]
 refine OwnCall.intro (n := 44) (rs := [.tmp 6]) 3 [0, 1, 2] (X := [0]) Try.call24 Try.func24 rfl rfl rfl (by simp only [List.length_cons, List.length_nil]; omega) (by simp [Aw.ids, rootsA, rootsAs, argSlots, slotGet]) (fun cx hcx => AT.weakG (ats_of ?_)); simp only [argSlots, Nat.zero_add, Nat.reduceAdd]
 refine gBN ?_
 refine gBN ?_
 refine gBN ?_
 (repeat refine ats_seq ?_); refine AT.ghost (st' := ⟨[(0, .bptr 0 0), (1, .int n), (2, .int m), (7, .ref 1 []), (8, .int 0)], [(0, srcB s), (1, .t2 [])]⟩) (ghost_can [] (by simp only [go_sem, seval, AV.int.injEq, AV.bool.injEq, AV.l1.injEq, AV.l2.injEq, AV.l3.injEq]) (by simp only [go_sem, seval])) ?_
 have e1 : srcB s = srcB (P 0).2 := by rw [hP0]
 have e2 : Tree.t2 [] = .t2 (P 0).1 := by rw [hP0]
 rw [e1, e2]
 (repeat refine ats_seq ?_); refine ats_loop (fun i : Nat => ⟨[(0, .bptr 0 0), (1, .int n), (2, .int m), (7, .ref 1 []), (8, .int i)], [(0, srcB (P i).2), (1, .t2 (P i).1)]⟩) (fun i => i ≤ n) (fun i => n - i) 0 (Nat.zero_le _) (by refine And.intro ?_ rfl; simp only [leS, Nat.reduceEqDiff, ↓reduceIte, true_and, and_true]; repeat' (first | rfl | with_reducible refine And.intro ?_ ?_ | omega)) (fun i hi => ?_)
 refine gBN ?_
 refine gI (fun hc2 => ?_) fun hc2 => ?_
 ·have hi : i < n := by omega
  obtain ⟨ok, li, _⟩ := pMat_fact (n := n) (m := m) hs i
  have eS : pMat n m (i + 1) s = ((pMat n m i s).1 ++ [(pRow m i n (pMat n m i s).2).1], (pRow m i n (pMat n m i s).2).2) := rfl
  rw [← hP] at ok li
  rw [← hP, ← hP] at eS
  obtain ⟨q, eq⟩ : ∃ q, P i = q := ⟨_, rfl⟩
  rw [eq] at ok li eS ⊢
  obtain ⟨R, eR0⟩ : ∃ R : Nat → List Int × Src, R = fun j => pRow m i j q.2 := ⟨_, rfl⟩
  have hR : ∀ j, R j = pRow m i j q.2 := fun j => by rw [eR0]
  have hR0 : R 0 = ([], q.2) := by rw [eR0]; rfl
  rw [← hR] at eS
  refine ats_skip ?_
  (repeat refine ats_seq ?_); refine ats_block ?_
  refine gBN ?_
  refine gBN ?_
  (repeat refine ats_seq ?_); refine AT.ghost (st' := ⟨[(0, .bptr 0 0), (1, .int n), (2, .int m), (7, .ref 1 []), (8, .int i), (9, .ref 2 []), (10, .int 0)], [(0, srcB q.2), (1, .t2 q.1), (2, .t1 [])]⟩) (ghost_can [] (by simp only [go_sem, seval, AV.int.injEq, AV.bool.injEq, AV.l1.injEq, AV.l2.injEq, AV.l3.injEq]) (by simp only [go_sem, seval])) ?_
  have e3 : srcB q.2 = srcB (R 0).2 := by rw [hR0]
  have e4 : Tree.t1 [] = .t1 (R 0).1 := by rw [hR0]
  rw [e3, e4]
  (repeat refine ats_seq ?_); refine ats_loop (fun j : Nat => ⟨[(0, .bptr 0 0), (1, .int n), (2, .int m), (7, .ref 1 []), (8, .int i), (9, .ref 2 []), (10, .int j)], [(0, srcB (R j).2), (1, .t2 q.1), (2, .t1 (R j).1)]⟩) (fun j => j ≤ n) (fun j => n - j) 0 (Nat.zero_le _) (by refine And.intro ?_ rfl; simp only [leS, Nat.reduceEqDiff, ↓reduceIte, true_and, and_true]; repeat' (first | rfl | with_reducible refine And.intro ?_ ?_ | omega)) (fun j hj => ?_)
  refine gBN ?_
  refine gI (fun hc4 => ?_) fun hc4 => ?_
  ·have hj : j < n := by omega
   obtain ⟨ok2, lj, _⟩ := pRow_fact (m := m) (x := i) ok j
   have eR : pRow m i (j + 1) q.2 = if i = 0 ∨ j = 0 then ((pRow m i j q.2).1 ++ [0], (pRow m i j q.2).2) else ((pRow m i j q.2).1 ++ [(nx (pRow m i j q.2).2 (mxm m)).1], (nx (pRow m i j q.2).2 (mxm m)).2) := rfl
   rw [← hR] at ok2 lj
   rw [← hR, ← hR] at eR
   obtain ⟨r, er⟩ : ∃ r, R j = r := ⟨_, rfl⟩
   rw [er] at ok2 lj eR ⊢
   have hN := next_ok r.2 ok2 (mxm m) (by omega)
   have bN := nx_bd r.2 hm
   obtain ⟨t, et⟩ : ∃ t, nx r.2 (mxm m) = t := ⟨_, rfl⟩
   rw [et] at hN bN eR
   refine ats_skip ?_
   (repeat refine ats_seq ?_); refine ats_block ?_
   refine gBN ?_
   by_cases c : i = 0 ∨ j = 0
   ·rw [if_pos c] at eR
    refine gI (fun hc5 => ?_) fun hc5 => ?_
    ·refine gBN ?_
     refine gBN ?_
     refine ⟨j + 1, by omega, by omega, .inr ⟨[3], by simp only [killL, List.map_cons, List.map_nil, killA, killAs, killT_srcB, killAs_bsV, qOf, rmT, killH, killT_e, List.filter_cons, List.filter_nil, List.contains_cons, List.contains_nil, SlotsLe, St.get, slotGet, Nat.reduceEqDiff, Nat.reduceBEq, Bool.or_false, Bool.or_true, Bool.false_and, Bool.not_true, Bool.not_false, Bool.false_eq_true, ↓reduceIte, if_true, if_false, AV.int.injEq, AV.bool.injEq, AV.l1.injEq, AV.l2.injEq, AV.l3.injEq, true_and, and_true]; omega, by simp only [killL, List.map_cons, List.map_nil, killA, killAs, killT_srcB, killAs_bsV, qOf, rmT, killH, killT_e, List.filter_cons, List.filter_nil, List.contains_cons, List.contains_nil, SlotsLe, St.get, slotGet, Nat.reduceEqDiff, Nat.reduceBEq, Bool.or_false, Bool.or_true, Bool.false_and, Bool.not_true, Bool.not_false, Bool.false_eq_true, ↓reduceIte, if_true, if_false, AV.int.injEq, AV.bool.injEq, AV.l1.injEq, AV.l2.injEq, AV.l3.injEq, true_and, and_true]; (rw [eR])⟩⟩
    ·simp at hc5
     omega
   ·rw [if_neg c] at eR
    refine gI (fun hc5 => ?_) fun hc5 => ?_
    ·simp at hc5
     omega
    ·refine gCN fun K hK => ?_
     simp only [eMx, eMx2]
     (repeat refine aI (hb := ?_))
     refine fcall_src (hN) rfl rfl ?_; simp only [go_sem, seval]
     (repeat refine aI (hb := ?_))
     refine hK _ ?_; clear hK K
     refine gBN ?_
     refine ⟨j + 1, by omega, by omega, .inr ⟨[3], by simp only [killL, List.map_cons, List.map_nil, killA, killAs, killT_srcB, killAs_bsV, qOf, rmT, killH, killT_e, List.filter_cons, List.filter_nil, List.contains_cons, List.contains_nil, SlotsLe, St.get, slotGet, Nat.reduceEqDiff, Nat.reduceBEq, Bool.or_false, Bool.or_true, Bool.false_and, Bool.not_true, Bool.not_false, Bool.false_eq_true, ↓reduceIte, if_true, if_false, AV.int.injEq, AV.bool.injEq, AV.l1.injEq, AV.l2.injEq, AV.l3.injEq, true_and, and_true]; omega, by simp only [killL, List.map_cons, List.map_nil, killA, killAs, killT_srcB, killAs_bsV, qOf, rmT, killH, killT_e, List.filter_cons, List.filter_nil, List.contains_cons, List.contains_nil, SlotsLe, St.get, slotGet, Nat.reduceEqDiff, Nat.reduceBEq, Bool.or_false, Bool.or_true, Bool.false_and, Bool.not_true, Bool.not_false, Bool.false_eq_true, ↓reduceIte, if_true, if_false, AV.int.injEq, AV.bool.injEq, AV.l1.injEq, AV.l2.injEq, AV.l3.injEq, true_and, and_true]; (rw [eR])⟩⟩
  ·obtain rfl : j = n := by omega
   refine ats_exit (lq_x ?_)
   refine gBN ?_
   refine gBN ?_
   refine ⟨i + 1,  by omega, by omega, .inl ⟨by simp only [leS, Nat.reduceEqDiff, ↓reduceIte, true_and, and_true]; omega,  by rw [eS]⟩⟩
 ·obtain rfl : i = n := by omega
  refine ats_exit (lq_x ?_)
  refine gBN ?_
  refine ats_ret ⟨⟨[(0, .bptr 0 0), (1, .int i), (2, .int m), (6, .ref 1 [])], [(0, srcB (P i).2), (1, .t2 (P i).1)]⟩, ghost_to [] [], .inr rfl, (by first | rfl | exact ⟨trivial, rfl⟩ | (simp only [resL, resA, go_sem, seval]; done)), (by simp [St.get, slotGet, argSlots]), rfl⟩
end Go.Proofs.Ytcmgjlgmajhekaa
