import Derived.Test.YtppoaacplncppaaKp2
import Derived.Test.YtppoaacplncppaaWx2
import Derived.Test.YtppoaacplncppaaWx3
import Derived.Test.YtppoaacplncppaaEx1
import Derived.Test.YtppoaacplncppaaWz1
import Derived.Test.YtppoaacplncppaaFz1
import Derived.Test.YtppoaacplncppaaHd
set_option linter.unusedSimpArgs false
set_option linter.unusedVariables false
namespace Go.Proofs.Ytppoaacplncppaa
open Go Go.Aw Go.Pl
theorem product_ok (t : Cu) (hc : Cube t) (x y : List Int) {X Y : Int} (hx : VecX t.length X x) (hy : VecX t.length Y y) (hXY : X * Y ≤ 1000000000000) : FreshCall Try.prog 37 [.agg [.l3 t], .l1 x, .l1 y] (.l1 (prodL t x y)) := by
 have h16 := hc.2.1
 have lx := hx.1
 have ly := hy.1
 have hm := hc.2.2
 have hB : ∀ i, i < t.length → ∀ j, j < t.length → ∀ k, k < t.length → 0 ≤ pPart t x y i j k ∧ pPart t x y i j k ≤ 512 * 1000000000000000 := fun i hi j hj k hk => pPart_bdX hc hx hy hXY (by omega) (by omega) (by omega) hk
 refine FreshCall.intro (n := 65) (rs := [.tmp 6]) Try.call37 Try.func37 rfl rfl rfl (by simp only [List.length_cons, List.length_nil]; omega) (fun cx hcx => ats_of ?_); simp only [argSlots, Nat.zero_add, Nat.reduceAdd]
 (repeat refine ats_seq ?_); refine ats_go (fix0 hcx) fun K hK => ?_; simp only [go_sem, seval]; (repeat refine aI (hb := ?_)); refine hK _ ?_; clear hK K
 (repeat refine ats_seq ?_); refine ats_go (fix0 hcx) fun K hK => ?_; simp only [go_sem, seval]; (repeat refine aI (hb := ?_)); refine hK _ ?_; clear hK K
 rw [prw_zero (x := x) (y := y)]
 (repeat refine ats_seq ?_); refine ats_go (fix0 hcx) fun K hK => ?_; simp only [go_sem, seval]; (repeat refine aI (hb := ?_)); refine hK _ ?_; clear hK K
 (repeat refine ats_seq ?_); refine ats_loop (fun i : Nat => ⟨[(2, .l1 y), (3, .bptr 0 0), (7, .ref 1 []), (18, .l1 x), (19, .int x.length), (20, .int i)], [(0, .bx [.l3 t]), (1, .t1 (prw t x y i 0 0))]⟩) (fun i => i ≤ t.length) (fun i => t.length - i) 0 (Nat.zero_le _) (by refine And.intro ?_ rfl; simp only [leS, Nat.reduceEqDiff, ↓reduceIte, true_and, and_true]; repeat' (first | rfl | with_reducible refine And.intro ?_ ?_ | omega)) (fun i hi => ?_)
 (repeat refine ats_seq ?_); refine ats_go (fix0 hcx) fun K hK => ?_; simp only [go_sem, seval]; (repeat refine aI (hb := ?_)); refine hK _ ?_; clear hK K
 (repeat refine ats_seq ?_); first | refine ats_ifn (p := _) rfl trivial (fun hc2 => ?_) (fun hc2 => ?_) | refine ats_ifp (p := _) rfl trivial (fun hc2 => ?_) (fun hc2 => ?_) | refine ats_cond rfl trivial (fun hc2 => ?_) (fun hc2 => ?_)
 ·have mi := hm i (by omega)
  have li := mi.1
  refine ats_skip ?_
  (repeat refine ats_seq ?_); refine ats_block ?_
  (repeat refine ats_seq ?_); refine ats_go (fix0 hcx) fun K hK => ?_; simp only [go_sem, seval]; (repeat refine aI (hb := ?_)); refine hK _ ?_; clear hK K
  (repeat refine ats_seq ?_); refine ats_go (fix0 hcx) fun K hK => ?_; simp only [go_sem, seval]; (repeat refine aI (hb := ?_)); refine hK _ ?_; clear hK K
  (repeat refine ats_seq ?_); refine ats_loop (fun j : Nat => ⟨[(2, .l1 y), (3, .bptr 0 0), (7, .ref 1 []), (8, .int i), (9, .int (x.getD i 0)), (18, .l1 x), (19, .int x.length), (20, .int i), (25, .l1 y), (26, .int y.length), (27, .int j)], [(0, .bx [.l3 t]), (1, .t1 (prw t x y i j 0))]⟩) (fun j => j ≤ t.length) (fun j => t.length - j) 0 (Nat.zero_le _) (by refine And.intro ?_ rfl; simp only [leS, Nat.reduceEqDiff, ↓reduceIte, true_and, and_true]; repeat' (first | rfl | with_reducible refine And.intro ?_ ?_ | omega)) (fun j hj => ?_)
  (repeat refine ats_seq ?_); refine ats_go (fix0 hcx) fun K hK => ?_; simp only [go_sem, seval]; (repeat refine aI (hb := ?_)); refine hK _ ?_; clear hK K
  (repeat refine ats_seq ?_); first | refine ats_ifn (p := _) rfl trivial (fun hc4 => ?_) (fun hc4 => ?_) | refine ats_ifp (p := _) rfl trivial (fun hc4 => ?_) (fun hc4 => ?_) | refine ats_cond rfl trivial (fun hc4 => ?_) (fun hc4 => ?_)
  ·have rj := mi.row (show j < t.length by omega)
   have mxy := xy_bd hx hy hXY (show i < t.length by omega) (show j < t.length by omega)
   refine ats_skip ?_
   (repeat refine ats_seq ?_); refine ats_block ?_
   (repeat refine ats_seq ?_); refine ats_go (fix0 hcx) fun K hK => ?_; simp only [go_sem, seval]; (repeat refine aI (hb := ?_)); refine hK _ ?_; clear hK K
   (repeat refine ats_seq ?_); refine ats_go (fix0 hcx) fun K hK => ?_; simp only [go_sem, seval]; (repeat refine aI (hb := ?_)); refine hK _ ?_; clear hK K
   (repeat refine ats_seq ?_); first | refine ats_ifn (p := _) rfl trivial (fun hc5 => ?_) (fun hc5 => ?_) | refine ats_ifp (p := _) rfl trivial (fun hc5 => ?_) (fun hc5 => ?_) | refine ats_cond rfl trivial (fun hc5 => ?_) (fun hc5 => ?_)
   ·have sk := prw_skip (t := t) (i := i) hc5
    rw [sk]
    refine ats_exit (bq_x ?_)
    (repeat refine ats_seq ?_); refine ats_go (fix0 hcx) fun K hK => ?_; simp only [go_sem, seval]; (repeat refine aI (hb := ?_)); refine hK _ ?_; clear hK K
    refine ⟨j + 1,  by omega, by omega, .inl ⟨by simp only [leS, Nat.reduceEqDiff, ↓reduceIte, true_and, and_true]; omega,  rfl⟩⟩
   ·refine ats_skip ?_
    (repeat refine ats_seq ?_); refine ats_go (fix0 hcx) fun K hK => ?_; simp only [go_sem, seval]; (repeat refine aI (hb := ?_)); refine hK _ ?_; clear hK K
    (repeat refine ats_seq ?_); refine ats_loop (fun k : Nat => ⟨[(2, .l1 y), (3, .bptr 0 0), (7, .ref 1 []), (8, .int i), (9, .int (x.getD i 0)), (10, .int j), (11, .int (y.getD j 0)), (18, .l1 x), (19, .int x.length), (20, .int i), (25, .l1 y), (26, .int y.length), (27, .int j), (43, .l1 ((t.getD i []).getD j [])), (44, .int ((t.getD i []).getD j []).length), (45, .int k)], [(0, .bx [.l3 t]), (1, .t1 (prw t x y i j k))]⟩) (fun k => k ≤ t.length) (fun k => t.length - k) 0 (Nat.zero_le _) (by refine And.intro ?_ rfl; simp only [leS, Nat.reduceEqDiff, ↓reduceIte, true_and, and_true]; repeat' (first | rfl | with_reducible refine And.intro ?_ ?_ | omega)) (fun k hk => ?_)
    have lp := prw_len (t := t) (x := x) (y := y) (i := i) (j := j) (k := k)
    (repeat refine ats_seq ?_); refine ats_go (fix0 hcx) fun K hK => ?_; simp only [go_sem, seval]; (repeat refine aI (hb := ?_)); refine hK _ ?_; clear hK K
    (repeat refine ats_seq ?_); first | refine ats_ifn (p := _) rfl trivial (fun hc7 => ?_) (fun hc7 => ?_) | refine ats_ifp (p := _) rfl trivial (fun hc7 => ?_) (fun hc7 => ?_) | refine ats_cond rfl trivial (fun hc7 => ?_) (fun hc7 => ?_)
    ·have gk := prw_get (t := t) (x := x) (y := y) (i := i) (j := j) (show k < t.length by omega)
     have sk := prw_set (t := t) (x := x) (y := y) (i := i) (j := j) (k := k)
     have b1 := hB i (by omega) j (by omega) k (by omega)
     have b2 := pTm_bdX hc hx hy hXY (show i < t.length by omega) (show j < t.length by omega) (show k < t.length by omega)
     unfold pTm at sk b2
     simp only [e3] at sk b2
     refine ats_skip ?_
     (repeat refine ats_seq ?_); refine ats_block ?_
     (repeat refine ats_seq ?_); refine ats_go (fix0 hcx) fun K hK => ?_; simp only [go_sem, seval]; (repeat refine aI (hb := ?_)); refine hK _ ?_; clear hK K
     (repeat refine ats_seq ?_); refine ats_go (fix0 hcx) fun K hK => ?_; simp only [go_sem, seval]
     simp only [gk]
     (repeat refine aI (hb := ?_))
     refine hK _ ?_; clear hK K
     rw [sk]
     (repeat refine ats_seq ?_); refine ats_go (fix0 hcx) fun K hK => ?_; simp only [go_sem, seval]; (repeat refine aI (hb := ?_)); refine hK _ ?_; clear hK K
     refine ⟨k + 1,  by omega, by omega, .inl ⟨by simp only [leS, Nat.reduceEqDiff, ↓reduceIte, true_and, and_true]; omega,  rfl⟩⟩
    ·obtain rfl : k = t.length := by omega
     rw [prw_end]
     refine ats_exit (lq_x ?_)
     (repeat refine ats_seq ?_); refine ats_go (fix0 hcx) fun K hK => ?_; simp only [go_sem, seval]; (repeat refine aI (hb := ?_)); refine hK _ ?_; clear hK K
     refine ⟨j + 1,  by omega, by omega, .inl ⟨by simp only [leS, Nat.reduceEqDiff, ↓reduceIte, true_and, and_true]; omega,  rfl⟩⟩
  ·obtain rfl : j = t.length := by omega
   rw [prw_row]
   refine ats_exit (lq_x ?_)
   (repeat refine ats_seq ?_); refine ats_go (fix0 hcx) fun K hK => ?_; simp only [go_sem, seval]; (repeat refine aI (hb := ?_)); refine hK _ ?_; clear hK K
   refine ⟨i + 1,  by omega, by omega, .inl ⟨by simp only [leS, Nat.reduceEqDiff, ↓reduceIte, true_and, and_true]; omega,  rfl⟩⟩
 ·obtain rfl : i = t.length := by omega
  rw [prw_fin]
  refine ats_exit (lq_x ?_)
  (repeat refine ats_seq ?_); refine ats_go (fix0 hcx) fun K hK => ?_; simp only [go_sem, seval]; (repeat refine aI (hb := ?_)); refine hK _ ?_; clear hK K
  exact ats_ret (ownV (is := [1]) rfl ⟨rfl, trivial⟩ rfl (by simp))
theorem l03Times_ok (t : Cu) (hc : Cube t) (x y : List Int) {X Y : Int} (hx : VecX t.length X x) (hy : VecX t.length Y y) (hXY : X * Y ≤ 1000000000000) : FreshCall Try.prog 39 [.agg [.l3 t], .l1 x, .l1 y] (.l1 (prodL t x y)) := by
 have h16 := hc.2.1
 have lx := hx.1
 have ly := hy.1
 have hm := hc.2.2
 have hB : ∀ i, i < t.length → ∀ j, j < t.length → ∀ k, k < t.length → 0 ≤ pPart t x y i j k ∧ pPart t x y i j k ≤ 512 * 1000000000000000 := fun i hi j hj k hk => pPart_bdX hc hx hy hXY (by omega) (by omega) (by omega) hk
 refine FreshCall.intro (n := 69) (rs := [.tmp 6]) Try.call39 Try.func39 rfl rfl rfl (by simp only [List.length_cons, List.length_nil]; omega) (fun cx hcx => ats_of ?_); simp only [argSlots, Nat.zero_add, Nat.reduceAdd]
 (repeat refine ats_seq ?_); refine ats_go (fix0 hcx) fun K hK => ?_; simp only [go_sem, seval]; (repeat refine aI (hb := ?_)); refine hK _ ?_; clear hK K
 (repeat refine ats_seq ?_); refine ats_go (fix0 hcx) fun K hK => ?_; simp only [go_sem, seval]; (repeat refine aI (hb := ?_)); refine hK _ ?_; clear hK K
 rw [show List.replicate x.length (0 : Int) = prw t x y 0 0 0 by rw [lx]; exact prw_zero]
 (repeat refine ats_seq ?_); refine ats_go (fix0 hcx) fun K hK => ?_; simp only [go_sem, seval]; (repeat refine aI (hb := ?_)); refine hK _ ?_; clear hK K
 (repeat refine ats_seq ?_); refine ats_loop (fun i : Nat => ⟨[(1, .l1 x), (2, .l1 y), (3, .bptr 0 0), (7, .ref 1 []), (8, .int i)], [(0, .bx [.l3 t]), (1, .t1 (prw t x y i 0 0))]⟩) (fun i => i ≤ t.length) (fun i => t.length - i) 0 (Nat.zero_le _) (by refine And.intro ?_ rfl; simp only [leS, Nat.reduceEqDiff, ↓reduceIte, true_and, and_true]; repeat' (first | rfl | with_reducible refine And.intro ?_ ?_ | omega)) (fun i hi => ?_)
 (repeat refine ats_seq ?_); refine ats_go (fix0 hcx) fun K hK => ?_; simp only [go_sem, seval]; (repeat refine aI (hb := ?_)); refine hK _ ?_; clear hK K
 (repeat refine ats_seq ?_); first | refine ats_ifn (p := _) rfl trivial (fun hc2 => ?_) (fun hc2 => ?_) | refine ats_ifp (p := _) rfl trivial (fun hc2 => ?_) (fun hc2 => ?_) | refine ats_cond rfl trivial (fun hc2 => ?_) (fun hc2 => ?_)
 ·have mi := hm i (by omega)
  have li := mi.1
  refine ats_skip ?_
  (repeat refine ats_seq ?_); refine ats_block ?_
  (repeat refine ats_seq ?_); refine ats_go (fix0 hcx) fun K hK => ?_; simp only [go_sem, seval]; (repeat refine aI (hb := ?_)); refine hK _ ?_; clear hK K
  (repeat refine ats_seq ?_); refine ats_loop (fun j : Nat => ⟨[(1, .l1 x), (2, .l1 y), (3, .bptr 0 0), (7, .ref 1 []), (8, .int i), (9, .int j)], [(0, .bx [.l3 t]), (1, .t1 (prw t x y i j 0))]⟩) (fun j => j ≤ t.length ∧ (x.getD i 0 = 0 → j = 0)) (fun j => t.length - j) 0 ⟨Nat.zero_le _, fun _ => rfl⟩ (by
   refine And.intro ?_ rfl; simp only [leS, Nat.reduceEqDiff, ↓reduceIte, true_and, and_true]
   try rfl) (fun j hj => ?_)
  obtain ⟨hj, hz⟩ := hj
  (repeat refine ats_seq ?_); refine ats_go (fix0 hcx) fun K hK => ?_; simp only [go_sem, seval]; (repeat refine aI (hb := ?_)); refine hK _ ?_; clear hK K
  (repeat refine ats_seq ?_); first | refine ats_ifn (p := _) rfl trivial (fun hc4 => ?_) (fun hc4 => ?_) | refine ats_ifp (p := _) rfl trivial (fun hc4 => ?_) (fun hc4 => ?_) | refine ats_cond rfl trivial (fun hc4 => ?_) (fun hc4 => ?_)
  ·simp only [Bool.and_eq_true, decide_eq_true_eq] at hc4
   obtain ⟨hc4, hnz⟩ := hc4
   have rj := mi.row (show j < t.length by omega)
   have mxy := xy_bd hx hy hXY (show i < t.length by omega) (show j < t.length by omega)
   refine ats_skip ?_
   (repeat refine ats_seq ?_); refine ats_block ?_
   (repeat refine ats_seq ?_); refine ats_go (fix0 hcx) fun K hK => ?_; simp only [go_sem, seval]; (repeat refine aI (hb := ?_)); refine hK _ ?_; clear hK K
   (repeat refine ats_seq ?_); refine ats_loop (fun k : Nat => ⟨[(1, .l1 x), (2, .l1 y), (3, .bptr 0 0), (7, .ref 1 []), (8, .int i), (9, .int j), (10, .int k)], [(0, .bx [.l3 t]), (1, .t1 (prw t x y i j k))]⟩) (fun k => k ≤ t.length) (fun k => t.length - k) 0 (Nat.zero_le _) (by refine And.intro ?_ rfl; simp only [leS, Nat.reduceEqDiff, ↓reduceIte, true_and, and_true]; repeat' (first | rfl | with_reducible refine And.intro ?_ ?_ | omega)) (fun k hk => ?_)
   have lp := prw_len (t := t) (x := x) (y := y) (i := i) (j := j) (k := k)
   (repeat refine ats_seq ?_); refine ats_go (fix0 hcx) fun K hK => ?_; simp only [go_sem, seval]; (repeat refine aI (hb := ?_)); refine hK _ ?_; clear hK K
   (repeat refine ats_seq ?_); first | refine ats_ifn (p := _) rfl trivial (fun hc6 => ?_) (fun hc6 => ?_) | refine ats_ifp (p := _) rfl trivial (fun hc6 => ?_) (fun hc6 => ?_) | refine ats_cond rfl trivial (fun hc6 => ?_) (fun hc6 => ?_)
   ·have gk := prw_get (t := t) (x := x) (y := y) (i := i) (j := j) (show k < t.length by omega)
    have sk := prw_set (t := t) (x := x) (y := y) (i := i) (j := j) (k := k)
    have b1 := hB i (by omega) j (by omega) k (by omega)
    have b2 := pTm_bdX hc hx hy hXY (show i < t.length by omega) (show j < t.length by omega) (show k < t.length by omega)
    unfold pTm at sk b2
    simp only [e3] at sk b2
    refine ats_skip ?_
    (repeat refine ats_seq ?_); refine ats_block ?_
    (repeat refine ats_seq ?_); refine ats_pick (fix0 hcx) mixed (by kernel_rfl) fun K hK => ?_; simp only [go_sem, seval]
    simp only [gk]
    (repeat refine aI (hb := ?_))
    refine hK _ ?_; clear hK K
    rw [sk]
    (repeat refine ats_seq ?_); refine ats_go (fix0 hcx) fun K hK => ?_; simp only [go_sem, seval]; (repeat refine aI (hb := ?_)); refine hK _ ?_; clear hK K
    refine ⟨k + 1,  by omega, by omega, .inl ⟨by simp only [leS, Nat.reduceEqDiff, ↓reduceIte, true_and, and_true]; omega,  rfl⟩⟩
   ·obtain rfl : k = t.length := by omega
    rw [prw_end]
    refine ats_exit (lq_x ?_)
    (repeat refine ats_seq ?_); refine ats_go (fix0 hcx) fun K hK => ?_; simp only [go_sem, seval]; (repeat refine aI (hb := ?_)); refine hK _ ?_; clear hK K
    refine ⟨j + 1,  ⟨by omega, fun h => absurd h (by simpa using hnz)⟩, by omega, .inl ⟨by simp only [leS, Nat.reduceEqDiff, ↓reduceIte, true_and, and_true]; omega,  rfl⟩⟩
  ·have e : prw t x y i j 0 = prw t x y (i + 1) 0 0 := by
    simp only [Bool.and_eq_false_iff, decide_eq_false_iff_not] at hc4
    by_cases h0 : x.getD i 0 = 0
    ·rw [hz h0]
     exact prw_skipR h0
    ·have ej : j = t.length := by
      rcases hc4 with h | h
      ·omega
      ·simp at h; exact absurd h h0
     rw [ej]
     exact prw_row
   rw [e]
   refine ats_exit (lq_x ?_)
   (repeat refine ats_seq ?_); refine ats_go (fix0 hcx) fun K hK => ?_; simp only [go_sem, seval]; (repeat refine aI (hb := ?_)); refine hK _ ?_; clear hK K
   refine ⟨i + 1,  by omega, by omega, .inl ⟨by simp only [leS, Nat.reduceEqDiff, ↓reduceIte, true_and, and_true]; omega,  rfl⟩⟩
 ·obtain rfl : i = t.length := by omega
  rw [prw_fin]
  refine ats_exit (lq_x ?_)
  (repeat refine ats_seq ?_); refine ats_go (fix0 hcx) fun K hK => ?_; simp only [go_sem, seval]; (repeat refine aI (hb := ?_)); refine hK _ ?_; clear hK K
  exact ats_ret (ownV (is := [1]) rfl ⟨rfl, trivial⟩ rfl (by simp))
end Go.Proofs.Ytppoaacplncppaa
namespace Go.Proofs.Ytppoaacplncppaa
open Go Go.Aw Go.Pl
attribute [local go_sem] pl_fin pl_stop pl_one pl_alt PK_ap pickO List.getElem?_toArray List.getElem?_cons_zero List.getElem?_cons_succ
theorem vecX_any {t : Cu} {x : List Int} : bd (VecX t.length 1000000 x) = (decide (x.length = t.length) && !(x.any fun n => !(decide ((0 : Int) ≤ n) && decide (n ≤ 1000000)))) := by
 by_cases hl : x.length = t.length
 ·by_cases h : (x.any fun n => !(decide ((0 : Int) ≤ n) && decide (n ≤ 1000000))) = true
  ·rw [h, bd_false]
   ·simp
   ·intro hv
    obtain ⟨a, ha, hb⟩ := List.any_eq_true.1 h
    obtain ⟨i, hi, rfl⟩ := List.mem_iff_getElem.1 ha
    have := hv.2 i (by omega)
    rw [List.getD_eq_getElem?_getD, List.getElem?_eq_getElem hi] at this
    simp at this hb
    omega
  ·have h' : (x.any fun n => !(decide ((0 : Int) ≤ n) && decide (n ≤ 1000000))) = false := by simpa using h
   rw [h', bd_true]
   ·simp [hl]
   ·refine ⟨hl, fun i hi => ?_⟩
    have hi' : i < x.length := by omega
    have := List.any_eq_false.1 h' (x.getD i 0) (by rw [List.getD_eq_getElem?_getD, List.getElem?_eq_getElem hi']; exact List.getElem_mem hi')
    refine Classical.byContradiction fun hv => this ?_
    rw [show (decide ((0 : Int) ≤ x.getD i 0) && decide (x.getD i 0 ≤ 1000000)) = false by simp only [Bool.and_eq_false_iff, decide_eq_false_iff_not]; omega]
    rfl
 ·rw [bd_false (fun h => hl h.1)]
  simp [hl]
theorem isVector_ok (t : Cu) (h16 : t.length ≤ 16) (x : List Int) : PureCall Try.prog 36 [.agg [.l3 t], .l1 x] (.bool (bd (VecX t.length 1000000 x))) := by
 have ha := allWithin_ok x 0 1000000
 rw [vecX_any]
 refine PureCall.intro (n := 15) (rs := [.tmp 4]) Try.call36 Try.func36 rfl rfl rfl (by simp only [List.length_cons, List.length_nil]; omega) (fun cx hcx => ats_of ?_); simp only [argSlots, Nat.zero_add, Nat.reduceAdd]
 (repeat refine ats_seq ?_); refine ats_go (fix0 hcx) fun K hK => ?_; simp only [go_sem, seval]; (repeat refine aI (hb := ?_)); refine hK _ ?_; clear hK K
 by_cases hl : x.length = t.length
 ·have hl' : (x.length : Int) = t.length := by omega
  (repeat refine ats_seq ?_); refine ats_go (fix0 hcx) fun K hK => ?_; simp only [go_sem, seval]
  simp only [hl', decide_true]
  simp only [go_sem, seval]
  first | refine YR_intro (fun _ => acall_free rfl rfl (ha)) ?_ | refine YR_intro (acall_free rfl rfl (ha)) ?_
  simp only [go_sem, seval]
  refine hK _ ?_; clear hK K
  refine ats_ret (finB rfl ?_)
  simp [hl]
 ·have hl' : ¬ (x.length : Int) = t.length := by omega
  (repeat refine ats_seq ?_); refine ats_go (fix0 hcx) fun K hK => ?_; simp only [go_sem, seval]
  simp only [hl', decide_false]
  simp only [go_sem, seval]
  refine YR_intro (v := .bool false) (by first | trivial | (intro h; cases h)) ?_
  simp only [go_sem, seval]
  refine hK _ ?_; clear hK K
  refine ats_ret (finB rfl ?_)
  simp [hl]
theorem implMv_ok (t : Cu) (x y : List Int) : FreshCall Try.prog 13 [.agg [.l3 t], .l1 x, .l1 y] (.tup [optA (mvR t x y).1, .int (mvR t x y).2]) := by
 have hR := IsRing_ok t
 refine FreshCall.intro (n := 25) (rs := [.tmp 6, .tmp 7]) Try.call13 Try.func13 rfl rfl rfl (by simp only [List.length_cons, List.length_nil]; omega) (fun cx hcx => ats_of ?_); simp only [argSlots, Nat.zero_add, Nat.reduceAdd]
 (repeat refine ats_seq ?_); refine ats_go (fix0 hcx) fun K hK => ?_; simp only [go_sem, seval]; (repeat refine aI (hb := ?_)); refine hK _ ?_; clear hK K
 unfold mvR
 skip
 cases hr : isRing t with
 | false =>
  rw [hr] at hR
  simp only [Bool.false_eq_true, if_false]
  (repeat refine ats_seq ?_); refine ats_go (fix0 hcx) fun K hK => ?_; simp only [go_sem, seval]
  first | refine fcall_data (hR) rfl ?_ | refine YR_intro (acall_data (hR) rfl) ?_
  simp only [go_sem, seval]
  refine hK _ ?_; clear hK K
  (repeat refine ats_seq ?_); refine ats_yes rfl trivial ?_
  (repeat refine ats_seq ?_); refine ats_go (fix0 hcx) fun K hK => ?_; simp only [go_sem, seval]; (repeat refine aI (hb := ?_)); refine hK _ ?_; clear hK K
  exact ats_ret (own2 (is := []) trivial trivial rfl (by simp))
 | true =>
  rw [hr] at hR
  have hc := (isRing_true hr).1
  have h16 := hc.2.1
  have hX := isVector_ok t h16 x
  have hY := isVector_ok t h16 y
  simp only [if_true]
  (repeat refine ats_seq ?_); refine ats_go (fix0 hcx) fun K hK => ?_; simp only [go_sem, seval]
  first | refine fcall_data (hR) rfl ?_ | refine YR_intro (acall_data (hR) rfl) ?_
  simp only [go_sem, seval]
  refine hK _ ?_; clear hK K
  (repeat refine ats_seq ?_); refine ats_no rfl trivial ?_
  refine ats_skip ?_
  cases ex : bd (VecX t.length 1000000 x) with
  | false =>
   rw [ex] at hX
   rw [bd_false (fun h => by rw [bd_true h.1] at ex; cases ex)]
   simp only [Bool.false_eq_true, if_false]
   (repeat refine ats_seq ?_); refine ats_go (fix0 hcx) fun K hK => ?_; simp only [go_sem, seval]
   first | refine fcall_free rfl rfl (hX) ?_ | refine YR_intro (acall_free rfl rfl (hX)) ?_
   simp only [go_sem, seval]
   refine YR_intro (v := .bool false) (by first | trivial | (intro h; cases h)) ?_
   simp only [go_sem, seval]
   refine hK _ ?_; clear hK K
   (repeat refine ats_seq ?_); refine ats_yes rfl trivial ?_
   (repeat refine ats_seq ?_); refine ats_go (fix0 hcx) fun K hK => ?_; simp only [go_sem, seval]; (repeat refine aI (hb := ?_)); refine hK _ ?_; clear hK K
   exact ats_ret (own2 (is := []) trivial trivial rfl (by simp))
  | true =>
   rw [ex] at hX
   cases ey : bd (VecX t.length 1000000 y) with
   | false =>
    rw [ey] at hY
    rw [bd_false (fun h => by rw [bd_true h.2] at ey; cases ey)]
    simp only [Bool.false_eq_true, if_false]
    (repeat refine ats_seq ?_); refine ats_go (fix0 hcx) fun K hK => ?_; simp only [go_sem, seval]
    first | refine fcall_free rfl rfl (hX) ?_ | refine YR_intro (acall_free rfl rfl (hX)) ?_
    simp only [go_sem, seval]
    first | refine YR_intro (fun _ => acall_free rfl rfl (hY)) ?_ | refine YR_intro (acall_free rfl rfl (hY)) ?_
    simp only [go_sem, seval]
    refine hK _ ?_; clear hK K
    (repeat refine ats_seq ?_); refine ats_yes rfl trivial ?_
    (repeat refine ats_seq ?_); refine ats_go (fix0 hcx) fun K hK => ?_; simp only [go_sem, seval]; (repeat refine aI (hb := ?_)); refine hK _ ?_; clear hK K
    exact ats_ret (own2 (is := []) trivial trivial rfl (by simp))
   | true =>
    rw [ey] at hY
    have vx := bd_iff.1 ex
    have vy := bd_iff.1 ey
    rw [bd_true ⟨vx, vy⟩]
    simp only [if_true]
    have hP := product_ok t hc x y vx vy (by decide)
    (repeat refine ats_seq ?_); refine ats_go (fix0 hcx) fun K hK => ?_; simp only [go_sem, seval]
    first | refine fcall_free rfl rfl (hX) ?_ | refine YR_intro (acall_free rfl rfl (hX)) ?_
    simp only [go_sem, seval]
    first | refine YR_intro (fun _ => acall_free rfl rfl (hY)) ?_ | refine YR_intro (acall_free rfl rfl (hY)) ?_
    simp only [go_sem, seval]
    refine hK _ ?_; clear hK K
    (repeat refine ats_seq ?_); refine ats_no rfl trivial ?_
    refine ats_skip ?_
    skip
    (repeat refine ats_seq ?_); refine ats_go (fix0 hcx) fun K hK => ?_; simp only [go_sem, seval]
    refine fcall_own rfl (hP) rfl ?_; simp only [go_sem, seval]
    refine hK _ ?_; clear hK K
    exact ats_ret (own2 (is := [1]) trivial trivial rfl (by simp))
theorem mx_big {xs : List Int} : ∀ {k : Nat}, (1000000000 < mx xs k ↔ ∃ c, c ≤ k ∧ 1000000000 < xs.getD c 0)
 | 0 => by
  constructor
  ·intro h
   exact ⟨0, Nat.le_refl 0, h⟩
  ·rintro ⟨c, h1, h2⟩
   obtain rfl : c = 0 := by omega
   exact h2
 | k + 1 => by
  have ih := mx_big (xs := xs) (k := k)
  simp only [mx]
  constructor
  ·intro h
   by_cases h1 : 1000000000 < mx xs k
   ·obtain ⟨c, h2, h3⟩ := ih.1 h1
    exact ⟨c, by omega, h3⟩
   ·exact ⟨k + 1, Nat.le_refl _, by omega⟩
  ·rintro ⟨c, h1, h2⟩
   by_cases e : c = k + 1
   ·subst e; omega
   ·have := ih.2 ⟨c, by omega, h2⟩
    omega
theorem bigV_mx {y : List Int} (h : 1 ≤ y.length) : bigV y = decide (1000000000 < mx y (y.length - 1)) := by
 unfold bigV
 by_cases hb : 1000000000 < mx y (y.length - 1)
 ·obtain ⟨c, h1, h2⟩ := mx_big.1 hb
  rw [bd_true ⟨c, by omega, h2⟩, decide_eq_true hb]
 ·rw [bd_false (fun ⟨c, h1, h2⟩ => hb (mx_big.2 ⟨c, by omega, h2⟩)), decide_eq_false hb]
theorem vectorOf_ok (t : Cu) (h16 : t.length ≤ 16) (i : Nat) (hi : i < t.length) : FreshCall Try.prog 44 [.agg [.l3 t], .int i] (.l1 (oneV t.length i)) := by
 have lz : (List.replicate t.length (0 : Int)).length = t.length := List.length_replicate
 refine FreshCall.intro (n := 14) (rs := [.tmp 4]) Try.call44 Try.func44 rfl rfl rfl (by simp only [List.length_cons, List.length_nil]; omega) (fun cx hcx => ats_of ?_); simp only [argSlots, Nat.zero_add, Nat.reduceAdd]
 (repeat refine ats_seq ?_); refine ats_go (fix0 hcx) fun K hK => ?_; simp only [go_sem, seval]; (repeat refine aI (hb := ?_)); refine hK _ ?_; clear hK K
 (repeat refine ats_seq ?_); refine ats_go (fix0 hcx) fun K hK => ?_; simp only [go_sem, seval]; (repeat refine aI (hb := ?_)); refine hK _ ?_; clear hK K
 (repeat refine ats_seq ?_); refine ats_go (fix0 hcx) fun K hK => ?_; simp only [go_sem, seval]; (repeat refine aI (hb := ?_)); refine hK _ ?_; clear hK K
 (repeat refine ats_seq ?_); refine ats_go (fix0 hcx) fun K hK => ?_; simp only [go_sem, seval]; (repeat refine aI (hb := ?_)); refine hK _ ?_; clear hK K
 exact ats_ret (ownV (is := [1]) rfl ⟨rfl, trivial⟩ rfl (by simp))
theorem l03One_ok (t : Cu) (h16 : t.length ≤ 16) (i : Nat) (hi : i < t.length) : FreshCall Try.prog 48 [.agg [.l3 t], .int i] (.l1 (oneV t.length i)) := by
 have lz : (List.replicate t.length (0 : Int)).length = t.length := List.length_replicate
 refine FreshCall.intro (n := 14) (rs := [.tmp 4]) Try.call48 Try.func48 rfl rfl rfl (by simp only [List.length_cons, List.length_nil]; omega) (fun cx hcx => ats_of ?_); simp only [argSlots, Nat.zero_add, Nat.reduceAdd]
 (repeat refine ats_seq ?_); refine ats_go (fix0 hcx) fun K hK => ?_; simp only [go_sem, seval]; (repeat refine aI (hb := ?_)); refine hK _ ?_; clear hK K
 (repeat refine ats_seq ?_); refine ats_go (fix0 hcx) fun K hK => ?_; simp only [go_sem, seval]; (repeat refine aI (hb := ?_)); refine hK _ ?_; clear hK K
 (repeat refine ats_seq ?_); refine ats_go (fix0 hcx) fun K hK => ?_; simp only [go_sem, seval]; (repeat refine aI (hb := ?_)); refine hK _ ?_; clear hK K
 (repeat refine ats_seq ?_); refine ats_go (fix0 hcx) fun K hK => ?_; simp only [go_sem, seval]; (repeat refine aI (hb := ?_)); refine hK _ ?_; clear hK K
 exact ats_ret (ownV (is := [1]) rfl ⟨rfl, trivial⟩ rfl (by simp))
set_option maxHeartbeats 4000000 in
theorem implPw_ok (t : Cu) (i k : Int) : PureCall Try.prog 19 [.agg [.l3 t], .int i, .int k] (.tup [optA (pwR t i k).1, .int (pwR t i k).2]) := by
 have hR := IsRing_ok t
 refine PureCall.intro (n := 37) (rs := [.tmp 6, .tmp 7]) Try.call19 Try.func19 rfl rfl rfl (by simp only [List.length_cons, List.length_nil]; omega) (fun cx hcx => ats_of ?_); simp only [argSlots, Nat.zero_add, Nat.reduceAdd]
 (repeat refine ats_seq ?_); refine ats_go (fix0 hcx) fun K hK => ?_; simp only [go_sem, seval]; (repeat refine aI (hb := ?_)); refine hK _ ?_; clear hK K
 unfold pwR
 cases hr : isRing t with
 | false =>
  rw [hr] at hR
  simp only [Bool.false_eq_true, if_false]
  (repeat refine ats_seq ?_); refine ats_go (fix0 hcx) fun K hK => ?_; simp only [go_sem, seval]
  first | refine fcall_data (hR) rfl ?_ | refine YR_intro (acall_data (hR) rfl) ?_
  simp only [go_sem, seval]
  refine hK _ ?_; clear hK K
  (repeat refine ats_seq ?_); refine ats_yes rfl trivial ?_
  (repeat refine ats_seq ?_); refine ats_go (fix0 hcx) fun K hK => ?_; simp only [go_sem, seval]; (repeat refine aI (hb := ?_)); refine hK _ ?_; clear hK K
  exact ats_ret (fin2 trivial trivial rfl)
 | true =>
  rw [hr] at hR
  have hc := (isRing_true hr).1
  have h16 := hc.2.1
  have hc1 := hc.1
  have hL := isLabel_ok t h16 i
  have hW := within_ok k 0 40
  simp only [if_true]
  (repeat refine ats_seq ?_); refine ats_go (fix0 hcx) fun K hK => ?_; simp only [go_sem, seval]
  first | refine fcall_data (hR) rfl ?_ | refine YR_intro (acall_data (hR) rfl) ?_
  simp only [go_sem, seval]
  refine hK _ ?_; clear hK K
  (repeat refine ats_seq ?_); refine ats_no rfl trivial ?_
  refine ats_skip ?_
  cases el : lblB t i with
  | false =>
   rw [el] at hL
   simp only [Bool.false_and, Bool.false_eq_true, if_false]
   (repeat refine ats_seq ?_); refine ats_go (fix0 hcx) fun K hK => ?_; simp only [go_sem, seval]
   first | refine fcall_free rfl rfl (hL) ?_ | refine YR_intro (acall_free rfl rfl (hL)) ?_
   simp only [go_sem, seval]
   refine YR_intro (v := .bool false) (by first | trivial | (intro h; cases h)) ?_
   simp only [go_sem, seval]
   refine hK _ ?_; clear hK K
   (repeat refine ats_seq ?_); refine ats_yes rfl trivial ?_
   (repeat refine ats_seq ?_); refine ats_go (fix0 hcx) fun K hK => ?_; simp only [go_sem, seval]; (repeat refine aI (hb := ?_)); refine hK _ ?_; clear hK K
   exact ats_ret (fin2 trivial trivial rfl)
  | true =>
   rw [el] at hL
   obtain ⟨i0, i1⟩ := lblB_iff.1 el
   cases ek : (decide (0 ≤ k) && decide (k ≤ 40)) with
   | false =>
    rw [ek] at hW
    simp only [Bool.and_false, Bool.false_eq_true, if_false]
    (repeat refine ats_seq ?_); refine ats_go (fix0 hcx) fun K hK => ?_; simp only [go_sem, seval]
    first | refine fcall_free rfl rfl (hL) ?_ | refine YR_intro (acall_free rfl rfl (hL)) ?_
    simp only [go_sem, seval]
    first | refine YR_intro (fun _ => acall_free rfl rfl (hW)) ?_ | refine YR_intro (acall_free rfl rfl (hW)) ?_
    simp only [go_sem, seval]
    refine hK _ ?_; clear hK K
    (repeat refine ats_seq ?_); refine ats_yes rfl trivial ?_
    (repeat refine ats_seq ?_); refine ats_go (fix0 hcx) fun K hK => ?_; simp only [go_sem, seval]; (repeat refine aI (hb := ?_)); refine hK _ ?_; clear hK K
    exact ats_ret (fin2 trivial trivial rfl)
   | true =>
    rw [ek] at hW
    simp only [Bool.and_true, if_true]
    have k01 : 0 ≤ k ∧ k ≤ 40 := by simpa using ek
    obtain ⟨m, rfl⟩ : ∃ m : Nat, k = m := ⟨k.toNat, by omega⟩
    obtain ⟨j, rfl⟩ : ∃ j : Nat, i = j := ⟨i.toNat, by omega⟩
    simp only [Int.toNat_natCast] at i1 ⊢
    have hO := vectorOf_ok t h16 0 (by omega)
    have hJ := vectorOf_ok t h16 j i1
    (repeat refine ats_seq ?_); refine ats_go (fix0 hcx) fun K hK => ?_; simp only [go_sem, seval]
    first | refine fcall_free rfl rfl (hL) ?_ | refine YR_intro (acall_free rfl rfl (hL)) ?_
    simp only [go_sem, seval]
    first | refine YR_intro (fun _ => acall_free rfl rfl (hW)) ?_ | refine YR_intro (acall_free rfl rfl (hW)) ?_
    simp only [go_sem, seval]
    refine hK _ ?_; clear hK K
    (repeat refine ats_seq ?_); refine ats_no rfl trivial ?_
    refine ats_skip ?_
    (repeat refine ats_seq ?_); refine ats_go (fix0 hcx) fun K hK => ?_; simp only [go_sem, seval]
    first | refine fcall_fresh rfl (hO) ?_ | refine YR_intro (acall_fresh rfl (hO)) ?_
    simp only [go_sem, seval]
    refine hK _ ?_; clear hK K
    (repeat refine ats_seq ?_); refine ats_go (fix0 hcx) fun K hK => ?_; simp only [go_sem, seval]; (repeat refine aI (hb := ?_)); refine hK _ ?_; clear hK K
    (repeat refine ats_seq ?_); refine ats_loop (fun x : Nat × List Int => ⟨[(1, .int j), (3, .bptr 0 0), (8, .l1 x.2), (23, .int m), (24, .int x.1)], [(0, .bx [.l3 t])]⟩) (fun x => x.1 ≤ m ∧ pwv t j x.1 = some x.2) (fun x => m - x.1) (0, oneV t.length 0) ⟨Nat.zero_le _, rfl⟩ (by
     refine And.intro ?_ rfl; simp only [leS, Nat.reduceEqDiff, ↓reduceIte, true_and, and_true]
     try rfl) (fun x hx => ?_)
    obtain ⟨a, x⟩ := x
    dsimp only at hx ⊢
    obtain ⟨ha, hp⟩ := hx
    have vx := pwv_X hc hp
    have hP := product_ok t hc x (oneV t.length j) vx (oneV_X (i := j) (Int.le_refl 1)) (by decide)
    have lP : (prodL t x (oneV t.length j)).length = t.length := prodL_len
    have hM := max_ok (prodL t x (oneV t.length j)) (by omega)
    have eB := bigV_mx (y := prodL t x (oneV t.length j)) (by omega)
    have eS : pwv t j (a + 1) = if bigV (prodL t x (oneV t.length j)) then none else some (prodL t x (oneV t.length j)) := by simp only [pwv, hp]
    rw [eB] at eS
    generalize prodL t x (oneV t.length j) = y at *
    (repeat refine ats_seq ?_); refine ats_go (fix0 hcx) fun K hK => ?_; simp only [go_sem, seval]; (repeat refine aI (hb := ?_)); refine hK _ ?_; clear hK K
    (repeat refine ats_seq ?_); first | refine ats_ifn (p := _) rfl trivial (fun hc4 => ?_) (fun hc4 => ?_) | refine ats_ifp (p := _) rfl trivial (fun hc4 => ?_) (fun hc4 => ?_) | refine ats_cond rfl trivial (fun hc4 => ?_) (fun hc4 => ?_)
    ·refine ats_skip ?_
     (repeat refine ats_seq ?_); refine ats_block ?_
     (repeat refine ats_seq ?_)
     refine ats_plan [] (.one 0 (.one 1 (.one 2 (.one 3 (.one 4 (.one 5 (.one 6 .fin))))))) ⟨[(1, .int j), (3, .bptr 0 0), (8, .l1 y), (23, .int m), (24, .int a)], [(0, .bx [.l3 t])]⟩ (fix0 hcx) mixed (by kernel_rfl) (fun K hK => ?_) ?_
     ·simp only [go_sem, seval, Option.getD_some, and_true, true_and, and_self, List.contains_cons, List.contains_nil, Bool.or_false, Bool.or_true]
      repeat' (first | exact hK _ (by refine And.intro ?_ rfl; simp only [leS, Nat.reduceEqDiff, ↓reduceIte, true_and, and_true])  | with_reducible refine And.intro ?_ ?_ | omega | ((first | refine fcall_fresh rfl (hJ) ?_ | refine YR_intro (acall_fresh rfl (hJ)) ?_); simp only [go_sem, seval, Option.getD_some, and_true, true_and, and_self, List.contains_cons, List.contains_nil, Bool.or_false, Bool.or_true]) | ((first | refine fcall_fresh rfl (hP) ?_ | refine YR_intro (acall_fresh rfl (hP)) ?_); simp only [go_sem, seval, Option.getD_some, and_true, true_and, and_self, List.contains_cons, List.contains_nil, Bool.or_false, Bool.or_true]))
     cases eb : decide (1000000000 < mx y (y.length - 1)) with
     | true =>
      rw [eb] at eS
      simp only [if_true] at eS
      have eN := pwv_none eS (m - (a + 1))
      rw [show a + 1 + (m - (a + 1)) = m by omega] at eN
      rw [eN]
      have hb : 1000000000 < mx y (y.length - 1) := of_decide_eq_true eb
      (repeat refine ats_seq ?_); refine ats_go (fix0 hcx) fun K hK => ?_; simp only [go_sem, seval]
      first | refine fcall_free rfl rfl (hM) ?_ | refine YR_intro (acall_free rfl rfl (hM)) ?_
      simp only [go_sem, seval]
      refine hK _ ?_; clear hK K
      (repeat refine ats_seq ?_); first | refine ats_ifn (p := _) rfl trivial (fun hz => ?_) (fun hz => ?_) | refine ats_ifp (p := _) rfl trivial (fun hz => ?_) (fun hz => ?_) | refine ats_cond rfl trivial (fun hz => ?_) (fun hz => ?_)
      ·(repeat refine ats_seq ?_); refine ats_go (fix0 hcx) fun K hK => ?_; simp only [go_sem, seval]; (repeat refine aI (hb := ?_)); refine hK _ ?_; clear hK K
       exact ats_ret (fin2 trivial trivial rfl)
      ·omega
     | false =>
      rw [eb] at eS
      simp only [Bool.false_eq_true, if_false] at eS
      have hb : ¬ 1000000000 < mx y (y.length - 1) := of_decide_eq_false eb
      (repeat refine ats_seq ?_); refine ats_go (fix0 hcx) fun K hK => ?_; simp only [go_sem, seval]
      first | refine fcall_free rfl rfl (hM) ?_ | refine YR_intro (acall_free rfl rfl (hM)) ?_
      simp only [go_sem, seval]
      refine hK _ ?_; clear hK K
      (repeat refine ats_seq ?_); first | refine ats_ifn (p := _) rfl trivial (fun hz => ?_) (fun hz => ?_) | refine ats_ifp (p := _) rfl trivial (fun hz => ?_) (fun hz => ?_) | refine ats_cond rfl trivial (fun hz => ?_) (fun hz => ?_)
      ·omega
      ·refine ats_skip ?_
       (repeat refine ats_seq ?_); refine ats_go (fix0 hcx) fun K hK => ?_; simp only [go_sem, seval]; (repeat refine aI (hb := ?_)); refine hK _ ?_; clear hK K
       refine ⟨(a + 1, y),  ⟨by dsimp only; omega, eS⟩, by omega, .inl ⟨by simp only [leS, Nat.reduceEqDiff, ↓reduceIte, true_and, and_true]; (try rfl),  rfl⟩⟩
    ·obtain rfl : a = m := by omega
     rw [hp]
     refine ats_exit (lq_x ?_)
     (repeat refine ats_seq ?_); refine ats_go (fix0 hcx) fun K hK => ?_; simp only [go_sem, seval]
     refine hK _ ?_; clear hK K
     exact ats_ret (fin2 trivial trivial rfl)
set_option maxHeartbeats 4000000 in
theorem specPw_ok (t : Cu) (i k : Int) : PureCall Try.prog 20 [.agg [.l3 t], .int i, .int k] (.tup [optA (pwR t i k).1, .int (pwR t i k).2]) := by
 have hR := l03Is_ok t
 refine PureCall.intro (n := 50) (rs := [.tmp 6, .tmp 7]) Try.call20 Try.func20 rfl rfl rfl (by simp only [List.length_cons, List.length_nil]; omega) (fun cx hcx => ats_of ?_); simp only [argSlots, Nat.zero_add, Nat.reduceAdd]
 (repeat refine ats_seq ?_); refine ats_go (fix0 hcx) fun K hK => ?_; simp only [go_sem, seval]; (repeat refine aI (hb := ?_)); refine hK _ ?_; clear hK K
 unfold pwR
 (repeat refine ats_seq ?_); refine ats_block ?_
 cases hr : isRing t with
 | false =>
  rw [hr] at hR
  simp only [Bool.false_eq_true, if_false]
  (repeat refine ats_seq ?_); refine ats_go (fix0 hcx) fun K hK => ?_; simp only [go_sem, seval]
  first | refine fcall_data (hR) rfl ?_ | refine YR_intro (acall_data (hR) rfl) ?_
  simp only [go_sem, seval]
  refine hK _ ?_; clear hK K
  (repeat refine ats_seq ?_); refine ats_yes rfl trivial ?_
  (repeat refine ats_seq ?_); refine ats_go (fix0 hcx) fun K hK => ?_; simp only [go_sem, seval]; (repeat refine aI (hb := ?_)); refine hK _ ?_; clear hK K
  exact ats_ret (fin2 trivial trivial rfl)
 | true =>
  rw [hr] at hR
  have hc := (isRing_true hr).1
  have h16 := hc.2.1
  have hc1 := hc.1
  have hL := l03Label_ok t h16 i
  have hW := l01In_ok k 0 40
  simp only [if_true]
  (repeat refine ats_seq ?_); refine ats_go (fix0 hcx) fun K hK => ?_; simp only [go_sem, seval]
  first | refine fcall_data (hR) rfl ?_ | refine YR_intro (acall_data (hR) rfl) ?_
  simp only [go_sem, seval]
  refine hK _ ?_; clear hK K
  (repeat refine ats_seq ?_); refine ats_no rfl trivial ?_
  cases el : lblB t i with
  | false =>
   rw [el] at hL
   simp only [Bool.false_and, Bool.false_eq_true, if_false]
   (repeat refine ats_seq ?_); refine ats_go (fix0 hcx) fun K hK => ?_; simp only [go_sem, seval]
   first | refine fcall_free rfl rfl (hL) ?_ | refine YR_intro (acall_free rfl rfl (hL)) ?_
   simp only [go_sem, seval]
   refine YR_intro (v := .bool false) (by first | trivial | (intro h; cases h)) ?_
   simp only [go_sem, seval]
   refine hK _ ?_; clear hK K
   (repeat refine ats_seq ?_); refine ats_yes rfl trivial ?_
   (repeat refine ats_seq ?_); refine ats_go (fix0 hcx) fun K hK => ?_; simp only [go_sem, seval]; (repeat refine aI (hb := ?_)); refine hK _ ?_; clear hK K
   exact ats_ret (fin2 trivial trivial rfl)
  | true =>
   rw [el] at hL
   obtain ⟨i0, i1⟩ := lblB_iff.1 el
   cases ek : (decide (0 ≤ k) && decide (k ≤ 40)) with
   | false =>
    rw [ek] at hW
    simp only [Bool.and_false, Bool.false_eq_true, if_false]
    (repeat refine ats_seq ?_); refine ats_go (fix0 hcx) fun K hK => ?_; simp only [go_sem, seval]
    first | refine fcall_free rfl rfl (hL) ?_ | refine YR_intro (acall_free rfl rfl (hL)) ?_
    simp only [go_sem, seval]
    first | refine YR_intro (fun _ => acall_free rfl rfl (hW)) ?_ | refine YR_intro (acall_free rfl rfl (hW)) ?_
    simp only [go_sem, seval]
    refine hK _ ?_; clear hK K
    (repeat refine ats_seq ?_); refine ats_yes rfl trivial ?_
    (repeat refine ats_seq ?_); refine ats_go (fix0 hcx) fun K hK => ?_; simp only [go_sem, seval]; (repeat refine aI (hb := ?_)); refine hK _ ?_; clear hK K
    exact ats_ret (fin2 trivial trivial rfl)
   | true =>
    rw [ek] at hW
    simp only [Bool.and_true, if_true]
    have k01 : 0 ≤ k ∧ k ≤ 40 := by simpa using ek
    obtain ⟨m, rfl⟩ : ∃ m : Nat, k = m := ⟨k.toNat, by omega⟩
    obtain ⟨j, rfl⟩ : ∃ j : Nat, i = j := ⟨i.toNat, by omega⟩
    simp only [Int.toNat_natCast] at i1 ⊢
    have hO := l03One_ok t h16 0 (by omega)
    have hJ := l03One_ok t h16 j i1
    (repeat refine ats_seq ?_); refine ats_go (fix0 hcx) fun K hK => ?_; simp only [go_sem, seval]
    first | refine fcall_free rfl rfl (hL) ?_ | refine YR_intro (acall_free rfl rfl (hL)) ?_
    simp only [go_sem, seval]
    first | refine YR_intro (fun _ => acall_free rfl rfl (hW)) ?_ | refine YR_intro (acall_free rfl rfl (hW)) ?_
    simp only [go_sem, seval]
    refine hK _ ?_; clear hK K
    (repeat refine ats_seq ?_); refine ats_no rfl trivial ?_
    refine ats_skip ?_
    refine ats_nil (bq_n ?_)
    (repeat refine ats_seq ?_)
    refine ats_plan [] (.one 0 (.one 1 (.one 2 (.one 3 (.one 4 (.one 5 (.one 6 .fin))))))) ⟨[(1, .int j), (2, .int m), (3, .bptr 0 0), (8, .l1 (oneV t.length 0)), (9, .l1 (oneV t.length j))], [(0, .bx [.l3 t])]⟩ (fix0 hcx) mixed (by kernel_rfl) (fun K hK => ?_) ?_
    ·simp only [go_sem, seval, Option.getD_some, and_true, true_and, and_self, List.contains_cons, List.contains_nil, Bool.or_false, Bool.or_true]
     repeat' (first | exact hK _ (by refine And.intro ?_ rfl; simp only [leS, Nat.reduceEqDiff, ↓reduceIte, true_and, and_true])  | with_reducible refine And.intro ?_ ?_ | omega | ((first | refine fcall_fresh rfl (hO) ?_ | refine YR_intro (acall_fresh rfl (hO)) ?_); simp only [go_sem, seval, Option.getD_some, and_true, true_and, and_self, List.contains_cons, List.contains_nil, Bool.or_false, Bool.or_true]) | ((first | refine fcall_fresh rfl (hJ) ?_ | refine YR_intro (acall_fresh rfl (hJ)) ?_); simp only [go_sem, seval, Option.getD_some, and_true, true_and, and_self, List.contains_cons, List.contains_nil, Bool.or_false, Bool.or_true]))
    (repeat refine ats_seq ?_)
    (repeat refine ats_seq ?_); refine ats_loop (fun x : Nat × List Int => ⟨[(1, .int j), (2, .int ((m - x.1 : Nat) : Int)), (3, .bptr 0 0), (8, .l1 x.2), (9, .l1 (oneV t.length j))], [(0, .bx [.l3 t])]⟩) (fun x => x.1 ≤ m ∧ pwv t j x.1 = some x.2) (fun x => m - x.1) (0, oneV t.length 0) ⟨Nat.zero_le _, rfl⟩ (by
     refine And.intro ?_ rfl; simp only [leS, Nat.reduceEqDiff, ↓reduceIte, true_and, and_true]
     try rfl) (fun x hx => ?_)
    obtain ⟨a, x⟩ := x
    dsimp only at hx ⊢
    obtain ⟨ha, hp⟩ := hx
    have vx := pwv_X hc hp
    have hP := l03Times_ok t hc x (oneV t.length j) vx (oneV_X (i := j) (Int.le_refl 1)) (by decide)
    have lP : (prodL t x (oneV t.length j)).length = t.length := prodL_len
    have eS : pwv t j (a + 1) = if bigV (prodL t x (oneV t.length j)) then none else some (prodL t x (oneV t.length j)) := by simp only [pwv, hp]
    generalize prodL t x (oneV t.length j) = y at *
    (repeat refine ats_seq ?_); refine ats_go (fix0 hcx) fun K hK => ?_; simp only [go_sem, seval]; (repeat refine aI (hb := ?_)); refine hK _ ?_; clear hK K
    (repeat refine ats_seq ?_); first | refine ats_ifn (p := _) rfl trivial (fun hc4 => ?_) (fun hc4 => ?_) | refine ats_ifp (p := _) rfl trivial (fun hc4 => ?_) (fun hc4 => ?_) | refine ats_cond rfl trivial (fun hc4 => ?_) (fun hc4 => ?_)
    ·refine ats_skip ?_
     (repeat refine ats_seq ?_); refine ats_block ?_
     (repeat refine ats_seq ?_); refine ats_go (fix0 hcx) fun K hK => ?_; simp only [go_sem, seval]
     first | refine fcall_fresh rfl (hP) ?_ | refine YR_intro (acall_fresh rfl (hP)) ?_
     simp only [go_sem, seval]
     refine hK _ ?_; clear hK K
     (repeat refine ats_seq ?_); refine ats_go (fix0 hcx) fun K hK => ?_; simp only [go_sem, seval]; (repeat refine aI (hb := ?_)); refine hK _ ?_; clear hK K
     (repeat refine ats_seq ?_); refine ats_loop (fun c : Nat => ⟨[(1, .int j), (2, .int ((m - a : Nat) : Int)), (3, .bptr 0 0), (8, .l1 y), (9, .l1 (oneV t.length j)), (10, .int c)], [(0, .bx [.l3 t])]⟩) (fun c => c ≤ t.length ∧ ∀ b, b < c → y.getD b 0 ≤ 1000000000) (fun c => t.length - c) 0 ⟨Nat.zero_le _, fun a h => absurd h (Nat.not_lt_zero a)⟩ (by refine And.intro ?_ rfl; simp only [leS, Nat.reduceEqDiff, ↓reduceIte, true_and, and_true]; rfl) (fun c hc => ?_); obtain ⟨hc, Hc⟩ := hc
     (repeat refine ats_seq ?_); refine ats_go (fix0 hcx) fun K hK => ?_; simp only [go_sem, seval]; (repeat refine aI (hb := ?_)); refine hK _ ?_; clear hK K
     (repeat refine ats_seq ?_); first | refine ats_ifn (p := _) rfl trivial (fun hc6 => ?_) (fun hc6 => ?_) | refine ats_ifp (p := _) rfl trivial (fun hc6 => ?_) (fun hc6 => ?_) | refine ats_cond rfl trivial (fun hc6 => ?_) (fun hc6 => ?_)
     ·refine ats_skip ?_
      (repeat refine ats_seq ?_); refine ats_block ?_
      (repeat refine ats_seq ?_); refine ats_go (fix0 hcx) fun K hK => ?_; simp only [go_sem, seval]; (repeat refine aI (hb := ?_)); refine hK _ ?_; clear hK K
      (repeat refine ats_seq ?_); first | refine ats_ifn (p := _) rfl trivial (fun hc7 => ?_) (fun hc7 => ?_) | refine ats_ifp (p := _) rfl trivial (fun hc7 => ?_) (fun hc7 => ?_) | refine ats_cond rfl trivial (fun hc7 => ?_) (fun hc7 => ?_)
      ·have eb : bigV y = true := bd_true ⟨c, by omega, by omega⟩
       rw [eb] at eS
       simp only [if_true] at eS
       have eN := pwv_none eS (m - (a + 1))
       rw [show a + 1 + (m - (a + 1)) = m by omega] at eN
       rw [eN]
       (repeat refine ats_seq ?_); refine ats_go (fix0 hcx) fun K hK => ?_; simp only [go_sem, seval]; (repeat refine aI (hb := ?_)); refine hK _ ?_; clear hK K
       exact ats_ret (fin2 trivial trivial rfl)
      ·refine ats_skip ?_
       (repeat refine ats_seq ?_); refine ats_go (fix0 hcx) fun K hK => ?_; simp only [go_sem, seval]; (repeat refine aI (hb := ?_)); refine hK _ ?_; clear hK K
       refine ⟨c + 1, ⟨by omega, fun a ha => by rcases Nat.lt_succ_iff_lt_or_eq.1 ha with h | rfl; exact Hc a h; exact (by omega)⟩, by omega, .inl ⟨?_, rfl⟩⟩; simp only [leS, Nat.reduceEqDiff, ↓reduceIte, true_and, and_true]; omega
     ·have eb : bigV y = false := bd_false fun ⟨q, h1, h2⟩ => by
       have := Hc q (by omega)
       omega
      rw [eb] at eS
      simp only [Bool.false_eq_true, if_false] at eS
      refine ats_exit (lq_x ?_)
      (repeat refine ats_seq ?_); refine ats_go (fix0 hcx) fun K hK => ?_; simp only [go_sem, seval]; (repeat refine aI (hb := ?_)); refine hK _ ?_; clear hK K
      refine ⟨(a + 1, y),  ⟨by dsimp only; omega, eS⟩, by omega, .inl ⟨by simp only [leS, Nat.reduceEqDiff, ↓reduceIte, true_and, and_true]; (try omega),  rfl⟩⟩
    ·obtain rfl : a = m := by omega
     rw [hp]
     refine ats_exit (lq_x ?_)
     (repeat refine ats_seq ?_); refine ats_go (fix0 hcx) fun K hK => ?_; simp only [go_sem, seval]
     refine hK _ ?_; clear hK K
     exact ats_ret (fin2 trivial trivial rfl)
end Go.Proofs.Ytppoaacplncppaa
namespace Go.Proofs.Ytppoaacplncppaa
open Go Go.Aw Go.Pl
attribute [local go_sem] pl_fin pl_stop pl_one pl_alt PK_ap pickO List.getElem?_toArray List.getElem?_cons_zero List.getElem?_cons_succ
theorem implOp_ok (t : Cu) : FreshCall Try.prog 21 [.agg [.l3 t]] (.tup [.agg [optT (opR t).1], .int (opR t).2]) := by
 have hR := IsRing_ok t
 refine FreshCall.intro (n := 10) (rs := [.cell 2 26, .tmp 3]) Try.call21 Try.func21 rfl rfl rfl (by simp only [List.length_cons, List.length_nil]; omega) (fun cx hcx => ats_of ?_); simp only [argSlots, Nat.zero_add, Nat.reduceAdd]
 (repeat refine ats_seq ?_); refine ats_go (fix0 hcx) fun K hK => ?_; simp only [go_sem, seval]; (repeat refine aI (hb := ?_)); refine hK _ ?_; clear hK K
 unfold opR
 cases hr : isRing t with
 | false =>
  rw [hr] at hR
  simp only [Bool.false_eq_true, if_false]
  (repeat refine ats_seq ?_); refine ats_go (fix0 hcx) fun K hK => ?_; simp only [go_sem, seval]
  first | refine fcall_data (hR) rfl ?_ | refine YR_intro (acall_data (hR) rfl) ?_
  simp only [go_sem, seval]
  refine hK _ ?_; clear hK K
  (repeat refine ats_seq ?_); refine ats_yes rfl trivial ?_
  (repeat refine ats_seq ?_); refine ats_go (fix0 hcx) fun K hK => ?_; simp only [go_sem, seval]; (repeat refine aI (hb := ?_)); refine hK _ ?_; clear hK K
  exact ats_ret (own2C (v := .agg [.nil]) (by simp only [go_sem, seval]) trivial rfl (by simp))
 | true =>
  rw [hr] at hR
  have hc := (isRing_true hr).1
  have hO := opposite_ok t hc
  simp only [if_true]
  (repeat refine ats_seq ?_); refine ats_go (fix0 hcx) fun K hK => ?_; simp only [go_sem, seval]
  first | refine fcall_data (hR) rfl ?_ | refine YR_intro (acall_data (hR) rfl) ?_
  simp only [go_sem, seval]
  refine hK _ ?_; clear hK K
  (repeat refine ats_seq ?_); refine ats_no rfl trivial ?_
  refine ats_skip ?_
  (repeat refine ats_seq ?_); refine ats_go (fix0 hcx) fun K hK => ?_; simp only [go_sem, seval]
  refine fcall_own rfl (hO) rfl ?_; simp only [go_sem, seval]
  refine hK _ ?_; clear hK K
  exact ats_ret (own2C (v := .agg [.ref 2 []]) (by simp only [go_sem, seval]) trivial rfl (by simp))
theorem implCm_ok (t : Cu) : PureCall Try.prog 24 [.agg [.l3 t]] (.tup [.bool (isRing t && bd (CommP t)), .int (if isRing t then 0 else 1)]) := by
 have hR := IsRing_ok t
 refine PureCall.intro (n := 9) (rs := [.tmp 2, .tmp 3]) Try.call24 Try.func24 rfl rfl rfl (by simp only [List.length_cons, List.length_nil]; omega) (fun cx hcx => ats_of ?_); simp only [argSlots, Nat.zero_add, Nat.reduceAdd]
 (repeat refine ats_seq ?_); refine ats_go (fix0 hcx) fun K hK => ?_; simp only [go_sem, seval]; (repeat refine aI (hb := ?_)); refine hK _ ?_; clear hK K
 cases hr : isRing t with
 | false =>
  rw [hr] at hR
  simp only [Bool.false_eq_true, if_false, Bool.false_and]
  (repeat refine ats_seq ?_); refine ats_go (fix0 hcx) fun K hK => ?_; simp only [go_sem, seval]
  first | refine fcall_data (hR) rfl ?_ | refine YR_intro (acall_data (hR) rfl) ?_
  simp only [go_sem, seval]
  refine hK _ ?_; clear hK K
  (repeat refine ats_seq ?_); refine ats_yes rfl trivial ?_
  (repeat refine ats_seq ?_); refine ats_go (fix0 hcx) fun K hK => ?_; simp only [go_sem, seval]; (repeat refine aI (hb := ?_)); refine hK _ ?_; clear hK K
  exact ats_ret (fin2 trivial trivial rfl)
 | true =>
  rw [hr] at hR
  have hc := (isRing_true hr).1
  have hO := isComm_ok t hc
  simp only [if_true, Bool.true_and]
  (repeat refine ats_seq ?_); refine ats_go (fix0 hcx) fun K hK => ?_; simp only [go_sem, seval]
  first | refine fcall_data (hR) rfl ?_ | refine YR_intro (acall_data (hR) rfl) ?_
  simp only [go_sem, seval]
  refine hK _ ?_; clear hK K
  (repeat refine ats_seq ?_); refine ats_no rfl trivial ?_
  refine ats_skip ?_
  (repeat refine ats_seq ?_); refine ats_go (fix0 hcx) fun K hK => ?_; simp only [go_sem, seval]
  first | refine fcall_data (hO) rfl ?_ | refine YR_intro (acall_data (hO) rfl) ?_
  simp only [go_sem, seval]
  refine hK _ ?_; clear hK K
  exact ats_ret (fin2 trivial trivial rfl)
theorem implDu_ok (t : Cu) : FreshCall Try.prog 17 [.agg [.l3 t]] (.tup [if isRing t then .l1 (ds t) else .nil, .int (if isRing t then 0 else 1)]) := by
 have hR := IsRing_ok t
 refine FreshCall.intro (n := 24) (rs := [.tmp 2, .tmp 3]) Try.call17 Try.func17 rfl rfl rfl (by simp only [List.length_cons, List.length_nil]; omega) (fun cx hcx => ats_of ?_); simp only [argSlots, Nat.zero_add, Nat.reduceAdd]
 (repeat refine ats_seq ?_); refine ats_go (fix0 hcx) fun K hK => ?_; simp only [go_sem, seval]; (repeat refine aI (hb := ?_)); refine hK _ ?_; clear hK K
 cases hr : isRing t with
 | false =>
  rw [hr] at hR
  simp only [Bool.false_eq_true, if_false]
  (repeat refine ats_seq ?_); refine ats_go (fix0 hcx) fun K hK => ?_; simp only [go_sem, seval]
  first | refine fcall_data (hR) rfl ?_ | refine YR_intro (acall_data (hR) rfl) ?_
  simp only [go_sem, seval]
  refine hK _ ?_; clear hK K
  (repeat refine ats_seq ?_); refine ats_yes rfl trivial ?_
  (repeat refine ats_seq ?_); refine ats_go (fix0 hcx) fun K hK => ?_; simp only [go_sem, seval]; (repeat refine aI (hb := ?_)); refine hK _ ?_; clear hK K
  exact ats_ret (own2 (is := []) trivial trivial rfl (by simp))
 | true =>
  rw [hr] at hR
  have hc := (isRing_true hr).1
  have h16 := hc.2.1
  have hO := duals_ok t hc
  have ld : (ds t).length = t.length := by unfold ds; simp
  simp only [if_true]
  (repeat refine ats_seq ?_); refine ats_go (fix0 hcx) fun K hK => ?_; simp only [go_sem, seval]
  first | refine fcall_data (hR) rfl ?_ | refine YR_intro (acall_data (hR) rfl) ?_
  simp only [go_sem, seval]
  refine hK _ ?_; clear hK K
  (repeat refine ats_seq ?_); refine ats_no rfl trivial ?_
  refine ats_skip ?_
  (repeat refine ats_seq ?_); refine ats_go (fix0 hcx) fun K hK => ?_; simp only [go_sem, seval]; (repeat refine aI (hb := ?_)); refine hK _ ?_; clear hK K
  (repeat refine ats_seq ?_); refine ats_go (fix0 hcx) fun K hK => ?_; simp only [go_sem, seval]
  first | refine fcall_fresh rfl (hO) ?_ | refine YR_intro (acall_fresh rfl (hO)) ?_
  simp only [go_sem, seval]
  (repeat refine aI (hb := ?_))
  refine hK _ ?_; clear hK K
  (repeat refine ats_seq ?_); refine ats_loop (fun i : Nat => ⟨[(4, .ref 1 []), (12, .l1 (ds t)), (13, .int (ds t).length), (14, .int i)], [(0, .bx [.l3 t]), (1, .t1 ((ds t).take i))]⟩) (fun i => i ≤ t.length) (fun i => t.length - i) 0 (Nat.zero_le _) (by refine And.intro ?_ rfl; simp only [leS, Nat.reduceEqDiff, ↓reduceIte, true_and, and_true]; repeat' (first | rfl | with_reducible refine And.intro ?_ ?_ | omega)) (fun i hi => ?_)
  have lt : ((ds t).take i).length = i := by rw [List.length_take]; omega
  (repeat refine ats_seq ?_); refine ats_go (fix0 hcx) fun K hK => ?_; simp only [go_sem, seval]; (repeat refine aI (hb := ?_)); refine hK _ ?_; clear hK K
  (repeat refine ats_seq ?_); first | refine ats_ifn (p := _) rfl trivial (fun hc3 => ?_) (fun hc3 => ?_) | refine ats_ifp (p := _) rfl trivial (fun hc3 => ?_) (fun hc3 => ?_) | refine ats_cond rfl trivial (fun hc3 => ?_) (fun hc3 => ?_)
  ·have st := take_getD (xs := ds t) (d := 0) (k := i) (by omega)
   refine ats_skip ?_
   (repeat refine ats_seq ?_); refine ats_block ?_
   (repeat refine ats_seq ?_); refine ats_go (fix0 hcx) fun K hK => ?_; simp only [go_sem, seval]; (repeat refine aI (hb := ?_)); refine hK _ ?_; clear hK K
   (repeat refine ats_seq ?_); refine ats_go (fix0 hcx) fun K hK => ?_; simp only [go_sem, seval]; (repeat refine aI (hb := ?_)); refine hK _ ?_; clear hK K
   rw [← st]
   (repeat refine ats_seq ?_); refine ats_go (fix0 hcx) fun K hK => ?_; simp only [go_sem, seval]; (repeat refine aI (hb := ?_)); refine hK _ ?_; clear hK K
   refine ⟨i + 1, by omega, by omega, .inr ⟨[2], by simp only [killL, List.map_cons, List.map_nil, killA, killAs, qOf, rmT, killH, killT, List.filter_cons, List.filter_nil, List.contains_cons, List.contains_nil, SlotsLe, St.get, slotGet, Nat.reduceEqDiff, Nat.reduceBEq, Bool.or_false, Bool.or_true, Bool.false_and, Bool.not_true, Bool.not_false, Bool.false_eq_true, ↓reduceIte, if_true, if_false, AV.int.injEq, AV.bool.injEq, AV.l1.injEq, AV.l2.injEq, AV.l3.injEq, true_and, and_true]; (try omega), by simp only [killL, List.map_cons, List.map_nil, killA, killAs, qOf, rmT, killH, killT, List.filter_cons, List.filter_nil, List.contains_cons, List.contains_nil, SlotsLe, St.get, slotGet, Nat.reduceEqDiff, Nat.reduceBEq, Bool.or_false, Bool.or_true, Bool.false_and, Bool.not_true, Bool.not_false, Bool.false_eq_true, ↓reduceIte, if_true, if_false, AV.int.injEq, AV.bool.injEq, AV.l1.injEq, AV.l2.injEq, AV.l3.injEq, true_and, and_true]; (try rfl)⟩⟩
  ·obtain rfl : i = t.length := by omega
   rw [List.take_of_length_le (by omega)]
   refine ats_exit (lq_x ?_)
   (repeat refine ats_seq ?_); refine ats_go (fix0 hcx) fun K hK => ?_; simp only [go_sem, seval]; (repeat refine aI (hb := ?_)); refine hK _ ?_; clear hK K
   exact ats_ret (own2 (is := [1]) trivial trivial rfl (by simp))
theorem implSd_ok (t : Cu) : PureCall Try.prog 25 [.agg [.l3 t]] (.tup [.bool (isRing t && bd (∀ i, i < t.length → (ds t).getD i 0 = i)), .int (if isRing t then 0 else 1)]) := by
 have hR := IsRing_ok t
 refine PureCall.intro (n := 21) (rs := [.tmp 2, .tmp 3]) Try.call25 Try.func25 rfl rfl rfl (by simp only [List.length_cons, List.length_nil]; omega) (fun cx hcx => ats_of ?_); simp only [argSlots, Nat.zero_add, Nat.reduceAdd]
 (repeat refine ats_seq ?_); refine ats_go (fix0 hcx) fun K hK => ?_; simp only [go_sem, seval]; (repeat refine aI (hb := ?_)); refine hK _ ?_; clear hK K
 cases hr : isRing t with
 | false =>
  rw [hr] at hR
  simp only [Bool.false_eq_true, if_false, Bool.false_and]
  (repeat refine ats_seq ?_); refine ats_go (fix0 hcx) fun K hK => ?_; simp only [go_sem, seval]
  first | refine fcall_data (hR) rfl ?_ | refine YR_intro (acall_data (hR) rfl) ?_
  simp only [go_sem, seval]
  refine hK _ ?_; clear hK K
  (repeat refine ats_seq ?_); refine ats_yes rfl trivial ?_
  (repeat refine ats_seq ?_); refine ats_go (fix0 hcx) fun K hK => ?_; simp only [go_sem, seval]; (repeat refine aI (hb := ?_)); refine hK _ ?_; clear hK K
  exact ats_ret (fin2 trivial trivial rfl)
 | true =>
  rw [hr] at hR
  have hc := (isRing_true hr).1
  have h16 := hc.2.1
  have hO := duals_ok t hc
  have ld : (ds t).length = t.length := by unfold ds; simp
  simp only [if_true, Bool.true_and]
  (repeat refine ats_seq ?_); refine ats_go (fix0 hcx) fun K hK => ?_; simp only [go_sem, seval]
  first | refine fcall_data (hR) rfl ?_ | refine YR_intro (acall_data (hR) rfl) ?_
  simp only [go_sem, seval]
  refine hK _ ?_; clear hK K
  (repeat refine ats_seq ?_); refine ats_no rfl trivial ?_
  refine ats_skip ?_
  (repeat refine ats_seq ?_); refine ats_go (fix0 hcx) fun K hK => ?_; simp only [go_sem, seval]
  first | refine fcall_fresh rfl (hO) ?_ | refine YR_intro (acall_fresh rfl (hO)) ?_
  simp only [go_sem, seval]
  (repeat refine aI (hb := ?_))
  refine hK _ ?_; clear hK K
  (repeat refine ats_seq ?_); refine ats_loop (fun i : Nat => ⟨[(10, .l1 (ds t)), (11, .int (ds t).length), (12, .int i)], [(0, .bx [.l3 t])]⟩) (fun i => i ≤ t.length ∧ ∀ b, b < i → (ds t).getD b 0 = b) (fun i => t.length - i) 0 ⟨Nat.zero_le _, fun a h => absurd h (Nat.not_lt_zero a)⟩ (by refine And.intro ?_ rfl; simp only [leS, Nat.reduceEqDiff, ↓reduceIte, true_and, and_true]; rfl) (fun i hi => ?_); obtain ⟨hi, Hi⟩ := hi
  (repeat refine ats_seq ?_); refine ats_go (fix0 hcx) fun K hK => ?_; simp only [go_sem, seval]; (repeat refine aI (hb := ?_)); refine hK _ ?_; clear hK K
  (repeat refine ats_seq ?_); first | refine ats_ifn (p := _) rfl trivial (fun hc3 => ?_) (fun hc3 => ?_) | refine ats_ifp (p := _) rfl trivial (fun hc3 => ?_) (fun hc3 => ?_) | refine ats_cond rfl trivial (fun hc3 => ?_) (fun hc3 => ?_)
  ·refine ats_skip ?_
   (repeat refine ats_seq ?_); refine ats_block ?_
   (repeat refine ats_seq ?_); refine ats_go (fix0 hcx) fun K hK => ?_; simp only [go_sem, seval]; (repeat refine aI (hb := ?_)); refine hK _ ?_; clear hK K
   (repeat refine ats_seq ?_); refine ats_go (fix0 hcx) fun K hK => ?_; simp only [go_sem, seval]; (repeat refine aI (hb := ?_)); refine hK _ ?_; clear hK K
   (repeat refine ats_seq ?_); first | refine ats_ifn (p := _) rfl trivial (fun hc4 => ?_) (fun hc4 => ?_) | refine ats_ifp (p := _) rfl trivial (fun hc4 => ?_) (fun hc4 => ?_) | refine ats_cond rfl trivial (fun hc4 => ?_) (fun hc4 => ?_)
   ·(repeat refine ats_seq ?_); refine ats_go (fix0 hcx) fun K hK => ?_; simp only [go_sem, seval]; (repeat refine aI (hb := ?_)); refine hK _ ?_; clear hK K
    rw [bd_false (fun h => hc4 (h i (by omega)).symm)]
    exact ats_ret (fin2 trivial trivial rfl)
   ·refine ats_skip ?_
    (repeat refine ats_seq ?_); refine ats_go (fix0 hcx) fun K hK => ?_; simp only [go_sem, seval]; (repeat refine aI (hb := ?_)); refine hK _ ?_; clear hK K
    refine ⟨i + 1, ⟨by omega, fun a ha => by rcases Nat.lt_succ_iff_lt_or_eq.1 ha with h | rfl; exact Hi a h; exact (by omega)⟩, by omega, .inl ⟨?_, rfl⟩⟩; simp only [leS, Nat.reduceEqDiff, ↓reduceIte, true_and, and_true]; omega
  ·refine ats_exit (lq_x ?_)
   (repeat refine ats_seq ?_); refine ats_go (fix0 hcx) fun K hK => ?_; simp only [go_sem, seval]; (repeat refine aI (hb := ?_)); refine hK _ ?_; clear hK K
   rw [bd_true (fun j hj => Hi j (by omega))]
   exact ats_ret (fin2 trivial trivial rfl)
theorem cpW {xs ys : List Int} (h : xs.length = ys.length) : cpL xs ys 0 xs.length = ys := by
 unfold cpL
 rw [Nat.sub_zero, h, List.take_zero, List.nil_append, List.take_length, Nat.zero_add, Nat.min_self, List.drop_eq_nil_of_le (by omega), List.append_nil]
theorem specOp_ok (t : Cu) : FreshCall Try.prog 22 [.agg [.l3 t]] (.tup [.agg [optT (opR t).1], .int (opR t).2]) := by
 have hR := l03Is_ok t
 refine FreshCall.intro (n := 44) (rs := [.cell 2 26, .tmp 3]) Try.call22 Try.func22 rfl rfl rfl (by simp only [List.length_cons, List.length_nil]; omega) (fun cx hcx => ats_of ?_); simp only [argSlots, Nat.zero_add, Nat.reduceAdd]
 (repeat refine ats_seq ?_); refine ats_go (by first | exact fix0 hcx | exact fix1 hcx rfl) fun K hK => ?_; simp only [go_sem, seval]; (repeat refine aI (hb := ?_)); refine hK _ ?_; clear hK K
 unfold opR
 cases hr : isRing t with
 | false =>
  rw [hr] at hR
  simp only [Bool.false_eq_true, if_false]
  (repeat refine ats_seq ?_); refine ats_go (by first | exact fix0 hcx | exact fix1 hcx rfl) fun K hK => ?_; simp only [go_sem, seval]
  first | refine fcall_data (hR) rfl ?_ | refine YR_intro (acall_data (hR) rfl) ?_
  simp only [go_sem, seval]
  refine hK _ ?_; clear hK K
  (repeat refine ats_seq ?_); refine ats_yes rfl trivial ?_
  (repeat refine ats_seq ?_); refine ats_go (by first | exact fix0 hcx | exact fix1 hcx rfl) fun K hK => ?_; simp only [go_sem, seval]; (repeat refine aI (hb := ?_)); refine hK _ ?_; clear hK K
  exact ats_ret (own2C (v := .agg [.nil]) (by simp only [go_sem, seval]) trivial rfl (by simp))
 | true =>
  rw [hr] at hR
  have hc := (isRing_true hr).1
  have h16 := hc.2.1
  have hm := hc.2.2
  have hO := l03Own_ok t hc
  have hO' : FreshCall Try.prog 50 [.l3 t] (.l3 (opM t 0 0)) := by
   rw [opM_zero hc]
   exact l03Own_ok t hc
  simp only [if_true]
  (repeat refine ats_seq ?_); refine ats_go (by first | exact fix0 hcx | exact fix1 hcx rfl) fun K hK => ?_; simp only [go_sem, seval]
  first | refine fcall_data (hR) rfl ?_ | refine YR_intro (acall_data (hR) rfl) ?_
  simp only [go_sem, seval]
  refine hK _ ?_; clear hK K
  (repeat refine ats_seq ?_); refine ats_no rfl trivial ?_
  refine ats_skip ?_
  (repeat refine ats_seq ?_); refine ats_go (by first | exact fix0 hcx | exact fix1 hcx rfl) fun K hK => ?_; simp only [go_sem, seval]
  refine fcall_own rfl (hO') rfl ?_; simp only [go_sem, seval]
  refine hK _ ?_; clear hK K
  (repeat refine ats_seq ?_); refine ats_go (by first | exact fix0 hcx | exact fix1 hcx rfl) fun K hK => ?_; simp only [go_sem, seval]; (repeat refine aI (hb := ?_)); refine hK _ ?_; clear hK K
  clear hO hO' hR
  (repeat refine ats_seq ?_); refine ats_loop (fun i : Nat => ⟨[(1, .bptr 0 0), (2, .bptr 1 0), (4, .ref 2 []), (5, .int i)], [(2, .t3 (opM t i 0)), (0, .bx [.l3 t]), (1, .bx [.nil])]⟩) (fun i => i ≤ t.length) (fun i => t.length - i) 0 (Nat.zero_le _) (by refine And.intro ?_ rfl; simp only [leS, Nat.reduceEqDiff, ↓reduceIte, true_and, and_true]; repeat' (first | rfl | with_reducible refine And.intro ?_ ?_ | omega)) (fun i hi => ?_)
  have l0 := opM_len (t := t) (i := i) (j := 0)
  (repeat refine ats_seq ?_); refine ats_go (by first | exact fix0 hcx | exact fix1 hcx rfl) fun K hK => ?_; simp only [go_sem, seval]; (repeat refine aI (hb := ?_)); refine hK _ ?_; clear hK K
  (repeat refine ats_seq ?_); first | refine ats_ifn (p := _) rfl trivial (fun hc3 => ?_) (fun hc3 => ?_) | refine ats_ifp (p := _) rfl trivial (fun hc3 => ?_) (fun hc3 => ?_) | refine ats_cond rfl trivial (fun hc3 => ?_) (fun hc3 => ?_)
  ·refine ats_skip ?_
   (repeat refine ats_seq ?_); refine ats_block ?_
   (repeat refine ats_seq ?_); refine ats_go (by first | exact fix0 hcx | exact fix1 hcx rfl) fun K hK => ?_; simp only [go_sem, seval]; (repeat refine aI (hb := ?_)); refine hK _ ?_; clear hK K
   (repeat refine ats_seq ?_); refine ats_loop (fun j : Nat => ⟨[(1, .bptr 0 0), (2, .bptr 1 0), (4, .ref 2 []), (5, .int i), (6, .int j)], [(2, .t3 (opM t i j)), (0, .bx [.l3 t]), (1, .bx [.nil])]⟩) (fun j => j ≤ t.length) (fun j => t.length - j) 0 (Nat.zero_le _) (by refine And.intro ?_ rfl; simp only [leS, Nat.reduceEqDiff, ↓reduceIte, true_and, and_true]; repeat' (first | rfl | with_reducible refine And.intro ?_ ?_ | omega)) (fun j hj => ?_)
   have l1 := opM_len (t := t) (i := i) (j := j)
   (repeat refine ats_seq ?_); refine ats_go (by first | exact fix0 hcx | exact fix1 hcx rfl) fun K hK => ?_; simp only [go_sem, seval]; (repeat refine aI (hb := ?_)); refine hK _ ?_; clear hK K
   (repeat refine ats_seq ?_); first | refine ats_ifn (p := _) rfl trivial (fun hc5 => ?_) (fun hc5 => ?_) | refine ats_ifp (p := _) rfl trivial (fun hc5 => ?_) (fun hc5 => ?_) | refine ats_cond rfl trivial (fun hc5 => ?_) (fun hc5 => ?_)
   ·have mj := hm j (by omega)
    have lj := mj.1
    have rj := mj.row (show i < t.length by omega)
    have g1 := opM_get (t := t) (i := i) (j := j) (x := i) (by omega)
    have l2 : ((opM t i j).getD i []).length = t.length := by rw [g1]; simp
    have g2 := opM_get2 (t := t) (i := i) (j := j) (x := i) (y := j) (by omega) (by omega)
    have mi := hm i (by omega)
    have ri := mi.row (show j < t.length by omega)
    have l3 : (((opM t i j).getD i []).getD j []).length = t.length := by
     rw [g2]
     unfold opF
     rw [if_neg (by omega)]
     exact ri
    have ec := cpW (xs := ((opM t i j).getD i []).getD j []) (ys := (t.getD j []).getD i []) (by omega)
    rw [l3] at ec
    have sk := opM_set (t := t) (i := i) (j := j) (by omega) (by omega)
    refine ats_skip ?_
    (repeat refine ats_seq ?_); refine ats_block ?_
    (repeat refine ats_seq ?_)
    refine ats_plan [15] (.one 0 (.one 1 (.one 2 (.one 3 (.one 4 (.one 5 (.one 6 (.one 7 (.one 8 (.one 9 (.one 10 (.one 11 (.one 12 (.one 13 (.one 14 (.alt 15 .fin .stop)))))))))))))))) ⟨[(1, .bptr 0 0), (2, .bptr 1 0), (4, .ref 2 []), (5, .int i), (6, .int j)], [(2, .t3 (opM t i (j + 1))), (0, .bx [.l3 t]), (1, .bx [.nil])]⟩ (fix0 hcx) mixed (by kernel_rfl) (fun K hK => ?_) ?_
    ·simp only [go_sem, seval, Option.getD_some, and_true, true_and, and_self, List.contains_cons, List.contains_nil, Bool.or_false, Bool.or_true]
     repeat' (first | exact hK _ (by refine And.intro ?_ rfl; simp only [leS, Nat.reduceEqDiff, ↓reduceIte, true_and, and_true])  | with_reducible refine And.intro ?_ ?_ | omega | ((simp only [rj, l3, ec, sk])) | (simp only [go_sem, seval, Option.getD_some, and_true, true_and, and_self, List.contains_cons, List.contains_nil, Bool.or_false, Bool.or_true]))
    (repeat refine ats_seq ?_); refine ats_go (by first | exact fix0 hcx | exact fix1 hcx rfl) fun K hK => ?_; simp only [go_sem, seval]; (repeat refine aI (hb := ?_)); refine hK _ ?_; clear hK K
    refine ⟨j + 1,  by omega, by omega, .inl ⟨by simp only [leS, Nat.reduceEqDiff, ↓reduceIte, true_and, and_true]; omega,  rfl⟩⟩
   ·obtain rfl : j = t.length := by omega
    rw [opM_row]
    refine ats_exit (lq_x ?_)
    (repeat refine ats_seq ?_); refine ats_go (by first | exact fix0 hcx | exact fix1 hcx rfl) fun K hK => ?_; simp only [go_sem, seval]; (repeat refine aI (hb := ?_)); refine hK _ ?_; clear hK K
    refine ⟨i + 1,  by omega, by omega, .inl ⟨by simp only [leS, Nat.reduceEqDiff, ↓reduceIte, true_and, and_true]; omega,  rfl⟩⟩
  ·obtain rfl : i = t.length := by omega
   rw [opM_end]
   refine ats_exit (lq_x ?_)
   (repeat refine ats_seq ?_); refine ats_go (by first | exact fix0 hcx | exact fix1 hcx rfl) fun K hK => ?_; simp only [go_sem, seval]; (repeat refine aI (hb := ?_)); refine hK _ ?_; clear hK K
   exact ats_ret (own2C (v := .agg [.ref 2 []]) (by simp only [go_sem, seval]) trivial rfl (by simp))
end Go.Proofs.Ytppoaacplncppaa
