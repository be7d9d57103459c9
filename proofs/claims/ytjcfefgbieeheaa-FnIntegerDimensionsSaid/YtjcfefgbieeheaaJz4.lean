import Derived.Test.YtjcfefgbieeheaaKp2
import Derived.Test.YtjcfefgbieeheaaWx2
import Derived.Test.YtjcfefgbieeheaaWx3
import Derived.Test.YtjcfefgbieeheaaEx1
import Derived.Test.YtjcfefgbieeheaaWz1
import Derived.Test.YtjcfefgbieeheaaFz1
import Derived.Test.YtjcfefgbieeheaaHd
set_option linter.unusedSimpArgs false
set_option linter.unusedVariables false
namespace Go.Proofs.Ytjcfefgbieeheaa
open Go Go.Aw Go.Pl
theorem product_ok (t : Cu) (hc : Cube t) (x y : List Int) {X Y : Int} (hx : VecX t.length X x) (hy : VecX t.length Y y) (hXY : X * Y ≤ 1000000000000) : FreshCall Try.prog 60 [.agg [.l3 t], .l1 x, .l1 y] (.l1 (prodL t x y)) := by
 have h16 := hc.2.1
 have lx := hx.1
 have ly := hy.1
 have hm := hc.2.2
 have hB : ∀ i, i < t.length → ∀ j, j < t.length → ∀ k, k < t.length → 0 ≤ pPart t x y i j k ∧ pPart t x y i j k ≤ 512 * 1000000000000000 := fun i hi j hj k hk => pPart_bdX hc hx hy hXY (by omega) (by omega) (by omega) hk
 refine FreshCall.intro (n := 65) (rs := [.tmp 6]) Try.call60 Try.func60 rfl rfl rfl (by simp only [List.length_cons, List.length_nil]; omega) (fun cx hcx => ats_of ?_); simp only [argSlots, Nat.zero_add, Nat.reduceAdd]
 refine gB ?_
 refine gB ?_
 rw [prw_zero (x := x) (y := y)]
 refine gB ?_
 (repeat refine ats_seq ?_); refine ats_loop (fun i : Nat => ⟨[(2, .l1 y), (3, .bptr 0 0), (7, .ref 1 []), (18, .l1 x), (19, .int x.length), (20, .int i)], [(0, .bx [.l3 t]), (1, .t1 (prw t x y i 0 0))]⟩) (fun i => i ≤ t.length) (fun i => t.length - i) 0 (Nat.zero_le _) (by refine And.intro ?_ rfl; simp only [leS, Nat.reduceEqDiff, ↓reduceIte, true_and, and_true]; repeat' (first | rfl | with_reducible refine And.intro ?_ ?_ | omega)) (fun i hi => ?_)
 refine gB ?_
 refine gI (fun hc2 => ?_) fun hc2 => ?_
 ·have mi := hm i (by omega)
  have li := mi.1
  refine ats_skip ?_
  (repeat refine ats_seq ?_); refine ats_block ?_
  refine gB ?_
  refine gB ?_
  (repeat refine ats_seq ?_); refine ats_loop (fun j : Nat => ⟨[(2, .l1 y), (3, .bptr 0 0), (7, .ref 1 []), (8, .int i), (9, .int (x.getD i 0)), (18, .l1 x), (19, .int x.length), (20, .int i), (25, .l1 y), (26, .int y.length), (27, .int j)], [(0, .bx [.l3 t]), (1, .t1 (prw t x y i j 0))]⟩) (fun j => j ≤ t.length) (fun j => t.length - j) 0 (Nat.zero_le _) (by refine And.intro ?_ rfl; simp only [leS, Nat.reduceEqDiff, ↓reduceIte, true_and, and_true]; repeat' (first | rfl | with_reducible refine And.intro ?_ ?_ | omega)) (fun j hj => ?_)
  refine gB ?_
  refine gI (fun hc4 => ?_) fun hc4 => ?_
  ·have rj := mi.row (show j < t.length by omega)
   have mxy := xy_bd hx hy hXY (show i < t.length by omega) (show j < t.length by omega)
   refine ats_skip ?_
   (repeat refine ats_seq ?_); refine ats_block ?_
   refine gB ?_
   refine gB ?_
   refine gI (fun hc5 => ?_) fun hc5 => ?_
   ·have sk := prw_skip (t := t) (i := i) hc5
    rw [sk]
    refine ats_exit (bq_x ?_)
    refine gB ?_
    refine ⟨j + 1,  by omega, by omega, .inl ⟨by simp only [leS, Nat.reduceEqDiff, ↓reduceIte, true_and, and_true]; omega,  rfl⟩⟩
   ·refine ats_skip ?_
    refine gB ?_
    (repeat refine ats_seq ?_); refine ats_loop (fun k : Nat => ⟨[(2, .l1 y), (3, .bptr 0 0), (7, .ref 1 []), (8, .int i), (9, .int (x.getD i 0)), (10, .int j), (11, .int (y.getD j 0)), (18, .l1 x), (19, .int x.length), (20, .int i), (25, .l1 y), (26, .int y.length), (27, .int j), (43, .l1 ((t.getD i []).getD j [])), (44, .int ((t.getD i []).getD j []).length), (45, .int k)], [(0, .bx [.l3 t]), (1, .t1 (prw t x y i j k))]⟩) (fun k => k ≤ t.length) (fun k => t.length - k) 0 (Nat.zero_le _) (by refine And.intro ?_ rfl; simp only [leS, Nat.reduceEqDiff, ↓reduceIte, true_and, and_true]; repeat' (first | rfl | with_reducible refine And.intro ?_ ?_ | omega)) (fun k hk => ?_)
    have lp := prw_len (t := t) (x := x) (y := y) (i := i) (j := j) (k := k)
    refine gB ?_
    refine gI (fun hc7 => ?_) fun hc7 => ?_
    ·have gk := prw_get (t := t) (x := x) (y := y) (i := i) (j := j) (show k < t.length by omega)
     have sk := prw_set (t := t) (x := x) (y := y) (i := i) (j := j) (k := k)
     have b1 := hB i (by omega) j (by omega) k (by omega)
     have b2 := pTm_bdX hc hx hy hXY (show i < t.length by omega) (show j < t.length by omega) (show k < t.length by omega)
     unfold pTm at sk b2
     simp only [e3] at sk b2
     refine ats_skip ?_
     (repeat refine ats_seq ?_); refine ats_block ?_
     refine gB ?_
     refine gC fun K hK => ?_
     simp only [gk]
     (repeat refine aI (hb := ?_))
     refine hK _ ?_; clear hK K
     rw [sk]
     refine gB ?_
     refine ⟨k + 1,  by omega, by omega, .inl ⟨by simp only [leS, Nat.reduceEqDiff, ↓reduceIte, true_and, and_true]; omega,  rfl⟩⟩
    ·obtain rfl : k = t.length := by omega
     rw [prw_end]
     refine ats_exit (lq_x ?_)
     refine gB ?_
     refine ⟨j + 1,  by omega, by omega, .inl ⟨by simp only [leS, Nat.reduceEqDiff, ↓reduceIte, true_and, and_true]; omega,  rfl⟩⟩
  ·obtain rfl : j = t.length := by omega
   rw [prw_row]
   refine ats_exit (lq_x ?_)
   refine gB ?_
   refine ⟨i + 1,  by omega, by omega, .inl ⟨by simp only [leS, Nat.reduceEqDiff, ↓reduceIte, true_and, and_true]; omega,  rfl⟩⟩
 ·obtain rfl : i = t.length := by omega
  rw [prw_fin]
  refine ats_exit (lq_x ?_)
  refine gB ?_
  exact ats_ret (ownV (is := [1]) rfl ⟨rfl, trivial⟩ rfl (by simp))
end Go.Proofs.Ytjcfefgbieeheaa
namespace Go.Proofs.Ytjcfefgbieeheaa
open Go Go.Aw Go.Pl
theorem vecX_any {t : Cu} {x : List Int} : bd (VecX t.length 1000000 x) = (decide (x.length = t.length) && !(x.any fun n => !(decide ((0 : Int) ≤ n) && decide (n ≤ 1000000)))) := by
 by_cases hl : x.length = t.length
 ·by_cases h : (x.any fun n => !(decide ((0 : Int) ≤ n) && decide (n ≤ 1000000))) = true
  ·rw [h, bd_false]
   ·simp
   ·intro hv
    obtain ⟨a, ha, hb⟩ := List.any_eq_true.1 h
    obtain ⟨i, hi, rfl⟩ := List.mem_iff_getElem.1 ha
    have := hv.2 i (by omega)
    rw [List.getD_eq_getElem?_getD, List.getElem?_eq_getElem hi] at this
    simp at this hb
    omega
  ·have h' : (x.any fun n => !(decide ((0 : Int) ≤ n) && decide (n ≤ 1000000))) = false := by simpa using h
   rw [h', bd_true]
   ·simp [hl]
   ·refine ⟨hl, fun i hi => ?_⟩
    have hi' : i < x.length := by omega
    have := List.any_eq_false.1 h' (x.getD i 0) (by rw [List.getD_eq_getElem?_getD, List.getElem?_eq_getElem hi']; exact List.getElem_mem hi')
    refine Classical.byContradiction fun hv => this ?_
    rw [show (decide ((0 : Int) ≤ x.getD i 0) && decide (x.getD i 0 ≤ 1000000)) = false by simp only [Bool.and_eq_false_iff, decide_eq_false_iff_not]; omega]
    rfl
 ·rw [bd_false (fun h => hl h.1)]
  simp [hl]
theorem isVector_ok (t : Cu) (h16 : t.length ≤ 16) (x : List Int) : PureCall Try.prog 52 [.agg [.l3 t], .l1 x] (.bool (bd (VecX t.length 1000000 x))) := by
 have ha := allWithin_ok x 0 1000000
 rw [vecX_any]
 refine PureCall.intro (n := 15) (rs := [.tmp 4]) Try.call52 Try.func52 rfl rfl rfl (by simp only [List.length_cons, List.length_nil]; omega) (fun cx hcx => ats_of ?_); simp only [argSlots, Nat.zero_add, Nat.reduceAdd]
 refine gB ?_
 by_cases hl : x.length = t.length
 ·have hl' : (x.length : Int) = t.length := by omega
  refine gC fun K hK => ?_
  simp only [hl', decide_true]
  simp only [go_sem, seval]
  first | refine YR_intro (fun _ => acall_free rfl rfl (ha)) ?_ | refine YR_intro (acall_free rfl rfl (ha)) ?_
  simp only [go_sem, seval]
  refine hK _ ?_; clear hK K
  refine ats_ret (finB rfl ?_)
  simp [hl]
 ·have hl' : ¬ (x.length : Int) = t.length := by omega
  refine gC fun K hK => ?_
  simp only [hl', decide_false]
  simp only [go_sem, seval]
  refine YR_intro (v := .bool false) (by first | trivial | (intro h; cases h)) ?_
  simp only [go_sem, seval]
  refine hK _ ?_; clear hK K
  refine ats_ret (finB rfl ?_)
  simp [hl]
theorem vecX_part {t : Cu} {x : List Int} {i : Nat} (hi : i < x.length) (h : ¬ (0 ≤ x.getD i 0 ∧ x.getD i 0 ≤ 1000000)) : bd (VecX t.length 1000000 x) = false :=
 bd_false fun hv => h (hv.2 i (by rw [← hv.1]; exact hi))
theorem l03Vector_ok (t : Cu) (h16 : t.length ≤ 16) (x : List Int) : PureCall Try.prog 54 [.agg [.l3 t], .l1 x] (.bool (bd (VecX t.length 1000000 x))) := by
 refine PureCall.intro (n := 24) (rs := [.tmp 4]) Try.call54 Try.func54 rfl rfl rfl (by simp only [List.length_cons, List.length_nil]; omega) (fun cx hcx => ats_of ?_); simp only [argSlots, Nat.zero_add, Nat.reduceAdd]
 refine gB ?_
 refine ats_know 1 fun hk => ?_; simp only [St.get, slotGet, Nat.reduceEqDiff, ↓reduceIte, if_true, fact, facts] at hk
 have lx := hk.1
 refine gB ?_
 (repeat refine ats_seq ?_); refine ats_loop (fun i : Nat => ⟨[(1, .l1 x), (2, .bptr 0 0), (5, .int i)], [(0, .bx [.l3 t])]⟩) (fun i => i ≤ x.length ∧ ∀ b, b < i → 0 ≤ x.getD b 0 ∧ x.getD b 0 ≤ 1000000) (fun i => x.length - i) 0 ⟨Nat.zero_le _, fun a h => absurd h (Nat.not_lt_zero a)⟩ (by refine And.intro ?_ rfl; simp only [leS, Nat.reduceEqDiff, ↓reduceIte, true_and, and_true]; rfl) (fun i hi => ?_); obtain ⟨hi, Hi⟩ := hi
 refine gB ?_
 refine gI (fun h2 => ?_) fun h2 => ?_
 ·have hI := l01In_ok (x.getD i 0) 0 1000000
  refine ats_skip ?_
  (repeat refine ats_seq ?_); refine ats_block ?_
  by_cases hv : 0 ≤ x.getD i 0 ∧ x.getD i 0 ≤ 1000000
  ·rw [show (decide ((0 : Int) ≤ x.getD i 0) && decide (x.getD i 0 ≤ 1000000)) = true by simp only [hv.1, hv.2, decide_true, Bool.and_self]] at hI
   refine gC fun K hK => ?_
   (repeat refine aI (hb := ?_))
   first | refine fcall_free rfl rfl (hI) ?_ | refine YR_intro (acall_free rfl rfl (hI)) ?_
   simp only [go_sem, seval]
   refine hK _ ?_; clear hK K
   (repeat refine ats_seq ?_); refine ats_no rfl trivial ?_
   refine ats_skip ?_
   refine gB ?_
   refine ⟨i + 1, ⟨by omega, fun a ha => by rcases Nat.lt_succ_iff_lt_or_eq.1 ha with h | rfl; exact Hi a h; exact hv⟩, by omega, .inl ⟨?_, rfl⟩⟩; simp only [leS, Nat.reduceEqDiff, ↓reduceIte, true_and, and_true]; omega
  ·rw [show (decide ((0 : Int) ≤ x.getD i 0) && decide (x.getD i 0 ≤ 1000000)) = false by simp only [Bool.and_eq_false_iff, decide_eq_false_iff_not]; omega] at hI
   refine gC fun K hK => ?_
   (repeat refine aI (hb := ?_))
   first | refine fcall_free rfl rfl (hI) ?_ | refine YR_intro (acall_free rfl rfl (hI)) ?_
   simp only [go_sem, seval]
   refine hK _ ?_; clear hK K
   (repeat refine ats_seq ?_); refine ats_yes rfl trivial ?_
   refine gB ?_
   refine ats_ret (finB rfl ?_)
   exact (vecX_part (by omega) hv).symm
 ·refine ats_exit (lq_x ?_)
  refine gB ?_
  refine ats_ret (finB rfl ?_)
  by_cases hl : x.length = t.length
  ·rw [bd_true ⟨hl, fun j hj => Hi j (by omega)⟩]
   simp [hl]
  ·rw [bd_false (fun h => hl h.1)]
   simp
   omega
theorem implMv_ok (t : Cu) (x y : List Int) : FreshCall Try.prog 18 [.agg [.l3 t], .l1 x, .l1 y] (.tup [optA (mvR t x y).1, .int (mvR t x y).2]) := by
 have hR := IsRing_ok t
 refine FreshCall.intro (n := 25) (rs := [.tmp 6, .tmp 7]) Try.call18 Try.func18 rfl rfl rfl (by simp only [List.length_cons, List.length_nil]; omega) (fun cx hcx => ats_of ?_); simp only [argSlots, Nat.zero_add, Nat.reduceAdd]
 refine gB ?_
 unfold mvR
 skip
 cases hr : isRing t with
 | false =>
  rw [hr] at hR
  simp only [Bool.false_eq_true, if_false]
  refine gC fun K hK => ?_
  first | refine fcall_data (hR) rfl ?_ | refine YR_intro (acall_data (hR) rfl) ?_
  simp only [go_sem, seval]
  refine hK _ ?_; clear hK K
  (repeat refine ats_seq ?_); refine ats_yes rfl trivial ?_
  refine gB ?_
  exact ats_ret (own2 (is := []) trivial trivial rfl (by simp))
 | true =>
  rw [hr] at hR
  have hc := (isRing_true hr).1
  have h16 := hc.2.1
  have hX := isVector_ok t h16 x
  have hY := isVector_ok t h16 y
  simp only [if_true]
  refine gC fun K hK => ?_
  first | refine fcall_data (hR) rfl ?_ | refine YR_intro (acall_data (hR) rfl) ?_
  simp only [go_sem, seval]
  refine hK _ ?_; clear hK K
  (repeat refine ats_seq ?_); refine ats_no rfl trivial ?_
  refine ats_skip ?_
  cases ex : bd (VecX t.length 1000000 x) with
  | false =>
   rw [ex] at hX
   rw [bd_false (fun h => by rw [bd_true h.1] at ex; cases ex)]
   simp only [Bool.false_eq_true, if_false]
   refine gC fun K hK => ?_
   first | refine fcall_free rfl rfl (hX) ?_ | refine YR_intro (acall_free rfl rfl (hX)) ?_
   simp only [go_sem, seval]
   refine YR_intro (v := .bool false) (by first | trivial | (intro h; cases h)) ?_
   simp only [go_sem, seval]
   refine hK _ ?_; clear hK K
   (repeat refine ats_seq ?_); refine ats_yes rfl trivial ?_
   refine gB ?_
   exact ats_ret (own2 (is := []) trivial trivial rfl (by simp))
  | true =>
   rw [ex] at hX
   cases ey : bd (VecX t.length 1000000 y) with
   | false =>
    rw [ey] at hY
    rw [bd_false (fun h => by rw [bd_true h.2] at ey; cases ey)]
    simp only [Bool.false_eq_true, if_false]
    refine gC fun K hK => ?_
    first | refine fcall_free rfl rfl (hX) ?_ | refine YR_intro (acall_free rfl rfl (hX)) ?_
    simp only [go_sem, seval]
    first | refine YR_intro (fun _ => acall_free rfl rfl (hY)) ?_ | refine YR_intro (acall_free rfl rfl (hY)) ?_
    simp only [go_sem, seval]
    refine hK _ ?_; clear hK K
    (repeat refine ats_seq ?_); refine ats_yes rfl trivial ?_
    refine gB ?_
    exact ats_ret (own2 (is := []) trivial trivial rfl (by simp))
   | true =>
    rw [ey] at hY
    have vx := bd_iff.1 ex
    have vy := bd_iff.1 ey
    rw [bd_true ⟨vx, vy⟩]
    simp only [if_true]
    have hP := product_ok t hc x y vx vy (by decide)
    refine gC fun K hK => ?_
    first | refine fcall_free rfl rfl (hX) ?_ | refine YR_intro (acall_free rfl rfl (hX)) ?_
    simp only [go_sem, seval]
    first | refine YR_intro (fun _ => acall_free rfl rfl (hY)) ?_ | refine YR_intro (acall_free rfl rfl (hY)) ?_
    simp only [go_sem, seval]
    refine hK _ ?_; clear hK K
    (repeat refine ats_seq ?_); refine ats_no rfl trivial ?_
    refine ats_skip ?_
    skip
    refine gC fun K hK => ?_
    refine fcall_own rfl (hP) rfl ?_; simp only [go_sem, seval]
    refine hK _ ?_; clear hK K
    exact ats_ret (own2 (is := [1]) trivial trivial rfl (by simp))
end Go.Proofs.Ytjcfefgbieeheaa
namespace Go.Proofs.Ytjcfefgbieeheaa
open Go Go.Aw Go.Pl
end Go.Proofs.Ytjcfefgbieeheaa
