import Derived.Test.YtfnokakbdehlgaaDoorMm
import Derived.Test.YtfnokakbdehlgaaDoorQd2
set_option linter.unusedSimpArgs false
set_option linter.unusedVariables false
namespace Go.Proofs.YtfnokakbdehlgaaDoor
open Go Go.Aw Go.Pl
theorem implRs_ok (t : Cu) (h10 : t.length ≤ 10) (x : Int) : FreshCall Tryd.prog 27 [.agg [.l3 t], .int x] (.tup [.agg [optT (rsR t x).1], .int (rsR t x).2]) := by
 have h0 := setCode_ok t x
 by_cases hc : scA t x = 0
 ·obtain ⟨hr, hx0, hlt, ex⟩ := scA_ok hc
  rw [hc] at h0
  have h := isRing_P hr
  have hI := closed_ok t h x.toNat hlt
  rw [ex] at hI
  by_cases hC : ClosP t x.toNat
  ·have e : rsR t x = (some (subR t x.toNat), 0) := by unfold rsR; rw [if_pos hc, if_pos (bd_true hC)]
   rw [e]
   rw [clo_eq hC, ex] at hI
   have hR := ringOf_ok t h h10 x.toNat hC
   rw [ex] at hR
   refine FreshCall.intro (n := 23) (rs := [.cell 4 26, .tmp 5]) Tryd.call27 Tryd.func27 rfl rfl rfl (by simp only [List.length_cons, List.length_nil]; omega) (fun cx hcx => ats_of ?_); simp only [argSlots, Nat.zero_add, Nat.reduceAdd]
   refine gB ?_
   refine gC fun K hK => ?_
   first | refine fcall_data (h0) rfl ?_ | refine YR_intro (acall_data (h0) rfl) ?_
   simp only [go_sem, seval]
   refine hK _ ?_; clear hK K
   refine gB ?_
   (repeat refine ats_seq ?_); refine ats_no rfl trivial ?_
   refine ats_skip ?_
   refine gC fun K hK => ?_
   first | refine fcall_data (hI) rfl ?_ | refine YR_intro (acall_data (hI) rfl) ?_
   simp only [go_sem, seval]
   refine hK _ ?_; clear hK K
   (repeat refine ats_seq ?_); refine ats_no rfl trivial ?_
   refine ats_skip ?_
   refine gC fun K hK => ?_
   refine fcall_own rfl (hR) rfl ?_; simp only [go_sem, seval]
   refine hK _ ?_; clear hK K
   exact ats_ret (own2C (v := .agg [.ref 2 []]) (by simp only [go_sem, seval]) trivial rfl (by simp))
  ·have e : rsR t x = (none, 5) := by unfold rsR; rw [if_pos hc, if_neg (fun hb => hC (bd_iff.1 hb))]
   rw [e]
   have hne : ((clo t x.toNat : Nat) : Int) ≠ x := fun e2 => hC (by
    have : clo t x.toNat = x.toNat := by omega
    rw [← this]
    exact h.clo_clos)
   refine FreshCall.intro (n := 23) (rs := [.cell 4 26, .tmp 5]) Tryd.call27 Tryd.func27 rfl rfl rfl (by simp only [List.length_cons, List.length_nil]; omega) (fun cx hcx => ats_of ?_); simp only [argSlots, Nat.zero_add, Nat.reduceAdd]
   refine gB ?_
   refine gC fun K hK => ?_
   first | refine fcall_data (h0) rfl ?_ | refine YR_intro (acall_data (h0) rfl) ?_
   simp only [go_sem, seval]
   refine hK _ ?_; clear hK K
   refine gB ?_
   (repeat refine ats_seq ?_); refine ats_no rfl trivial ?_
   refine ats_skip ?_
   refine gC fun K hK => ?_
   first | refine fcall_data (hI) rfl ?_ | refine YR_intro (acall_data (hI) rfl) ?_
   simp only [go_sem, seval]
   refine hK _ ?_; clear hK K
   refine gI (fun hx => ?_) fun hx => ?_
   ·refine gB ?_
    exact ats_ret (own2C (v := .agg [.nil]) (by simp only [go_sem, seval]) trivial rfl (by simp))
   ·exact (hne (by first | exact hx | simpa using hx)).elim
 ·have e : rsR t x = (none, scA t x) := by unfold rsR; rw [if_neg hc]
  rw [e]
  generalize scA t x = c at *
  refine FreshCall.intro (n := 23) (rs := [.cell 4 26, .tmp 5]) Tryd.call27 Tryd.func27 rfl rfl rfl (by simp only [List.length_cons, List.length_nil]; omega) (fun cx hcx => ats_of ?_); simp only [argSlots, Nat.zero_add, Nat.reduceAdd]
  refine gB ?_
  refine gC fun K hK => ?_
  first | refine fcall_data (h0) rfl ?_ | refine YR_intro (acall_data (h0) rfl) ?_
  simp only [go_sem, seval]
  refine hK _ ?_; clear hK K
  refine gB ?_
  refine gI (fun hx => ?_) fun hx => ?_
  ·refine gB ?_
   exact ats_ret (own2C (v := .agg [.nil]) (by simp only [go_sem, seval]) trivial rfl (by simp))
  ·exact (hc (by first | exact hx | simpa using hx)).elim
end Go.Proofs.YtfnokakbdehlgaaDoor
