import Derived.Test.YtphokmkmpelnfaaDm
set_option linter.unusedSimpArgs false
set_option linter.unusedVariables false
namespace Go.Proofs.Ytphokmkmpelnfaa
open Go Go.Aw Go.Pl

def inC (t : List Int) (a : Int) : Bool := decide (0 ≤ a) && decide (a ≤ (t.length : Int) - 1)
noncomputable def chg (s : List (List Int)) (t : List Int) (a : Int) : Int := if isData s t then (if inC t a then 0 else 2) else 1
theorem inC_true {t : List Int} {a : Int} (h : inC t a = true) : 0 ≤ a ∧ a < t.length := by
  simp only [inC, Bool.and_eq_true, decide_eq_true_eq] at h
  omega
theorem l12Charge_ok (s : List (List Int)) (t : List Int) (a : Int) : PureCall Try.prog 46 [.agg [.l2 s, .l1 t], .int a] (.int (chg s t a)) := by
  have hk := l12Is_ok s t
  have hi := l01In_ok a 0 ((t.length : Int) - 1)
  unfold chg
  refine PureCall.intro (n := 17) (rs := [.tmp 4]) Try.call46 Try.func46 rfl rfl rfl (by simp only [List.length_cons, List.length_nil]; omega) (fun cx hcx => ats_of ?_); simp only [argSlots, Nat.zero_add, Nat.reduceAdd]
  (repeat refine ats_seq ?_); refine ats_go (by first | exact fix0 hcx | exact fix1 hcx rfl) fun K hK => ?_; simp only [go_sem, seval]; refine hK _ ?_; clear hK K
  (repeat refine ats_seq ?_); refine ats_block ?_
  cases h : isData s t with
  | false =>
    rw [h] at hk
    (repeat refine ats_seq ?_); refine ats_go (by first | exact fix0 hcx | exact fix1 hcx rfl) fun K hK => ?_; simp only [go_sem, seval]
    first | refine fcall_free rfl rfl (hk) ?_ | refine YR_intro (acall_free rfl rfl (hk)) ?_
    simp only [go_sem, seval]
    refine hK _ ?_; clear hK K
    (repeat refine ats_seq ?_); refine ats_yes rfl trivial ?_
    (repeat refine ats_seq ?_); refine ats_go (by first | exact fix0 hcx | exact fix1 hcx rfl) fun K hK => ?_; simp only [go_sem, seval]; refine hK _ ?_; clear hK K
    refine ats_ret (finI rfl ?_)
    rfl
  | true =>
    have hs := (isData_some h).1
    have h16 := hs.2.1
    rw [h] at hk
    (repeat refine ats_seq ?_); refine ats_go (by first | exact fix0 hcx | exact fix1 hcx rfl) fun K hK => ?_; simp only [go_sem, seval]
    first | refine fcall_free rfl rfl (hk) ?_ | refine YR_intro (acall_free rfl rfl (hk)) ?_
    simp only [go_sem, seval]
    refine hK _ ?_; clear hK K
    (repeat refine ats_seq ?_); refine ats_no rfl trivial ?_
    cases h2 : inC t a with
    | true =>
      have h2' := h2
      unfold inC at h2'
      rw [h2'] at hi
      (repeat refine ats_seq ?_); refine ats_go (by first | exact fix0 hcx | exact fix1 hcx rfl) fun K hK => ?_; simp only [go_sem, seval]
      (repeat refine And.intro (by first | omega | (intro hq; first | omega | (simp at hq <;> omega) | (simp_all <;> omega))) ?_)
      first | refine fcall_free rfl rfl (hi) ?_ | refine YR_intro (acall_free rfl rfl (hi)) ?_
      simp only [go_sem, seval]
      refine hK _ ?_; clear hK K
      (repeat refine ats_seq ?_); refine ats_no rfl trivial ?_
      refine ats_skip ?_
      (repeat refine ats_seq ?_); refine ats_go (by first | exact fix0 hcx | exact fix1 hcx rfl) fun K hK => ?_; simp only [go_sem, seval]; refine hK _ ?_; clear hK K
      refine ats_ret (finI rfl ?_)
      rfl
    | false =>
      have h2' := h2
      unfold inC at h2'
      rw [h2'] at hi
      (repeat refine ats_seq ?_); refine ats_go (by first | exact fix0 hcx | exact fix1 hcx rfl) fun K hK => ?_; simp only [go_sem, seval]
      (repeat refine And.intro (by first | omega | (intro hq; first | omega | (simp at hq <;> omega) | (simp_all <;> omega))) ?_)
      first | refine fcall_free rfl rfl (hi) ?_ | refine YR_intro (acall_free rfl rfl (hi)) ?_
      simp only [go_sem, seval]
      refine hK _ ?_; clear hK K
      (repeat refine ats_seq ?_); refine ats_yes rfl trivial ?_
      (repeat refine ats_seq ?_); refine ats_go (by first | exact fix0 hcx | exact fix1 hcx rfl) fun K hK => ?_; simp only [go_sem, seval]; refine hK _ ?_; clear hK K
      refine ats_ret (finI rfl ?_)
      rfl
theorem isCharge_ok (s : List (List Int)) (t : List Int) (a : Int) (hs : Shape s t) : PureCall Try.prog 77 [.agg [.l2 s, .l1 t], .int a] (.bool (inC t a)) := by
  have h16 := hs.2.1
  have ls := hs.2.2.1.1
  have hi := within_ok a 0 ((s.length : Int) - 1)
  refine PureCall.intro (n := 11) (rs := [.tmp 4]) Try.call77 Try.func77 rfl rfl rfl (by simp only [List.length_cons, List.length_nil]; omega) (fun cx hcx => ats_of ?_); simp only [argSlots, Nat.zero_add, Nat.reduceAdd]
  (repeat refine ats_seq ?_); refine ats_go (by first | exact fix0 hcx | exact fix1 hcx rfl) fun K hK => ?_; simp only [go_sem, seval]; refine hK _ ?_; clear hK K
  (repeat refine ats_seq ?_); refine ats_go (by first | exact fix0 hcx | exact fix1 hcx rfl) fun K hK => ?_; simp only [go_sem, seval]
  (repeat refine And.intro (by first | omega | (intro hq; first | omega | (simp at hq <;> omega) | (simp_all <;> omega))) ?_)
  first | refine fcall_free rfl rfl (hi) ?_ | refine YR_intro (acall_free rfl rfl (hi)) ?_
  simp only [go_sem, seval]
  refine hK _ ?_; clear hK K
  refine ats_ret (finB rfl ?_)
  unfold inC
  rw [ls]

noncomputable def gsA (s : List (List Int)) (t : List Int) (g : Int) : Int × Int := if isData s t then (if g = 1 then (gaussD s t t.length, 0) else if g = -1 then (gaussD s (ivF t) t.length, 0) else (0, 2)) else (0, 1)
end Go.Proofs.Ytphokmkmpelnfaa
