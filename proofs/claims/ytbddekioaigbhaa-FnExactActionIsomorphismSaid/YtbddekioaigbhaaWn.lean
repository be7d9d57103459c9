import Derived.Test.YtbddekioaigbhaaWx4
import Derived.Test.YtbddekioaigbhaaPl2
set_option linter.unusedSimpArgs false
set_option linter.unusedVariables false
namespace Go.Proofs.Ytbddekioaigbhaa
open Go Go.Aw Go.Pl

theorem l09Is_ok (t a : List (List (List Int))) : PureCall Try.prog 18 [.agg [.l3 t], .agg [.l3 a]] (.bool (isAct t a)) := by
  have hk := l03Is_ok t
  have hfam := l09Family_ok t a
  refine PureCall.intro (n := 19) (rs := [.tmp 4]) Try.call18 Try.func18 rfl rfl rfl (by simp only [List.length_cons, List.length_nil]; omega) (fun cx hcx => ats_of ?_); simp only [argSlots, Nat.zero_add, Nat.reduceAdd]
  (repeat refine ats_seq ?_); refine ats_go (fix0 hcx) fun K hK => ?_; simp only [go_sem, seval]; refine hK _ ?_; clear hK K
  cases hr : isRing t with
  | false =>
    rw [hr] at hk
    have e : isAct t a = false := isAct_no (fun h => by rw [hr] at h; cases h.1)
    (repeat refine ats_seq ?_); refine ats_go (fix0 hcx) fun K hK => ?_; simp only [go_sem, seval]
    first | refine fcall_free rfl rfl (hk) ?_ | refine YR_intro (acall_free rfl rfl (hk)) ?_
    simp only [go_sem, seval]
    refine YR_intro (v := .bool false) (by first | trivial | (intro h; cases h)) ?_
    simp only [go_sem, seval]
    refine YR_intro (v := .nil) (by first | trivial | (intro h; cases h)) ?_
    simp only [go_sem, seval]
    refine hK _ ?_; clear hK K
    refine ats_ret (finB rfl ?_)
    rw [e]
  | true =>
    rw [hr] at hk
    obtain ⟨hc, hn⟩ := isRing_true hr
    by_cases hf : Fam t a
    · rw [bd_true hf] at hfam
      have hact := l09Fault_ok t a hc hn hf
      cases hA : actF t a with
      | some u =>
        have hne := actF_ne hA
        have e : isAct t a = false := isAct_no (fun h => by rw [hA] at h; cases h.2.2)
        rw [hA] at hact
        simp only [optA] at hact
        (repeat refine ats_seq ?_); refine ats_go (fix0 hcx) fun K hK => ?_; simp only [go_sem, seval]
        first | refine fcall_free rfl rfl (hk) ?_ | refine YR_intro (acall_free rfl rfl (hk)) ?_
        simp only [go_sem, seval]
        first | refine YR_intro (fun _ => acall_free rfl rfl (hfam)) ?_ | refine YR_intro (acall_free rfl rfl (hfam)) ?_
        simp only [go_sem, seval]
        first | refine YR_intro (fun _ => acall_data (hact) rfl) ?_ | refine YR_intro (acall_data (hact) rfl) ?_
        simp only [go_sem, seval]
        (repeat refine And.intro (by first | omega | (intro hq; first | omega | (simp at hq <;> omega) | (simp_all <;> omega))) ?_)
        refine hK _ ?_; clear hK K
        refine ats_ret (finB rfl ?_)
        rw [e]
        simp only [Bool.false_eq, decide_eq_false_iff_not]
        omega
      | none =>
        have e : isAct t a = true := isAct_iff.2 ⟨hr, hf, hA⟩
        rw [hA] at hact
        simp only [optA] at hact
        (repeat refine ats_seq ?_); refine ats_go (fix0 hcx) fun K hK => ?_; simp only [go_sem, seval]
        first | refine fcall_free rfl rfl (hk) ?_ | refine YR_intro (acall_free rfl rfl (hk)) ?_
        simp only [go_sem, seval]
        first | refine YR_intro (fun _ => acall_free rfl rfl (hfam)) ?_ | refine YR_intro (acall_free rfl rfl (hfam)) ?_
        simp only [go_sem, seval]
        first | refine YR_intro (fun _ => acall_data (hact) rfl) ?_ | refine YR_intro (acall_data (hact) rfl) ?_
        simp only [go_sem, seval]
        refine hK _ ?_; clear hK K
        refine ats_ret (finB rfl ?_)
        rw [e]
        try rfl
    · rw [bd_false hf] at hfam
      have e : isAct t a = false := isAct_no (fun h => hf h.2.1)
      (repeat refine ats_seq ?_); refine ats_go (fix0 hcx) fun K hK => ?_; simp only [go_sem, seval]
      first | refine fcall_free rfl rfl (hk) ?_ | refine YR_intro (acall_free rfl rfl (hk)) ?_
      simp only [go_sem, seval]
      first | refine YR_intro (fun _ => acall_free rfl rfl (hfam)) ?_ | refine YR_intro (acall_free rfl rfl (hfam)) ?_
      simp only [go_sem, seval]
      refine YR_intro (v := .nil) (by first | trivial | (intro h; cases h)) ?_
      simp only [go_sem, seval]
      refine hK _ ?_; clear hK K
      refine ats_ret (finB rfl ?_)
      rw [e]

theorem IsAction_ok (t a : List (List (List Int))) : PureCall Try.prog 21 [.agg [.l3 t], .agg [.l3 a]] (.bool (isAct t a)) := by
  have hk := IsRing_ok t
  refine PureCall.intro (n := 18) (rs := [.tmp 4]) Try.call21 Try.func21 rfl rfl rfl (by simp only [List.length_cons, List.length_nil]; omega) (fun cx hcx => ats_of ?_); simp only [argSlots, Nat.zero_add, Nat.reduceAdd]
  (repeat refine ats_seq ?_); refine ats_go (fix0 hcx) fun K hK => ?_; simp only [go_sem, seval]; refine hK _ ?_; clear hK K
  cases hr : isRing t with
  | false =>
    rw [hr] at hk
    have e : isAct t a = false := isAct_no (fun h => by rw [hr] at h; cases h.1)
    (repeat refine ats_seq ?_); refine ats_go (fix0 hcx) fun K hK => ?_; simp only [go_sem, seval]
    first | refine fcall_free rfl rfl (hk) ?_ | refine YR_intro (acall_free rfl rfl (hk)) ?_
    simp only [go_sem, seval]
    refine YR_intro (v := .bool false) (by first | trivial | (intro h; cases h)) ?_
    simp only [go_sem, seval]
    refine YR_intro (v := .nil) (by first | trivial | (intro h; cases h)) ?_
    simp only [go_sem, seval]
    refine hK _ ?_; clear hK K
    refine ats_ret (finB rfl ?_)
    rw [e]
  | true =>
    rw [hr] at hk
    obtain ⟨hc, hn⟩ := isRing_true hr
    have hfam := isFamily_ok t a hc
    by_cases hf : Fam t a
    · rw [bd_true hf] at hfam
      have hact := actionFault_ok t a hc hn hf (fun i j _ _ => prod_iff t a i j)
      cases hA : actF t a with
      | some u =>
        have hne := actF_ne hA
        have e : isAct t a = false := isAct_no (fun h => by rw [hA] at h; cases h.2.2)
        rw [hA] at hact
        simp only [optA] at hact
        (repeat refine ats_seq ?_); refine ats_go (fix0 hcx) fun K hK => ?_; simp only [go_sem, seval]
        first | refine fcall_free rfl rfl (hk) ?_ | refine YR_intro (acall_free rfl rfl (hk)) ?_
        simp only [go_sem, seval]
        first | refine YR_intro (fun _ => acall_free rfl rfl (hfam)) ?_ | refine YR_intro (acall_free rfl rfl (hfam)) ?_
        simp only [go_sem, seval]
        first | refine YR_intro (fun _ => acall_fresh rfl (hact)) ?_ | refine YR_intro (acall_fresh rfl (hact)) ?_
        simp only [go_sem, seval]
        (repeat refine And.intro (by first | omega | (intro hq; first | omega | (simp at hq <;> omega) | (simp_all <;> omega))) ?_)
        refine hK _ ?_; clear hK K
        refine ats_ret (finB rfl ?_)
        rw [e]
      | none =>
        have e : isAct t a = true := isAct_iff.2 ⟨hr, hf, hA⟩
        rw [hA] at hact
        simp only [optA] at hact
        (repeat refine ats_seq ?_); refine ats_go (fix0 hcx) fun K hK => ?_; simp only [go_sem, seval]
        first | refine fcall_free rfl rfl (hk) ?_ | refine YR_intro (acall_free rfl rfl (hk)) ?_
        simp only [go_sem, seval]
        first | refine YR_intro (fun _ => acall_free rfl rfl (hfam)) ?_ | refine YR_intro (acall_free rfl rfl (hfam)) ?_
        simp only [go_sem, seval]
        first | refine YR_intro (fun _ => acall_fresh rfl (hact)) ?_ | refine YR_intro (acall_fresh rfl (hact)) ?_
        simp only [go_sem, seval]
        refine hK _ ?_; clear hK K
        refine ats_ret (finB rfl ?_)
        rw [e]
    · rw [bd_false hf] at hfam
      have e : isAct t a = false := isAct_no (fun h => hf h.2.1)
      (repeat refine ats_seq ?_); refine ats_go (fix0 hcx) fun K hK => ?_; simp only [go_sem, seval]
      first | refine fcall_free rfl rfl (hk) ?_ | refine YR_intro (acall_free rfl rfl (hk)) ?_
      simp only [go_sem, seval]
      first | refine YR_intro (fun _ => acall_free rfl rfl (hfam)) ?_ | refine YR_intro (acall_free rfl rfl (hfam)) ?_
      simp only [go_sem, seval]
      refine YR_intro (v := .nil) (by first | trivial | (intro h; cases h)) ?_
      simp only [go_sem, seval]
      refine hK _ ?_; clear hK K
      refine ats_ret (finB rfl ?_)
      rw [e]
end Go.Proofs.Ytbddekioaigbhaa
