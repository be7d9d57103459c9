import Derived.Test.YtakhnoenhmpfpaaGreatDi
set_option linter.unusedSimpArgs false
set_option linter.unusedVariables false
namespace Go.Proofs.YtakhnoenhmpfpaaGreat
open Go Go.Aw Go.Pl
theorem dataFault_ok (s : List (List Int)) (t : List Int) (hs : Shape s t) : PureCall Tryz.prog 29 [.agg [.l2 s, .l1 t]] (.int (dF s t)) := by
  have hS := isStart_ok s t hs
  have hW := dwhole_ok s t hs
  have hJ := conjugation_ok s t hs
  have hT := turns_ok s t hs
  refine PureCall.intro (n := 32) (rs := [.tmp 2]) Tryz.call29 Tryz.func29 rfl rfl rfl (by simp only [List.length_cons, List.length_nil]; omega) (fun cx hcx => ats_of ?_); simp only [argSlots, Nat.zero_add, Nat.reduceAdd]
  (repeat refine ats_seq ?_); refine ats_go (fix0 hcx) fun K hK => ?_; simp only [go_sem, seval]; refine hK _ ?_; clear hK K
  (repeat refine ats_seq ?_); refine ats_go (fix0 hcx) fun K hK => ?_; simp only [go_sem, seval]
  first | refine fcall_free rfl rfl (hS) ?_ | refine YR_intro (acall_free rfl rfl (hS)) ?_
  simp only [go_sem, seval]
  refine hK _ ?_; clear hK K
  by_cases h0 : StartP s t
  · rw [bd_true h0]
    (repeat refine ats_seq ?_); refine ats_no rfl trivial ?_
    refine ats_skip ?_
    (repeat refine ats_seq ?_); refine ats_go (fix0 hcx) fun K hK => ?_; simp only [go_sem, seval]
    first | refine fcall_free rfl rfl (hW) ?_ | refine YR_intro (acall_free rfl rfl (hW)) ?_
    simp only [go_sem, seval]
    refine hK _ ?_; clear hK K
    by_cases h1 : wholeD s t.length = 0
    · simp only [h1, decide_true]
      (repeat refine ats_seq ?_); refine ats_yes rfl trivial ?_
      (repeat refine ats_seq ?_); refine ats_go (fix0 hcx) fun K hK => ?_; simp only [go_sem, seval]; refine hK _ ?_; clear hK K
      refine ats_ret (finI rfl ?_)
      rw [dF_1 h0 h1]
    · simp only [h1, decide_false]
      (repeat refine ats_seq ?_); refine ats_no rfl trivial ?_
      refine ats_skip ?_
      cases hc : cj s t with
      | none =>
        rw [hc] at hJ
        simp only [optA] at hJ
        (repeat refine ats_seq ?_); refine ats_go (fix0 hcx) fun K hK => ?_; simp only [go_sem, seval]
        first | refine fcall_fresh rfl (hJ) ?_ | refine YR_intro (acall_fresh rfl (hJ)) ?_
        simp only [go_sem, seval]
        refine hK _ ?_; clear hK K
        (repeat refine ats_seq ?_); refine ats_go (fix0 hcx) fun K hK => ?_; simp only [go_sem, seval]; refine hK _ ?_; clear hK K
        (repeat refine ats_seq ?_); refine ats_yes rfl trivial ?_
        (repeat refine ats_seq ?_); refine ats_go (fix0 hcx) fun K hK => ?_; simp only [go_sem, seval]; refine hK _ ?_; clear hK K
        refine ats_ret (finI rfl ?_)
        rw [dF_2 h0 h1 hc]
      | some c =>
        rw [hc] at hJ
        simp only [optA] at hJ
        have hci := cj_in hc
        have hF := fusion_ok s t c hs hci.1 hci.2
        have hR := IsRing_ok (numD s t.length c)
        (repeat refine ats_seq ?_); refine ats_go (fix0 hcx) fun K hK => ?_; simp only [go_sem, seval]
        first | refine fcall_fresh rfl (hJ) ?_ | refine YR_intro (acall_fresh rfl (hJ)) ?_
        simp only [go_sem, seval]
        refine hK _ ?_; clear hK K
        have hc1 := hci.1
        have hs1 := hs.1
        (repeat refine ats_seq ?_); refine ats_go (fix0 hcx) fun K hK => ?_; simp only [go_sem, seval]; (repeat refine And.intro (by first | omega | (intro hq; first | omega | (simp at hq <;> omega) | (simp_all <;> omega))) ?_); refine hK _ ?_; clear hK K
        (repeat refine ats_seq ?_); refine ats_no rfl trivial ?_
        refine ats_skip ?_
        (repeat refine ats_seq ?_); refine ats_go (fix0 hcx) fun K hK => ?_; simp only [go_sem, seval]
        first | refine fcall_free rfl rfl (hT) ?_ | refine YR_intro (acall_free rfl rfl (hT)) ?_
        simp only [go_sem, seval]
        refine hK _ ?_; clear hK K
        by_cases h2 : TurnP s t
        · rw [bd_true h2]
          (repeat refine ats_seq ?_); refine ats_no rfl trivial ?_
          refine ats_skip ?_
          by_cases h3 : Cube (numD s t.length c)
          · rw [bd_true h3] at hF
            (repeat refine ats_seq ?_); refine ats_go (fix0 hcx) fun K hK => ?_; simp only [go_sem, seval]
            first | refine fcall_fresh rfl (hF) ?_ | refine YR_intro (acall_fresh rfl (hF)) ?_
            simp only [go_sem, seval]
            refine hK _ ?_; clear hK K
            (repeat refine ats_seq ?_); refine ats_go (fix0 hcx) fun K hK => ?_; simp only [go_sem, seval]
            first | refine YR_intro (fun _ => acall_free rfl rfl (hR)) ?_ | refine YR_intro (acall_free rfl rfl (hR)) ?_
            simp only [go_sem, seval]
            refine hK _ ?_; clear hK K
            cases h4 : isRing (numD s t.length c) with
            | true =>
              (repeat refine ats_seq ?_); refine ats_no rfl trivial ?_
              refine ats_skip ?_
              (repeat refine ats_seq ?_); refine ats_go (fix0 hcx) fun K hK => ?_; simp only [go_sem, seval]; refine hK _ ?_; clear hK K
              refine ats_ret (finI rfl ?_)
              rw [dF_5 h0 h1 hc h2 h4]
            | false =>
              (repeat refine ats_seq ?_); refine ats_yes rfl trivial ?_
              (repeat refine ats_seq ?_); refine ats_go (fix0 hcx) fun K hK => ?_; simp only [go_sem, seval]; refine hK _ ?_; clear hK K
              refine ats_ret (finI rfl ?_)
              rw [dF_4 h0 h1 hc h2 h4]
          · rw [bd_false h3] at hF
            have h4 : isRing (numD s t.length c) = false := bd_false (fun h => h3 h.1)
            (repeat refine ats_seq ?_); refine ats_go (fix0 hcx) fun K hK => ?_; simp only [go_sem, seval]
            first | refine fcall_fresh rfl (hF) ?_ | refine YR_intro (acall_fresh rfl (hF)) ?_
            simp only [go_sem, seval]
            refine hK _ ?_; clear hK K
            (repeat refine ats_seq ?_); refine ats_go (fix0 hcx) fun K hK => ?_; simp only [go_sem, seval]
            refine YR_intro (v := .bool false) (by first | trivial | (intro h; cases h)) ?_
            simp only [go_sem, seval]
            refine hK _ ?_; clear hK K
            (repeat refine ats_seq ?_); refine ats_yes rfl trivial ?_
            (repeat refine ats_seq ?_); refine ats_go (fix0 hcx) fun K hK => ?_; simp only [go_sem, seval]; refine hK _ ?_; clear hK K
            refine ats_ret (finI rfl ?_)
            rw [dF_4 h0 h1 hc h2 h4]
        · rw [bd_false h2]
          (repeat refine ats_seq ?_); refine ats_yes rfl trivial ?_
          (repeat refine ats_seq ?_); refine ats_go (fix0 hcx) fun K hK => ?_; simp only [go_sem, seval]; refine hK _ ?_; clear hK K
          refine ats_ret (finI rfl ?_)
          rw [dF_3 h0 h1 hc h2]
  · rw [bd_false h0]
    (repeat refine ats_seq ?_); refine ats_yes rfl trivial ?_
    (repeat refine ats_seq ?_); refine ats_go (fix0 hcx) fun K hK => ?_; simp only [go_sem, seval]; refine hK _ ?_; clear hK K
    refine ats_ret (finI rfl ?_)
    rw [dF_0 h0]
theorem IsData_ok (s : List (List Int)) (t : List Int) : PureCall Tryz.prog 19 [.agg [.l2 s, .l1 t]] (.bool (isData s t)) := by
  have hk := isShape_ok s t
  refine PureCall.intro (n := 10) (rs := [.tmp 2]) Tryz.call19 Tryz.func19 rfl rfl rfl (by simp only [List.length_cons, List.length_nil]; omega) (fun cx hcx => ats_of ?_); simp only [argSlots, Nat.zero_add, Nat.reduceAdd]
  (repeat refine ats_seq ?_); refine ats_go (fix0 hcx) fun K hK => ?_; simp only [go_sem, seval]; refine hK _ ?_; clear hK K
  by_cases hs : Shape s t
  · rw [bd_true hs] at hk
    have hf := dataFault_ok s t hs
    have hr := dF_range s t
    (repeat refine ats_seq ?_); refine ats_go (fix0 hcx) fun K hK => ?_; simp only [go_sem, seval]
    first | refine fcall_free rfl rfl (hk) ?_ | refine YR_intro (acall_free rfl rfl (hk)) ?_
    simp only [go_sem, seval]
    first | refine YR_intro (fun _ => acall_free rfl rfl (hf)) ?_ | refine YR_intro (acall_free rfl rfl (hf)) ?_
    simp only [go_sem, seval]
    refine hK _ ?_; clear hK K
    refine ats_ret (finB rfl ?_)
    by_cases h : dF s t = -1
    · rw [isData_iff.2 ⟨hs, h⟩, h]; rfl
    · rw [isData_no (fun hh => h hh.2)]
      simp only [Bool.false_eq, decide_eq_false_iff_not]
      omega
  · rw [bd_false hs] at hk
    have e : isData s t = false := isData_no (fun hh => hs hh.1)
    (repeat refine ats_seq ?_); refine ats_go (fix0 hcx) fun K hK => ?_; simp only [go_sem, seval]
    first | refine fcall_free rfl rfl (hk) ?_ | refine YR_intro (acall_free rfl rfl (hk)) ?_
    simp only [go_sem, seval]
    refine YR_intro (v := .int 0) (by first | trivial | (intro h; cases h)) ?_
    simp only [go_sem, seval]
    refine hK _ ?_; clear hK K
    refine ats_ret (finB rfl ?_)
    rw [e]
end Go.Proofs.YtakhnoenhmpfpaaGreat
