import Derived.Test.YtakhnoenhmpfpaaGm
import Derived.Test.YtakhnoenhmpfpaaHd
set_option linter.unusedSimpArgs false
set_option linter.unusedVariables false
namespace Go.Proofs.Ytakhnoenhmpfpaa
open Go Go.Aw Go.Pl
noncomputable def diF (s : List (List Int)) (t : List Int) (s' : List (List Int)) (t' : List Int) : Option (List Int) := if t.length = t'.length then (extX t.length s t s' t' (t.length - 1) [0]).head? else none
noncomputable def diA (s : List (List Int)) (t : List Int) (s' : List (List Int)) (t' : List Int) : AV := if isData s t && isData s' t' then (match diF s t s' t' with
  | some q => .tup [.l1 q, .int 0]
  | none => .tup [.nil, .int 4]) else .tup [.nil, .int 1]
theorem fstI_data {s : List (List Int)} {t : List Int} {s' : List (List Int)} {t' : List Int} (h : isData s t = true) (h' : isData s' t' = true) (hl : t.length = t'.length) : fstI t.length s t s' t' t.length [] = diF s t s' t' := by
  have h1 := (isData_some h).1.1
  have a := (isData_some h).2.1
  have b := (isData_some h').2.1
  unfold fstI diF
  rw [if_pos hl, extI_first a.1 (by rw [hl]; exact b.1) h1 (by rw [a.2.2.1, b.2.2.1]) (by rw [a.2.1, b.2.1])]
set_option maxHeartbeats 4000000 in
theorem implDi_ok (s : List (List Int)) (t : List Int) (s' : List (List Int)) (t' : List Int) : FreshCall Try.prog 7 [.agg [.l2 s, .l1 t], .agg [.l2 s', .l1 t']] (diA s t s' t') := by
  have hk := IsData_ok s t
  have hk' := IsData_ok s' t'
  unfold diA
  refine FreshCall.intro (n := 33) (rs := [.tmp 4, .tmp 5]) Try.call7 Try.func7 rfl rfl rfl (by simp only [List.length_cons, List.length_nil]; omega) (fun cx hcx => ats_of ?_); simp only [argSlots, Nat.zero_add, Nat.reduceAdd]
  (repeat refine ats_seq ?_); refine ats_go (fix0 hcx) fun K hK => ?_; simp only [go_sem, seval]; (repeat refine And.intro (by first | omega | (intro hq; first | omega | (simp at hq <;> omega) | (simp_all <;> omega))) ?_); refine hK _ ?_; clear hK K
  (repeat refine ats_seq ?_); refine ats_go (fix0 hcx) fun K hK => ?_; simp only [go_sem, seval]
  first | refine fcall_free rfl rfl (hk) ?_ | refine YR_intro (acall_free rfl rfl (hk)) ?_
  simp only [go_sem, seval]
  (repeat refine And.intro (by first | omega | (intro hq; first | omega | (simp at hq <;> omega) | (simp_all <;> omega))) ?_)
  first | refine YR_intro (fun _ => acall_free rfl rfl (hk')) ?_ | refine YR_intro (acall_free rfl rfl (hk')) ?_
  simp only [go_sem, seval]
  (repeat refine And.intro (by first | omega | (intro hq; first | omega | (simp at hq <;> omega) | (simp_all <;> omega))) ?_)
  refine hK _ ?_; clear hK K
  cases h : isData s t with
  | false =>
    (repeat refine ats_seq ?_); refine ats_yes rfl trivial ?_
    (repeat refine ats_seq ?_); refine ats_go (fix0 hcx) fun K hK => ?_; simp only [go_sem, seval]; refine hK _ ?_; clear hK K
    exact ats_ret (own2 (is := []) trivial trivial rfl (by simp))
  | true =>
    cases h' : isData s' t' with
    | false =>
      (repeat refine ats_seq ?_); refine ats_yes rfl trivial ?_
      (repeat refine ats_seq ?_); refine ats_go (fix0 hcx) fun K hK => ?_; simp only [go_sem, seval]; refine hK _ ?_; clear hK K
      exact ats_ret (own2 (is := []) trivial trivial rfl (by simp))
    | true =>
      have hs := (isData_some h).1
      have hs' := (isData_some h').1
      have h1 := hs.1
      have lS : s.length = t.length := hs.2.2.1.1
      have lS' : s'.length = t'.length := hs'.2.2.1.1
      simp only [Bool.and_self, if_true]
      (repeat refine ats_seq ?_); refine ats_no rfl trivial ?_
      refine ats_skip ?_
      (repeat refine ats_seq ?_); refine ats_go (fix0 hcx) fun K hK => ?_; simp only [go_sem, seval]; (repeat refine And.intro (by first | omega | (intro hq; first | omega | (simp at hq <;> omega) | (simp_all <;> omega))) ?_); refine hK _ ?_; clear hK K
      (repeat refine ats_seq ?_); refine ats_go (fix0 hcx) fun K hK => ?_; simp only [go_sem, seval]; (repeat refine And.intro (by first | omega | (intro hq; first | omega | (simp at hq <;> omega) | (simp_all <;> omega))) ?_); refine hK _ ?_; clear hK K
      (repeat refine ats_seq ?_); refine ats_go (fix0 hcx) fun K hK => ?_; simp only [go_sem, seval]; (repeat refine And.intro (by first | omega | (intro hq; first | omega | (simp at hq <;> omega) | (simp_all <;> omega))) ?_); refine hK _ ?_; clear hK K
      by_cases hl : t.length = t'.length
      · have hsy := ext_ok t.length s t s' t' hs hs' rfl hl.symm t.length [] (by simp) QOk.nil
        rw [fstI_data h h' hl] at hsy
        simp only [TD] at hsy
        rw [lS, hl]
        rw [hl] at hsy
        obtain ⟨o, eo⟩ : ∃ o, diF s t s' t' = o := ⟨_, rfl⟩
        rw [eo] at hsy ⊢
        rcases o with _ | q
        · simp only [Option.getD_none, Option.isSome_none] at hsy
          (repeat refine ats_seq ?_); refine ats_goU (by first | exact fix0 hcx | exact fix1 hcx rfl | exact fixN hcx rfl) fun K hK => ?_; simp only [go_sem, seval, u_nil, u_cons, UK_ap, ung_eq, gOk_none, gOk_some, List.getElem?_toArray, List.getElem?_cons_zero, List.getElem?_cons_succ, true_and, and_true]
          simp only [lS', decide_true, Bool.not_true, true_and]
          refine fcall_box (hsy) (by simp [Aw.ids]) (by simp [find]) (by simp [closedT, killT, killAs, killA, outQ, Aw.ids]) (by simp [killAs, killA, outQ, Aw.ids]) (by simp [Aw.ids]) ?_; simp only [Aw.ids, List.map_cons, List.map_nil, List.filter_cons, List.filter_nil, List.contains_cons, List.contains_nil, Bool.or_false, Bool.or_true, Bool.not_true, Bool.not_false, Nat.reduceBEq, Bool.false_eq_true, if_true, if_false, List.cons_append, List.nil_append]; simp only [go_sem, seval]
          simp only [go_sem, seval, u_nil, u_cons, UK_ap, ung_eq, gOk_none, gOk_some, List.getElem?_toArray, List.getElem?_cons_zero, List.getElem?_cons_succ, true_and, and_true]
          (repeat refine And.intro (by first | omega | (intro hq; first | omega | (simp at hq <;> omega) | (simp_all <;> omega))) ?_)
          refine hK _ ?_; clear hK K
          (repeat refine ats_seq ?_); refine ats_yes rfl trivial ?_
          (repeat refine ats_seq ?_); refine ats_go (fix0 hcx) fun K hK => ?_; simp only [go_sem, seval]; refine hK _ ?_; clear hK K
          exact ats_ret (own2 (is := []) trivial trivial rfl (by simp))
        · simp only [Option.getD_some, Option.isSome_some] at hsy
          (repeat refine ats_seq ?_); refine ats_goU (by first | exact fix0 hcx | exact fix1 hcx rfl | exact fixN hcx rfl) fun K hK => ?_; simp only [go_sem, seval, u_nil, u_cons, UK_ap, ung_eq, gOk_none, gOk_some, List.getElem?_toArray, List.getElem?_cons_zero, List.getElem?_cons_succ, true_and, and_true]
          simp only [lS', decide_true, Bool.not_true, true_and]
          refine fcall_box (hsy) (by simp [Aw.ids]) (by simp [find]) (by simp [closedT, killT, killAs, killA, outQ, Aw.ids]) (by simp [killAs, killA, outQ, Aw.ids]) (by simp [Aw.ids]) ?_; simp only [Aw.ids, List.map_cons, List.map_nil, List.filter_cons, List.filter_nil, List.contains_cons, List.contains_nil, Bool.or_false, Bool.or_true, Bool.not_true, Bool.not_false, Nat.reduceBEq, Bool.false_eq_true, if_true, if_false, List.cons_append, List.nil_append]; simp only [go_sem, seval]
          simp only [go_sem, seval, u_nil, u_cons, UK_ap, ung_eq, gOk_none, gOk_some, List.getElem?_toArray, List.getElem?_cons_zero, List.getElem?_cons_succ, true_and, and_true]
          (repeat refine And.intro (by first | omega | (intro hq; first | omega | (simp at hq <;> omega) | (simp_all <;> omega))) ?_)
          refine hK _ ?_; clear hK K
          (repeat refine ats_seq ?_); refine ats_no rfl trivial ?_
          refine ats_skip ?_
          (repeat refine ats_seq ?_); refine ats_go (fix0 hcx) fun K hK => ?_; simp only [go_sem, seval]; refine hK _ ?_; clear hK K
          exact ats_ret (own2 (is := [2]) trivial trivial rfl (by simp))
      · have e : diF s t s' t' = none := by unfold diF; rw [if_neg hl]
        rw [e]
        have e2 : decide ((t'.length : Int) = (t.length : Int)) = false := decide_eq_false (by omega)
        (repeat refine ats_seq ?_); refine ats_go (fix0 hcx) fun K hK => ?_; simp only [go_sem, seval]
        simp only [lS, lS', e2, Bool.not_false]
        refine YR_intro (v := .bool false) (by first | trivial | (intro h; cases h)) ?_
        simp only [go_sem, seval]
        (repeat refine And.intro (by first | omega | (intro hq; first | omega | (simp at hq <;> omega) | (simp_all <;> omega))) ?_)
        refine hK _ ?_; clear hK K
        (repeat refine ats_seq ?_); refine ats_yes rfl trivial ?_
        (repeat refine ats_seq ?_); refine ats_go (fix0 hcx) fun K hK => ?_; simp only [go_sem, seval]; refine hK _ ?_; clear hK K
        exact ats_ret (own2 (is := []) trivial trivial rfl (by simp))
end Go.Proofs.Ytakhnoenhmpfpaa
