import Derived.Test.YtakhnoenhmpfpaaGk
import Derived.Test.YtakhnoenhmpfpaaGl
import Derived.Test.YtakhnoenhmpfpaaGn
import Derived.Test.YtakhnoenhmpfpaaDf
set_option linter.unusedSimpArgs false
set_option linter.unusedVariables false
namespace Go.Proofs.Ytakhnoenhmpfpaa
open Go Go.Aw Go.Pl
noncomputable def syB (s : List (List Int)) (t : List Int) : AV := if isData s t then (if (syE s t).length ≤ 1000 then .tup [argM (mapsO t.length s t s t 1001), .int 0] else .tup [.nil, .int 3]) else .tup [.nil, .int 1]
theorem diA_shape (s : List (List Int)) (t : List Int) (s' : List (List Int)) (t' : List Int) : ∃ (u : Option (List Int)) (c : Int), diA s t s' t' = .tup [optA u, .int c] ∧ ∀ v, u = some v → v.length ≤ 1048576 := by
  unfold diA
  cases h : isData s t with
  | false => exact ⟨none, 1, rfl, fun _ h => by cases h⟩
  | true =>
    cases h' : isData s' t' with
    | false => exact ⟨none, 1, rfl, fun _ h => by cases h⟩
    | true =>
      have h16 := (isData_some h).1.2.1
      have h1 := (isData_some h).1.1
      simp only [Bool.and_self, if_true]
      cases hd : diF s t s' t' with
      | none => exact ⟨none, 4, rfl, fun _ h => by cases h⟩
      | some q =>
        refine ⟨some q, 0, rfl, fun v hv => ?_⟩
        cases hv
        unfold diF at hd
        split at hd
        · have hm := List.mem_of_mem_head? (Option.mem_def.2 hd)
          have := extX_len _ _ (by simp; omega) q hm
          omega
        · cases hd
set_option maxHeartbeats 4000000 in
theorem specDi_ok (s : List (List Int)) (t : List Int) (s' : List (List Int)) (t' : List Int) : PureCall Try.prog 5 [.agg [.l2 s, .l1 t], .agg [.l2 s', .l1 t']] (diA s t s' t') := by
  have hk := l12Is_ok s t
  have hk' := l12Is_ok s' t'
  unfold diA
  refine PureCall.intro (n := 32) (rs := [.tmp 4, .tmp 5]) Try.call5 Try.func5 rfl rfl rfl (by simp only [List.length_cons, List.length_nil]; omega) (fun cx hcx => ats_of ?_); simp only [argSlots, Nat.zero_add, Nat.reduceAdd]
  (repeat refine ats_seq ?_); refine ats_go (fix0 hcx) fun K hK => ?_; simp only [go_sem, seval]; (repeat refine And.intro (by first | omega | (intro hq; first | omega | (simp at hq <;> omega) | (simp_all <;> omega))) ?_); refine hK _ ?_; clear hK K
  (repeat refine ats_seq ?_); refine ats_go (fix0 hcx) fun K hK => ?_; simp only [go_sem, seval]
  first | refine fcall_free rfl rfl (hk) ?_ | refine YR_intro (acall_free rfl rfl (hk)) ?_
  simp only [go_sem, seval]
  (repeat refine And.intro (by first | omega | (intro hq; first | omega | (simp at hq <;> omega) | (simp_all <;> omega))) ?_)
  first | refine YR_intro (fun _ => acall_free rfl rfl (hk')) ?_ | refine YR_intro (acall_free rfl rfl (hk')) ?_
  simp only [go_sem, seval]
  (repeat refine And.intro (by first | omega | (intro hq; first | omega | (simp at hq <;> omega) | (simp_all <;> omega))) ?_)
  refine hK _ ?_; clear hK K
  cases h : isData s t with
  | false =>
    (repeat refine ats_seq ?_); refine ats_yes rfl trivial ?_
    (repeat refine ats_seq ?_); refine ats_go (fix0 hcx) fun K hK => ?_; simp only [go_sem, seval]; refine hK _ ?_; clear hK K
    exact ats_ret (fin2 trivial trivial rfl)
  | true =>
    cases h' : isData s' t' with
    | false =>
      (repeat refine ats_seq ?_); refine ats_yes rfl trivial ?_
      (repeat refine ats_seq ?_); refine ats_go (fix0 hcx) fun K hK => ?_; simp only [go_sem, seval]; refine hK _ ?_; clear hK K
      exact ats_ret (fin2 trivial trivial rfl)
    | true =>
      have hs := (isData_some h).1
      have hs' := (isData_some h').1
      simp only [Bool.and_self, if_true]
      (repeat refine ats_seq ?_); refine ats_no rfl trivial ?_
      refine ats_skip ?_
      (repeat refine ats_seq ?_); refine ats_go (fix0 hcx) fun K hK => ?_; simp only [go_sem, seval]; (repeat refine And.intro (by first | omega | (intro hq; first | omega | (simp at hq <;> omega) | (simp_all <;> omega))) ?_); refine hK _ ?_; clear hK K
      (repeat refine ats_seq ?_); refine ats_go (fix0 hcx) fun K hK => ?_; simp only [go_sem, seval]; (repeat refine And.intro (by first | omega | (intro hq; first | omega | (simp at hq <;> omega) | (simp_all <;> omega))) ?_); refine hK _ ?_; clear hK K
      (repeat refine ats_seq ?_); first | refine ats_ifn (p := _) rfl trivial (fun hl => ?_) (fun hl => ?_) | refine ats_ifp (p := _) rfl trivial (fun hl => ?_) (fun hl => ?_) | refine ats_cond rfl trivial (fun hl => ?_) (fun hl => ?_)
      · have hl' : t.length = t'.length := by omega
        have hm := l12Maps_ok t.length s t s' t' hs hs' rfl hl'.symm 1 (by omega) (by omega)
        have a := (isData_some h).2.1
        have b := (isData_some h').2.1
        have e := mapsO_eq (n := t.length) (s := s) (t := t) (s' := s') (t' := t') a.1 (by rw [hl']; exact b.1) hs.1 hs.2.1 (by rw [a.2.2.1, b.2.2.1]) (by rw [a.2.1, b.2.1]) (most := 1) (by omega)
        have ed : diF s t s' t' = (extX t.length s t s' t' (t.length - 1) [0]).head? := by unfold diF; rw [if_pos hl']
        obtain ⟨X, eX⟩ : ∃ X, extX t.length s t s' t' (t.length - 1) [0] = X := ⟨_, rfl⟩
        rw [eX] at e ed
        obtain ⟨o, eo⟩ : ∃ o, mapsO t.length s t s' t' 1 = o := ⟨_, rfl⟩
        rw [eo] at hm e
        rw [ed]
        rcases o with _ | L
        · have eX0 : X = [] := by
            cases X with
            | nil => rfl
            | cons x X => simp at e
          rw [eX0]
          simp only [argM, List.head?_nil] at hm ⊢
          (repeat refine ats_seq ?_); refine ats_go (fix0 hcx) fun K hK => ?_; simp only [go_sem, seval]
          first | refine fcall_data (hm) rfl ?_ | refine YR_intro (acall_data (hm) rfl) ?_
          simp only [go_sem, seval]
          (repeat refine And.intro (by first | omega | (intro hq; first | omega | (simp at hq <;> omega) | (simp_all <;> omega))) ?_)
          refine hK _ ?_; clear hK K
          (repeat refine ats_seq ?_); refine ats_go (fix0 hcx) fun K hK => ?_; simp only [go_sem, seval]; (repeat refine And.intro (by first | omega | (intro hq; first | omega | (simp at hq <;> omega) | (simp_all <;> omega))) ?_); refine hK _ ?_; clear hK K
          (repeat refine ats_seq ?_); refine ats_yes rfl trivial ?_
          (repeat refine ats_seq ?_); refine ats_go (fix0 hcx) fun K hK => ?_; simp only [go_sem, seval]; refine hK _ ?_; clear hK K
          exact ats_ret (fin2 trivial trivial rfl)
        · simp only [argM, Option.getD_some] at hm e ⊢
          subst e
          (repeat refine ats_seq ?_); refine ats_go (fix0 hcx) fun K hK => ?_; simp only [go_sem, seval]
          first | refine fcall_data (hm) rfl ?_ | refine YR_intro (acall_data (hm) rfl) ?_
          simp only [go_sem, seval]
          (repeat refine And.intro (by first | omega | (intro hq; first | omega | (simp at hq <;> omega) | (simp_all <;> omega))) ?_)
          refine hK _ ?_; clear hK K
          cases X with
          | nil =>
            simp only [List.take_nil, List.head?_nil]
            (repeat refine ats_seq ?_); refine ats_go (fix0 hcx) fun K hK => ?_; simp only [go_sem, seval]; (repeat refine And.intro (by first | omega | (intro hq; first | omega | (simp at hq <;> omega) | (simp_all <;> omega))) ?_); refine hK _ ?_; clear hK K
            (repeat refine ats_seq ?_); refine ats_yes rfl trivial ?_
            (repeat refine ats_seq ?_); refine ats_go (fix0 hcx) fun K hK => ?_; simp only [go_sem, seval]; refine hK _ ?_; clear hK K
            exact ats_ret (fin2 trivial trivial rfl)
          | cons q X =>
            simp only [List.take_succ_cons, List.take_zero, List.head?_cons]
            (repeat refine ats_seq ?_); refine ats_go (fix0 hcx) fun K hK => ?_; simp only [go_sem, seval]; (repeat refine And.intro (by first | omega | (intro hq; first | omega | (simp at hq <;> omega) | (simp_all <;> omega))) ?_); refine hK _ ?_; clear hK K
            (repeat refine ats_seq ?_); refine ats_no rfl trivial ?_
            refine ats_skip ?_
            (repeat refine ats_seq ?_); refine ats_go (fix0 hcx) fun K hK => ?_; simp only [go_sem, seval]; (repeat refine And.intro (by first | omega | (intro hq; first | omega | (simp at hq <;> omega) | (simp_all <;> omega))) ?_); refine hK _ ?_; clear hK K
            exact ats_ret (fin2 trivial trivial rfl)
      · have hl' : ¬ t.length = t'.length := by omega
        have ed : diF s t s' t' = none := by unfold diF; rw [if_neg hl']
        rw [ed]
        refine ats_skip ?_
        (repeat refine ats_seq ?_); refine ats_go (fix0 hcx) fun K hK => ?_; simp only [go_sem, seval]; (repeat refine And.intro (by first | omega | (intro hq; first | omega | (simp at hq <;> omega) | (simp_all <;> omega))) ?_); refine hK _ ?_; clear hK K
        (repeat refine ats_seq ?_); refine ats_yes rfl trivial ?_
        (repeat refine ats_seq ?_); refine ats_go (fix0 hcx) fun K hK => ?_; simp only [go_sem, seval]; refine hK _ ?_; clear hK K
        exact ats_ret (fin2 trivial trivial rfl)
end Go.Proofs.Ytakhnoenhmpfpaa
