/-
  PartsOfAction, IsIndecomposable.
-/
import Derived.Test.YtdlmmmklahajgaaEn
import Derived.Test.YtdlmmmklahajgaaEo
set_option linter.unusedSimpArgs false
set_option linter.unusedVariables false
namespace Go.Proofs.Ytdlmmmklahajgaa
open Go Go.Aw Go.Pl

/-- What both sides' parts ask for. -/
theorem act_parts {t a : List (List (List Int))} (h : isAct t a = true) : (∀ i, i < a.length → MatOk (a.getD 0 []).length (a.getD i [])) ∧ 1 ≤ (a.getD 0 []).length ∧ (a.getD 0 []).length ≤ 16 ∧ 0 < a.length ∧ a.length ≤ 16 := by
  have fa := isAct_fam h
  have h16 := (isAct_ring h).1.2.1
  have h1 := (isAct_ring h).1.1
  have la := fa.1
  exact ⟨fa.2.2.2.2, fa.2.2.1, fa.2.2.2.1, by omega, by omega⟩
theorem partsI_ok {t a : List (List (List Int))} (h : isAct t a = true) : FreshCall Try.prog 40 [.agg [.l3 a]] (.l1 (partsL a)) := by
  obtain ⟨h1, h2, h3, h4, h5⟩ := act_parts h
  exact partsOf_ok a _ rfl h1 h2 h3 h4 h5
theorem partsS_ok {t a : List (List (List Int))} (h : isAct t a = true) : PureCall Try.prog 38 [.agg [.l3 a]] (.l1 (partsL a)) := by
  obtain ⟨h1, h2, h3, h4, h5⟩ := act_parts h
  exact l09Parts_ok a _ rfl h1 h2 h3 h4 h5 (fun x y hx hy => jn_sym h hx hy)

theorem implPoa_ok (t a : List (List (List Int))) : FreshCall Try.prog 21 [.agg [.l3 t], .agg [.l3 a]] (partsA t a) := by
  have ha := IsAction_ok t a
  unfold partsA
  refine FreshCall.intro (n := 12) (rs := [.tmp 4, .tmp 5]) Try.call21 Try.func21 rfl rfl rfl (by simp only [List.length_cons, List.length_nil]; omega) (fun cx hcx => ats_of ?_); simp only [argSlots, Nat.zero_add, Nat.reduceAdd]
  (repeat refine ats_seq ?_); refine ats_go (by first | exact fix0 hcx | exact fix1 hcx rfl) fun K hK => ?_; simp only [go_sem, seval]; refine hK _ ?_; clear hK K
  (repeat refine ats_seq ?_); refine ats_go (by first | exact fix0 hcx | exact fix1 hcx rfl) fun K hK => ?_; simp only [go_sem, seval]
  first | refine fcall_free rfl rfl (ha) ?_ | refine YR_intro (acall_free rfl rfl (ha)) ?_
  simp only [go_sem, seval]
  refine hK _ ?_; clear hK K
  (repeat refine ats_seq ?_); first | refine ats_ifn (p := _) rfl trivial (fun hc1 => ?_) (fun hc1 => ?_) | refine ats_ifp (p := _) rfl trivial (fun hc1 => ?_) (fun hc1 => ?_) | refine ats_cond rfl trivial (fun hc1 => ?_) (fun hc1 => ?_)
  · have e : ¬ isAct t a = true := fun h => hc1 (isAct_iff.1 h)
    (repeat refine ats_seq ?_); refine ats_go (by first | exact fix0 hcx | exact fix1 hcx rfl) fun K hK => ?_; simp only [go_sem, seval]; refine hK _ ?_; clear hK K
    rw [if_neg e]
    exact ats_ret (own2 (is := []) trivial trivial rfl (by simp))
  · have e : isAct t a = true := isAct_iff.2 hc1
    have hp := partsI_ok e
    rw [if_pos e]
    refine ats_skip ?_
    (repeat refine ats_seq ?_); refine ats_go (by first | exact fix0 hcx | exact fix1 hcx rfl) fun K hK => ?_; simp only [go_sem, seval]
    refine fcall_own rfl (hp) rfl ?_; simp only [go_sem, seval]
    refine hK _ ?_; clear hK K
    exact ats_ret (own2 (is := [2]) trivial trivial rfl (by simp))

theorem specPoa_ok (t a : List (List (List Int))) : PureCall Try.prog 20 [.agg [.l3 t], .agg [.l3 a]] (partsA t a) := by
  have ha := l09Is_ok t a
  unfold partsA
  refine PureCall.intro (n := 12) (rs := [.tmp 4, .tmp 5]) Try.call20 Try.func20 rfl rfl rfl (by simp only [List.length_cons, List.length_nil]; omega) (fun cx hcx => ats_of ?_); simp only [argSlots, Nat.zero_add, Nat.reduceAdd]
  (repeat refine ats_seq ?_); refine ats_go (by first | exact fix0 hcx | exact fix1 hcx rfl) fun K hK => ?_; simp only [go_sem, seval]; refine hK _ ?_; clear hK K
  (repeat refine ats_seq ?_); refine ats_go (by first | exact fix0 hcx | exact fix1 hcx rfl) fun K hK => ?_; simp only [go_sem, seval]
  first | refine fcall_free rfl rfl (ha) ?_ | refine YR_intro (acall_free rfl rfl (ha)) ?_
  simp only [go_sem, seval]
  refine hK _ ?_; clear hK K
  (repeat refine ats_seq ?_); first | refine ats_ifn (p := _) rfl trivial (fun hc1 => ?_) (fun hc1 => ?_) | refine ats_ifp (p := _) rfl trivial (fun hc1 => ?_) (fun hc1 => ?_) | refine ats_cond rfl trivial (fun hc1 => ?_) (fun hc1 => ?_)
  · have e : ¬ isAct t a = true := fun h => hc1 (isAct_iff.1 h)
    (repeat refine ats_seq ?_); refine ats_go (by first | exact fix0 hcx | exact fix1 hcx rfl) fun K hK => ?_; simp only [go_sem, seval]; refine hK _ ?_; clear hK K
    rw [if_neg e]
    exact ats_ret (fin2 trivial trivial rfl)
  · have e : isAct t a = true := isAct_iff.2 hc1
    have hp := partsS_ok e
    rw [if_pos e]
    refine ats_skip ?_
    (repeat refine ats_seq ?_); refine ats_go (by first | exact fix0 hcx | exact fix1 hcx rfl) fun K hK => ?_; simp only [go_sem, seval]
    first | refine fcall_data (hp) rfl ?_ | refine YR_intro (acall_data (hp) rfl) ?_
    simp only [go_sem, seval]
    refine hK _ ?_; clear hK K
    exact ats_ret (fin2 trivial trivial rfl)

/-- All points have the number 0. -/
def oneB (xs : List Int) : Bool := !xs.any fun v => !decide (v = 0)
noncomputable def idB (t a : List (List (List Int))) : Bool := isAct t a && oneB (partsL a)
noncomputable def idC (t a : List (List (List Int))) : Int := if isAct t a = true then 0 else 1
theorem not_act {t a : List (List (List Int))} (h : ¬ isAct t a = true) : isAct t a = false := by
  cases e : isAct t a with
  | true => exact absurd e h
  | false => rfl
theorem oneB_no {xs : List Int} {i : Nat} (h : i < xs.length) (h2 : ¬ xs.getD i 0 = 0) : oneB xs = false := by
  unfold oneB
  rw [Bool.not_eq_false', List.any_eq_true]
  refine ⟨xs.getD i 0, ?_, by simpa using h2⟩
  rw [List.getD_eq_getElem?_getD, List.getElem?_eq_getElem h]
  exact List.getElem_mem h
theorem oneB_yes {xs : List Int} (h : ∀ i, i < xs.length → xs.getD i 0 = 0) : oneB xs = true := by
  unfold oneB
  rw [Bool.not_eq_true', List.any_eq_false]
  intro v hv
  obtain ⟨i, hi, rfl⟩ := List.getElem_of_mem hv
  have := h i hi
  rw [List.getD_eq_getElem?_getD, List.getElem?_eq_getElem hi] at this
  simpa using this
theorem mx_le {xs : List Int} : ∀ (k i : Nat), i ≤ k → xs.getD i 0 ≤ mx xs k
  | 0, i, h => by obtain rfl : i = 0 := by omega
                  exact Int.le_refl _
  | k + 1, i, h => by
    rw [mx]
    by_cases e : i = k + 1
    · subst e; omega
    · have := mx_le (xs := xs) k i (by omega); omega
theorem mx_at {xs : List Int} : ∀ (k : Nat), ∃ i, i ≤ k ∧ mx xs k = xs.getD i 0
  | 0 => ⟨0, by omega, rfl⟩
  | k + 1 => by
    obtain ⟨i, hi, e⟩ := mx_at (xs := xs) k
    rw [mx]
    by_cases c : mx xs k ≤ xs.getD (k + 1) 0
    · exact ⟨k + 1, by omega, by omega⟩
    · exact ⟨i, by omega, by omega⟩
theorem mx_one {xs : List Int} (h1 : 1 ≤ xs.length) (h : ∀ i, i < xs.length → 0 ≤ xs.getD i 0) : decide (mx xs (xs.length - 1) = 0) = oneB xs := by
  by_cases c : ∀ i, i < xs.length → xs.getD i 0 = 0
  · rw [oneB_yes c, decide_eq_true_eq]
    obtain ⟨i, hi, e⟩ := mx_at (xs := xs) (xs.length - 1)
    rw [e, c i (by omega)]
  · obtain ⟨i, hi⟩ := Classical.not_forall.1 c
    obtain ⟨h2, h3⟩ := Classical.not_imp.1 hi
    rw [oneB_no h2 h3, decide_eq_false_iff_not]
    have := mx_le (xs := xs) (xs.length - 1) i (by omega)
    have := h i h2
    omega

theorem implIndec_ok (t a : List (List (List Int))) : PureCall Try.prog 19 [.agg [.l3 t], .agg [.l3 a]] (.tup [.bool (idB t a), .int (idC t a)]) := by
  have ha := IsAction_ok t a
  unfold idB idC
  refine PureCall.intro (n := 14) (rs := [.tmp 4, .tmp 5]) Try.call19 Try.func19 rfl rfl rfl (by simp only [List.length_cons, List.length_nil]; omega) (fun cx hcx => ats_of ?_); simp only [argSlots, Nat.zero_add, Nat.reduceAdd]
  (repeat refine ats_seq ?_); refine ats_go (by first | exact fix0 hcx | exact fix1 hcx rfl) fun K hK => ?_; simp only [go_sem, seval]; refine hK _ ?_; clear hK K
  (repeat refine ats_seq ?_); refine ats_go (by first | exact fix0 hcx | exact fix1 hcx rfl) fun K hK => ?_; simp only [go_sem, seval]
  first | refine fcall_free rfl rfl (ha) ?_ | refine YR_intro (acall_free rfl rfl (ha)) ?_
  simp only [go_sem, seval]
  refine hK _ ?_; clear hK K
  (repeat refine ats_seq ?_); first | refine ats_ifn (p := _) rfl trivial (fun hc1 => ?_) (fun hc1 => ?_) | refine ats_ifp (p := _) rfl trivial (fun hc1 => ?_) (fun hc1 => ?_) | refine ats_cond rfl trivial (fun hc1 => ?_) (fun hc1 => ?_)
  · have e : ¬ isAct t a = true := fun h => hc1 (isAct_iff.1 h)
    (repeat refine ats_seq ?_); refine ats_go (by first | exact fix0 hcx | exact fix1 hcx rfl) fun K hK => ?_; simp only [go_sem, seval]; refine hK _ ?_; clear hK K
    rw [if_neg e, not_act e]
    exact ats_ret (fin2 trivial trivial rfl)
  · have e : isAct t a = true := isAct_iff.2 hc1
    have hp := partsI_ok e
    obtain ⟨p1, p2, p3, p4, p5⟩ := act_parts e
    have hm := max_ok (partsL a) (by rw [partsL_length]; exact p2)
    have eo := mx_one (xs := partsL a) (by rw [partsL_length]; exact p2) (fun i hi => (partsL_pos a (by rw [partsL_length] at hi; exact hi)).1)
    rw [if_pos e, e, Bool.true_and, ← eo]
    refine ats_skip ?_
    (repeat refine ats_seq ?_); refine ats_go (by first | exact fix0 hcx | exact fix1 hcx rfl) fun K hK => ?_; simp only [go_sem, seval]
    first | refine fcall_fresh rfl (hp) ?_ | refine YR_intro (acall_fresh rfl (hp)) ?_
    simp only [go_sem, seval]
    first | refine fcall_data (hm) rfl ?_ | refine YR_intro (acall_data (hm) rfl) ?_
    simp only [go_sem, seval]
    refine hK _ ?_; clear hK K
    exact ats_ret (fin2 trivial trivial rfl)

theorem specIndec_ok (t a : List (List (List Int))) : PureCall Try.prog 18 [.agg [.l3 t], .agg [.l3 a]] (.tup [.bool (idB t a), .int (idC t a)]) := by
  have ha := l09Is_ok t a
  unfold idB idC
  refine PureCall.intro (n := 25) (rs := [.tmp 4, .tmp 5]) Try.call18 Try.func18 rfl rfl rfl (by simp only [List.length_cons, List.length_nil]; omega) (fun cx hcx => ats_of ?_); simp only [argSlots, Nat.zero_add, Nat.reduceAdd]
  (repeat refine ats_seq ?_); refine ats_go (by first | exact fix0 hcx | exact fix1 hcx rfl) fun K hK => ?_; simp only [go_sem, seval]; refine hK _ ?_; clear hK K
  (repeat refine ats_seq ?_); refine ats_go (by first | exact fix0 hcx | exact fix1 hcx rfl) fun K hK => ?_; simp only [go_sem, seval]
  first | refine fcall_free rfl rfl (ha) ?_ | refine YR_intro (acall_free rfl rfl (ha)) ?_
  simp only [go_sem, seval]
  refine hK _ ?_; clear hK K
  (repeat refine ats_seq ?_); first | refine ats_ifn (p := _) rfl trivial (fun hc1 => ?_) (fun hc1 => ?_) | refine ats_ifp (p := _) rfl trivial (fun hc1 => ?_) (fun hc1 => ?_) | refine ats_cond rfl trivial (fun hc1 => ?_) (fun hc1 => ?_)
  · have e : ¬ isAct t a = true := fun h => hc1 (isAct_iff.1 h)
    (repeat refine ats_seq ?_); refine ats_go (by first | exact fix0 hcx | exact fix1 hcx rfl) fun K hK => ?_; simp only [go_sem, seval]; refine hK _ ?_; clear hK K
    rw [if_neg e, not_act e]
    exact ats_ret (fin2 trivial trivial rfl)
  · have e : isAct t a = true := isAct_iff.2 hc1
    have hp := partsS_ok e
    obtain ⟨p1, p2, p3, p4, p5⟩ := act_parts e
    have lp := partsL_length a
    rw [if_pos e, e, Bool.true_and]
    refine ats_skip ?_
    (repeat refine ats_seq ?_); refine ats_go (by first | exact fix0 hcx | exact fix1 hcx rfl) fun K hK => ?_; simp only [go_sem, seval]
    first | refine fcall_data (hp) rfl ?_ | refine YR_intro (acall_data (hp) rfl) ?_
    simp only [go_sem, seval]
    refine hK _ ?_; clear hK K
    (repeat refine ats_seq ?_); refine ats_go (by first | exact fix0 hcx | exact fix1 hcx rfl) fun K hK => ?_; simp only [go_sem, seval]; refine hK _ ?_; clear hK K
    (repeat refine ats_seq ?_); refine ats_loop (fun k : Nat => ⟨[(6, .l1 (partsL a)), (7, .int k)], [(0, .bx [.l3 t]), (1, .bx [.l3 a])]⟩) (fun k => k ≤ (partsL a).length ∧ ∀ i, i < k → (partsL a).getD i 0 = 0) (fun k => (partsL a).length - k) 0 ⟨Nat.zero_le _, fun a h => absurd h (Nat.not_lt_zero a)⟩ (by
      refine And.intro ?_ rfl; simp only [SlotsLe, St.get, slotGet, Nat.reduceEqDiff, ↓reduceIte, AV.int.injEq, AV.bool.injEq, AV.l1.injEq, AV.l2.injEq, AV.l3.injEq, true_and, and_true]
      rfl) (fun k hk => ?_)
    obtain ⟨hk, hK'⟩ := hk
    (repeat refine ats_seq ?_); refine ats_go (by first | exact fix0 hcx | exact fix1 hcx rfl) fun K hK => ?_; simp only [go_sem, seval]; (repeat refine And.intro (by first | omega | (intro hq; first | omega | (simp at hq <;> omega) | (simp_all <;> omega))) ?_); refine hK _ ?_; clear hK K
    (repeat refine ats_seq ?_); first | refine ats_ifn (p := _) rfl trivial (fun h1 => ?_) (fun h1 => ?_) | refine ats_ifp (p := _) rfl trivial (fun h1 => ?_) (fun h1 => ?_) | refine ats_cond rfl trivial (fun h1 => ?_) (fun h1 => ?_)
    · refine ats_skip ?_
      (repeat refine ats_seq ?_); refine ats_block ?_
      (repeat refine ats_seq ?_); refine ats_go (by first | exact fix0 hcx | exact fix1 hcx rfl) fun K hK => ?_; simp only [go_sem, seval]; (repeat refine And.intro (by first | omega | (intro hq; first | omega | (simp at hq <;> omega) | (simp_all <;> omega))) ?_); refine hK _ ?_; clear hK K
      (repeat refine ats_seq ?_); first | refine ats_ifn (p := _) rfl trivial (fun h2 => ?_) (fun h2 => ?_) | refine ats_ifp (p := _) rfl trivial (fun h2 => ?_) (fun h2 => ?_) | refine ats_cond rfl trivial (fun h2 => ?_) (fun h2 => ?_)
      · (repeat refine ats_seq ?_); refine ats_go (by first | exact fix0 hcx | exact fix1 hcx rfl) fun K hK => ?_; simp only [go_sem, seval]; (repeat refine And.intro (by first | omega | (intro hq; first | omega | (simp at hq <;> omega) | (simp_all <;> omega))) ?_); refine hK _ ?_; clear hK K
        rw [oneB_no (i := k) (by omega) (by simpa using h2)]
        exact ats_ret (fin2 trivial trivial rfl)
      · refine ats_skip ?_
        (repeat refine ats_seq ?_); refine ats_go (by first | exact fix0 hcx | exact fix1 hcx rfl) fun K hK => ?_; simp only [go_sem, seval]; (repeat refine And.intro (by first | omega | (intro hq; first | omega | (simp at hq <;> omega) | (simp_all <;> omega))) ?_); refine hK _ ?_; clear hK K
        refine ⟨k + 1,  ⟨by omega, fun j hj => by rcases Nat.lt_succ_iff_lt_or_eq.1 hj with h | rfl; exact hK' j h; simpa using h2⟩, by omega, .inl ⟨?_, rfl⟩⟩; simp only [SlotsLe, St.get, slotGet, Nat.reduceEqDiff, ↓reduceIte, AV.int.injEq, AV.bool.injEq, AV.l1.injEq, AV.l2.injEq, AV.l3.injEq, true_and, and_true]
        omega
    · refine ats_exit (lq_x ?_)
      (repeat refine ats_seq ?_); refine ats_go (by first | exact fix0 hcx | exact fix1 hcx rfl) fun K hK => ?_; simp only [go_sem, seval]; (repeat refine And.intro (by first | omega | (intro hq; first | omega | (simp at hq <;> omega) | (simp_all <;> omega))) ?_); refine hK _ ?_; clear hK K
      rw [oneB_yes (fun i hi => hK' i (by omega))]
      exact ats_ret (fin2 trivial trivial rfl)
end Go.Proofs.Ytdlmmmklahajgaa
