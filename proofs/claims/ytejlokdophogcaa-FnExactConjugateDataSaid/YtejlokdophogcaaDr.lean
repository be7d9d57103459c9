import Derived.Test.YtejlokdophogcaaDq
import Derived.Test.YtejlokdophogcaaDk
import Derived.Test.YtejlokdophogcaaHd
set_option linter.unusedSimpArgs false
set_option linter.unusedVariables false
namespace Go.Proofs.Ytejlokdophogcaa
open Go Go.Aw Go.Pl

theorem l01Own_ok (xs : List Int) (hl : xs.length ≤ 1099511627776) : FreshCall Try.prog 76 [.l1 xs] (.l1 xs) := by
  refine FreshCall.intro (n := 6) (rs := [.tmp 2]) Try.call76 Try.func76 rfl rfl rfl (by simp only [List.length_cons, List.length_nil]; omega) (fun cx hcx => ats_of ?_); simp only [argSlots, Nat.zero_add, Nat.reduceAdd]
  (repeat refine ats_seq ?_); refine ats_go (by first | exact fix0 hcx | exact fix1 hcx rfl) fun K hK => ?_; simp only [go_sem, seval]; refine hK _ ?_; clear hK K
  (repeat refine ats_seq ?_); refine ats_go (by first | exact fix0 hcx | exact fix1 hcx rfl) fun K hK => ?_; simp only [go_sem, seval]
  (repeat refine And.intro (by first | omega | (intro hq; first | omega | (simp only [decide_eq_false_iff_not, decide_eq_true_eq, Bool.not_eq_false', Bool.not_eq_true', Bool.or_eq_false_iff, Bool.and_eq_true] at hq; omega))) ?_)
  refine hK _ ?_; clear hK K
  exact ats_ret (ownV (is := [0]) rfl ⟨rfl, trivial⟩ rfl (by simp))
theorem clone_ok (xs : List Int) (h1 : 0 < xs.length) (hl : xs.length ≤ 1099511627776) : FreshCall Try.prog 77 [.l1 xs] (.l1 xs) := by
  refine FreshCall.intro (n := 8) (rs := [.tmp 2]) Try.call77 Try.func77 rfl rfl rfl (by simp only [List.length_cons, List.length_nil]; omega) (fun cx hcx => ats_of ?_); simp only [argSlots, Nat.zero_add, Nat.reduceAdd]
  (repeat refine ats_seq ?_); refine ats_go (by first | exact fix0 hcx | exact fix1 hcx rfl) fun K hK => ?_; simp only [go_sem, seval]; refine hK _ ?_; clear hK K
  (repeat refine ats_seq ?_); refine ats_go (by first | exact fix0 hcx | exact fix1 hcx rfl) fun K hK => ?_; simp only [go_sem, seval]; (repeat refine And.intro (by first | omega | (intro hq; first | omega | (simp only [decide_eq_false_iff_not, decide_eq_true_eq, Bool.not_eq_false', Bool.not_eq_true', Bool.or_eq_false_iff, Bool.and_eq_true] at hq; omega))) ?_); refine hK _ ?_; clear hK K
  (repeat refine ats_seq ?_); refine ats_no rfl trivial ?_
  refine ats_skip ?_
  (repeat refine ats_seq ?_); refine ats_go (by first | exact fix0 hcx | exact fix1 hcx rfl) fun K hK => ?_; simp only [go_sem, seval]
  (repeat refine And.intro (by first | omega | (intro hq; first | omega | (simp only [decide_eq_false_iff_not, decide_eq_true_eq, Bool.not_eq_false', Bool.not_eq_true', Bool.or_eq_false_iff, Bool.and_eq_true] at hq; omega))) ?_)
  refine hK _ ?_; clear hK K
  exact ats_ret (ownV (is := [0]) rfl ⟨rfl, trivial⟩ rfl (by simp))

noncomputable def dimA (s : List (List Int)) (t : List Int) : AV := if isData s t then .tup [.l1 (s.getD 0 []), .int 0] else .tup [.nil, .int 1]
theorem dimA_shape (s : List (List Int)) (t : List Int) : ∃ (u : Option (List Int)) (c : Int), dimA s t = .tup [optA u, .int c] ∧ ∀ v, u = some v → v.length ≤ 1048576 := by
  unfold dimA
  cases h : isData s t with
  | false => exact ⟨none, 1, rfl, fun _ h => by cases h⟩
  | true =>
    have hs := (isData_some h).1
    have h1 := hs.1
    have h16 := hs.2.1
    have r0 := hs.2.2.1.row (show 0 < t.length by omega)
    exact ⟨some (s.getD 0 []), 0, rfl, fun v hv => by cases hv; omega⟩
theorem specDim_ok (s : List (List Int)) (t : List Int) : PureCall Try.prog 38 [.agg [.l2 s, .l1 t]] (dimA s t) := by
  have hk := l12Is_ok s t
  unfold dimA
  refine PureCall.intro (n := 12) (rs := [.tmp 2, .tmp 3]) Try.call38 Try.func38 rfl rfl rfl (by simp only [List.length_cons, List.length_nil]; omega) (fun cx hcx => ats_of ?_); simp only [argSlots, Nat.zero_add, Nat.reduceAdd]
  (repeat refine ats_seq ?_); refine ats_go (by first | exact fix0 hcx | exact fix1 hcx rfl) fun K hK => ?_; simp only [go_sem, seval]; refine hK _ ?_; clear hK K
  cases h : isData s t with
  | false =>
    rw [h] at hk
    (repeat refine ats_seq ?_); refine ats_go (by first | exact fix0 hcx | exact fix1 hcx rfl) fun K hK => ?_; simp only [go_sem, seval]
    first | refine fcall_free rfl rfl (hk) ?_ | refine YR_intro (acall_free rfl rfl (hk)) ?_
    simp only [go_sem, seval]
    refine hK _ ?_; clear hK K
    (repeat refine ats_seq ?_); refine ats_yes rfl trivial ?_
    (repeat refine ats_seq ?_); refine ats_go (by first | exact fix0 hcx | exact fix1 hcx rfl) fun K hK => ?_; simp only [go_sem, seval]; refine hK _ ?_; clear hK K
    exact ats_ret (fin2 trivial trivial rfl)
  | true =>
    have hs := (isData_some h).1
    have h1 := hs.1
    have h16 := hs.2.1
    have ls := hs.2.2.1.1
    have r0 := hs.2.2.1.row (show 0 < t.length by omega)
    rw [h] at hk
    (repeat refine ats_seq ?_); refine ats_go (by first | exact fix0 hcx | exact fix1 hcx rfl) fun K hK => ?_; simp only [go_sem, seval]
    first | refine fcall_free rfl rfl (hk) ?_ | refine YR_intro (acall_free rfl rfl (hk)) ?_
    simp only [go_sem, seval]
    refine hK _ ?_; clear hK K
    (repeat refine ats_seq ?_); refine ats_no rfl trivial ?_
    refine ats_skip ?_
    (repeat refine ats_seq ?_); refine ats_go (by first | exact fix0 hcx | exact fix1 hcx rfl) fun K hK => ?_; simp only [go_sem, seval]
    (repeat refine And.intro (by first | omega | (intro hq; first | omega | (simp only [decide_eq_false_iff_not, decide_eq_true_eq, Bool.not_eq_false', Bool.not_eq_true', Bool.or_eq_false_iff, Bool.and_eq_true] at hq; omega))) ?_)
    first | refine fcall_fresh rfl (l01Own_ok _ (by omega)) ?_ | refine YR_intro (acall_fresh rfl (l01Own_ok _ (by omega))) ?_
    simp only [go_sem, seval]
    refine hK _ ?_; clear hK K
    exact ats_ret (fin2 trivial trivial rfl)
theorem implDim_ok (s : List (List Int)) (t : List Int) : FreshCall Try.prog 39 [.agg [.l2 s, .l1 t]] (dimA s t) := by
  have hk := IsData_ok s t
  unfold dimA
  refine FreshCall.intro (n := 12) (rs := [.tmp 2, .tmp 3]) Try.call39 Try.func39 rfl rfl rfl (by simp only [List.length_cons, List.length_nil]; omega) (fun cx hcx => ats_of ?_); simp only [argSlots, Nat.zero_add, Nat.reduceAdd]
  (repeat refine ats_seq ?_); refine ats_go (by first | exact fix0 hcx | exact fix1 hcx rfl) fun K hK => ?_; simp only [go_sem, seval]; refine hK _ ?_; clear hK K
  cases h : isData s t with
  | false =>
    rw [h] at hk
    (repeat refine ats_seq ?_); refine ats_go (by first | exact fix0 hcx | exact fix1 hcx rfl) fun K hK => ?_; simp only [go_sem, seval]
    first | refine fcall_free rfl rfl (hk) ?_ | refine YR_intro (acall_free rfl rfl (hk)) ?_
    simp only [go_sem, seval]
    refine hK _ ?_; clear hK K
    (repeat refine ats_seq ?_); refine ats_yes rfl trivial ?_
    (repeat refine ats_seq ?_); refine ats_go (by first | exact fix0 hcx | exact fix1 hcx rfl) fun K hK => ?_; simp only [go_sem, seval]; refine hK _ ?_; clear hK K
    exact ats_ret (own2 (is := []) trivial trivial rfl (by simp))
  | true =>
    have hs := (isData_some h).1
    have h1 := hs.1
    have h16 := hs.2.1
    have ls := hs.2.2.1.1
    have r0 := hs.2.2.1.row (show 0 < t.length by omega)
    rw [h] at hk
    (repeat refine ats_seq ?_); refine ats_go (by first | exact fix0 hcx | exact fix1 hcx rfl) fun K hK => ?_; simp only [go_sem, seval]
    first | refine fcall_free rfl rfl (hk) ?_ | refine YR_intro (acall_free rfl rfl (hk)) ?_
    simp only [go_sem, seval]
    refine hK _ ?_; clear hK K
    (repeat refine ats_seq ?_); refine ats_no rfl trivial ?_
    refine ats_skip ?_
    (repeat refine ats_seq ?_); refine ats_go (by first | exact fix0 hcx | exact fix1 hcx rfl) fun K hK => ?_; simp only [go_sem, seval]
    (repeat refine And.intro (by first | omega | (intro hq; first | omega | (simp only [decide_eq_false_iff_not, decide_eq_true_eq, Bool.not_eq_false', Bool.not_eq_true', Bool.or_eq_false_iff, Bool.and_eq_true] at hq; omega))) ?_)
    refine fcall_own rfl (clone_ok _ (by omega) (by omega)) rfl ?_; simp only [go_sem, seval]
    refine hK _ ?_; clear hK K
    exact ats_ret (own2 (is := [1]) trivial trivial rfl (by simp))

noncomputable def conA (s : List (List Int)) (t : List Int) : AV := if isData s t then .tup [.l1 (cL s t.length), .int 0] else .tup [.nil, .int 1]
theorem conA_shape (s : List (List Int)) (t : List Int) : ∃ (u : Option (List Int)) (c : Int), conA s t = .tup [optA u, .int c] ∧ ∀ v, u = some v → v.length ≤ 1048576 := by
  unfold conA
  cases h : isData s t with
  | false => exact ⟨none, 1, rfl, fun _ h => by cases h⟩
  | true =>
    have hs := (isData_some h).1
    have h16 := hs.2.1
    have lc := cL_length (s := s) t.length
    exact ⟨some (cL s t.length), 0, rfl, fun v hv => by cases hv; omega⟩
theorem specCon_ok (s : List (List Int)) (t : List Int) : PureCall Try.prog 32 [.agg [.l2 s, .l1 t]] (conA s t) := by
  have hk := l12Is_ok s t
  unfold conA
  refine PureCall.intro (n := 9) (rs := [.tmp 2, .tmp 3]) Try.call32 Try.func32 rfl rfl rfl (by simp only [List.length_cons, List.length_nil]; omega) (fun cx hcx => ats_of ?_); simp only [argSlots, Nat.zero_add, Nat.reduceAdd]
  (repeat refine ats_seq ?_); refine ats_go (by first | exact fix0 hcx | exact fix1 hcx rfl) fun K hK => ?_; simp only [go_sem, seval]; refine hK _ ?_; clear hK K
  cases h : isData s t with
  | false =>
    rw [h] at hk
    (repeat refine ats_seq ?_); refine ats_go (by first | exact fix0 hcx | exact fix1 hcx rfl) fun K hK => ?_; simp only [go_sem, seval]
    first | refine fcall_free rfl rfl (hk) ?_ | refine YR_intro (acall_free rfl rfl (hk)) ?_
    simp only [go_sem, seval]
    refine hK _ ?_; clear hK K
    (repeat refine ats_seq ?_); refine ats_yes rfl trivial ?_
    (repeat refine ats_seq ?_); refine ats_go (by first | exact fix0 hcx | exact fix1 hcx rfl) fun K hK => ?_; simp only [go_sem, seval]; refine hK _ ?_; clear hK K
    exact ats_ret (fin2 trivial trivial rfl)
  | true =>
    obtain ⟨hs, hst, hw, c, hc, hT, hR⟩ := isData_some h
    have hJ := l12Conjugation_ok s t hs hw
    rw [hc] at hJ
    simp only [optA] at hJ
    obtain ⟨rfl, -⟩ := cj_get hc
    rw [h] at hk
    (repeat refine ats_seq ?_); refine ats_go (by first | exact fix0 hcx | exact fix1 hcx rfl) fun K hK => ?_; simp only [go_sem, seval]
    first | refine fcall_free rfl rfl (hk) ?_ | refine YR_intro (acall_free rfl rfl (hk)) ?_
    simp only [go_sem, seval]
    refine hK _ ?_; clear hK K
    (repeat refine ats_seq ?_); refine ats_no rfl trivial ?_
    refine ats_skip ?_
    (repeat refine ats_seq ?_); refine ats_go (by first | exact fix0 hcx | exact fix1 hcx rfl) fun K hK => ?_; simp only [go_sem, seval]
    first | refine fcall_data (hJ) rfl ?_ | refine YR_intro (acall_data (hJ) rfl) ?_
    simp only [go_sem, seval]
    refine hK _ ?_; clear hK K
    exact ats_ret (fin2 trivial trivial rfl)
theorem implCon_ok (s : List (List Int)) (t : List Int) : FreshCall Try.prog 33 [.agg [.l2 s, .l1 t]] (conA s t) := by
  have hk := IsData_ok s t
  unfold conA
  refine FreshCall.intro (n := 24) (rs := [.tmp 2, .tmp 3]) Try.call33 Try.func33 rfl rfl rfl (by simp only [List.length_cons, List.length_nil]; omega) (fun cx hcx => ats_of ?_); simp only [argSlots, Nat.zero_add, Nat.reduceAdd]
  (repeat refine ats_seq ?_); refine ats_go (by first | exact fix0 hcx | exact fix1 hcx rfl) fun K hK => ?_; simp only [go_sem, seval]; refine hK _ ?_; clear hK K
  cases h : isData s t with
  | false =>
    rw [h] at hk
    (repeat refine ats_seq ?_); refine ats_go (by first | exact fix0 hcx | exact fix1 hcx rfl) fun K hK => ?_; simp only [go_sem, seval]
    first | refine fcall_free rfl rfl (hk) ?_ | refine YR_intro (acall_free rfl rfl (hk)) ?_
    simp only [go_sem, seval]
    refine hK _ ?_; clear hK K
    (repeat refine ats_seq ?_); refine ats_yes rfl trivial ?_
    (repeat refine ats_seq ?_); refine ats_go (by first | exact fix0 hcx | exact fix1 hcx rfl) fun K hK => ?_; simp only [go_sem, seval]; refine hK _ ?_; clear hK K
    exact ats_ret (own2 (is := []) trivial trivial rfl (by simp))
  | true =>
    obtain ⟨hs, hst, hw, c, hc, hT, hR⟩ := isData_some h
    have hJ := conjugation_ok s t hs
    rw [hc] at hJ
    simp only [optA] at hJ
    obtain ⟨rfl, -⟩ := cj_get hc
    have h16 := hs.2.1
    have lc := cL_length (s := s) t.length
    rw [h] at hk
    (repeat refine ats_seq ?_); refine ats_go (by first | exact fix0 hcx | exact fix1 hcx rfl) fun K hK => ?_; simp only [go_sem, seval]
    first | refine fcall_free rfl rfl (hk) ?_ | refine YR_intro (acall_free rfl rfl (hk)) ?_
    simp only [go_sem, seval]
    refine hK _ ?_; clear hK K
    (repeat refine ats_seq ?_); refine ats_no rfl trivial ?_
    refine ats_skip ?_
    (repeat refine ats_seq ?_); refine ats_go (by first | exact fix0 hcx | exact fix1 hcx rfl) fun K hK => ?_; simp only [go_sem, seval]; refine hK _ ?_; clear hK K
    (repeat refine ats_seq ?_); refine ats_go (by first | exact fix0 hcx | exact fix1 hcx rfl) fun K hK => ?_; simp only [go_sem, seval]
    first | refine fcall_fresh rfl (hJ) ?_ | refine YR_intro (acall_fresh rfl (hJ)) ?_
    simp only [go_sem, seval]
    simp only [lc]
    refine hK _ ?_; clear hK K
    (repeat refine ats_seq ?_); refine ats_loop (fun i : Nat => ⟨[(4, .ref 1 []), (12, .l1 (cL s t.length)), (13, .int t.length), (14, .int i)], [(0, .bx [.l2 s, .l1 t]), (1, .t1 ((cL s t.length).take i))]⟩) (fun i => i ≤ t.length) (fun i => t.length - i) 0 (Nat.zero_le _) (by refine And.intro ?_ rfl; simp only [SlotsLe, St.get, slotGet, Nat.reduceEqDiff, ↓reduceIte, true_and, and_true, AV.int.injEq, AV.bool.injEq, AV.l1.injEq, AV.l2.injEq, AV.l3.injEq]; repeat' (first | rfl | omega | refine And.intro ?_ ?_)) (fun i hi => ?_)
    have hl : ((cL s t.length).take i).length = i := by rw [List.length_take]; omega
    (repeat refine ats_seq ?_); refine ats_go (by first | exact fix0 hcx | exact fix1 hcx rfl) fun K hK => ?_; simp only [go_sem, seval]; refine hK _ ?_; clear hK K
    (repeat refine ats_seq ?_); first | refine ats_ifn (p := _) rfl trivial (fun hli => ?_) (fun hli => ?_) | refine ats_ifp (p := _) rfl trivial (fun hli => ?_) (fun hli => ?_) | refine ats_cond rfl trivial (fun hli => ?_) (fun hli => ?_)
    · have hst := List.take_succ_eq_append_getElem (l := cL s t.length) (i := i) (by omega)
      rw [getD_at (d := 0) (by omega)] at hst
      refine ats_skip ?_
      (repeat refine ats_seq ?_); refine ats_block ?_
      (repeat refine ats_seq ?_); refine ats_go (by first | exact fix0 hcx | exact fix1 hcx rfl) fun K hK => ?_; simp only [go_sem, seval]
      simp only [lc]
      (repeat refine And.intro (by first | omega | (intro hq; first | omega | (simp only [decide_eq_false_iff_not, decide_eq_true_eq, Bool.not_eq_false', Bool.not_eq_true', Bool.or_eq_false_iff, Bool.and_eq_true] at hq; omega))) ?_)
      refine hK _ ?_; clear hK K
      (repeat refine ats_seq ?_); refine ats_go (by first | exact fix0 hcx | exact fix1 hcx rfl) fun K hK => ?_; simp only [go_sem, seval]
      simp only [hl]
      (repeat refine And.intro (by first | omega | (intro hq; first | omega | (simp only [decide_eq_false_iff_not, decide_eq_true_eq, Bool.not_eq_false', Bool.not_eq_true', Bool.or_eq_false_iff, Bool.and_eq_true] at hq; omega))) ?_)
      refine hK _ ?_; clear hK K
      (repeat refine ats_seq ?_); refine ats_go (by first | exact fix0 hcx | exact fix1 hcx rfl) fun K hK => ?_; simp only [go_sem, seval]; (repeat refine And.intro (by first | omega | (intro hq; first | omega | (simp only [decide_eq_false_iff_not, decide_eq_true_eq, Bool.not_eq_false', Bool.not_eq_true', Bool.or_eq_false_iff, Bool.and_eq_true] at hq; omega))) ?_); refine hK _ ?_; clear hK K
      refine ⟨i + 1, by omega, by omega, .inr ⟨[2], by simp only [killL, List.map_cons, List.map_nil, killA, killAs, qOf, rmT, killH, killT, List.filter_cons, List.filter_nil, List.contains_cons, List.contains_nil, SlotsLe, St.get, slotGet, Nat.reduceEqDiff, Nat.reduceBEq, Bool.or_false, Bool.or_true, Bool.false_and, Bool.not_true, Bool.not_false, Bool.false_eq_true, ↓reduceIte, if_true, if_false, AV.int.injEq, AV.bool.injEq, AV.l1.injEq, AV.l2.injEq, AV.l3.injEq, true_and, and_true]; omega, by simp only [killL, List.map_cons, List.map_nil, killA, killAs, qOf, rmT, killH, killT, List.filter_cons, List.filter_nil, List.contains_cons, List.contains_nil, SlotsLe, St.get, slotGet, Nat.reduceEqDiff, Nat.reduceBEq, Bool.or_false, Bool.or_true, Bool.false_and, Bool.not_true, Bool.not_false, Bool.false_eq_true, ↓reduceIte, if_true, if_false, AV.int.injEq, AV.bool.injEq, AV.l1.injEq, AV.l2.injEq, AV.l3.injEq, true_and, and_true]; rw [hst]⟩⟩
    · obtain rfl : i = t.length := by omega
      refine ats_exit (lq_x ?_)
      rw [List.take_of_length_le (by omega)]
      (repeat refine ats_seq ?_); refine ats_go (by first | exact fix0 hcx | exact fix1 hcx rfl) fun K hK => ?_; simp only [go_sem, seval]; refine hK _ ?_; clear hK K
      exact ats_ret (own2 (is := [1]) trivial trivial rfl (by simp))

theorem markData_ok (s : List (List Int)) (t : List Int) (k : Int) (h0 : 0 ≤ k) (h1 : k + (totD s t : Nat) ≤ 9223372036854775807) : TurnCall Try.prog 35 [.agg [.ref 0 [], .ref 1 []], .int k] [(0, .t2 s), (1, .t1 t)] [(0, .t2 (mrk2 s k)), (1, .t1 (mrk1 t (k + (tot2 s : Nat))))] (.int (k + (totD s t : Nat))) := by
  have e : (totD s t : Nat) = tot2 s + t.length := rfl
  have e2 : k + (tot2 s : Nat) + (t.length : Nat) = k + (totD s t : Nat) := by rw [e]; omega
  refine TurnCall.intro (n := 14) (rs := [.tmp 4]) Try.call35 Try.func35 rfl rfl rfl (by simp only [List.length_cons, List.length_nil]; omega) rfl (by simp [Aw.ids]) rfl rfl rfl (fun cx hcx => ats_of ?_); simp only [argSlots, Nat.zero_add, Nat.reduceAdd]
  (repeat refine ats_seq ?_); refine ats_go (by first | exact fix0 hcx | exact fix1 hcx rfl) fun K hK => ?_; simp only [go_sem, seval]; refine hK _ ?_; clear hK K
  (repeat refine ats_seq ?_); refine ats_go (by first | exact fix0 hcx | exact fix1 hcx rfl) fun K hK => ?_; simp only [go_sem, seval]
  refine fcall_turn (fun i => i) (markInt64SS_ok s k h0 (by omega)) rfl rfl rfl (by simp [Aw.ids]) (by simp [find]) ?_; simp only [Aw.ids, renT, List.map_cons, List.map_nil]; simp only [go_sem, seval]
  refine hK _ ?_; clear hK K
  (repeat refine ats_seq ?_); refine ats_go (by first | exact fix0 hcx | exact fix1 hcx rfl) fun K hK => ?_; simp only [go_sem, seval]
  refine fcall_turn (fun _ => 1) (markInt64S_ok t (k + (tot2 s : Nat)) (by omega) (by omega)) rfl rfl rfl (by simp [Aw.ids]) (by simp [find]) ?_; simp only [Aw.ids, renT, List.map_cons, List.map_nil]; simp only [go_sem, seval]
  simp only [e2]
  refine hK _ ?_; clear hK K
  (repeat refine ats_seq ?_); refine ats_go (by first | exact fix0 hcx | exact fix1 hcx rfl) fun K hK => ?_; simp only [go_sem, seval]; refine hK _ ?_; clear hK K
  exact ats_ret ⟨.inr rfl, ⟨trivial, rfl⟩, rfl, by simp [find]⟩
theorem heldData_ok (s : List (List Int)) (t : List Int) (k : Int) (h0 : 0 ≤ k) (h1 : k + (totD s t : Nat) ≤ 9223372036854775807) : PureCall Try.prog 44 [.agg [.l2 (mrk2 s k), .l1 (mrk1 t (k + (tot2 s : Nat)))], .int k] (.int (k + (totD s t : Nat))) := by
  have e : (totD s t : Nat) = tot2 s + t.length := rfl
  have e2 : k + (tot2 s : Nat) + (t.length : Nat) = k + (totD s t : Nat) := by rw [e]; omega
  have hh := heldInt64S_ok t.length (k + (tot2 s : Nat)) (by omega) (by omega)
  rw [e2] at hh
  refine PureCall.intro (n := 18) (rs := [.tmp 4]) Try.call44 Try.func44 rfl rfl rfl (by simp only [List.length_cons, List.length_nil]; omega) (fun cx hcx => ats_of ?_); simp only [argSlots, Nat.zero_add, Nat.reduceAdd]
  (repeat refine ats_seq ?_); refine ats_go (by first | exact fix0 hcx | exact fix1 hcx rfl) fun K hK => ?_; simp only [go_sem, seval]; refine hK _ ?_; clear hK K
  (repeat refine ats_seq ?_); refine ats_go (by first | exact fix0 hcx | exact fix1 hcx rfl) fun K hK => ?_; simp only [go_sem, seval]
  first | refine fcall_free rfl rfl (heldInt64SS_ok s k h0 (by omega)) ?_ | refine YR_intro (acall_free rfl rfl (heldInt64SS_ok s k h0 (by omega))) ?_
  simp only [go_sem, seval]
  refine hK _ ?_; clear hK K
  (repeat refine ats_seq ?_); refine ats_go (by first | exact fix0 hcx | exact fix1 hcx rfl) fun K hK => ?_; simp only [go_sem, seval]; refine hK _ ?_; clear hK K
  (repeat refine ats_seq ?_); first | refine ats_ifn (p := _) rfl trivial (fun hc => ?_) (fun hc => ?_) | refine ats_ifp (p := _) rfl trivial (fun hc => ?_) (fun hc => ?_) | refine ats_cond rfl trivial (fun hc => ?_) (fun hc => ?_)
  · omega
  · refine ats_skip ?_
    (repeat refine ats_seq ?_); refine ats_go (by first | exact fix0 hcx | exact fix1 hcx rfl) fun K hK => ?_; simp only [go_sem, seval]
    first | refine fcall_free rfl rfl (hh) ?_ | refine YR_intro (acall_free rfl rfl (hh)) ?_
    simp only [go_sem, seval]
    refine hK _ ?_; clear hK K
    (repeat refine ats_seq ?_); refine ats_go (by first | exact fix0 hcx | exact fix1 hcx rfl) fun K hK => ?_; simp only [go_sem, seval]; refine hK _ ?_; clear hK K
    (repeat refine ats_seq ?_); first | refine ats_ifn (p := _) rfl trivial (fun hd => ?_) (fun hd => ?_) | refine ats_ifp (p := _) rfl trivial (fun hd => ?_) (fun hd => ?_) | refine ats_cond rfl trivial (fun hd => ?_) (fun hd => ?_)
    · omega
    · refine ats_skip ?_
      (repeat refine ats_seq ?_); refine ats_go (by first | exact fix0 hcx | exact fix1 hcx rfl) fun K hK => ?_; simp only [go_sem, seval]; refine hK _ ?_; clear hK K
      refine ats_ret (finI rfl ?_)
      rfl
end Go.Proofs.Ytejlokdophogcaa
