import Derived.Test.YtafkbnicffieeaaEa
import Derived.Test.YtafkbnicffieeaaDr
import Derived.Test.YtafkbnicffieeaaAxF
set_option linter.unusedSimpArgs false
set_option linter.unusedVariables false
namespace Go.Proofs.Ytafkbnicffieeaa
open Go Go.Aw Go.Pl

theorem apply2_ok (a : List (List Int)) (v : List Int) (n : Nat) (h16 : n ≤ 16) (ha : MatP n a) (hv : v.length = n) (pv : ∀ i, i < n → InP (v.getD i 0)) : FreshCall Try.prog 114 [.l2 a, .l1 v] (.l1 (avL a v n)) := by
  have la := ha.1
  refine FreshCall.intro (n := 23) (rs := [.tmp 4]) Try.call114 Try.func114 rfl rfl rfl (by simp only [List.length_cons, List.length_nil]; omega) (fun cx hcx => ats_of ?_); simp only [argSlots, Nat.zero_add, Nat.reduceAdd]
  (repeat refine ats_seq ?_); refine ats_go (by first | exact fix0 hcx | exact fix1 hcx rfl) fun K hK => ?_; simp only [go_sem, seval]; refine hK _ ?_; clear hK K
  (repeat refine ats_seq ?_); refine ats_go (by first | exact fix0 hcx | exact fix1 hcx rfl) fun K hK => ?_; simp only [go_sem, seval]; refine hK _ ?_; clear hK K
  (repeat refine ats_seq ?_); refine ats_go (by first | exact fix0 hcx | exact fix1 hcx rfl) fun K hK => ?_; simp only [go_sem, seval]
  simp only [la]
  refine hK _ ?_; clear hK K
  (repeat refine ats_seq ?_); refine ats_loop (fun j : Nat => ⟨[(1, .l1 v), (5, .ref 0 []), (9, .l2 a), (10, .int n), (11, .int j)], [(0, .t1 (rowF j fun i => dotP (a.getD i []) v n))]⟩) (fun j => j ≤ n) (fun j => n - j) 0 (Nat.zero_le _) (by refine And.intro ?_ rfl; simp only [SlotsLe, St.get, slotGet, Nat.reduceEqDiff, ↓reduceIte, true_and, and_true, AV.int.injEq, AV.bool.injEq, AV.l1.injEq, AV.l2.injEq, AV.l3.injEq]; repeat' (first | rfl | omega | refine And.intro ?_ ?_)) (fun j hj => ?_)
  have hl : (rowF j fun i => dotP (a.getD i []) v n).length = j := rowF_length ..
  (repeat refine ats_seq ?_); refine ats_go (by first | exact fix0 hcx | exact fix1 hcx rfl) fun K hK => ?_; simp only [go_sem, seval]; refine hK _ ?_; clear hK K
  (repeat refine ats_seq ?_); first | refine ats_ifn (p := _) rfl trivial (fun hlj => ?_) (fun hlj => ?_) | refine ats_ifp (p := _) rfl trivial (fun hlj => ?_) (fun hlj => ?_) | refine ats_cond rfl trivial (fun hlj => ?_) (fun hlj => ?_)
  · have hd := dot_ok (a.getD j []) v n (by omega) (ha.row (by omega)) hv (fun i hi => ha.inP (by omega) hi) pv
    refine ats_skip ?_
    (repeat refine ats_seq ?_); refine ats_block ?_
    (repeat refine ats_seq ?_); refine ats_go (by first | exact fix0 hcx | exact fix1 hcx rfl) fun K hK => ?_; simp only [go_sem, seval]; (repeat refine And.intro (by first | omega | (intro hq; first | omega | (simp at hq <;> omega) | (simp_all <;> omega))) ?_); refine hK _ ?_; clear hK K
    (repeat refine ats_seq ?_); refine ats_go (by first | exact fix0 hcx | exact fix1 hcx rfl) fun K hK => ?_; simp only [go_sem, seval]
    first | refine fcall_data (hd) rfl ?_ | refine YR_intro (acall_data (hd) rfl) ?_
    simp only [go_sem, seval]
    (repeat refine And.intro (by (first | omega | (rw [hl]; omega))) ?_)
    refine hK _ ?_; clear hK K
    (repeat refine ats_seq ?_); refine ats_go (by first | exact fix0 hcx | exact fix1 hcx rfl) fun K hK => ?_; simp only [go_sem, seval]; (repeat refine And.intro (by first | omega | (intro hq; first | omega | (simp at hq <;> omega) | (simp_all <;> omega))) ?_); refine hK _ ?_; clear hK K
    refine ⟨j + 1, by omega, by omega, .inr ⟨[1], by simp only [killL, List.map_cons, List.map_nil, killA, killAs, qOf, rmT, killH, killT, List.filter_cons, List.filter_nil, List.contains_cons, List.contains_nil, SlotsLe, St.get, slotGet, Nat.reduceEqDiff, Nat.reduceBEq, Bool.or_false, Bool.or_true, Bool.false_and, Bool.not_true, Bool.not_false, Bool.false_eq_true, ↓reduceIte, if_true, if_false, AV.int.injEq, AV.bool.injEq, AV.l1.injEq, AV.l2.injEq, AV.l3.injEq, true_and, and_true]; omega, by simp only [killL, List.map_cons, List.map_nil, killA, killAs, qOf, rmT, killH, killT, List.filter_cons, List.filter_nil, List.contains_cons, List.contains_nil, SlotsLe, St.get, slotGet, Nat.reduceEqDiff, Nat.reduceBEq, Bool.or_false, Bool.or_true, Bool.false_and, Bool.not_true, Bool.not_false, Bool.false_eq_true, ↓reduceIte, if_true, if_false, AV.int.injEq, AV.bool.injEq, AV.l1.injEq, AV.l2.injEq, AV.l3.injEq, true_and, and_true]; rw [rowF_succ]⟩⟩
  · obtain rfl : j = n := by omega
    refine ats_exit (lq_x ?_)
    (repeat refine ats_seq ?_); refine ats_go (by first | exact fix0 hcx | exact fix1 hcx rfl) fun K hK => ?_; simp only [go_sem, seval]; refine hK _ ?_; clear hK K
    exact ats_ret (ownV (is := [0]) rfl ⟨rfl, trivial⟩ rfl (by simp))
theorem l02Apply_ok (a : List (List Int)) (v : List Int) (n : Nat) (h16 : n ≤ 16) (ha : MatP n a) (hv : v.length = n) (pv : ∀ i, i < n → InP (v.getD i 0)) : FreshCall Try.prog 112 [.l2 a, .l1 v] (.l1 (avL a v n)) := by
  have la := ha.1
  refine FreshCall.intro (n := 24) (rs := [.tmp 4]) Try.call112 Try.func112 rfl rfl rfl (by simp only [List.length_cons, List.length_nil]; omega) (fun cx hcx => ats_of ?_); simp only [argSlots, Nat.zero_add, Nat.reduceAdd]
  (repeat refine ats_seq ?_); refine ats_go (by first | exact fix0 hcx | exact fix1 hcx rfl) fun K hK => ?_; simp only [go_sem, seval]; refine hK _ ?_; clear hK K
  (repeat refine ats_seq ?_); refine ats_go (by first | exact fix0 hcx | exact fix1 hcx rfl) fun K hK => ?_; simp only [go_sem, seval]; refine hK _ ?_; clear hK K
  (repeat refine ats_seq ?_); refine ats_go (by first | exact fix0 hcx | exact fix1 hcx rfl) fun K hK => ?_; simp only [go_sem, seval]; refine hK _ ?_; clear hK K
  (repeat refine ats_seq ?_); refine ats_loop (fun j : Nat => ⟨[(0, .l2 a), (1, .l1 v), (5, .ref 0 []), (6, .int j)], [(0, .t1 (rowF j fun i => dotP (a.getD i []) v n))]⟩) (fun j => j ≤ n) (fun j => n - j) 0 (Nat.zero_le _) (by refine And.intro ?_ rfl; simp only [SlotsLe, St.get, slotGet, Nat.reduceEqDiff, ↓reduceIte, true_and, and_true, AV.int.injEq, AV.bool.injEq, AV.l1.injEq, AV.l2.injEq, AV.l3.injEq]; repeat' (first | rfl | omega | refine And.intro ?_ ?_)) (fun j hj => ?_)
  have hl : (rowF j fun i => dotP (a.getD i []) v n).length = j := rowF_length ..
  (repeat refine ats_seq ?_); refine ats_go (by first | exact fix0 hcx | exact fix1 hcx rfl) fun K hK => ?_; simp only [go_sem, seval]
  simp only [la]
  refine hK _ ?_; clear hK K
  (repeat refine ats_seq ?_); first | refine ats_ifn (p := _) rfl trivial (fun hlj => ?_) (fun hlj => ?_) | refine ats_ifp (p := _) rfl trivial (fun hlj => ?_) (fun hlj => ?_) | refine ats_cond rfl trivial (fun hlj => ?_) (fun hlj => ?_)
  · have hd := l01Dot_ok (a.getD j []) v n (by omega) (ha.row (by omega)) hv (fun i hi => ha.inP (by omega) hi) pv
    refine ats_skip ?_
    (repeat refine ats_seq ?_); refine ats_block ?_
    (repeat refine ats_seq ?_); refine ats_go (by first | exact fix0 hcx | exact fix1 hcx rfl) fun K hK => ?_; simp only [go_sem, seval]
    (repeat refine And.intro (by first | omega | (intro hq; first | omega | (simp at hq <;> omega) | (simp_all <;> omega))) ?_)
    first | refine fcall_data (hd) rfl ?_ | refine YR_intro (acall_data (hd) rfl) ?_
    simp only [go_sem, seval]
    (repeat refine And.intro (by (first | omega | (rw [hl]; omega))) ?_)
    refine hK _ ?_; clear hK K
    (repeat refine ats_seq ?_); refine ats_go (by first | exact fix0 hcx | exact fix1 hcx rfl) fun K hK => ?_; simp only [go_sem, seval]; (repeat refine And.intro (by first | omega | (intro hq; first | omega | (simp at hq <;> omega) | (simp_all <;> omega))) ?_); refine hK _ ?_; clear hK K
    refine ⟨j + 1, by omega, by omega, .inr ⟨[1], by simp only [killL, List.map_cons, List.map_nil, killA, killAs, qOf, rmT, killH, killT, List.filter_cons, List.filter_nil, List.contains_cons, List.contains_nil, SlotsLe, St.get, slotGet, Nat.reduceEqDiff, Nat.reduceBEq, Bool.or_false, Bool.or_true, Bool.false_and, Bool.not_true, Bool.not_false, Bool.false_eq_true, ↓reduceIte, if_true, if_false, AV.int.injEq, AV.bool.injEq, AV.l1.injEq, AV.l2.injEq, AV.l3.injEq, true_and, and_true]; omega, by simp only [killL, List.map_cons, List.map_nil, killA, killAs, qOf, rmT, killH, killT, List.filter_cons, List.filter_nil, List.contains_cons, List.contains_nil, SlotsLe, St.get, slotGet, Nat.reduceEqDiff, Nat.reduceBEq, Bool.or_false, Bool.or_true, Bool.false_and, Bool.not_true, Bool.not_false, Bool.false_eq_true, ↓reduceIte, if_true, if_false, AV.int.injEq, AV.bool.injEq, AV.l1.injEq, AV.l2.injEq, AV.l3.injEq, true_and, and_true]; rw [rowF_succ]⟩⟩
  · obtain rfl : j = n := by omega
    refine ats_exit (lq_x ?_)
    (repeat refine ats_seq ?_); refine ats_go (by first | exact fix0 hcx | exact fix1 hcx rfl) fun K hK => ?_; simp only [go_sem, seval]; refine hK _ ?_; clear hK K
    exact ats_ret (ownV (is := [0]) rfl ⟨rfl, trivial⟩ rfl (by simp))

theorem specLn_ok (s : List (List Int)) (t ws : List Int) : PureCall Try.prog 50 [.agg [.l2 s, .l1 t], .l1 ws] (.tup [.int (lnA s t ws).1, .int (lnA s t ws).2]) := by
  have hk := l12Is_ok s t
  unfold lnA
  refine PureCall.intro (n := 73) (rs := [.tmp 4, .tmp 5]) Try.call50 Try.func50 rfl rfl rfl (by simp only [List.length_cons, List.length_nil]; omega) (fun cx hcx => ats_of ?_); simp only [argSlots, Nat.zero_add, Nat.reduceAdd]
  (repeat refine ats_seq ?_); refine ats_go (by first | exact fix0 hcx | exact fix1 hcx rfl) fun K hK => ?_; simp only [go_sem, seval]; refine hK _ ?_; clear hK K
  cases h : isData s t with
  | false =>
    rw [h] at hk
    (repeat refine ats_seq ?_); refine ats_go (by first | exact fix0 hcx | exact fix1 hcx rfl) fun K hK => ?_; simp only [go_sem, seval]
    first | refine fcall_free rfl rfl (hk) ?_ | refine YR_intro (acall_free rfl rfl (hk)) ?_
    simp only [go_sem, seval]
    refine hK _ ?_; clear hK K
    (repeat refine ats_seq ?_); refine ats_yes rfl trivial ?_
    (repeat refine ats_seq ?_); refine ats_go (by first | exact fix0 hcx | exact fix1 hcx rfl) fun K hK => ?_; simp only [go_sem, seval]; refine hK _ ?_; clear hK K
    exact ats_ret (fin2 trivial trivial rfl)
  | true =>
    have hs := (isData_some h).1
    have h16 := hs.2.1
    have h1 := hs.1
    have hm := hs.2.2.1
    have ls := hm.1
    have ht := hs.2.2.2
    have r0 := hm.row (show 0 < t.length by omega)
    rw [h] at hk
    (repeat refine ats_seq ?_); refine ats_go (by first | exact fix0 hcx | exact fix1 hcx rfl) fun K hK => ?_; simp only [go_sem, seval]
    first | refine fcall_free rfl rfl (hk) ?_ | refine YR_intro (acall_free rfl rfl (hk)) ?_
    simp only [go_sem, seval]
    refine hK _ ?_; clear hK K
    (repeat refine ats_seq ?_); refine ats_no rfl trivial ?_
    refine ats_skip ?_
    refine ats_know 1 fun hkn => ?_; simp only [St.get, slotGet, Nat.reduceEqDiff, ↓reduceIte, if_true, fact, facts] at hkn
    have hlen := hkn.1
    (repeat refine ats_seq ?_); refine ats_go (by first | exact fix0 hcx | exact fix1 hcx rfl) fun K hK => ?_; simp only [go_sem, seval]; refine hK _ ?_; clear hK K
    (repeat refine ats_seq ?_); first | refine ats_ifn (p := _) rfl trivial (fun hc2 => ?_) (fun hc2 => ?_) | refine ats_ifp (p := _) rfl trivial (fun hc2 => ?_) (fun hc2 => ?_) | refine ats_cond rfl trivial (fun hc2 => ?_) (fun hc2 => ?_)
    · have e : lnOk ws = false := by unfold lnOk; rw [decide_eq_false (by omega)]; rfl
      (repeat refine ats_seq ?_); refine ats_go (by first | exact fix0 hcx | exact fix1 hcx rfl) fun K hK => ?_; simp only [go_sem, seval]; refine hK _ ?_; clear hK K
      rw [e]
      exact ats_ret (fin2 trivial trivial rfl)
    · refine ats_skip ?_
      (repeat refine ats_seq ?_); refine ats_go (by first | exact fix0 hcx | exact fix1 hcx rfl) fun K hK => ?_; simp only [go_sem, seval]; refine hK _ ?_; clear hK K
      (repeat refine ats_seq ?_); refine ats_loop (fun i : Nat => ⟨[(1, .l1 ws), (2, .bptr 0 0), (6, .int i)], [(0, .bx [.l2 s, .l1 t])]⟩) (fun i => i ≤ ws.length ∧ ∀ b, b < i → (-1000 ≤ ws.getD b 0 ∧ ws.getD b 0 ≤ 1000)) (fun i => ws.length - i) 0 ⟨Nat.zero_le _, fun a h => absurd h (Nat.not_lt_zero a)⟩ (by refine And.intro ?_ rfl; simp only [SlotsLe, St.get, slotGet, Nat.reduceEqDiff, ↓reduceIte, AV.int.injEq, AV.bool.injEq, AV.l1.injEq, AV.l2.injEq, AV.l3.injEq, true_and, and_true]; rfl) (fun i hi => ?_); obtain ⟨hi, Hi⟩ := hi
      (repeat refine ats_seq ?_); refine ats_go (by first | exact fix0 hcx | exact fix1 hcx rfl) fun K hK => ?_; simp only [go_sem, seval]; refine hK _ ?_; clear hK K
      (repeat refine ats_seq ?_); first | refine ats_ifn (p := _) rfl trivial (fun hc4 => ?_) (fun hc4 => ?_) | refine ats_ifp (p := _) rfl trivial (fun hc4 => ?_) (fun hc4 => ?_) | refine ats_cond rfl trivial (fun hc4 => ?_) (fun hc4 => ?_)
      · refine ats_skip ?_
        (repeat refine ats_seq ?_); refine ats_block ?_
        (repeat refine ats_seq ?_); refine ats_go (by first | exact fix0 hcx | exact fix1 hcx rfl) fun K hK => ?_; simp only [go_sem, seval]
        (repeat refine And.intro (by first | omega | (intro hq; first | omega | (simp at hq <;> omega) | (simp_all <;> omega))) ?_)
        first | refine fcall_data (l01In_ok _ _ _) rfl ?_ | refine YR_intro (acall_data (l01In_ok _ _ _) rfl) ?_
        simp only [go_sem, seval]
        refine hK _ ?_; clear hK K
        (repeat refine ats_seq ?_); first | refine ats_ifn (p := _) rfl trivial (fun hc5 => ?_) (fun hc5 => ?_) | refine ats_ifp (p := _) rfl trivial (fun hc5 => ?_) (fun hc5 => ?_) | refine ats_cond rfl trivial (fun hc5 => ?_) (fun hc5 => ?_)
        · simp only [Bool.not_eq_true', Bool.and_eq_false_iff, decide_eq_false_iff_not] at hc5
          have e : lnOk ws = false := Bool.eq_false_iff.2 (fun hh => by
            unfold lnOk at hh
            rw [Bool.and_eq_true] at hh
            have := rngB_iff.1 hh.2 i (by omega)
            omega)
          (repeat refine ats_seq ?_); refine ats_go (by first | exact fix0 hcx | exact fix1 hcx rfl) fun K hK => ?_; simp only [go_sem, seval]; refine hK _ ?_; clear hK K
          rw [e]
          exact ats_ret (fin2 trivial trivial rfl)
        · simp only [Bool.not_eq_false', Bool.and_eq_true, decide_eq_true_eq] at hc5
          refine ats_skip ?_
          (repeat refine ats_seq ?_); refine ats_go (by first | exact fix0 hcx | exact fix1 hcx rfl) fun K hK => ?_; simp only [go_sem, seval]; (repeat refine And.intro (by first | omega | (intro hq; first | omega | (simp at hq <;> omega) | (simp_all <;> omega))) ?_); refine hK _ ?_; clear hK K
          refine ⟨i + 1, ⟨by omega, fun a ha => by rcases Nat.lt_succ_iff_lt_or_eq.1 ha with h | rfl; exact Hi a h; exact hc5⟩, by omega, .inl ⟨?_, rfl⟩⟩; simp only [SlotsLe, St.get, slotGet, Nat.reduceEqDiff, ↓reduceIte, AV.int.injEq, AV.bool.injEq, AV.l1.injEq, AV.l2.injEq, AV.l3.injEq, true_and, and_true]; omega
      · have hR : ∀ i, i < ws.length → -1000 ≤ ws.getD i 0 ∧ ws.getD i 0 ≤ 1000 := fun j hj => Hi j (by omega)
        clear Hi
        have e : lnOk ws = true := by unfold lnOk; rw [decide_eq_true (by omega), rngB_iff.2 hR]; rfl
        refine ats_exit (lq_x ?_)
        (repeat refine ats_seq ?_); refine ats_go (by first | exact fix0 hcx | exact fix1 hcx rfl) fun K hK => ?_; simp only [go_sem, seval]
        (repeat refine And.intro (by first | omega | (intro hq; first | omega | (simp at hq <;> omega) | (simp_all <;> omega))) ?_)
        first | refine fcall_fresh rfl (l01Own_ok _ (by omega)) ?_ | refine YR_intro (acall_fresh rfl (l01Own_ok _ (by omega))) ?_
        simp only [go_sem, seval]
        refine hK _ ?_; clear hK K
        (repeat refine ats_seq ?_); refine ats_go (by first | exact fix0 hcx | exact fix1 hcx rfl) fun K hK => ?_; simp only [go_sem, seval]; refine hK _ ?_; clear hK K
        (repeat refine ats_seq ?_); refine ats_loop (fun i : Nat => ⟨[(1, .l1 ws), (2, .bptr 0 0), (7, .l1 (lnR s t ws i)), (8, .int i)], [(0, .bx [.l2 s, .l1 t])]⟩) (fun i => i ≤ ws.length) (fun i => ws.length - i) 0 (Nat.zero_le _) (by refine And.intro ?_ rfl; simp only [SlotsLe, St.get, slotGet, Nat.reduceEqDiff, ↓reduceIte, true_and, and_true, AV.int.injEq, AV.bool.injEq, AV.l1.injEq, AV.l2.injEq, AV.l3.injEq]; repeat' (first | rfl | omega | refine And.intro ?_ ?_)) (fun i hi => ?_)
        obtain ⟨ll, lp⟩ := lnR_ok (ws := ws) hs i
        (repeat refine ats_seq ?_); refine ats_go (by first | exact fix0 hcx | exact fix1 hcx rfl) fun K hK => ?_; simp only [go_sem, seval]; refine hK _ ?_; clear hK K
        (repeat refine ats_seq ?_); first | refine ats_ifn (p := _) rfl trivial (fun hc7 => ?_) (fun hc7 => ?_) | refine ats_ifp (p := _) rfl trivial (fun hc7 => ?_) (fun hc7 => ?_) | refine ats_cond rfl trivial (fun hc7 => ?_) (fun hc7 => ?_)
        · have ha := hR i (by omega)
          refine ats_skip ?_
          (repeat refine ats_seq ?_); refine ats_block ?_
          (repeat refine ats_seq ?_); refine ats_go (by first | exact fix0 hcx | exact fix1 hcx rfl) fun K hK => ?_; simp only [go_sem, seval]; refine hK _ ?_; clear hK K
          (repeat refine ats_seq ?_); refine ats_go (by first | exact fix0 hcx | exact fix1 hcx rfl) fun K hK => ?_; simp only [go_sem, seval]; refine hK _ ?_; clear hK K
          (repeat refine ats_seq ?_); refine ats_loop (fun j : Nat => ⟨[(1, .l1 ws), (2, .bptr 0 0), (7, .l1 (lnR s t ws i)), (8, .int i), (9, .ref 1 []), (10, .int j)], [(0, .bx [.l2 s, .l1 t]), (1, .t1 (rowF j (lnF (lnR s t ws i) t (ws.getD i 0))))]⟩) (fun j => j ≤ t.length) (fun j => t.length - j) 0 (Nat.zero_le _) (by refine And.intro ?_ rfl; simp only [SlotsLe, St.get, slotGet, Nat.reduceEqDiff, ↓reduceIte, true_and, and_true, AV.int.injEq, AV.bool.injEq, AV.l1.injEq, AV.l2.injEq, AV.l3.injEq]; repeat' (first | rfl | omega | refine And.intro ?_ ?_)) (fun j hj => ?_)
          have hl : (rowF j (lnF (lnR s t ws i) t (ws.getD i 0))).length = j := rowF_length ..
          (repeat refine ats_seq ?_); refine ats_go (by first | exact fix0 hcx | exact fix1 hcx rfl) fun K hK => ?_; simp only [go_sem, seval]
          simp only [ll]
          refine hK _ ?_; clear hK K
          (repeat refine ats_seq ?_); first | refine ats_ifn (p := _) rfl trivial (fun hc9 => ?_) (fun hc9 => ?_) | refine ats_ifp (p := _) rfl trivial (fun hc9 => ?_) (fun hc9 => ?_) | refine ats_cond rfl trivial (fun hc9 => ?_) (fun hc9 => ?_)
          · have hp := ht j (by omega)
            have hp2 := lp j (by omega)
            have mm := mulP hp2 (rs_InP (k := ws.getD i 0) hp)
            refine ats_skip ?_
            (repeat refine ats_seq ?_); refine ats_block ?_
            (repeat refine ats_seq ?_); refine ats_pickP [0, 1, 2, 3, 4, 5, 6, 7, 8, 9, 10, 11, 12, 13, 14, 15, 16, 17, 18, 19] (fix0 hcx) mixed (by kernel_rfl) fun K hK => ?_; simp only [pickL, pickO, List.map_cons, List.map_nil, List.getElem?_toArray, List.getElem?_cons_zero, List.getElem?_cons_succ, Option.getD_some]; simp only [go_sem, seval]
            simp only [ll]
            (repeat refine And.intro (by first | omega | (intro hq; first | omega | (simp at hq <;> omega) | (simp_all <;> omega))) ?_)
            first | refine fcall_data (l15Raise_ok _ _ hp (by omega) (by omega)) rfl ?_ | refine YR_intro (acall_data (l15Raise_ok _ _ hp (by omega) (by omega)) rfl) ?_
            simp only [go_sem, seval]
            try simp (disch := omega) only [tmP, tdP]
            (repeat refine And.intro (by (first | omega | (rw [hl]; omega))) ?_)
            refine hK _ ?_; clear hK K
            (repeat refine ats_seq ?_); refine ats_go (by first | exact fix0 hcx | exact fix1 hcx rfl) fun K hK => ?_; simp only [go_sem, seval]; (repeat refine And.intro (by first | omega | (intro hq; first | omega | (simp at hq <;> omega) | (simp_all <;> omega))) ?_); refine hK _ ?_; clear hK K
            refine ⟨j + 1, by omega, by omega, .inr ⟨[2], by simp only [killL, List.map_cons, List.map_nil, killA, killAs, qOf, rmT, killH, killT, List.filter_cons, List.filter_nil, List.contains_cons, List.contains_nil, SlotsLe, St.get, slotGet, Nat.reduceEqDiff, Nat.reduceBEq, Bool.or_false, Bool.or_true, Bool.false_and, Bool.not_true, Bool.not_false, Bool.false_eq_true, ↓reduceIte, if_true, if_false, AV.int.injEq, AV.bool.injEq, AV.l1.injEq, AV.l2.injEq, AV.l3.injEq, true_and, and_true]; omega, by simp only [killL, List.map_cons, List.map_nil, killA, killAs, qOf, rmT, killH, killT, List.filter_cons, List.filter_nil, List.contains_cons, List.contains_nil, SlotsLe, St.get, slotGet, Nat.reduceEqDiff, Nat.reduceBEq, Bool.or_false, Bool.or_true, Bool.false_and, Bool.not_true, Bool.not_false, Bool.false_eq_true, ↓reduceIte, if_true, if_false, AV.int.injEq, AV.bool.injEq, AV.l1.injEq, AV.l2.injEq, AV.l3.injEq, true_and, and_true]; (rw [rowF_succ]; rfl)⟩⟩
          · obtain rfl : j = t.length := by omega
            have hv := l02Apply_ok s (rowF t.length (lnF (lnR s t ws i) t (ws.getD i 0))) t.length h16 hm (rowF_length ..) (fun k hk => by rw [rowF_get hk]; exact inP_md _)
            refine ats_exit (lq_x ?_)
            (repeat refine ats_seq ?_); refine ats_go (by first | exact fix0 hcx | exact fix1 hcx rfl) fun K hK => ?_; simp only [go_sem, seval]
            first | refine fcall_fresh rfl (hv) ?_ | refine YR_intro (acall_fresh rfl (hv)) ?_
            simp only [go_sem, seval]
            refine hK _ ?_; clear hK K
            (repeat refine ats_seq ?_); refine ats_go (by first | exact fix0 hcx | exact fix1 hcx rfl) fun K hK => ?_; simp only [go_sem, seval]; (repeat refine And.intro (by first | omega | (intro hq; first | omega | (simp at hq <;> omega) | (simp_all <;> omega))) ?_); refine hK _ ?_; clear hK K
            refine ⟨i + 1, by omega, by omega, .inr ⟨[1], by simp only [killL, List.map_cons, List.map_nil, killA, killAs, qOf, rmT, killH, killT, List.filter_cons, List.filter_nil, List.contains_cons, List.contains_nil, SlotsLe, St.get, slotGet, Nat.reduceEqDiff, Nat.reduceBEq, Bool.or_false, Bool.or_true, Bool.false_and, Bool.not_true, Bool.not_false, Bool.false_eq_true, ↓reduceIte, if_true, if_false, AV.int.injEq, AV.bool.injEq, AV.l1.injEq, AV.l2.injEq, AV.l3.injEq, true_and, and_true]; exact ⟨rfl, by omega⟩, by simp only [killL, List.map_cons, List.map_nil, killA, killAs, qOf, rmT, killH, killT, List.filter_cons, List.filter_nil, List.contains_cons, List.contains_nil, SlotsLe, St.get, slotGet, Nat.reduceEqDiff, Nat.reduceBEq, Bool.or_false, Bool.or_true, Bool.false_and, Bool.not_true, Bool.not_false, Bool.false_eq_true, ↓reduceIte, if_true, if_false, AV.int.injEq, AV.bool.injEq, AV.l1.injEq, AV.l2.injEq, AV.l3.injEq, true_and, and_true]; (first | done | rfl)⟩⟩
        · obtain rfl : i = ws.length := by omega
          refine ats_exit (lq_x ?_)
          (repeat refine ats_seq ?_); refine ats_go (by first | exact fix0 hcx | exact fix1 hcx rfl) fun K hK => ?_; simp only [go_sem, seval]
          simp only [ll]
          (repeat refine And.intro (by first | omega | (intro hq; first | omega | (simp at hq <;> omega) | (simp_all <;> omega))) ?_)
          refine hK _ ?_; clear hK K
          rw [e]
          exact ats_ret (fin2 trivial trivial rfl)

theorem implLn_ok (s : List (List Int)) (t ws : List Int) : PureCall Try.prog 51 [.agg [.l2 s, .l1 t], .l1 ws] (.tup [.int (lnA s t ws).1, .int (lnA s t ws).2]) := by
  have hk := IsData_ok s t
  have hA := allWithin_ok ws (-1000) 1000
  unfold lnA
  refine PureCall.intro (n := 62) (rs := [.tmp 4, .tmp 5]) Try.call51 Try.func51 rfl rfl rfl (by simp only [List.length_cons, List.length_nil]; omega) (fun cx hcx => ats_of ?_); simp only [argSlots, Nat.zero_add, Nat.reduceAdd]
  (repeat refine ats_seq ?_); refine ats_go (by first | exact fix0 hcx | exact fix1 hcx rfl) fun K hK => ?_; simp only [go_sem, seval]; refine hK _ ?_; clear hK K
  cases h : isData s t with
  | false =>
    rw [h] at hk
    (repeat refine ats_seq ?_); refine ats_go (by first | exact fix0 hcx | exact fix1 hcx rfl) fun K hK => ?_; simp only [go_sem, seval]
    first | refine fcall_free rfl rfl (hk) ?_ | refine YR_intro (acall_free rfl rfl (hk)) ?_
    simp only [go_sem, seval]
    refine hK _ ?_; clear hK K
    (repeat refine ats_seq ?_); refine ats_yes rfl trivial ?_
    (repeat refine ats_seq ?_); refine ats_go (by first | exact fix0 hcx | exact fix1 hcx rfl) fun K hK => ?_; simp only [go_sem, seval]; refine hK _ ?_; clear hK K
    exact ats_ret (fin2 trivial trivial rfl)
  | true =>
    have hs := (isData_some h).1
    have h16 := hs.2.1
    have h1 := hs.1
    have hm := hs.2.2.1
    have ls := hm.1
    have ht := hs.2.2.2
    have r0 := hm.row (show 0 < t.length by omega)
    rw [h] at hk
    (repeat refine ats_seq ?_); refine ats_go (by first | exact fix0 hcx | exact fix1 hcx rfl) fun K hK => ?_; simp only [go_sem, seval]
    first | refine fcall_free rfl rfl (hk) ?_ | refine YR_intro (acall_free rfl rfl (hk)) ?_
    simp only [go_sem, seval]
    refine hK _ ?_; clear hK K
    (repeat refine ats_seq ?_); refine ats_no rfl trivial ?_
    refine ats_skip ?_
    refine ats_know 1 fun hkn => ?_; simp only [St.get, slotGet, Nat.reduceEqDiff, ↓reduceIte, if_true, fact, facts] at hkn
    have hlen := hkn.1
    (repeat refine ats_seq ?_); refine ats_go (by first | exact fix0 hcx | exact fix1 hcx rfl) fun K hK => ?_; simp only [go_sem, seval]
    first | refine YR_intro (fun _ => acall_free rfl rfl (hA)) ?_ | refine YR_intro (acall_free rfl rfl (hA)) ?_
    simp only [go_sem, seval]
    refine hK _ ?_; clear hK K
    (repeat refine ats_seq ?_); first | refine ats_ifn (p := _) rfl trivial (fun hc2 => ?_) (fun hc2 => ?_) | refine ats_ifp (p := _) rfl trivial (fun hc2 => ?_) (fun hc2 => ?_) | refine ats_cond rfl trivial (fun hc2 => ?_) (fun hc2 => ?_)
    · have e : lnOk ws = false := Bool.eq_false_iff.2 (fun hh => by
        unfold lnOk rngB at hh
        rw [Bool.and_eq_true, decide_eq_true_eq] at hh
        rw [hh.2, decide_eq_false (show ¬ (16 : Int) < ws.length by omega)] at hc2
        cases hc2)
      (repeat refine ats_seq ?_); refine ats_go (by first | exact fix0 hcx | exact fix1 hcx rfl) fun K hK => ?_; simp only [go_sem, seval]; refine hK _ ?_; clear hK K
      rw [e]
      exact ats_ret (fin2 trivial trivial rfl)
    · simp only [Bool.or_eq_false_iff, Bool.not_eq_false', decide_eq_false_iff_not] at hc2
      have e : lnOk ws = true := by unfold lnOk rngB; rw [decide_eq_true (by omega), hc2.2]; rfl
      have hR := rngB_iff.1 (show rngB (-1000) 1000 ws = true from hc2.2)
      refine ats_skip ?_
      (repeat refine ats_seq ?_); refine ats_go (by first | exact fix0 hcx | exact fix1 hcx rfl) fun K hK => ?_; simp only [go_sem, seval]
      simp only [ls]
      (repeat refine And.intro (by first | omega | (intro hq; first | omega | (simp at hq <;> omega) | (simp_all <;> omega))) ?_)
      refine fcall_own rfl (clone_ok _ (by omega) (by omega)) rfl ?_; simp only [go_sem, seval]
      refine hK _ ?_; clear hK K
      (repeat refine ats_seq ?_); refine ats_go (by first | exact fix0 hcx | exact fix1 hcx rfl) fun K hK => ?_; simp only [go_sem, seval]; refine hK _ ?_; clear hK K
      (repeat refine ats_seq ?_); refine ats_loop (fun i : Nat => ⟨[(2, .bptr 0 0), (6, .ref 1 []), (27, .l1 ws), (28, .int ws.length), (29, .int i)], [(1, .t1 (lnR s t ws i)), (0, .bx [.l2 s, .l1 t])]⟩) (fun i => i ≤ ws.length) (fun i => ws.length - i) 0 (Nat.zero_le _) (by refine And.intro ?_ rfl; simp only [SlotsLe, St.get, slotGet, Nat.reduceEqDiff, ↓reduceIte, true_and, and_true, AV.int.injEq, AV.bool.injEq, AV.l1.injEq, AV.l2.injEq, AV.l3.injEq]; repeat' (first | rfl | omega | refine And.intro ?_ ?_)) (fun i hi => ?_)
      obtain ⟨ll, lp⟩ := lnR_ok (ws := ws) hs i
      (repeat refine ats_seq ?_); refine ats_go (by first | exact fix0 hcx | exact fix1 hcx rfl) fun K hK => ?_; simp only [go_sem, seval]; refine hK _ ?_; clear hK K
      (repeat refine ats_seq ?_); first | refine ats_ifn (p := _) rfl trivial (fun hc4 => ?_) (fun hc4 => ?_) | refine ats_ifp (p := _) rfl trivial (fun hc4 => ?_) (fun hc4 => ?_) | refine ats_cond rfl trivial (fun hc4 => ?_) (fun hc4 => ?_)
      · have ha := hR i (by omega)
        refine ats_skip ?_
        (repeat refine ats_seq ?_); refine ats_block ?_
        (repeat refine ats_seq ?_); refine ats_go (by first | exact fix0 hcx | exact fix1 hcx rfl) fun K hK => ?_; simp only [go_sem, seval]; (repeat refine And.intro (by first | omega | (intro hq; first | omega | (simp at hq <;> omega) | (simp_all <;> omega))) ?_); refine hK _ ?_; clear hK K
        rw [← updR_zero (f := lnF (lnR s t ws i) t (ws.getD i 0)) ll]
        (repeat refine ats_seq ?_); refine ats_go (by first | exact fix0 hcx | exact fix1 hcx rfl) fun K hK => ?_; simp only [go_sem, seval]; refine hK _ ?_; clear hK K
        (repeat refine ats_seq ?_); refine ats_loop (fun j : Nat => ⟨[(2, .bptr 0 0), (6, .ref 1 []), (8, .int (ws.getD i 0)), (27, .l1 ws), (28, .int ws.length), (29, .int i), (34, .l1 t), (35, .int t.length), (36, .int j)], [(1, .t1 (updR (lnF (lnR s t ws i) t (ws.getD i 0)) (lnR s t ws i) t.length j)), (0, .bx [.l2 s, .l1 t])]⟩) (fun j => j ≤ t.length) (fun j => t.length - j) 0 (Nat.zero_le _) (by refine And.intro ?_ rfl; simp only [SlotsLe, St.get, slotGet, Nat.reduceEqDiff, ↓reduceIte, true_and, and_true, AV.int.injEq, AV.bool.injEq, AV.l1.injEq, AV.l2.injEq, AV.l3.injEq]; repeat' (first | rfl | omega | refine And.intro ?_ ?_)) (fun j hj => ?_)
        have hl := updR_length (f := lnF (lnR s t ws i) t (ws.getD i 0)) (r := lnR s t ws i) (n := t.length) (j := j)
        (repeat refine ats_seq ?_); refine ats_go (by first | exact fix0 hcx | exact fix1 hcx rfl) fun K hK => ?_; simp only [go_sem, seval]; refine hK _ ?_; clear hK K
        (repeat refine ats_seq ?_); first | refine ats_ifn (p := _) rfl trivial (fun hc6 => ?_) (fun hc6 => ?_) | refine ats_ifp (p := _) rfl trivial (fun hc6 => ?_) (fun hc6 => ?_) | refine ats_cond rfl trivial (fun hc6 => ?_) (fun hc6 => ?_)
        · have hp := ht j (by omega)
          have hp2 := lp j (by omega)
          have mm := mulP hp2 (rs_InP (k := ws.getD i 0) hp)
          have hg := updR_get (f := lnF (lnR s t ws i) t (ws.getD i 0)) (r := lnR s t ws i) (show j < t.length by omega)
          have hst := updR_step (f := lnF (lnR s t ws i) t (ws.getD i 0)) (r := lnR s t ws i) (show j < t.length by omega)
          refine ats_skip ?_
          (repeat refine ats_seq ?_); refine ats_block ?_
          (repeat refine ats_seq ?_); refine ats_go (by first | exact fix0 hcx | exact fix1 hcx rfl) fun K hK => ?_; simp only [go_sem, seval]; (repeat refine And.intro (by first | omega | (intro hq; first | omega | (simp at hq <;> omega) | (simp_all <;> omega))) ?_); refine hK _ ?_; clear hK K
          (repeat refine ats_seq ?_); refine ats_pick (fix0 hcx) mixed (by kernel_rfl) fun K hK => ?_; simp only [go_sem, seval]
          simp only [hl, hg]
          (repeat refine And.intro (by first | omega | (intro hq; first | omega | (simp at hq <;> omega) | (simp_all <;> omega))) ?_)
          first | refine fcall_data (powerOf_ok _ _ hp (by omega) (by omega)) rfl ?_ | refine YR_intro (acall_data (powerOf_ok _ _ hp (by omega) (by omega)) rfl) ?_
          simp only [go_sem, seval]
          simp only [hl, hg]
          try simp (disch := omega) only [tmP, tdP]
          (repeat refine And.intro (by first | omega | (intro hq; first | omega | (simp at hq <;> omega) | (simp_all <;> omega))) ?_)
          refine hK _ ?_; clear hK K
          (repeat refine ats_seq ?_); refine ats_go (by first | exact fix0 hcx | exact fix1 hcx rfl) fun K hK => ?_; simp only [go_sem, seval]; (repeat refine And.intro (by first | omega | (intro hq; first | omega | (simp at hq <;> omega) | (simp_all <;> omega))) ?_); refine hK _ ?_; clear hK K
          refine ⟨j + 1,  by omega, by omega, .inl ⟨by simp only [SlotsLe, St.get, slotGet, Nat.reduceEqDiff, ↓reduceIte, AV.int.injEq, AV.bool.injEq, AV.l1.injEq, AV.l2.injEq, AV.l3.injEq, true_and, and_true]; omega,  by rw [← hst]; rfl⟩⟩
        · obtain rfl : j = t.length := by omega
          have hv := apply2_ok s (rowF t.length (lnF (lnR s t ws i) t (ws.getD i 0))) t.length h16 hm (rowF_length ..) (fun k hk => by rw [rowF_get hk]; exact inP_md _)
          refine ats_exit (lq_x ?_)
          rw [updR_end]
          (repeat refine ats_seq ?_); refine ats_go (by first | exact fix0 hcx | exact fix1 hcx rfl) fun K hK => ?_; simp only [go_sem, seval]
          refine fcall_own rfl (hv) rfl ?_; simp only [go_sem, seval]
          refine hK _ ?_; clear hK K
          refine ats_swap (st' := ⟨[(2, .bptr 0 0), (6, .ref 1 []), (27, .l1 ws), (28, .int ws.length), (29, .int i)], [(1, .t1 (lnR s t ws (i + 1))), (0, .bx [.l2 s, .l1 t])]⟩) (R := [1]) (a := 1) (b := 2) (by simp only [rnL, rnH, rn, rns, rnT, sw, killL, List.map_cons, List.map_nil, killA, killAs, qOf, rmT, killH, killT, List.filter_cons, List.filter_nil, List.contains_cons, List.contains_nil, SlotsLe, St.get, slotGet, seval, Bool.or_false, Bool.or_true, Bool.false_and, Bool.not_true, Bool.not_false, Bool.false_eq_true, if_true, if_false, AV.int.injEq, AV.bool.injEq, AV.l1.injEq, AV.l2.injEq, AV.l3.injEq, true_and, and_true]; first | done | rfl) (by simp only [rnL, rnH, rn, rns, rnT, sw, killL, List.map_cons, List.map_nil, killA, killAs, qOf, rmT, killH, killT, List.filter_cons, List.filter_nil, List.contains_cons, List.contains_nil, SlotsLe, St.get, slotGet, seval, Bool.or_false, Bool.or_true, Bool.false_and, Bool.not_true, Bool.not_false, Bool.false_eq_true, if_true, if_false, AV.int.injEq, AV.bool.injEq, AV.l1.injEq, AV.l2.injEq, AV.l3.injEq, true_and, and_true]; first | done | rfl) ?_
          (repeat refine ats_seq ?_); refine ats_go (by first | exact fix0 hcx | exact fix1 hcx rfl) fun K hK => ?_; simp only [go_sem, seval]; (repeat refine And.intro (by first | omega | (intro hq; first | omega | (simp at hq <;> omega) | (simp_all <;> omega))) ?_); refine hK _ ?_; clear hK K
          refine ⟨i + 1,  by omega, by omega, .inl ⟨by simp only [SlotsLe, St.get, slotGet, Nat.reduceEqDiff, ↓reduceIte, AV.int.injEq, AV.bool.injEq, AV.l1.injEq, AV.l2.injEq, AV.l3.injEq, true_and, and_true]; omega,  rfl⟩⟩
      · obtain rfl : i = ws.length := by omega
        refine ats_exit (lq_x ?_)
        (repeat refine ats_seq ?_); refine ats_go (by first | exact fix0 hcx | exact fix1 hcx rfl) fun K hK => ?_; simp only [go_sem, seval]
        simp only [ll]
        (repeat refine And.intro (by first | omega | (intro hq; first | omega | (simp at hq <;> omega) | (simp_all <;> omega))) ?_)
        refine hK _ ?_; clear hK K
        rw [e]
        exact ats_ret (fin2 trivial trivial rfl)
end Go.Proofs.Ytafkbnicffieeaa
