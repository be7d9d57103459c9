import Derived.Test.YtphokmkmpelnfaaEc
import Derived.Test.YtphokmkmpelnfaaEd
import Derived.Test.YtphokmkmpelnfaaDs
set_option linter.unusedSimpArgs false
set_option linter.unusedVariables false
namespace Go.Proofs.Ytphokmkmpelnfaa
open Go Go.Aw Go.Pl

theorem lag_inP {s : List (List Int)} {t v : List Int} (h : LagP s t v) : ∀ i, i < t.length → InP (v.getD i 0) := fun i hi => by
  have := h.le i hi
  unfold InP
  omega
noncomputable def ouB (s : List (List Int)) (t v w : List Int) : Bool := decide (dotP (s.getD 0 []) v t.length = dotP (s.getD 0 []) w t.length) && bd (MatOk t.length (outM v w t.length))
noncomputable def ouA (s : List (List Int)) (t v w : List Int) : AV := if isData s t then (if bd (LagP s t v) && bd (LagP s t w) then (if ouB s t v w then .tup [.l2 (outM v w t.length), .int 0] else .tup [.nil, .int 5]) else .tup [.nil, .int 2]) else .tup [.nil, .int 1]
theorem ouA_shape (s : List (List Int)) (t v w : List Int) : ∃ (u : Option (List (List Int))) (c : Int), ouA s t v w = .tup [optM u, .int c] ∧ ∀ v, u = some v → tot2 v ≤ 1048576 := by
  unfold ouA
  cases h : isData s t with
  | false => exact ⟨none, 1, rfl, fun _ h => by cases h⟩
  | true =>
    have h16 := (isData_some h).1.2.1
    simp only [if_true]
    split
    · split
      · exact ⟨some (outM v w t.length), 0, rfl, fun u hv => by cases hv; have h3 := tot2_matF (n := t.length) (f := fun i j => v.getD i 0 * w.getD j 0) h16; show tot List.length (matF _ _ _) ≤ _; omega⟩
      · exact ⟨none, 5, rfl, fun _ h => by cases h⟩
    · exact ⟨none, 2, rfl, fun _ h => by cases h⟩

theorem specOu_ok (s : List (List Int)) (t v w : List Int) : PureCall Try.prog 8 [.agg [.l2 s, .l1 t], .l1 v, .l1 w] (ouA s t v w) := by
  have hk := l12Is_ok s t
  unfold ouA
  refine PureCall.intro (n := 72) (rs := [.tmp 6, .tmp 7]) Try.call8 Try.func8 rfl rfl rfl (by simp only [List.length_cons, List.length_nil]; omega) (fun cx hcx => ats_of ?_); simp only [argSlots, Nat.zero_add, Nat.reduceAdd]
  (repeat refine ats_seq ?_); refine ats_go (by first | exact fix0 hcx | exact fix1 hcx rfl) fun K hK => ?_; simp only [go_sem, seval]; refine hK _ ?_; clear hK K
  (repeat refine ats_seq ?_); refine ats_block ?_
  cases h : isData s t with
  | false =>
    rw [h] at hk
    (repeat refine ats_seq ?_); refine ats_go (by first | exact fix0 hcx | exact fix1 hcx rfl) fun K hK => ?_; simp only [go_sem, seval]
    first | refine fcall_free rfl rfl (hk) ?_ | refine YR_intro (acall_free rfl rfl (hk)) ?_
    simp only [go_sem, seval]
    refine hK _ ?_; clear hK K
    (repeat refine ats_seq ?_); refine ats_yes rfl trivial ?_
    (repeat refine ats_seq ?_); refine ats_go (by first | exact fix0 hcx | exact fix1 hcx rfl) fun K hK => ?_; simp only [go_sem, seval]; refine hK _ ?_; clear hK K
    exact ats_ret (fin2 trivial trivial rfl)
  | true =>
    have hs := (isData_some h).1
    have h16 := hs.2.1
    have h1 := hs.1
    have c1 := l14Lagrangian_ok s t v hs
    have c2 := l14Lagrangian_ok s t w hs
    rw [h] at hk
    (repeat refine ats_seq ?_); refine ats_go (by first | exact fix0 hcx | exact fix1 hcx rfl) fun K hK => ?_; simp only [go_sem, seval]
    first | refine fcall_free rfl rfl (hk) ?_ | refine YR_intro (acall_free rfl rfl (hk)) ?_
    simp only [go_sem, seval]
    refine hK _ ?_; clear hK K
    (repeat refine ats_seq ?_); refine ats_no rfl trivial ?_
    cases hM : bd (LagP s t v) with
    | false =>
      rw [hM] at c1
      (repeat refine ats_seq ?_); refine ats_go (by first | exact fix0 hcx | exact fix1 hcx rfl) fun K hK => ?_; simp only [go_sem, seval]
      first | refine fcall_free rfl rfl (c1) ?_ | refine YR_intro (acall_free rfl rfl (c1)) ?_
      simp only [go_sem, seval]
      refine YR_intro (v := .bool false) (by first | trivial | (intro h; cases h)) ?_
      simp only [go_sem, seval]
      refine hK _ ?_; clear hK K
      (repeat refine ats_seq ?_); refine ats_yes rfl trivial ?_
      (repeat refine ats_seq ?_); refine ats_go (by first | exact fix0 hcx | exact fix1 hcx rfl) fun K hK => ?_; simp only [go_sem, seval]; refine hK _ ?_; clear hK K
      exact ats_ret (fin2 trivial trivial rfl)
    | true =>
      rw [hM] at c1
      cases hK : bd (LagP s t w) with
      | false =>
        rw [hK] at c2
        (repeat refine ats_seq ?_); refine ats_go (by first | exact fix0 hcx | exact fix1 hcx rfl) fun K hK => ?_; simp only [go_sem, seval]
        first | refine fcall_free rfl rfl (c1) ?_ | refine YR_intro (acall_free rfl rfl (c1)) ?_
        simp only [go_sem, seval]
        first | refine YR_intro (fun _ => acall_free rfl rfl (c2)) ?_ | refine YR_intro (acall_free rfl rfl (c2)) ?_
        simp only [go_sem, seval]
        refine hK _ ?_; clear hK K
        (repeat refine ats_seq ?_); refine ats_yes rfl trivial ?_
        (repeat refine ats_seq ?_); refine ats_go (by first | exact fix0 hcx | exact fix1 hcx rfl) fun K hK => ?_; simp only [go_sem, seval]; refine hK _ ?_; clear hK K
        exact ats_ret (fin2 trivial trivial rfl)
      | true =>
        rw [hK] at c2
        have mM := bd_iff.1 hM
        have mK := bd_iff.1 hK
        have lv := mM.1
        have lw := mK.1
        have s1 := l14Sum_ok s t v hs lv (lag_inP mM)
        have s2 := l14Sum_ok s t w hs lw (lag_inP mK)
        have s3 := l14Matrix_ok t.length (outM v w t.length) (by omega)
        (repeat refine ats_seq ?_); refine ats_go (by first | exact fix0 hcx | exact fix1 hcx rfl) fun K hK => ?_; simp only [go_sem, seval]
        first | refine fcall_free rfl rfl (c1) ?_ | refine YR_intro (acall_free rfl rfl (c1)) ?_
        simp only [go_sem, seval]
        first | refine YR_intro (fun _ => acall_free rfl rfl (c2)) ?_ | refine YR_intro (acall_free rfl rfl (c2)) ?_
        simp only [go_sem, seval]
        refine hK _ ?_; clear hK K
        (repeat refine ats_seq ?_); refine ats_no rfl trivial ?_
        refine ats_skip ?_
        (repeat refine ats_seq ?_); refine ats_go (by first | exact fix0 hcx | exact fix1 hcx rfl) fun K hK => ?_; simp only [go_sem, seval]; refine hK _ ?_; clear hK K
        (repeat refine ats_seq ?_); refine ats_go (by first | exact fix0 hcx | exact fix1 hcx rfl) fun K hK => ?_; simp only [go_sem, seval]; refine hK _ ?_; clear hK K
        (repeat refine ats_seq ?_); refine ats_loop (fun i : Nat => ⟨[(1, .l1 v), (2, .l1 w), (3, .bptr 0 0), (8, .ref 1 []), (9, .int i)], [(0, .bx [.l2 s, .l1 t]), (1, .t2 (matF i t.length (fun i j => v.getD i 0 * w.getD j 0)))]⟩) (fun i => i ≤ t.length) (fun i => t.length - i) 0 (Nat.zero_le _) (by refine And.intro ?_ rfl; simp only [SlotsLe, St.get, slotGet, Nat.reduceEqDiff, ↓reduceIte, true_and, and_true, AV.int.injEq, AV.bool.injEq, AV.l1.injEq, AV.l2.injEq, AV.l3.injEq]; repeat' (first | rfl | omega | refine And.intro ?_ ?_)) (fun i hi => ?_)
        have hl := matF_length i t.length (fun i j => v.getD i 0 * w.getD j 0)
        (repeat refine ats_seq ?_); refine ats_go (by first | exact fix0 hcx | exact fix1 hcx rfl) fun K hK => ?_; simp only [go_sem, seval]; refine hK _ ?_; clear hK K
        (repeat refine ats_seq ?_); first | refine ats_ifn (p := _) rfl trivial (fun hc4 => ?_) (fun hc4 => ?_) | refine ats_ifp (p := _) rfl trivial (fun hc4 => ?_) (fun hc4 => ?_) | refine ats_cond rfl trivial (fun hc4 => ?_) (fun hc4 => ?_)
        · have vi := mM.le i (by omega)
          refine ats_skip ?_
          (repeat refine ats_seq ?_); refine ats_block ?_
          (repeat refine ats_seq ?_); refine ats_go (by first | exact fix0 hcx | exact fix1 hcx rfl) fun K hK => ?_; simp only [go_sem, seval]; refine hK _ ?_; clear hK K
          (repeat refine ats_seq ?_); refine ats_go (by first | exact fix0 hcx | exact fix1 hcx rfl) fun K hK => ?_; simp only [go_sem, seval]; refine hK _ ?_; clear hK K
          (repeat refine ats_seq ?_); refine ats_loop (fun j : Nat => ⟨[(1, .l1 v), (2, .l1 w), (3, .bptr 0 0), (8, .ref 1 []), (9, .int i), (10, .ref 2 []), (11, .int j)], [(0, .bx [.l2 s, .l1 t]), (1, .t2 (matF i t.length (fun i j => v.getD i 0 * w.getD j 0))), (2, .t1 (rowF j (fun j => v.getD i 0 * w.getD j 0)))]⟩) (fun j => j ≤ t.length) (fun j => t.length - j) 0 (Nat.zero_le _) (by refine And.intro ?_ rfl; simp only [SlotsLe, St.get, slotGet, Nat.reduceEqDiff, ↓reduceIte, true_and, and_true, AV.int.injEq, AV.bool.injEq, AV.l1.injEq, AV.l2.injEq, AV.l3.injEq]; repeat' (first | rfl | omega | refine And.intro ?_ ?_)) (fun j hj => ?_)
          have hl2 := rowF_length j (fun j => v.getD i 0 * w.getD j 0)
          (repeat refine ats_seq ?_); refine ats_go (by first | exact fix0 hcx | exact fix1 hcx rfl) fun K hK => ?_; simp only [go_sem, seval]; refine hK _ ?_; clear hK K
          (repeat refine ats_seq ?_); first | refine ats_ifn (p := _) rfl trivial (fun hc6 => ?_) (fun hc6 => ?_) | refine ats_ifp (p := _) rfl trivial (fun hc6 => ?_) (fun hc6 => ?_) | refine ats_cond rfl trivial (fun hc6 => ?_) (fun hc6 => ?_)
          · have gl := mul_le6 vi (mK.le j (by omega))
            refine ats_skip ?_
            (repeat refine ats_seq ?_); refine ats_block ?_
            (repeat refine ats_seq ?_); refine ats_pickP [0, 1, 2, 3, 4, 5, 6, 7, 8, 9, 10, 11, 12] (fix0 hcx) mixed (by kernel_rfl) fun K hK => ?_; simp only [pickL, pickO, List.map_cons, List.map_nil, List.getElem?_toArray, List.getElem?_cons_zero, List.getElem?_cons_succ, Option.getD_some]; simp only [go_sem, seval]
            simp only [hl2]
            (repeat refine And.intro (by first | omega | (intro hq; first | omega | (simp at hq <;> omega) | (simp_all <;> omega))) ?_)
            refine hK _ ?_; clear hK K
            (repeat refine ats_seq ?_); refine ats_go (by first | exact fix0 hcx | exact fix1 hcx rfl) fun K hK => ?_; simp only [go_sem, seval]; (repeat refine And.intro (by first | omega | (intro hq; first | omega | (simp at hq <;> omega) | (simp_all <;> omega))) ?_); refine hK _ ?_; clear hK K
            refine ⟨j + 1, by omega, by omega, .inr ⟨[3], by simp only [killL, List.map_cons, List.map_nil, killA, killAs, qOf, rmT, killH, killT, List.filter_cons, List.filter_nil, List.contains_cons, List.contains_nil, SlotsLe, St.get, slotGet, Nat.reduceEqDiff, Nat.reduceBEq, Bool.or_false, Bool.or_true, Bool.false_and, Bool.not_true, Bool.not_false, Bool.false_eq_true, ↓reduceIte, if_true, if_false, AV.int.injEq, AV.bool.injEq, AV.l1.injEq, AV.l2.injEq, AV.l3.injEq, true_and, and_true]; omega, by simp only [killL, List.map_cons, List.map_nil, killA, killAs, qOf, rmT, killH, killT, List.filter_cons, List.filter_nil, List.contains_cons, List.contains_nil, SlotsLe, St.get, slotGet, Nat.reduceEqDiff, Nat.reduceBEq, Bool.or_false, Bool.or_true, Bool.false_and, Bool.not_true, Bool.not_false, Bool.false_eq_true, ↓reduceIte, if_true, if_false, AV.int.injEq, AV.bool.injEq, AV.l1.injEq, AV.l2.injEq, AV.l3.injEq, true_and, and_true]; rw [rowF_succ]⟩⟩
          · obtain rfl : j = t.length := by omega
            refine ats_exit (lq_x ?_)
            (repeat refine ats_seq ?_); refine ats_go (by first | exact fix0 hcx | exact fix1 hcx rfl) fun K hK => ?_; simp only [go_sem, seval]
            simp only [hl]
            (repeat refine And.intro (by first | omega | (intro hq; first | omega | (simp at hq <;> omega) | (simp_all <;> omega))) ?_)
            refine hK _ ?_; clear hK K
            (repeat refine ats_seq ?_); refine ats_go (by first | exact fix0 hcx | exact fix1 hcx rfl) fun K hK => ?_; simp only [go_sem, seval]; (repeat refine And.intro (by first | omega | (intro hq; first | omega | (simp at hq <;> omega) | (simp_all <;> omega))) ?_); refine hK _ ?_; clear hK K
            refine ⟨i + 1,  by omega, by omega, .inl ⟨by simp only [SlotsLe, St.get, slotGet, Nat.reduceEqDiff, ↓reduceIte, AV.int.injEq, AV.bool.injEq, AV.l1.injEq, AV.l2.injEq, AV.l3.injEq, true_and, and_true]; omega,  by rw [matF_succ]⟩⟩
        · obtain rfl : i = t.length := by omega
          refine ats_exit (lq_x ?_)
          (repeat refine ats_seq ?_); refine ats_pick (fix0 hcx) mixed (by kernel_rfl) fun K hK => ?_; simp only [go_sem, seval]
          first | refine fcall_data (s1) rfl ?_ | refine YR_intro (acall_data (s1) rfl) ?_
          simp only [go_sem, seval]
          first | refine fcall_data (s2) rfl ?_ | refine YR_intro (acall_data (s2) rfl) ?_
          simp only [go_sem, seval]
          simp only [lv]
          first | refine YR_intro (fun _ => acall_free rfl rfl (s3)) ?_ | refine YR_intro (acall_free rfl rfl (s3)) ?_
          simp only [go_sem, seval]
          refine hK _ ?_; clear hK K
          (repeat refine ats_seq ?_); first | refine ats_ifn (p := _) rfl trivial (fun hc7 => ?_) (fun hc7 => ?_) | refine ats_ifp (p := _) rfl trivial (fun hc7 => ?_) (fun hc7 => ?_) | refine ats_cond rfl trivial (fun hc7 => ?_) (fun hc7 => ?_)
          · have e : ouB s t v w = false := by
              unfold ouB
              simp only [Bool.or_eq_true, Bool.not_eq_true', decide_eq_false_iff_not] at hc7
              rcases hc7 with h7 | h7
              · rw [decide_eq_false h7]; rfl
              · rw [h7, Bool.and_false]
            (repeat refine ats_seq ?_); refine ats_go (by first | exact fix0 hcx | exact fix1 hcx rfl) fun K hK => ?_; simp only [go_sem, seval]; refine hK _ ?_; clear hK K
            rw [e]
            exact ats_ret (fin2 trivial trivial rfl)
          · have e : ouB s t v w = true := by
              unfold ouB
              simp only [Bool.or_eq_false_iff, Bool.not_eq_false', decide_eq_true_eq] at hc7
              rw [decide_eq_true hc7.1, hc7.2]; rfl
            refine ats_skip ?_
            (repeat refine ats_seq ?_); refine ats_go (by first | exact fix0 hcx | exact fix1 hcx rfl) fun K hK => ?_; simp only [go_sem, seval]; refine hK _ ?_; clear hK K
            rw [e]
            exact ats_ret (fin2 trivial trivial rfl)

theorem implOu_ok (s : List (List Int)) (t v w : List Int) : FreshCall Try.prog 11 [.agg [.l2 s, .l1 t], .l1 v, .l1 w] (ouA s t v w) := by
  have hk := IsData_ok s t
  unfold ouA
  refine FreshCall.intro (n := 70) (rs := [.tmp 6, .tmp 7]) Try.call11 Try.func11 rfl rfl rfl (by simp only [List.length_cons, List.length_nil]; omega) (fun cx hcx => ats_of ?_); simp only [argSlots, Nat.zero_add, Nat.reduceAdd]
  (repeat refine ats_seq ?_); refine ats_go (by first | exact fix0 hcx | exact fix1 hcx rfl) fun K hK => ?_; simp only [go_sem, seval]; refine hK _ ?_; clear hK K
  cases h : isData s t with
  | false =>
    rw [h] at hk
    (repeat refine ats_seq ?_); refine ats_go (by first | exact fix0 hcx | exact fix1 hcx rfl) fun K hK => ?_; simp only [go_sem, seval]
    first | refine fcall_free rfl rfl (hk) ?_ | refine YR_intro (acall_free rfl rfl (hk)) ?_
    simp only [go_sem, seval]
    refine hK _ ?_; clear hK K
    (repeat refine ats_seq ?_); refine ats_yes rfl trivial ?_
    (repeat refine ats_seq ?_); refine ats_go (by first | exact fix0 hcx | exact fix1 hcx rfl) fun K hK => ?_; simp only [go_sem, seval]; refine hK _ ?_; clear hK K
    exact ats_ret (own2 (is := []) trivial trivial rfl (by simp))
  | true =>
    have hs := (isData_some h).1
    have h16 := hs.2.1
    have h1 := hs.1
    have hm := hs.2.2.1
    have ls := hm.1
    have r0 := hm.row (show 0 < t.length by omega)
    have c1 := isLagrangian_ok s t v hs
    have c2 := isLagrangian_ok s t w hs
    rw [h] at hk
    (repeat refine ats_seq ?_); refine ats_go (by first | exact fix0 hcx | exact fix1 hcx rfl) fun K hK => ?_; simp only [go_sem, seval]
    first | refine fcall_free rfl rfl (hk) ?_ | refine YR_intro (acall_free rfl rfl (hk)) ?_
    simp only [go_sem, seval]
    refine hK _ ?_; clear hK K
    (repeat refine ats_seq ?_); refine ats_no rfl trivial ?_
    refine ats_skip ?_
    cases hM : bd (LagP s t v) with
    | false =>
      rw [hM] at c1
      (repeat refine ats_seq ?_); refine ats_go (by first | exact fix0 hcx | exact fix1 hcx rfl) fun K hK => ?_; simp only [go_sem, seval]
      first | refine fcall_free rfl rfl (c1) ?_ | refine YR_intro (acall_free rfl rfl (c1)) ?_
      simp only [go_sem, seval]
      refine YR_intro (v := .bool false) (by first | trivial | (intro h; cases h)) ?_
      simp only [go_sem, seval]
      refine hK _ ?_; clear hK K
      (repeat refine ats_seq ?_); refine ats_yes rfl trivial ?_
      (repeat refine ats_seq ?_); refine ats_go (by first | exact fix0 hcx | exact fix1 hcx rfl) fun K hK => ?_; simp only [go_sem, seval]; refine hK _ ?_; clear hK K
      exact ats_ret (own2 (is := []) trivial trivial rfl (by simp))
    | true =>
      rw [hM] at c1
      cases hK : bd (LagP s t w) with
      | false =>
        rw [hK] at c2
        (repeat refine ats_seq ?_); refine ats_go (by first | exact fix0 hcx | exact fix1 hcx rfl) fun K hK => ?_; simp only [go_sem, seval]
        first | refine fcall_free rfl rfl (c1) ?_ | refine YR_intro (acall_free rfl rfl (c1)) ?_
        simp only [go_sem, seval]
        first | refine YR_intro (fun _ => acall_free rfl rfl (c2)) ?_ | refine YR_intro (acall_free rfl rfl (c2)) ?_
        simp only [go_sem, seval]
        refine hK _ ?_; clear hK K
        (repeat refine ats_seq ?_); refine ats_yes rfl trivial ?_
        (repeat refine ats_seq ?_); refine ats_go (by first | exact fix0 hcx | exact fix1 hcx rfl) fun K hK => ?_; simp only [go_sem, seval]; refine hK _ ?_; clear hK K
        exact ats_ret (own2 (is := []) trivial trivial rfl (by simp))
      | true =>
        rw [hK] at c2
        have mM := bd_iff.1 hM
        have mK := bd_iff.1 hK
        have lv := mM.1
        have lw := mK.1
        have s1 := dot_ok v (s.getD 0 []) t.length (by omega) lv r0 (lag_inP mM) (fun i hi => hm.inP (by omega) hi)
        have s2 := dot_ok w (s.getD 0 []) t.length (by omega) lw r0 (lag_inP mK) (fun i hi => hm.inP (by omega) hi)
        rw [dotP_comm] at s1 s2
        (repeat refine ats_seq ?_); refine ats_go (by first | exact fix0 hcx | exact fix1 hcx rfl) fun K hK => ?_; simp only [go_sem, seval]
        first | refine fcall_free rfl rfl (c1) ?_ | refine YR_intro (acall_free rfl rfl (c1)) ?_
        simp only [go_sem, seval]
        first | refine YR_intro (fun _ => acall_free rfl rfl (c2)) ?_ | refine YR_intro (acall_free rfl rfl (c2)) ?_
        simp only [go_sem, seval]
        refine hK _ ?_; clear hK K
        (repeat refine ats_seq ?_); refine ats_no rfl trivial ?_
        refine ats_skip ?_
        (repeat refine ats_seq ?_); refine ats_go (by first | exact fix0 hcx | exact fix1 hcx rfl) fun K hK => ?_; simp only [go_sem, seval]; refine hK _ ?_; clear hK K
        (repeat refine ats_seq ?_); refine ats_go (by first | exact fix0 hcx | exact fix1 hcx rfl) fun K hK => ?_; simp only [go_sem, seval]
        simp only [lv]
        refine hK _ ?_; clear hK K
        (repeat refine ats_seq ?_); refine ats_loop (fun i : Nat => ⟨[(1, .l1 v), (2, .l1 w), (3, .bptr 0 0), (8, .ref 1 []), (28, .l1 v), (29, .int t.length), (30, .int i)], [(0, .bx [.l2 s, .l1 t]), (1, .t2 (matF i t.length (fun i j => v.getD i 0 * w.getD j 0)))]⟩) (fun i => i ≤ t.length ∧ ∀ b, b < i → RowOk t.length (rowF t.length (fun j => v.getD b 0 * w.getD j 0))) (fun i => t.length - i) 0 ⟨Nat.zero_le _, fun a h => absurd h (Nat.not_lt_zero a)⟩ (by refine And.intro ?_ rfl; simp only [SlotsLe, St.get, slotGet, Nat.reduceEqDiff, ↓reduceIte, AV.int.injEq, AV.bool.injEq, AV.l1.injEq, AV.l2.injEq, AV.l3.injEq, true_and, and_true]; rfl) (fun i hi => ?_); obtain ⟨hi, Hi⟩ := hi
        have hl := matF_length i t.length (fun i j => v.getD i 0 * w.getD j 0)
        (repeat refine ats_seq ?_); refine ats_go (by first | exact fix0 hcx | exact fix1 hcx rfl) fun K hK => ?_; simp only [go_sem, seval]; refine hK _ ?_; clear hK K
        (repeat refine ats_seq ?_); first | refine ats_ifn (p := _) rfl trivial (fun hc4 => ?_) (fun hc4 => ?_) | refine ats_ifp (p := _) rfl trivial (fun hc4 => ?_) (fun hc4 => ?_) | refine ats_cond rfl trivial (fun hc4 => ?_) (fun hc4 => ?_)
        · have vi := mM.le i (by omega)
          refine ats_skip ?_
          (repeat refine ats_seq ?_); refine ats_block ?_
          (repeat refine ats_seq ?_); refine ats_go (by first | exact fix0 hcx | exact fix1 hcx rfl) fun K hK => ?_; simp only [go_sem, seval]
          simp only [lv]
          (repeat refine And.intro (by first | omega | (intro hq; first | omega | (simp at hq <;> omega) | (simp_all <;> omega))) ?_)
          refine hK _ ?_; clear hK K
          (repeat refine ats_seq ?_); refine ats_go (by first | exact fix0 hcx | exact fix1 hcx rfl) fun K hK => ?_; simp only [go_sem, seval]; refine hK _ ?_; clear hK K
          (repeat refine ats_seq ?_); refine ats_go (by first | exact fix0 hcx | exact fix1 hcx rfl) fun K hK => ?_; simp only [go_sem, seval]
          simp only [lw]
          refine hK _ ?_; clear hK K
          (repeat refine ats_seq ?_); refine ats_loop (fun j : Nat => ⟨[(1, .l1 v), (2, .l1 w), (3, .bptr 0 0), (8, .ref 1 []), (10, .int (v.getD i 0)), (11, .ref 2 []), (28, .l1 v), (29, .int t.length), (30, .int i), (35, .l1 w), (36, .int t.length), (37, .int j)], [(0, .bx [.l2 s, .l1 t]), (1, .t2 (matF i t.length (fun i j => v.getD i 0 * w.getD j 0))), (2, .t1 (rowF j (fun j => v.getD i 0 * w.getD j 0)))]⟩) (fun j => j ≤ t.length) (fun j => t.length - j) 0 (Nat.zero_le _) (by refine And.intro ?_ rfl; simp only [SlotsLe, St.get, slotGet, Nat.reduceEqDiff, ↓reduceIte, true_and, and_true, AV.int.injEq, AV.bool.injEq, AV.l1.injEq, AV.l2.injEq, AV.l3.injEq]; repeat' (first | rfl | omega | refine And.intro ?_ ?_)) (fun j hj => ?_)
          have hl2 := rowF_length j (fun j => v.getD i 0 * w.getD j 0)
          (repeat refine ats_seq ?_); refine ats_go (by first | exact fix0 hcx | exact fix1 hcx rfl) fun K hK => ?_; simp only [go_sem, seval]; refine hK _ ?_; clear hK K
          (repeat refine ats_seq ?_); first | refine ats_ifn (p := _) rfl trivial (fun hc6 => ?_) (fun hc6 => ?_) | refine ats_ifp (p := _) rfl trivial (fun hc6 => ?_) (fun hc6 => ?_) | refine ats_cond rfl trivial (fun hc6 => ?_) (fun hc6 => ?_)
          · have gl := mul_le6 vi (mK.le j (by omega))
            refine ats_skip ?_
            (repeat refine ats_seq ?_); refine ats_block ?_
            (repeat refine ats_seq ?_); refine ats_go (by first | exact fix0 hcx | exact fix1 hcx rfl) fun K hK => ?_; simp only [go_sem, seval]
            simp only [lw]
            (repeat refine And.intro (by first | omega | (intro hq; first | omega | (simp at hq <;> omega) | (simp_all <;> omega))) ?_)
            refine hK _ ?_; clear hK K
            (repeat refine ats_seq ?_); refine ats_go (by first | exact fix0 hcx | exact fix1 hcx rfl) fun K hK => ?_; simp only [go_sem, seval]
            simp only [hl2]
            (repeat refine And.intro (by first | omega | (intro hq; first | omega | (simp at hq <;> omega) | (simp_all <;> omega))) ?_)
            refine hK _ ?_; clear hK K
            (repeat refine ats_seq ?_); refine ats_go (by first | exact fix0 hcx | exact fix1 hcx rfl) fun K hK => ?_; simp only [go_sem, seval]; (repeat refine And.intro (by first | omega | (intro hq; first | omega | (simp at hq <;> omega) | (simp_all <;> omega))) ?_); refine hK _ ?_; clear hK K
            refine ⟨j + 1, by omega, by omega, .inr ⟨[3], by simp only [killL, List.map_cons, List.map_nil, killA, killAs, qOf, rmT, killH, killT, List.filter_cons, List.filter_nil, List.contains_cons, List.contains_nil, SlotsLe, St.get, slotGet, Nat.reduceEqDiff, Nat.reduceBEq, Bool.or_false, Bool.or_true, Bool.false_and, Bool.not_true, Bool.not_false, Bool.false_eq_true, ↓reduceIte, if_true, if_false, AV.int.injEq, AV.bool.injEq, AV.l1.injEq, AV.l2.injEq, AV.l3.injEq, true_and, and_true]; omega, by simp only [killL, List.map_cons, List.map_nil, killA, killAs, qOf, rmT, killH, killT, List.filter_cons, List.filter_nil, List.contains_cons, List.contains_nil, SlotsLe, St.get, slotGet, Nat.reduceEqDiff, Nat.reduceBEq, Bool.or_false, Bool.or_true, Bool.false_and, Bool.not_true, Bool.not_false, Bool.false_eq_true, ↓reduceIte, if_true, if_false, AV.int.injEq, AV.bool.injEq, AV.l1.injEq, AV.l2.injEq, AV.l3.injEq, true_and, and_true]; rw [rowF_succ]⟩⟩
          · obtain rfl : j = t.length := by omega
            have hA := allWithin_ok (rowF t.length (fun j => v.getD i 0 * w.getD j 0)) 0 1000
            refine ats_exit (lq_x ?_)
            cases hr : rngB 0 1000 (rowF t.length (fun j => v.getD i 0 * w.getD j 0)) with
            | false =>
              have hr' := hr
              unfold rngB at hr'
              rw [hr'] at hA
              have e : ouB s t v w = false := by
                unfold ouB
                rw [bd_false (fun hh => ?_), Bool.and_false]
                have h2 := hh.2 i (by omega)
                unfold outM at h2
                rw [matF_get (by omega)] at h2
                have := rngB_iff.2 (fun k hk => h2.2 k (by rw [h2.1] at hk; exact hk))
                rw [hr] at this
                cases this
              (repeat refine ats_seq ?_); refine ats_go (by first | exact fix0 hcx | exact fix1 hcx rfl) fun K hK => ?_; simp only [go_sem, seval]
              first | refine fcall_free rfl rfl (hA) ?_ | refine YR_intro (acall_free rfl rfl (hA)) ?_
              simp only [go_sem, seval]
              refine hK _ ?_; clear hK K
              (repeat refine ats_seq ?_); refine ats_yes rfl trivial ?_
              (repeat refine ats_seq ?_); refine ats_go (by first | exact fix0 hcx | exact fix1 hcx rfl) fun K hK => ?_; simp only [go_sem, seval]; refine hK _ ?_; clear hK K
              rw [e]
              exact ats_ret (own2 (is := []) trivial trivial rfl (by simp))
            | true =>
              have hr' := hr
              unfold rngB at hr'
              rw [hr'] at hA
              have hrow : RowOk t.length (rowF t.length (fun j => v.getD i 0 * w.getD j 0)) := ⟨rowF_length .., fun k hk => rngB_iff.1 hr k (by rw [rowF_length]; exact hk)⟩
              (repeat refine ats_seq ?_); refine ats_go (by first | exact fix0 hcx | exact fix1 hcx rfl) fun K hK => ?_; simp only [go_sem, seval]
              first | refine fcall_free rfl rfl (hA) ?_ | refine YR_intro (acall_free rfl rfl (hA)) ?_
              simp only [go_sem, seval]
              refine hK _ ?_; clear hK K
              (repeat refine ats_seq ?_); refine ats_no rfl trivial ?_
              refine ats_skip ?_
              (repeat refine ats_seq ?_); refine ats_go (by first | exact fix0 hcx | exact fix1 hcx rfl) fun K hK => ?_; simp only [go_sem, seval]
              simp only [hl]
              (repeat refine And.intro (by first | omega | (intro hq; first | omega | (simp at hq <;> omega) | (simp_all <;> omega))) ?_)
              refine hK _ ?_; clear hK K
              (repeat refine ats_seq ?_); refine ats_go (by first | exact fix0 hcx | exact fix1 hcx rfl) fun K hK => ?_; simp only [go_sem, seval]; (repeat refine And.intro (by first | omega | (intro hq; first | omega | (simp at hq <;> omega) | (simp_all <;> omega))) ?_); refine hK _ ?_; clear hK K
              refine ⟨i + 1, ⟨by omega, fun a ha => by rcases Nat.lt_succ_iff_lt_or_eq.1 ha with h | rfl; exact Hi a h; exact hrow⟩, by omega, .inl ⟨?_, ?_⟩⟩
              · simp only [SlotsLe, St.get, slotGet, Nat.reduceEqDiff, ↓reduceIte, AV.int.injEq, AV.bool.injEq, AV.l1.injEq, AV.l2.injEq, AV.l3.injEq, true_and, and_true]
                omega
              · rw [matF_succ]
        · obtain rfl : i = t.length := by omega
          have hMat : bd (MatOk t.length (outM v w t.length)) = true := bd_true ⟨matF_length .., fun k hk => by unfold outM; rw [matF_get hk]; exact Hi k hk⟩
          clear Hi
          refine ats_exit (lq_x ?_)
          (repeat refine ats_seq ?_); refine ats_pick (fix0 hcx) mixed (by kernel_rfl) fun K hK => ?_; simp only [go_sem, seval]
          simp only [ls]
          (repeat refine And.intro (by first | omega | (intro hq; first | omega | (simp at hq <;> omega) | (simp_all <;> omega))) ?_)
          first | refine fcall_data (s1) rfl ?_ | refine YR_intro (acall_data (s1) rfl) ?_
          simp only [go_sem, seval]
          simp only [ls]
          (repeat refine And.intro (by first | omega | (intro hq; first | omega | (simp at hq <;> omega) | (simp_all <;> omega))) ?_)
          first | refine fcall_data (s2) rfl ?_ | refine YR_intro (acall_data (s2) rfl) ?_
          simp only [go_sem, seval]
          refine hK _ ?_; clear hK K
          (repeat refine ats_seq ?_); first | refine ats_ifn (p := _) rfl trivial (fun hc8 => ?_) (fun hc8 => ?_) | refine ats_ifp (p := _) rfl trivial (fun hc8 => ?_) (fun hc8 => ?_) | refine ats_cond rfl trivial (fun hc8 => ?_) (fun hc8 => ?_)
          · have e : ouB s t v w = false := by
              unfold ouB
              rw [decide_eq_false hc8]; rfl
            (repeat refine ats_seq ?_); refine ats_go (by first | exact fix0 hcx | exact fix1 hcx rfl) fun K hK => ?_; simp only [go_sem, seval]; refine hK _ ?_; clear hK K
            rw [e]
            exact ats_ret (own2 (is := []) trivial trivial rfl (by simp))
          · have e : ouB s t v w = true := by
              unfold ouB
              rw [decide_eq_true hc8, hMat]; rfl
            refine ats_skip ?_
            (repeat refine ats_seq ?_); refine ats_go (by first | exact fix0 hcx | exact fix1 hcx rfl) fun K hK => ?_; simp only [go_sem, seval]; refine hK _ ?_; clear hK K
            rw [e]
            exact ats_ret (own2 (is := [1]) trivial trivial rfl (by simp))
end Go.Proofs.Ytphokmkmpelnfaa
