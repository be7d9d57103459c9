import Derived.Test.YtphokmkmpelnfaaEd
import Derived.Test.YtphokmkmpelnfaaWx4
import Derived.Test.YtphokmkmpelnfaaDs
set_option linter.unusedSimpArgs false
set_option linter.unusedVariables false
namespace Go.Proofs.Ytphokmkmpelnfaa
open Go Go.Aw Go.Pl

noncomputable def coA (s : List (List Int)) (t : List Int) (m k : List (List Int)) : AV := if isData s t then (if bd (InvP s t m) && bd (InvP s t k) then (if bd (InvP s t (prodM m k t.length)) then .tup [.l2 (prodM m k t.length), .int 0] else .tup [.nil, .int 5]) else .tup [.nil, .int 2]) else .tup [.nil, .int 1]
theorem coA_shape (s : List (List Int)) (t : List Int) (m k : List (List Int)) : ∃ (u : Option (List (List Int))) (c : Int), coA s t m k = .tup [optM u, .int c] ∧ ∀ v, u = some v → tot2 v ≤ 1048576 := by
  unfold coA
  cases h : isData s t with
  | false => exact ⟨none, 1, rfl, fun _ h => by cases h⟩
  | true =>
    have h16 := (isData_some h).1.2.1
    simp only [if_true]
    split
    · split
      · exact ⟨some (prodM m k t.length), 0, rfl, fun v hv => by cases hv; have h3 := tot2_matF (n := t.length) (f := fun p q => sumTo (mg m k p q) t.length) h16; show tot List.length (matF _ _ _) ≤ _; omega⟩
      · exact ⟨none, 5, rfl, fun _ h => by cases h⟩
    · exact ⟨none, 2, rfl, fun _ h => by cases h⟩

theorem specCo_ok (s : List (List Int)) (t : List Int) (m k : List (List Int)) : PureCall Try.prog 20 [.agg [.l2 s, .l1 t], .l2 m, .l2 k] (coA s t m k) := by
  have hk := l12Is_ok s t
  unfold coA
  refine PureCall.intro (n := 79) (rs := [.tmp 6, .tmp 7]) Try.call20 Try.func20 rfl rfl rfl (by simp only [List.length_cons, List.length_nil]; omega) (fun cx hcx => ats_of ?_); simp only [argSlots, Nat.zero_add, Nat.reduceAdd]
  (repeat refine ats_seq ?_); refine ats_go (by first | exact fix0 hcx | exact fix1 hcx rfl) fun K hK => ?_; simp only [go_sem, seval]; refine hK _ ?_; clear hK K
  (repeat refine ats_seq ?_); refine ats_block ?_
  cases h : isData s t with
  | false =>
    rw [h] at hk
    (repeat refine ats_seq ?_); refine ats_go (by first | exact fix0 hcx | exact fix1 hcx rfl) fun K hK => ?_; simp only [go_sem, seval]
    first | refine fcall_free rfl rfl (hk) ?_ | refine YR_intro (acall_free rfl rfl (hk)) ?_
    simp only [go_sem, seval]
    refine hK _ ?_; clear hK K
    (repeat refine ats_seq ?_); refine ats_yes rfl trivial ?_
    (repeat refine ats_seq ?_); refine ats_go (by first | exact fix0 hcx | exact fix1 hcx rfl) fun K hK => ?_; simp only [go_sem, seval]; refine hK _ ?_; clear hK K
    exact ats_ret (fin2 trivial trivial rfl)
  | true =>
    have hs := (isData_some h).1
    have h16 := hs.2.1
    have h1 := hs.1
    have c1 := l14Is_ok s t m hs
    have c2 := l14Is_ok s t k hs
    have c3 := l14Is_ok s t (prodM m k t.length) hs
    rw [h] at hk
    (repeat refine ats_seq ?_); refine ats_go (by first | exact fix0 hcx | exact fix1 hcx rfl) fun K hK => ?_; simp only [go_sem, seval]
    first | refine fcall_free rfl rfl (hk) ?_ | refine YR_intro (acall_free rfl rfl (hk)) ?_
    simp only [go_sem, seval]
    refine hK _ ?_; clear hK K
    (repeat refine ats_seq ?_); refine ats_no rfl trivial ?_
    cases hM : bd (InvP s t m) with
    | false =>
      rw [hM] at c1
      (repeat refine ats_seq ?_); refine ats_go (by first | exact fix0 hcx | exact fix1 hcx rfl) fun K hK => ?_; simp only [go_sem, seval]
      first | refine fcall_free rfl rfl (c1) ?_ | refine YR_intro (acall_free rfl rfl (c1)) ?_
      simp only [go_sem, seval]
      refine YR_intro (v := .bool false) (by first | trivial | (intro h; cases h)) ?_
      simp only [go_sem, seval]
      refine hK _ ?_; clear hK K
      (repeat refine ats_seq ?_); refine ats_yes rfl trivial ?_
      (repeat refine ats_seq ?_); refine ats_go (by first | exact fix0 hcx | exact fix1 hcx rfl) fun K hK => ?_; simp only [go_sem, seval]; refine hK _ ?_; clear hK K
      exact ats_ret (fin2 trivial trivial rfl)
    | true =>
      rw [hM] at c1
      cases hK : bd (InvP s t k) with
      | false =>
        rw [hK] at c2
        (repeat refine ats_seq ?_); refine ats_go (by first | exact fix0 hcx | exact fix1 hcx rfl) fun K hK => ?_; simp only [go_sem, seval]
        first | refine fcall_free rfl rfl (c1) ?_ | refine YR_intro (acall_free rfl rfl (c1)) ?_
        simp only [go_sem, seval]
        first | refine YR_intro (fun _ => acall_free rfl rfl (c2)) ?_ | refine YR_intro (acall_free rfl rfl (c2)) ?_
        simp only [go_sem, seval]
        refine hK _ ?_; clear hK K
        (repeat refine ats_seq ?_); refine ats_yes rfl trivial ?_
        (repeat refine ats_seq ?_); refine ats_go (by first | exact fix0 hcx | exact fix1 hcx rfl) fun K hK => ?_; simp only [go_sem, seval]; refine hK _ ?_; clear hK K
        exact ats_ret (fin2 trivial trivial rfl)
      | true =>
        rw [hK] at c2
        have mM := (bd_iff.1 hM).1
        have mK := (bd_iff.1 hK).1
        have lm := mM.1
        have lk := mK.1
        (repeat refine ats_seq ?_); refine ats_go (by first | exact fix0 hcx | exact fix1 hcx rfl) fun K hK => ?_; simp only [go_sem, seval]
        first | refine fcall_free rfl rfl (c1) ?_ | refine YR_intro (acall_free rfl rfl (c1)) ?_
        simp only [go_sem, seval]
        first | refine YR_intro (fun _ => acall_free rfl rfl (c2)) ?_ | refine YR_intro (acall_free rfl rfl (c2)) ?_
        simp only [go_sem, seval]
        refine hK _ ?_; clear hK K
        (repeat refine ats_seq ?_); refine ats_no rfl trivial ?_
        refine ats_skip ?_
        (repeat refine ats_seq ?_); refine ats_go (by first | exact fix0 hcx | exact fix1 hcx rfl) fun K hK => ?_; simp only [go_sem, seval]; refine hK _ ?_; clear hK K
        (repeat refine ats_seq ?_); refine ats_go (by first | exact fix0 hcx | exact fix1 hcx rfl) fun K hK => ?_; simp only [go_sem, seval]; refine hK _ ?_; clear hK K
        (repeat refine ats_seq ?_); refine ats_loop (fun i : Nat => ⟨[(1, .l2 m), (2, .l2 k), (3, .bptr 0 0), (8, .ref 1 []), (9, .int i)], [(0, .bx [.l2 s, .l1 t]), (1, .t2 (matF i t.length (fun p q => sumTo (mg m k p q) t.length)))]⟩) (fun i => i ≤ t.length) (fun i => t.length - i) 0 (Nat.zero_le _) (by refine And.intro ?_ rfl; simp only [SlotsLe, St.get, slotGet, Nat.reduceEqDiff, ↓reduceIte, true_and, and_true, AV.int.injEq, AV.bool.injEq, AV.l1.injEq, AV.l2.injEq, AV.l3.injEq]; repeat' (first | rfl | omega | refine And.intro ?_ ?_)) (fun i hi => ?_)
        have hl := matF_length i t.length (fun p q => sumTo (mg m k p q) t.length)
        (repeat refine ats_seq ?_); refine ats_go (by first | exact fix0 hcx | exact fix1 hcx rfl) fun K hK => ?_; simp only [go_sem, seval]
        simp only [lm]
        refine hK _ ?_; clear hK K
        (repeat refine ats_seq ?_); first | refine ats_ifn (p := _) rfl trivial (fun hc4 => ?_) (fun hc4 => ?_) | refine ats_ifp (p := _) rfl trivial (fun hc4 => ?_) (fun hc4 => ?_) | refine ats_cond rfl trivial (fun hc4 => ?_) (fun hc4 => ?_)
        · have rmi := matOk_row mM (show i < t.length by omega)
          refine ats_skip ?_
          (repeat refine ats_seq ?_); refine ats_block ?_
          (repeat refine ats_seq ?_); refine ats_go (by first | exact fix0 hcx | exact fix1 hcx rfl) fun K hK => ?_; simp only [go_sem, seval]; refine hK _ ?_; clear hK K
          (repeat refine ats_seq ?_); refine ats_go (by first | exact fix0 hcx | exact fix1 hcx rfl) fun K hK => ?_; simp only [go_sem, seval]; refine hK _ ?_; clear hK K
          (repeat refine ats_seq ?_); refine ats_loop (fun j : Nat => ⟨[(1, .l2 m), (2, .l2 k), (3, .bptr 0 0), (8, .ref 1 []), (9, .int i), (10, .ref 2 []), (11, .int j)], [(0, .bx [.l2 s, .l1 t]), (1, .t2 (matF i t.length (fun p q => sumTo (mg m k p q) t.length))), (2, .t1 (rowF j (fun q => sumTo (mg m k i q) t.length)))]⟩) (fun j => j ≤ t.length) (fun j => t.length - j) 0 (Nat.zero_le _) (by refine And.intro ?_ rfl; simp only [SlotsLe, St.get, slotGet, Nat.reduceEqDiff, ↓reduceIte, true_and, and_true, AV.int.injEq, AV.bool.injEq, AV.l1.injEq, AV.l2.injEq, AV.l3.injEq]; repeat' (first | rfl | omega | refine And.intro ?_ ?_)) (fun j hj => ?_)
          have hl2 := rowF_length j (fun q => sumTo (mg m k i q) t.length)
          (repeat refine ats_seq ?_); refine ats_go (by first | exact fix0 hcx | exact fix1 hcx rfl) fun K hK => ?_; simp only [go_sem, seval]
          simp only [lm]
          refine hK _ ?_; clear hK K
          (repeat refine ats_seq ?_); first | refine ats_ifn (p := _) rfl trivial (fun hc6 => ?_) (fun hc6 => ?_) | refine ats_ifp (p := _) rfl trivial (fun hc6 => ?_) (fun hc6 => ?_) | refine ats_cond rfl trivial (fun hc6 => ?_) (fun hc6 => ?_)
          · refine ats_skip ?_
            (repeat refine ats_seq ?_); refine ats_block ?_
            (repeat refine ats_seq ?_); refine ats_go (by first | exact fix0 hcx | exact fix1 hcx rfl) fun K hK => ?_; simp only [go_sem, seval]; refine hK _ ?_; clear hK K
            (repeat refine ats_seq ?_); refine ats_go (by first | exact fix0 hcx | exact fix1 hcx rfl) fun K hK => ?_; simp only [go_sem, seval]; refine hK _ ?_; clear hK K
            (repeat refine ats_seq ?_); refine ats_loop (fun l : Nat => ⟨[(1, .l2 m), (2, .l2 k), (3, .bptr 0 0), (8, .ref 1 []), (9, .int i), (10, .ref 2 []), (11, .int j), (12, .int (sumTo (mg m k i j) l)), (13, .int l)], [(0, .bx [.l2 s, .l1 t]), (1, .t2 (matF i t.length (fun p q => sumTo (mg m k p q) t.length))), (2, .t1 (rowF j (fun q => sumTo (mg m k i q) t.length)))]⟩) (fun l => l ≤ t.length) (fun l => t.length - l) 0 (Nat.zero_le _) (by refine And.intro ?_ rfl; simp only [SlotsLe, St.get, slotGet, Nat.reduceEqDiff, ↓reduceIte, true_and, and_true, AV.int.injEq, AV.bool.injEq, AV.l1.injEq, AV.l2.injEq, AV.l3.injEq]; repeat' (first | rfl | omega | refine And.intro ?_ ?_)) (fun l hl => ?_)
            have sl := sumTo_le (f := mg m k i j) (B := 1000000) (n := l) (fun x hx => mg_le mM mK (by omega) (by omega) x (by omega))
            (repeat refine ats_seq ?_); refine ats_go (by first | exact fix0 hcx | exact fix1 hcx rfl) fun K hK => ?_; simp only [go_sem, seval]
            simp only [lm]
            refine hK _ ?_; clear hK K
            (repeat refine ats_seq ?_); first | refine ats_ifn (p := _) rfl trivial (fun hc8 => ?_) (fun hc8 => ?_) | refine ats_ifp (p := _) rfl trivial (fun hc8 => ?_) (fun hc8 => ?_) | refine ats_cond rfl trivial (fun hc8 => ?_) (fun hc8 => ?_)
            · have rkl := matOk_row mK (show l < t.length by omega)
              have gl := mg_le mM mK (show i < t.length by omega) (show j < t.length by omega) l (by omega)
              unfold mg e2 at gl
              refine ats_skip ?_
              (repeat refine ats_seq ?_); refine ats_block ?_
              (repeat refine ats_seq ?_); refine ats_pick (fix0 hcx) mixed (by kernel_rfl) fun K hK => ?_; simp only [go_sem, seval]
              simp only [lm, lk, rmi, rkl]
              (repeat refine And.intro (by first | omega | (intro hq; first | omega | (simp at hq <;> omega) | (simp_all <;> omega))) ?_)
              refine hK _ ?_; clear hK K
              (repeat refine ats_seq ?_); refine ats_go (by first | exact fix0 hcx | exact fix1 hcx rfl) fun K hK => ?_; simp only [go_sem, seval]; (repeat refine And.intro (by first | omega | (intro hq; first | omega | (simp at hq <;> omega) | (simp_all <;> omega))) ?_); refine hK _ ?_; clear hK K
              refine ⟨l + 1,  by omega, by omega, .inl ⟨by simp only [SlotsLe, St.get, slotGet, Nat.reduceEqDiff, ↓reduceIte, AV.int.injEq, AV.bool.injEq, AV.l1.injEq, AV.l2.injEq, AV.l3.injEq, true_and, and_true]; exact ⟨rfl, by omega⟩,  rfl⟩⟩
            · obtain rfl : l = t.length := by omega
              refine ats_exit (lq_x ?_)
              (repeat refine ats_seq ?_); refine ats_go (by first | exact fix0 hcx | exact fix1 hcx rfl) fun K hK => ?_; simp only [go_sem, seval]
              simp only [hl2]
              (repeat refine And.intro (by first | omega | (intro hq; first | omega | (simp at hq <;> omega) | (simp_all <;> omega))) ?_)
              refine hK _ ?_; clear hK K
              (repeat refine ats_seq ?_); refine ats_go (by first | exact fix0 hcx | exact fix1 hcx rfl) fun K hK => ?_; simp only [go_sem, seval]; (repeat refine And.intro (by first | omega | (intro hq; first | omega | (simp at hq <;> omega) | (simp_all <;> omega))) ?_); refine hK _ ?_; clear hK K
              refine ⟨j + 1, by omega, by omega, .inr ⟨[3], by simp only [killL, List.map_cons, List.map_nil, killA, killAs, qOf, rmT, killH, killT, List.filter_cons, List.filter_nil, List.contains_cons, List.contains_nil, SlotsLe, St.get, slotGet, Nat.reduceEqDiff, Nat.reduceBEq, Bool.or_false, Bool.or_true, Bool.false_and, Bool.not_true, Bool.not_false, Bool.false_eq_true, ↓reduceIte, if_true, if_false, AV.int.injEq, AV.bool.injEq, AV.l1.injEq, AV.l2.injEq, AV.l3.injEq, true_and, and_true]; omega, by simp only [killL, List.map_cons, List.map_nil, killA, killAs, qOf, rmT, killH, killT, List.filter_cons, List.filter_nil, List.contains_cons, List.contains_nil, SlotsLe, St.get, slotGet, Nat.reduceEqDiff, Nat.reduceBEq, Bool.or_false, Bool.or_true, Bool.false_and, Bool.not_true, Bool.not_false, Bool.false_eq_true, ↓reduceIte, if_true, if_false, AV.int.injEq, AV.bool.injEq, AV.l1.injEq, AV.l2.injEq, AV.l3.injEq, true_and, and_true]; rw [rowF_succ]⟩⟩
          · obtain rfl : j = t.length := by omega
            refine ats_exit (lq_x ?_)
            (repeat refine ats_seq ?_); refine ats_go (by first | exact fix0 hcx | exact fix1 hcx rfl) fun K hK => ?_; simp only [go_sem, seval]
            simp only [hl]
            (repeat refine And.intro (by first | omega | (intro hq; first | omega | (simp at hq <;> omega) | (simp_all <;> omega))) ?_)
            refine hK _ ?_; clear hK K
            (repeat refine ats_seq ?_); refine ats_go (by first | exact fix0 hcx | exact fix1 hcx rfl) fun K hK => ?_; simp only [go_sem, seval]; (repeat refine And.intro (by first | omega | (intro hq; first | omega | (simp at hq <;> omega) | (simp_all <;> omega))) ?_); refine hK _ ?_; clear hK K
            refine ⟨i + 1,  by omega, by omega, .inl ⟨by simp only [SlotsLe, St.get, slotGet, Nat.reduceEqDiff, ↓reduceIte, AV.int.injEq, AV.bool.injEq, AV.l1.injEq, AV.l2.injEq, AV.l3.injEq, true_and, and_true]; omega,  by rw [matF_succ]⟩⟩
        · obtain rfl : i = t.length := by omega
          refine ats_exit (lq_x ?_)
          cases hP : bd (InvP s t (prodM m k t.length)) with
          | false =>
            rw [hP] at c3
            (repeat refine ats_seq ?_); refine ats_go (by first | exact fix0 hcx | exact fix1 hcx rfl) fun K hK => ?_; simp only [go_sem, seval]
            first | refine fcall_free rfl rfl (c3) ?_ | refine YR_intro (acall_free rfl rfl (c3)) ?_
            simp only [go_sem, seval]
            refine hK _ ?_; clear hK K
            (repeat refine ats_seq ?_); refine ats_yes rfl trivial ?_
            (repeat refine ats_seq ?_); refine ats_go (by first | exact fix0 hcx | exact fix1 hcx rfl) fun K hK => ?_; simp only [go_sem, seval]; refine hK _ ?_; clear hK K
            exact ats_ret (fin2 trivial trivial rfl)
          | true =>
            rw [hP] at c3
            (repeat refine ats_seq ?_); refine ats_go (by first | exact fix0 hcx | exact fix1 hcx rfl) fun K hK => ?_; simp only [go_sem, seval]
            first | refine fcall_free rfl rfl (c3) ?_ | refine YR_intro (acall_free rfl rfl (c3)) ?_
            simp only [go_sem, seval]
            refine hK _ ?_; clear hK K
            (repeat refine ats_seq ?_); refine ats_no rfl trivial ?_
            refine ats_skip ?_
            (repeat refine ats_seq ?_); refine ats_go (by first | exact fix0 hcx | exact fix1 hcx rfl) fun K hK => ?_; simp only [go_sem, seval]; refine hK _ ?_; clear hK K
            exact ats_ret (fin2 trivial trivial rfl)

theorem implCo_ok (s : List (List Int)) (t : List Int) (m k : List (List Int)) : FreshCall Try.prog 22 [.agg [.l2 s, .l1 t], .l2 m, .l2 k] (coA s t m k) := by
  have hk := IsData_ok s t
  unfold coA
  refine FreshCall.intro (n := 30) (rs := [.tmp 6, .tmp 7]) Try.call22 Try.func22 rfl rfl rfl (by simp only [List.length_cons, List.length_nil]; omega) (fun cx hcx => ats_of ?_); simp only [argSlots, Nat.zero_add, Nat.reduceAdd]
  (repeat refine ats_seq ?_); refine ats_go (by first | exact fix0 hcx | exact fix1 hcx rfl) fun K hK => ?_; simp only [go_sem, seval]; refine hK _ ?_; clear hK K
  cases h : isData s t with
  | false =>
    rw [h] at hk
    (repeat refine ats_seq ?_); refine ats_go (by first | exact fix0 hcx | exact fix1 hcx rfl) fun K hK => ?_; simp only [go_sem, seval]
    first | refine fcall_free rfl rfl (hk) ?_ | refine YR_intro (acall_free rfl rfl (hk)) ?_
    simp only [go_sem, seval]
    refine hK _ ?_; clear hK K
    (repeat refine ats_seq ?_); refine ats_yes rfl trivial ?_
    (repeat refine ats_seq ?_); refine ats_go (by first | exact fix0 hcx | exact fix1 hcx rfl) fun K hK => ?_; simp only [go_sem, seval]; refine hK _ ?_; clear hK K
    exact ats_ret (own2 (is := []) trivial trivial rfl (by simp))
  | true =>
    have hs := (isData_some h).1
    have h16 := hs.2.1
    have h1 := hs.1
    have c1 := isInvariant_ok s t m hs
    have c2 := isInvariant_ok s t k hs
    have c3 := isInvariant_ok s t (prodM m k t.length) hs
    rw [h] at hk
    (repeat refine ats_seq ?_); refine ats_go (by first | exact fix0 hcx | exact fix1 hcx rfl) fun K hK => ?_; simp only [go_sem, seval]
    first | refine fcall_free rfl rfl (hk) ?_ | refine YR_intro (acall_free rfl rfl (hk)) ?_
    simp only [go_sem, seval]
    refine hK _ ?_; clear hK K
    (repeat refine ats_seq ?_); refine ats_no rfl trivial ?_
    refine ats_skip ?_
    cases hM : bd (InvP s t m) with
    | false =>
      rw [hM] at c1
      (repeat refine ats_seq ?_); refine ats_go (by first | exact fix0 hcx | exact fix1 hcx rfl) fun K hK => ?_; simp only [go_sem, seval]
      first | refine fcall_free rfl rfl (c1) ?_ | refine YR_intro (acall_free rfl rfl (c1)) ?_
      simp only [go_sem, seval]
      refine YR_intro (v := .bool false) (by first | trivial | (intro h; cases h)) ?_
      simp only [go_sem, seval]
      refine hK _ ?_; clear hK K
      (repeat refine ats_seq ?_); refine ats_yes rfl trivial ?_
      (repeat refine ats_seq ?_); refine ats_go (by first | exact fix0 hcx | exact fix1 hcx rfl) fun K hK => ?_; simp only [go_sem, seval]; refine hK _ ?_; clear hK K
      exact ats_ret (own2 (is := []) trivial trivial rfl (by simp))
    | true =>
      rw [hM] at c1
      cases hK : bd (InvP s t k) with
      | false =>
        rw [hK] at c2
        (repeat refine ats_seq ?_); refine ats_go (by first | exact fix0 hcx | exact fix1 hcx rfl) fun K hK => ?_; simp only [go_sem, seval]
        first | refine fcall_free rfl rfl (c1) ?_ | refine YR_intro (acall_free rfl rfl (c1)) ?_
        simp only [go_sem, seval]
        first | refine YR_intro (fun _ => acall_free rfl rfl (c2)) ?_ | refine YR_intro (acall_free rfl rfl (c2)) ?_
        simp only [go_sem, seval]
        refine hK _ ?_; clear hK K
        (repeat refine ats_seq ?_); refine ats_yes rfl trivial ?_
        (repeat refine ats_seq ?_); refine ats_go (by first | exact fix0 hcx | exact fix1 hcx rfl) fun K hK => ?_; simp only [go_sem, seval]; refine hK _ ?_; clear hK K
        exact ats_ret (own2 (is := []) trivial trivial rfl (by simp))
      | true =>
        rw [hK] at c2
        have mM := (bd_iff.1 hM).1
        have mK := (bd_iff.1 hK).1
        (repeat refine ats_seq ?_); refine ats_go (by first | exact fix0 hcx | exact fix1 hcx rfl) fun K hK => ?_; simp only [go_sem, seval]
        first | refine fcall_free rfl rfl (c1) ?_ | refine YR_intro (acall_free rfl rfl (c1)) ?_
        simp only [go_sem, seval]
        first | refine YR_intro (fun _ => acall_free rfl rfl (c2)) ?_ | refine YR_intro (acall_free rfl rfl (c2)) ?_
        simp only [go_sem, seval]
        refine hK _ ?_; clear hK K
        (repeat refine ats_seq ?_); refine ats_no rfl trivial ?_
        refine ats_skip ?_
        (repeat refine ats_seq ?_); refine ats_go (by first | exact fix0 hcx | exact fix1 hcx rfl) fun K hK => ?_; simp only [go_sem, seval]
        refine fcall_own rfl (whole_ok m k t.length h1 h16 mM mK) rfl ?_; simp only [go_sem, seval]
        refine hK _ ?_; clear hK K
        cases hP : bd (InvP s t (prodM m k t.length)) with
        | false =>
          rw [hP] at c3
          (repeat refine ats_seq ?_); refine ats_go (by first | exact fix0 hcx | exact fix1 hcx rfl) fun K hK => ?_; simp only [go_sem, seval]
          first | refine fcall_free rfl rfl (c3) ?_ | refine YR_intro (acall_free rfl rfl (c3)) ?_
          simp only [go_sem, seval]
          refine hK _ ?_; clear hK K
          (repeat refine ats_seq ?_); refine ats_yes rfl trivial ?_
          (repeat refine ats_seq ?_); refine ats_go (by first | exact fix0 hcx | exact fix1 hcx rfl) fun K hK => ?_; simp only [go_sem, seval]; refine hK _ ?_; clear hK K
          exact ats_ret (own2 (is := []) trivial trivial rfl (by simp))
        | true =>
          rw [hP] at c3
          (repeat refine ats_seq ?_); refine ats_go (by first | exact fix0 hcx | exact fix1 hcx rfl) fun K hK => ?_; simp only [go_sem, seval]
          first | refine fcall_free rfl rfl (c3) ?_ | refine YR_intro (acall_free rfl rfl (c3)) ?_
          simp only [go_sem, seval]
          refine hK _ ?_; clear hK K
          (repeat refine ats_seq ?_); refine ats_no rfl trivial ?_
          refine ats_skip ?_
          (repeat refine ats_seq ?_); refine ats_go (by first | exact fix0 hcx | exact fix1 hcx rfl) fun K hK => ?_; simp only [go_sem, seval]; refine hK _ ?_; clear hK K
          exact ats_ret (own2 (is := [1]) trivial trivial rfl (by simp))
end Go.Proofs.Ytphokmkmpelnfaa
