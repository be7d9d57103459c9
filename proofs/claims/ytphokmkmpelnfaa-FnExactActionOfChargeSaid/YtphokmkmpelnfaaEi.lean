import Derived.Test.YtphokmkmpelnfaaEf
import Derived.Test.YtphokmkmpelnfaaPlN
set_option linter.unusedSimpArgs false
set_option linter.unusedVariables false
namespace Go.Proofs.Ytphokmkmpelnfaa
open Go Go.Aw Go.Pl

theorem numD_e3 {s : List (List Int)} {n : Nat} {c : List Int} {i j k : Nat} (hi : i < n) (hj : j < n) (hk : k < n) : e3 (numD s n c) i j k = numV s n c i j k := by
  unfold e3
  rw [numD_row hi hj, rowF_get hk]
theorem row_sum {s : List (List Int)} {t : List Int} (h : isData s t = true) {i : Nat} (hi : i < t.length) (hic : isIc s t i = true) {j : Nat} (hj : j < t.length) : sumTo (numV s t.length (cL s t.length) i j) t.length = 1 := by
  obtain ⟨hs, hst, hw, c, hc, hT, hR⟩ := isData_some h
  obtain ⟨rfl, -⟩ := cj_get hc
  have hP := isRing_P hR
  have hl : (numD s t.length (cL s t.length)).length = t.length := numD_length
  obtain ⟨hcN, hc0, hc1⟩ := data_c h
  have hs1 : icSum s t i = 1 := of_decide_eq_true hic
  have h0 := num_conj h hi
  have hz : ∀ k, k < t.length → k ≠ 0 → numV s t.length (cL s t.length) i (cN s t.length i) k = 0 := fun k hk hk0 => by
    have h2 := term_le (f := fun k => if k = 0 then 0 else numV s t.length (cL s t.length) i (cN s t.length i) k) (n := t.length) (i := k) (fun x _ => by
      split
      · exact Int.le_refl _
      · exact (numV_InP ..).1) hk
    have h3 : sumTo (fun k => if k = 0 then 0 else numV s t.length (cL s t.length) i (cN s t.length i) k) t.length + 1 = icSum s t i := by
      have e : icSum s t i = sumTo (fun k => (if k = 0 then 0 else numV s t.length (cL s t.length) i (cN s t.length i) k) + (if k = 0 then 1 else 0) * 1) t.length := sum_congr fun k _ => by
        by_cases e : k = 0
        · subst e; rw [if_pos rfl, if_pos rfl, h0]; rfl
        · rw [if_neg e, if_neg e]; simp
      rw [e, sum_add, sum_pick (f := fun _ => 1) (show 0 < t.length by omega)]; rfl
    rw [if_neg hk0] at h2
    have h4 := (numV_InP s t.length (cL s t.length) i (cN s t.length i) k).1
    omega
  have hp := hP.perm (i := i) (j0 := cN s t.length i) (by rw [hl]; exact hi) (by rw [hl]; exact (hcN i hi).1) (fun m hm => by
    rw [hl] at hm
    rw [numD_e3 hi (hcN i hi).1 hm]
    by_cases e : m = 0
    · subst e; rw [if_pos rfl]; exact h0
    · rw [if_neg e]; exact hz m hm e) j (by rw [hl]; exact hj)
  rw [hl] at hp
  rw [← hp]
  exact sum_congr fun k hk => (numD_e3 hi hj hk).symm
def acF (s : List (List Int)) (t : List Int) (i j : Nat) : Int := fidx (fun y => decide (y = 1)) (rowF t.length (numV s t.length (cL s t.length) i j))
theorem alone_ac {s : List (List Int)} {t : List Int} (h : isData s t = true) {i : Nat} (hi : i < t.length) (hic : isIc s t i = true) {j : Nat} (hj : j < t.length) : aloneV (rowF t.length (numV s t.length (cL s t.length) i j)) = acF s t i j := by
  have es : sumTo (fun k => (rowF t.length (numV s t.length (cL s t.length) i j)).getD k 0) (rowF t.length (numV s t.length (cL s t.length) i j)).length = 1 := by
    rw [rowF_length, ← row_sum h hi hic hj]
    exact sum_congr fun k hk => rowF_get hk
  unfold aloneV acF
  rw [es, if_pos rfl]
theorem icA_nd {s : List (List Int)} {t : List Int} {a : Int} (h : isData s t = false) : icA s t a = (false, 1) := by unfold icA; rw [h]; rfl
theorem icA_nc {s : List (List Int)} {t : List Int} {a : Int} (h : isData s t = true) (ha : inC t a = false) : icA s t a = (false, 2) := by unfold icA; rw [h, ha]; rfl
theorem icA_yc {s : List (List Int)} {t : List Int} {a : Int} (h : isData s t = true) (ha : inC t a = true) : icA s t a = (isIc s t a.toNat, 0) := by
  have hai := inC_true ha
  have e : a = ((a.toNat : Nat) : Int) := by omega
  rw [← icA_ic h (i := a.toNat) (by omega), ← e]
noncomputable def acA (s : List (List Int)) (t : List Int) (a : Int) : AV := if isData s t then (if inC t a then (if isIc s t a.toNat then .tup [.l1 (rowF t.length (acF s t a.toNat)), .int 0] else .tup [.nil, .int 5]) else .tup [.nil, .int 2]) else .tup [.nil, .int 1]
theorem acA_shape (s : List (List Int)) (t : List Int) (a : Int) : ∃ (u : Option (List Int)) (c : Int), acA s t a = .tup [optA u, .int c] ∧ ∀ v, u = some v → v.length ≤ 1048576 := by
  unfold acA
  cases h : isData s t with
  | false => exact ⟨none, 1, rfl, fun _ h => by cases h⟩
  | true =>
    have h16 := (isData_some h).1.2.1
    simp only [if_true]
    split
    · split
      · exact ⟨some (rowF t.length (acF s t a.toNat)), 0, rfl, fun v hv => by cases hv; rw [rowF_length]; omega⟩
      · exact ⟨none, 5, rfl, fun _ h => by cases h⟩
    · exact ⟨none, 2, rfl, fun _ h => by cases h⟩

theorem specAc_ok (s : List (List Int)) (t : List Int) (a : Int) : PureCall Try.prog 26 [.agg [.l2 s, .l1 t], .int a] (acA s t a) := by
  have hk := l12Charge_ok s t a
  unfold chg at hk
  unfold acA
  refine PureCall.intro (n := 53) (rs := [.tmp 4, .tmp 5]) Try.call26 Try.func26 rfl rfl rfl (by simp only [List.length_cons, List.length_nil]; omega) (fun cx hcx => ats_of ?_); simp only [argSlots, Nat.zero_add, Nat.reduceAdd]
  (repeat refine ats_seq ?_); refine ats_go (by first | exact fix0 hcx | exact fix1 hcx rfl) fun K hK => ?_; simp only [go_sem, seval]; refine hK _ ?_; clear hK K
  cases h : isData s t with
  | false =>
    rw [h] at hk
    simp only [Bool.false_eq_true, if_false] at hk
    (repeat refine ats_seq ?_); refine ats_go (by first | exact fix0 hcx | exact fix1 hcx rfl) fun K hK => ?_; simp only [go_sem, seval]
    first | refine fcall_free rfl rfl (hk) ?_ | refine YR_intro (acall_free rfl rfl (hk)) ?_
    simp only [go_sem, seval]
    refine hK _ ?_; clear hK K
    (repeat refine ats_seq ?_); refine ats_go (by first | exact fix0 hcx | exact fix1 hcx rfl) fun K hK => ?_; simp only [go_sem, seval]; refine hK _ ?_; clear hK K
    (repeat refine ats_seq ?_); refine ats_yes rfl trivial ?_
    (repeat refine ats_seq ?_); refine ats_go (by first | exact fix0 hcx | exact fix1 hcx rfl) fun K hK => ?_; simp only [go_sem, seval]; refine hK _ ?_; clear hK K
    exact ats_ret (fin2 trivial trivial rfl)
  | true =>
    rw [h] at hk
    simp only [if_true] at hk
    cases ha : inC t a with
    | false =>
      rw [ha] at hk
      simp only [Bool.false_eq_true, if_false] at hk
      (repeat refine ats_seq ?_); refine ats_go (by first | exact fix0 hcx | exact fix1 hcx rfl) fun K hK => ?_; simp only [go_sem, seval]
      first | refine fcall_free rfl rfl (hk) ?_ | refine YR_intro (acall_free rfl rfl (hk)) ?_
      simp only [go_sem, seval]
      refine hK _ ?_; clear hK K
      (repeat refine ats_seq ?_); refine ats_go (by first | exact fix0 hcx | exact fix1 hcx rfl) fun K hK => ?_; simp only [go_sem, seval]; refine hK _ ?_; clear hK K
      (repeat refine ats_seq ?_); refine ats_yes rfl trivial ?_
      (repeat refine ats_seq ?_); refine ats_go (by first | exact fix0 hcx | exact fix1 hcx rfl) fun K hK => ?_; simp only [go_sem, seval]; refine hK _ ?_; clear hK K
      exact ats_ret (fin2 trivial trivial rfl)
    | true =>
      rw [ha] at hk
      simp only [if_true] at hk
      obtain ⟨hs, hst, hw, c, hc, hT, hR⟩ := isData_some h
      have hr := l13Ring_ok s t c hs hw hc
      have hJ := l12Conjugation_ok s t hs hw
      rw [hc] at hJ
      simp only [optA] at hJ
      obtain ⟨lc, hC⟩ := cj_in hc
      obtain ⟨rfl, -⟩ := cj_get hc
      have h16 := hs.2.1
      have h1 := hs.1
      have hai := inC_true ha
      have hin : a.toNat < t.length := by omega
      have hm1 := numD_mat (s := s) (c := cL s t.length) hin
      have hCi := hC a.toNat (by omega)
      have hrow := numD_row (s := s) (c := cL s t.length) hin (show ((cL s t.length).getD a.toNat 0).toNat < t.length by omega)
      have ec := cL_cN (s := s) (t := t) hin
      rw [ec] at hrow
      have hA := l14Alone_ok (rowF t.length (numV s t.length (cL s t.length) a.toNat (cN s t.length a.toNat))) (by rw [rowF_length]; exact h16) (fun j hj => by rw [rowF_length] at hj; rw [rowF_get hj]; exact numV_InP ..)
      have hal := alone_ic h hin
      (repeat refine ats_seq ?_); refine ats_go (by first | exact fix0 hcx | exact fix1 hcx rfl) fun K hK => ?_; simp only [go_sem, seval]
      first | refine fcall_free rfl rfl (hk) ?_ | refine YR_intro (acall_free rfl rfl (hk)) ?_
      simp only [go_sem, seval]
      refine hK _ ?_; clear hK K
      (repeat refine ats_seq ?_); refine ats_go (by first | exact fix0 hcx | exact fix1 hcx rfl) fun K hK => ?_; simp only [go_sem, seval]; refine hK _ ?_; clear hK K
      (repeat refine ats_seq ?_); refine ats_no rfl trivial ?_
      refine ats_skip ?_
      (repeat refine ats_seq ?_); refine ats_go (by first | exact fix0 hcx | exact fix1 hcx rfl) fun K hK => ?_; simp only [go_sem, seval]
      first | refine fcall_data (hr) rfl ?_ | refine YR_intro (acall_data (hr) rfl) ?_
      simp only [go_sem, seval]
      refine hK _ ?_; clear hK K
      (repeat refine ats_seq ?_); refine ats_pick (fix0 hcx) mixed (by kernel_rfl) fun K hK => ?_; simp only [go_sem, seval]
      simp only [numD_length]
      (repeat refine And.intro (by first | omega | (intro hq; first | omega | (simp at hq <;> omega) | (simp_all <;> omega))) ?_)
      first | refine fcall_data (hJ) rfl ?_ | refine YR_intro (acall_data (hJ) rfl) ?_
      simp only [go_sem, seval]
      simp only [hm1, lc, ec, hrow]
      (repeat refine And.intro (by first | omega | (intro hq; first | omega | (simp at hq <;> omega) | (simp_all <;> omega))) ?_)
      first | refine fcall_data (hA) rfl ?_ | refine YR_intro (acall_data (hA) rfl) ?_
      simp only [go_sem, seval]
      refine hK _ ?_; clear hK K
      (repeat refine ats_seq ?_); first | refine ats_ifn (p := _) rfl trivial (fun hc2 => ?_) (fun hc2 => ?_) | refine ats_ifp (p := _) rfl trivial (fun hc2 => ?_) (fun hc2 => ?_) | refine ats_cond rfl trivial (fun hc2 => ?_) (fun hc2 => ?_)
      · have e : isIc s t a.toNat = false := by rw [← hal]; exact decide_eq_false hc2
        (repeat refine ats_seq ?_); refine ats_go (by first | exact fix0 hcx | exact fix1 hcx rfl) fun K hK => ?_; simp only [go_sem, seval]; refine hK _ ?_; clear hK K
        rw [e]
        exact ats_ret (fin2 trivial trivial rfl)
      · have e : isIc s t a.toNat = true := by rw [← hal]; exact decide_eq_true hc2
        refine ats_skip ?_
        (repeat refine ats_seq ?_); refine ats_go (by first | exact fix0 hcx | exact fix1 hcx rfl) fun K hK => ?_; simp only [go_sem, seval]; refine hK _ ?_; clear hK K
        (repeat refine ats_seq ?_); refine ats_loop (fun j : Nat => ⟨[(1, .int a), (2, .bptr 0 0), (7, .bptr 2 0), (8, .ref 1 []), (9, .int j)], [(0, .bx [.l2 s, .l1 t]), (1, .t1 (rowF j (acF s t a.toNat))), (2, .bx [.l3 (numD s t.length (cL s t.length))])]⟩) (fun j => j ≤ t.length) (fun j => t.length - j) 0 (Nat.zero_le _) (by refine And.intro ?_ rfl; simp only [SlotsLe, St.get, slotGet, Nat.reduceEqDiff, ↓reduceIte, true_and, and_true, AV.int.injEq, AV.bool.injEq, AV.l1.injEq, AV.l2.injEq, AV.l3.injEq]; repeat' (first | rfl | omega | refine And.intro ?_ ?_)) (fun j hj => ?_)
        have hl := rowF_length j (acF s t a.toNat)
        (repeat refine ats_seq ?_); refine ats_go (by first | exact fix0 hcx | exact fix1 hcx rfl) fun K hK => ?_; simp only [go_sem, seval]; refine hK _ ?_; clear hK K
        (repeat refine ats_seq ?_); first | refine ats_ifn (p := _) rfl trivial (fun hc4 => ?_) (fun hc4 => ?_) | refine ats_ifp (p := _) rfl trivial (fun hc4 => ?_) (fun hc4 => ?_) | refine ats_cond rfl trivial (fun hc4 => ?_) (fun hc4 => ?_)
        · have hrow2 := numD_row (s := s) (c := cL s t.length) hin (show j < t.length by omega)
          have hA2 := l14Alone_ok (rowF t.length (numV s t.length (cL s t.length) a.toNat j)) (by rw [rowF_length]; exact h16) (fun k hk => by rw [rowF_length] at hk; rw [rowF_get hk]; exact numV_InP ..)
          rw [alone_ac h hin e (show j < t.length by omega)] at hA2
          refine ats_skip ?_
          (repeat refine ats_seq ?_); refine ats_block ?_
          (repeat refine ats_seq ?_); refine ats_go (by first | exact fix0 hcx | exact fix1 hcx rfl) fun K hK => ?_; simp only [go_sem, seval]
          simp only [numD_length, hm1, hrow2]
          (repeat refine And.intro (by first | omega | (intro hq; first | omega | (simp at hq <;> omega) | (simp_all <;> omega))) ?_)
          first | refine fcall_data (hA2) rfl ?_ | refine YR_intro (acall_data (hA2) rfl) ?_
          simp only [go_sem, seval]
          simp only [hl]
          (repeat refine And.intro (by first | omega | (intro hq; first | omega | (simp at hq <;> omega) | (simp_all <;> omega))) ?_)
          refine hK _ ?_; clear hK K
          (repeat refine ats_seq ?_); refine ats_go (by first | exact fix0 hcx | exact fix1 hcx rfl) fun K hK => ?_; simp only [go_sem, seval]; (repeat refine And.intro (by first | omega | (intro hq; first | omega | (simp at hq <;> omega) | (simp_all <;> omega))) ?_); refine hK _ ?_; clear hK K
          refine ⟨j + 1, by omega, by omega, .inr ⟨[3], by simp only [killL, List.map_cons, List.map_nil, killA, killAs, qOf, rmT, killH, killT, List.filter_cons, List.filter_nil, List.contains_cons, List.contains_nil, SlotsLe, St.get, slotGet, Nat.reduceEqDiff, Nat.reduceBEq, Bool.or_false, Bool.or_true, Bool.false_and, Bool.not_true, Bool.not_false, Bool.false_eq_true, ↓reduceIte, if_true, if_false, AV.int.injEq, AV.bool.injEq, AV.l1.injEq, AV.l2.injEq, AV.l3.injEq, true_and, and_true]; omega, by simp only [killL, List.map_cons, List.map_nil, killA, killAs, qOf, rmT, killH, killT, List.filter_cons, List.filter_nil, List.contains_cons, List.contains_nil, SlotsLe, St.get, slotGet, Nat.reduceEqDiff, Nat.reduceBEq, Bool.or_false, Bool.or_true, Bool.false_and, Bool.not_true, Bool.not_false, Bool.false_eq_true, ↓reduceIte, if_true, if_false, AV.int.injEq, AV.bool.injEq, AV.l1.injEq, AV.l2.injEq, AV.l3.injEq, true_and, and_true]; rw [rowF_succ]⟩⟩
        · obtain rfl : j = t.length := by omega
          refine ats_exit (lq_x ?_)
          (repeat refine ats_seq ?_); refine ats_go (by first | exact fix0 hcx | exact fix1 hcx rfl) fun K hK => ?_; simp only [go_sem, seval]; refine hK _ ?_; clear hK K
          rw [e]
          exact ats_ret (fin2 trivial trivial rfl)

theorem implAc_ok (s : List (List Int)) (t : List Int) (a : Int) : FreshCall Try.prog 27 [.agg [.l2 s, .l1 t], .int a] (acA s t a) := by
  have hk := implInv_ok s t a
  unfold acA
  refine FreshCall.intro (n := 41) (rs := [.tmp 4, .tmp 5]) Try.call27 Try.func27 rfl rfl rfl (by simp only [List.length_cons, List.length_nil]; omega) (fun cx hcx => ats_of ?_); simp only [argSlots, Nat.zero_add, Nat.reduceAdd]
  (repeat refine ats_seq ?_); refine ats_go (by first | exact fix0 hcx | exact fix1 hcx rfl) fun K hK => ?_; simp only [go_sem, seval]; refine hK _ ?_; clear hK K
  cases h : isData s t with
  | false =>
    rw [icA_nd h] at hk
    (repeat refine ats_seq ?_); refine ats_go (by first | exact fix0 hcx | exact fix1 hcx rfl) fun K hK => ?_; simp only [go_sem, seval]
    first | refine fcall_free rfl rfl (hk) ?_ | refine YR_intro (acall_free rfl rfl (hk)) ?_
    simp only [go_sem, seval]
    refine hK _ ?_; clear hK K
    (repeat refine ats_seq ?_); refine ats_go (by first | exact fix0 hcx | exact fix1 hcx rfl) fun K hK => ?_; simp only [go_sem, seval]; refine hK _ ?_; clear hK K
    (repeat refine ats_seq ?_); refine ats_yes rfl trivial ?_
    (repeat refine ats_seq ?_); refine ats_go (by first | exact fix0 hcx | exact fix1 hcx rfl) fun K hK => ?_; simp only [go_sem, seval]; refine hK _ ?_; clear hK K
    exact ats_ret (own2 (is := []) trivial trivial rfl (by simp))
  | true =>
    cases ha : inC t a with
    | false =>
      rw [icA_nc h ha] at hk
      (repeat refine ats_seq ?_); refine ats_go (by first | exact fix0 hcx | exact fix1 hcx rfl) fun K hK => ?_; simp only [go_sem, seval]
      first | refine fcall_free rfl rfl (hk) ?_ | refine YR_intro (acall_free rfl rfl (hk)) ?_
      simp only [go_sem, seval]
      refine hK _ ?_; clear hK K
      (repeat refine ats_seq ?_); refine ats_go (by first | exact fix0 hcx | exact fix1 hcx rfl) fun K hK => ?_; simp only [go_sem, seval]; refine hK _ ?_; clear hK K
      (repeat refine ats_seq ?_); refine ats_yes rfl trivial ?_
      (repeat refine ats_seq ?_); refine ats_go (by first | exact fix0 hcx | exact fix1 hcx rfl) fun K hK => ?_; simp only [go_sem, seval]; refine hK _ ?_; clear hK K
      exact ats_ret (own2 (is := []) trivial trivial rfl (by simp))
    | true =>
      rw [icA_yc h ha] at hk
      obtain ⟨hs, hst, hw, c, hc, hT, hR⟩ := isData_some h
      have hr := ring_ok s t c hs hc
      obtain ⟨rfl, -⟩ := cj_get hc
      have h16 := hs.2.1
      have h1 := hs.1
      have hai := inC_true ha
      have hin : a.toNat < t.length := by omega
      have hm1 := numD_mat (s := s) (c := cL s t.length) hin
      cases hic : isIc s t a.toNat with
      | false =>
        rw [hic] at hk
        (repeat refine ats_seq ?_); refine ats_go (by first | exact fix0 hcx | exact fix1 hcx rfl) fun K hK => ?_; simp only [go_sem, seval]
        first | refine fcall_free rfl rfl (hk) ?_ | refine YR_intro (acall_free rfl rfl (hk)) ?_
        simp only [go_sem, seval]
        refine hK _ ?_; clear hK K
        (repeat refine ats_seq ?_); refine ats_go (by first | exact fix0 hcx | exact fix1 hcx rfl) fun K hK => ?_; simp only [go_sem, seval]; refine hK _ ?_; clear hK K
        (repeat refine ats_seq ?_); refine ats_no rfl trivial ?_
        refine ats_skip ?_
        (repeat refine ats_seq ?_); refine ats_go (by first | exact fix0 hcx | exact fix1 hcx rfl) fun K hK => ?_; simp only [go_sem, seval]; refine hK _ ?_; clear hK K
        (repeat refine ats_seq ?_); refine ats_yes rfl trivial ?_
        (repeat refine ats_seq ?_); refine ats_go (by first | exact fix0 hcx | exact fix1 hcx rfl) fun K hK => ?_; simp only [go_sem, seval]; refine hK _ ?_; clear hK K
        exact ats_ret (own2 (is := []) trivial trivial rfl (by simp))
      | true =>
        rw [hic] at hk
        (repeat refine ats_seq ?_); refine ats_go (by first | exact fix0 hcx | exact fix1 hcx rfl) fun K hK => ?_; simp only [go_sem, seval]
        first | refine fcall_free rfl rfl (hk) ?_ | refine YR_intro (acall_free rfl rfl (hk)) ?_
        simp only [go_sem, seval]
        refine hK _ ?_; clear hK K
        (repeat refine ats_seq ?_); refine ats_go (by first | exact fix0 hcx | exact fix1 hcx rfl) fun K hK => ?_; simp only [go_sem, seval]; refine hK _ ?_; clear hK K
        (repeat refine ats_seq ?_); refine ats_no rfl trivial ?_
        refine ats_skip ?_
        (repeat refine ats_seq ?_); refine ats_go (by first | exact fix0 hcx | exact fix1 hcx rfl) fun K hK => ?_; simp only [go_sem, seval]; refine hK _ ?_; clear hK K
        (repeat refine ats_seq ?_); refine ats_no rfl trivial ?_
        refine ats_skip ?_
        (repeat refine ats_seq ?_); refine ats_go (by first | exact fix0 hcx | exact fix1 hcx rfl) fun K hK => ?_; simp only [go_sem, seval]; refine hK _ ?_; clear hK K
        (repeat refine ats_seq ?_); refine ats_go (by first | exact fix0 hcx | exact fix1 hcx rfl) fun K hK => ?_; simp only [go_sem, seval]
        first | refine fcall_fresh rfl (hr) ?_ | refine YR_intro (acall_fresh rfl (hr)) ?_
        simp only [go_sem, seval]
        simp only [numD_length, hm1]
        (repeat refine And.intro (by first | omega | (intro hq; first | omega | (simp at hq <;> omega) | (simp_all <;> omega))) ?_)
        refine hK _ ?_; clear hK K
        (repeat refine ats_seq ?_); refine ats_loop (fun j : Nat => ⟨[(8, .ref 1 []), (28, .l2 ((numD s t.length (cL s t.length)).getD a.toNat [])), (29, .int t.length), (30, .int j)], [(0, .bx [.l2 s, .l1 t]), (1, .t1 (rowF j (acF s t a.toNat)))]⟩) (fun j => j ≤ t.length) (fun j => t.length - j) 0 (Nat.zero_le _) (by refine And.intro ?_ rfl; simp only [SlotsLe, St.get, slotGet, Nat.reduceEqDiff, ↓reduceIte, true_and, and_true, AV.int.injEq, AV.bool.injEq, AV.l1.injEq, AV.l2.injEq, AV.l3.injEq]; repeat' (first | rfl | omega | refine And.intro ?_ ?_)) (fun j hj => ?_)
        have hl := rowF_length j (acF s t a.toNat)
        (repeat refine ats_seq ?_); refine ats_go (by first | exact fix0 hcx | exact fix1 hcx rfl) fun K hK => ?_; simp only [go_sem, seval]; refine hK _ ?_; clear hK K
        (repeat refine ats_seq ?_); first | refine ats_ifn (p := _) rfl trivial (fun hc4 => ?_) (fun hc4 => ?_) | refine ats_ifp (p := _) rfl trivial (fun hc4 => ?_) (fun hc4 => ?_) | refine ats_cond rfl trivial (fun hc4 => ?_) (fun hc4 => ?_)
        · have hrow2 := numD_row (s := s) (c := cL s t.length) hin (show j < t.length by omega)
          have hx : PureCall Try.prog 51 [.l1 (rowF t.length (numV s t.length (cL s t.length) a.toNat j)), .int 1] (.int (acF s t a.toNat j)) := sIndex_ok _ _
          refine ats_skip ?_
          (repeat refine ats_seq ?_); refine ats_block ?_
          (repeat refine ats_seq ?_); refine ats_go (by first | exact fix0 hcx | exact fix1 hcx rfl) fun K hK => ?_; simp only [go_sem, seval]
          simp only [hm1, hrow2]
          (repeat refine And.intro (by first | omega | (intro hq; first | omega | (simp at hq <;> omega) | (simp_all <;> omega))) ?_)
          refine hK _ ?_; clear hK K
          (repeat refine ats_seq ?_); refine ats_go (by first | exact fix0 hcx | exact fix1 hcx rfl) fun K hK => ?_; simp only [go_sem, seval]
          first | refine fcall_data (hx) rfl ?_ | refine YR_intro (acall_data (hx) rfl) ?_
          simp only [go_sem, seval]
          simp only [hl]
          (repeat refine And.intro (by first | omega | (intro hq; first | omega | (simp at hq <;> omega) | (simp_all <;> omega))) ?_)
          refine hK _ ?_; clear hK K
          (repeat refine ats_seq ?_); refine ats_go (by first | exact fix0 hcx | exact fix1 hcx rfl) fun K hK => ?_; simp only [go_sem, seval]; (repeat refine And.intro (by first | omega | (intro hq; first | omega | (simp at hq <;> omega) | (simp_all <;> omega))) ?_); refine hK _ ?_; clear hK K
          refine ⟨j + 1, by omega, by omega, .inr ⟨[2], by simp only [killL, List.map_cons, List.map_nil, killA, killAs, qOf, rmT, killH, killT, List.filter_cons, List.filter_nil, List.contains_cons, List.contains_nil, SlotsLe, St.get, slotGet, Nat.reduceEqDiff, Nat.reduceBEq, Bool.or_false, Bool.or_true, Bool.false_and, Bool.not_true, Bool.not_false, Bool.false_eq_true, ↓reduceIte, if_true, if_false, AV.int.injEq, AV.bool.injEq, AV.l1.injEq, AV.l2.injEq, AV.l3.injEq, true_and, and_true]; omega, by simp only [killL, List.map_cons, List.map_nil, killA, killAs, qOf, rmT, killH, killT, List.filter_cons, List.filter_nil, List.contains_cons, List.contains_nil, SlotsLe, St.get, slotGet, Nat.reduceEqDiff, Nat.reduceBEq, Bool.or_false, Bool.or_true, Bool.false_and, Bool.not_true, Bool.not_false, Bool.false_eq_true, ↓reduceIte, if_true, if_false, AV.int.injEq, AV.bool.injEq, AV.l1.injEq, AV.l2.injEq, AV.l3.injEq, true_and, and_true]; rw [rowF_succ]⟩⟩
        · obtain rfl : j = t.length := by omega
          refine ats_exit (lq_x ?_)
          (repeat refine ats_seq ?_); refine ats_go (by first | exact fix0 hcx | exact fix1 hcx rfl) fun K hK => ?_; simp only [go_sem, seval]; refine hK _ ?_; clear hK K
          exact ats_ret (own2 (is := [1]) trivial trivial rfl (by simp))
end Go.Proofs.Ytphokmkmpelnfaa
