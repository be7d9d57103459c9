import Derived.Test.YtejlokdophogcaaDr
set_option linter.unusedSimpArgs false
set_option linter.unusedVariables false
namespace Go.Proofs.Ytejlokdophogcaa
open Go Go.Aw Go.Pl

theorem tot_le {α : Type} {n : α → Nat} {B : Nat} : ∀ (xs : List α), (∀ x ∈ xs, n x ≤ B) → tot n xs ≤ xs.length * B
  | [], _ => by simp [tot]
  | x :: xs, h => by
    have h1 := h x (by simp)
    have h2 := tot_le xs (fun y hy => h y (by simp [hy]))
    simp only [tot, List.length_cons, Nat.add_mul]
    omega
theorem tot2_matF {n : Nat} {f : Nat → Nat → Int} (h : n ≤ 16) : tot List.length (matF n n f) ≤ 256 := by
  have h2 := tot_le (n := List.length) (B := 16) (matF n n f) (fun x hx => by
    simp only [matF, List.mem_map] at hx
    obtain ⟨i, -, rfl⟩ := hx
    rw [rowF_length]; exact h)
  rw [matF_length] at h2
  have := Nat.mul_le_mul_right 16 h
  omega
theorem tot3_cubF {n : Nat} {f : Nat → Nat → Nat → Int} (h : n ≤ 16) : tot3 (cubF n f) ≤ 4096 := by
  have h2 := tot_le (n := tot List.length) (B := 256) (cubF n f) (fun x hx => by
    simp only [cubF, List.mem_map] at hx
    obtain ⟨i, -, rfl⟩ := hx
    exact tot2_matF h)
  rw [cubF_length] at h2
  have := Nat.mul_le_mul_right 256 h
  unfold tot3
  omega

noncomputable def rgA (s : List (List Int)) (t : List Int) : AV := if isData s t then .tup [.agg [.l3 (numD s t.length (cL s t.length))], .int 0] else .tup [.agg [.nil], .int 1]
theorem rgA_shape (s : List (List Int)) (t : List Int) : ∃ (u : Option (List (List (List Int)))) (c : Int), rgA s t = .tup [.agg [optT u], .int c] ∧ ∀ v, u = some v → tot3 v ≤ 1048576 := by
  unfold rgA
  cases h : isData s t with
  | false => exact ⟨none, 1, rfl, fun _ h => by cases h⟩
  | true =>
    have h16 := (isData_some h).1.2.1
    exact ⟨some (numD s t.length (cL s t.length)), 0, rfl, fun v hv => by cases hv; have h3 := tot3_cubF (n := t.length) (f := numV s t.length (cL s t.length)) h16; rw [numD_eq]; omega⟩
theorem l13Ring_ok (s : List (List Int)) (t c : List Int) (hs : Shape s t) (hw : wholeD s t.length ≠ 0) (hc : cj s t = some c) : PureCall Try.prog 82 [.agg [.l2 s, .l1 t]] (.agg [.l3 (numD s t.length c)]) := by
  have hJ := l12Conjugation_ok s t hs hw
  rw [hc] at hJ
  simp only [optA] at hJ
  obtain ⟨lc, hC⟩ := cj_in hc
  have hN := l12Numbers_ok s t c hs lc hC
  refine PureCall.intro (n := 8) (rs := [.cell 2 49]) Try.call82 Try.func82 rfl rfl rfl (by simp only [List.length_cons, List.length_nil]; omega) (fun cx hcx => ats_of ?_); simp only [argSlots, Nat.zero_add, Nat.reduceAdd]
  (repeat refine ats_seq ?_); refine ats_go (by first | exact fix0 hcx | exact fix1 hcx rfl) fun K hK => ?_; simp only [go_sem, seval]; refine hK _ ?_; clear hK K
  (repeat refine ats_seq ?_); refine ats_pick (fix0 hcx) mixed (by kernel_rfl) fun K hK => ?_; simp only [go_sem, seval]
  first | refine fcall_data (hJ) rfl ?_ | refine YR_intro (acall_data (hJ) rfl) ?_
  simp only [go_sem, seval]
  first | refine fcall_data (hN) rfl ?_ | refine YR_intro (acall_data (hN) rfl) ?_
  simp only [go_sem, seval]
  refine hK _ ?_; clear hK K
  exact ats_ret (finC (v := .agg [.l3 (numD s t.length c)]) (by simp only [go_sem, seval]) rfl)
theorem specRg_ok (s : List (List Int)) (t : List Int) : PureCall Try.prog 45 [.agg [.l2 s, .l1 t]] (rgA s t) := by
  have hk := l12Is_ok s t
  unfold rgA
  refine PureCall.intro (n := 10) (rs := [.cell 2 49, .tmp 3]) Try.call45 Try.func45 rfl rfl rfl (by simp only [List.length_cons, List.length_nil]; omega) (fun cx hcx => ats_of ?_); simp only [argSlots, Nat.zero_add, Nat.reduceAdd]
  (repeat refine ats_seq ?_); refine ats_go (by first | exact fix0 hcx | exact fix1 hcx rfl) fun K hK => ?_; simp only [go_sem, seval]; refine hK _ ?_; clear hK K
  cases h : isData s t with
  | false =>
    rw [h] at hk
    (repeat refine ats_seq ?_); refine ats_go (by first | exact fix0 hcx | exact fix1 hcx rfl) fun K hK => ?_; simp only [go_sem, seval]
    first | refine fcall_free rfl rfl (hk) ?_ | refine YR_intro (acall_free rfl rfl (hk)) ?_
    simp only [go_sem, seval]
    refine hK _ ?_; clear hK K
    (repeat refine ats_seq ?_); refine ats_yes rfl trivial ?_
    (repeat refine ats_seq ?_); refine ats_go (by first | exact fix0 hcx | exact fix1 hcx rfl) fun K hK => ?_; simp only [go_sem, seval]; refine hK _ ?_; clear hK K
    exact ats_ret (fin2C (v := .agg [.nil]) (by simp only [go_sem, seval]) trivial rfl)
  | true =>
    obtain ⟨hs, hst, hw, c, hc, hT, hR⟩ := isData_some h
    have hr := l13Ring_ok s t c hs hw hc
    obtain ⟨rfl, -⟩ := cj_get hc
    rw [h] at hk
    (repeat refine ats_seq ?_); refine ats_go (by first | exact fix0 hcx | exact fix1 hcx rfl) fun K hK => ?_; simp only [go_sem, seval]
    first | refine fcall_free rfl rfl (hk) ?_ | refine YR_intro (acall_free rfl rfl (hk)) ?_
    simp only [go_sem, seval]
    refine hK _ ?_; clear hK K
    (repeat refine ats_seq ?_); refine ats_no rfl trivial ?_
    refine ats_skip ?_
    (repeat refine ats_seq ?_); refine ats_go (by first | exact fix0 hcx | exact fix1 hcx rfl) fun K hK => ?_; simp only [go_sem, seval]
    first | refine fcall_data (hr) rfl ?_ | refine YR_intro (acall_data (hr) rfl) ?_
    simp only [go_sem, seval]
    refine hK _ ?_; clear hK K
    exact ats_ret (fin2C (v := .agg [.l3 (numD s t.length (cL s t.length))]) (by simp only [go_sem, seval]) trivial rfl)
theorem implRg_ok (s : List (List Int)) (t : List Int) : FreshCall Try.prog 46 [.agg [.l2 s, .l1 t]] (rgA s t) := by
  have hk := IsData_ok s t
  unfold rgA
  refine FreshCall.intro (n := 10) (rs := [.cell 2 49, .tmp 3]) Try.call46 Try.func46 rfl rfl rfl (by simp only [List.length_cons, List.length_nil]; omega) (fun cx hcx => ats_of ?_); simp only [argSlots, Nat.zero_add, Nat.reduceAdd]
  (repeat refine ats_seq ?_); refine ats_go (by first | exact fix0 hcx | exact fix1 hcx rfl) fun K hK => ?_; simp only [go_sem, seval]; refine hK _ ?_; clear hK K
  cases h : isData s t with
  | false =>
    rw [h] at hk
    (repeat refine ats_seq ?_); refine ats_go (by first | exact fix0 hcx | exact fix1 hcx rfl) fun K hK => ?_; simp only [go_sem, seval]
    first | refine fcall_free rfl rfl (hk) ?_ | refine YR_intro (acall_free rfl rfl (hk)) ?_
    simp only [go_sem, seval]
    refine hK _ ?_; clear hK K
    (repeat refine ats_seq ?_); refine ats_yes rfl trivial ?_
    (repeat refine ats_seq ?_); refine ats_go (by first | exact fix0 hcx | exact fix1 hcx rfl) fun K hK => ?_; simp only [go_sem, seval]; refine hK _ ?_; clear hK K
    exact ats_ret (own2C (v := .agg [.nil]) (by simp only [go_sem, seval]) trivial rfl (by simp))
  | true =>
    obtain ⟨hs, hst, hw, c, hc, hT, hR⟩ := isData_some h
    have hr := ring_ok s t c hs hc
    obtain ⟨rfl, -⟩ := cj_get hc
    rw [h] at hk
    (repeat refine ats_seq ?_); refine ats_go (by first | exact fix0 hcx | exact fix1 hcx rfl) fun K hK => ?_; simp only [go_sem, seval]
    first | refine fcall_free rfl rfl (hk) ?_ | refine YR_intro (acall_free rfl rfl (hk)) ?_
    simp only [go_sem, seval]
    refine hK _ ?_; clear hK K
    (repeat refine ats_seq ?_); refine ats_no rfl trivial ?_
    refine ats_skip ?_
    (repeat refine ats_seq ?_); refine ats_go (by first | exact fix0 hcx | exact fix1 hcx rfl) fun K hK => ?_; simp only [go_sem, seval]
    refine fcall_own rfl (hr) rfl ?_; simp only [go_sem, seval]
    refine hK _ ?_; clear hK K
    exact ats_ret (own2C (v := .agg [.ref 2 []]) (by simp only [go_sem, seval]) trivial rfl (by simp))

def cjM (s : List (List Int)) (c : List Int) (n : Nat) : List (List Int) := (List.range n).map fun k => s.getD (c.getD k 0).toNat []
theorem cjM_length {s : List (List Int)} {c : List Int} {n : Nat} : (cjM s c n).length = n := by simp [cjM]
theorem cjM_succ {s : List (List Int)} {c : List Int} {n : Nat} : cjM s c (n + 1) = cjM s c n ++ [s.getD (c.getD n 0).toNat []] := by simp [cjM, List.range_succ]
noncomputable def cdA (s : List (List Int)) (t : List Int) : AV := if isData s t then .tup [.agg [.l2 (cjM s (cL s t.length) t.length), .l1 (ivF t)], .int 0] else .tup [.agg [.nil, .nil], .int 1]
theorem cdA_shape (s : List (List Int)) (t : List Int) : ∃ (u : Option (List (List Int) × List Int)) (c : Int), cdA s t = .tup [optD u, .int c] ∧ ∀ v, u = some v → tot2 v.1 + v.2.length ≤ 1048576 := by
  unfold cdA
  cases h : isData s t with
  | false => exact ⟨none, 1, rfl, fun _ h => by cases h⟩
  | true =>
    obtain ⟨hs, hst, hw, c, hc, hT, hR⟩ := isData_some h
    obtain ⟨lc, hC⟩ := cj_in hc
    obtain ⟨rfl, -⟩ := cj_get hc
    have h16 := hs.2.1
    refine ⟨some (cjM s (cL s t.length) t.length, ivF t), 0, rfl, fun v hv => ?_⟩
    cases hv
    have h2 := tot_le (n := List.length) (B := 16) (cjM s (cL s t.length) t.length) (fun x hx => by
      simp only [cjM, List.mem_map, List.mem_range] at hx
      obtain ⟨k, hk, rfl⟩ := hx
      have := hC k hk
      rw [hs.2.2.1.row (show ((cL s t.length).getD k 0).toNat < t.length by omega)]
      exact h16)
    rw [cjM_length] at h2
    have := Nat.mul_le_mul_right 16 h16
    show tot List.length (cjM s (cL s t.length) t.length) + (ivF t).length ≤ _
    rw [ivF_length]
    omega

theorem l12Conjugate_ok (s : List (List Int)) (t c : List Int) (hs : Shape s t) (hw : wholeD s t.length ≠ 0) (hc : cj s t = some c) : PureCall Try.prog 80 [.agg [.l2 s, .l1 t]] (.agg [.l2 (cjM s c t.length), .l1 (ivF t)]) := by
  have hJ := l12Conjugation_ok s t hs hw
  rw [hc] at hJ
  simp only [optA] at hJ
  obtain ⟨lc, hC⟩ := cj_in hc
  have h1 := hs.1
  have h16 := hs.2.1
  have hm := hs.2.2.1
  have ls := hm.1
  have hI := l12Inverses_ok t h16 hs.2.2.2
  refine PureCall.intro (n := 34) (rs := [.cell 2 28]) Try.call80 Try.func80 rfl rfl rfl (by simp only [List.length_cons, List.length_nil]; omega) (fun cx hcx => ats_of ?_); simp only [argSlots, Nat.zero_add, Nat.reduceAdd]
  (repeat refine ats_seq ?_); refine ats_go (by first | exact fix0 hcx | exact fix1 hcx rfl) fun K hK => ?_; simp only [go_sem, seval]; refine hK _ ?_; clear hK K
  (repeat refine ats_seq ?_)
  refine ats_plan [] (.one 0 (.one 1 (.one 2 (.one 3 (.one 4 (.one 5 (.alt 6 (.one 7 (.alt 8 .fin .stop)) .stop))))))) ⟨[(1, .bptr 0 0), (2, .bptr 1 0), (3, .l1 c), (4, .bptr 2 0)], [(0, .bx [.l2 s, .l1 t]), (1, .bx [.nil, .nil]), (2, .bx [.nil, .l1 (ivF t)])]⟩ (fix0 hcx) mixed (by kernel_rfl) (fun K hK => ?_) ?_
  · simp only [go_sem, seval, pl_fin, pl_stop, pl_one, pl_alt, PK_ap, pickO, List.getElem?_toArray, List.getElem?_cons_zero, List.getElem?_cons_succ, Option.getD_some, and_true, true_and, and_self, List.contains_cons, List.contains_nil, Bool.or_false, Bool.or_true]
    repeat' (first | exact hK _ (by refine And.intro ?_ rfl; simp only [SlotsLe, St.get, slotGet, Nat.reduceEqDiff, ↓reduceIte, AV.int.injEq, AV.bool.injEq, AV.l1.injEq, AV.l2.injEq, AV.l3.injEq, true_and, and_true])  | omega | refine And.intro ?_ ?_ | ((first | refine fcall_data (hJ) rfl ?_ | refine YR_intro (acall_data (hJ) rfl) ?_); simp only [go_sem, seval, pl_fin, pl_stop, pl_one, pl_alt, PK_ap, pickO, List.getElem?_toArray, List.getElem?_cons_zero, List.getElem?_cons_succ, Option.getD_some, and_true, true_and, and_self, List.contains_cons, List.contains_nil, Bool.or_false, Bool.or_true]) | ((first | refine fcall_fresh rfl (hI) ?_ | refine YR_intro (acall_fresh rfl (hI)) ?_); simp only [go_sem, seval, pl_fin, pl_stop, pl_one, pl_alt, PK_ap, pickO, List.getElem?_toArray, List.getElem?_cons_zero, List.getElem?_cons_succ, Option.getD_some, and_true, true_and, and_self, List.contains_cons, List.contains_nil, Bool.or_false, Bool.or_true]))
  (repeat refine ats_seq ?_); refine ats_go (by first | exact fix0 hcx | exact fix1 hcx rfl) fun K hK => ?_; simp only [go_sem, seval]; refine hK _ ?_; clear hK K
  (repeat refine ats_seq ?_)
  refine ats_loop (fun o : Option Nat => match o with
    | none => ⟨[(1, .bptr 0 0), (2, .bptr 1 0), (3, .l1 c), (4, .bptr 2 0), (5, .int 0)], [(0, .bx [.l2 s, .l1 t]), (1, .bx [.nil, .nil]), (2, .bx [.nil, .l1 (ivF t)])]⟩
    | some i => ⟨[(1, .bptr 0 0), (2, .bptr 1 0), (3, .l1 c), (4, .bptr 2 0), (5, .int i)], [(0, .bx [.l2 s, .l1 t]), (1, .bx [.nil, .nil]), (2, .bx [.ref 4 [], .l1 (ivF t)]), (4, .r2 (cjM s c i))]⟩) (fun o => match o with
    | none => True
    | some i => 1 ≤ i ∧ i ≤ t.length) (fun o => match o with
    | none => t.length + 1
    | some i => t.length - i) none trivial ⟨by simp only [SlotsLe, St.get, slotGet, Nat.reduceEqDiff, ↓reduceIte, true_and, and_true], rfl⟩ (fun o ho => ?_)
  cases o with
  | none =>
    dsimp only at ho ⊢
    have hC0 := hC 0 (by omega)
    have r0 := hm.row (show (c.getD 0 0).toNat < t.length by omega)
    (repeat refine ats_seq ?_); refine ats_go (by first | exact fix0 hcx | exact fix1 hcx rfl) fun K hK => ?_; simp only [go_sem, seval]; refine hK _ ?_; clear hK K
    (repeat refine ats_seq ?_); first | refine ats_ifn (p := _) rfl trivial (fun hli => ?_) (fun hli => ?_) | refine ats_ifp (p := _) rfl trivial (fun hli => ?_) (fun hli => ?_) | refine ats_cond rfl trivial (fun hli => ?_) (fun hli => ?_)
    · refine ats_skip ?_
      (repeat refine ats_seq ?_); refine ats_block ?_
      (repeat refine ats_seq ?_)
      refine ats_plan [] (.one 2 (.one 3 (.one 4 (.one 5 (.one 6 (.one 7 (.one 8 (.one 9 (.one 10 (.alt 0 (.alt 1 (.alt 11 (.alt 12 (.one 13 (.alt 14 .fin .stop)) .stop) .stop) (.alt 11 (.one 1 (.alt 12 (.one 13 (.alt 14 .fin .stop)) .stop)) .stop)) (.alt 11 (.one 0 (.one 1 (.alt 12 (.one 13 (.alt 14 .fin .stop)) .stop))) .stop))))))))))) ⟨[(1, .bptr 0 0), (2, .bptr 1 0), (3, .l1 c), (4, .bptr 2 0), (5, .int 0)], [(0, .bx [.l2 s, .l1 t]), (1, .bx [.nil, .nil]), (2, .bx [.ref 4 [], .l1 (ivF t)]), (3, .r2 [s.getD (c.getD 0 0).toNat []]), (4, .r2 [s.getD (c.getD 0 0).toNat []])]⟩ (fix0 hcx) mixed (by kernel_rfl) (fun K hK => ?_) ?_
      · simp only [go_sem, seval, pl_fin, pl_stop, pl_one, pl_alt, PK_ap, pickO, List.getElem?_toArray, List.getElem?_cons_zero, List.getElem?_cons_succ, Option.getD_some, and_true, true_and, and_self, List.contains_cons, List.contains_nil, Bool.or_false, Bool.or_true]
        repeat' (first | exact hK _ (by refine And.intro ?_ rfl; simp only [SlotsLe, St.get, slotGet, Nat.reduceEqDiff, ↓reduceIte, AV.int.injEq, AV.bool.injEq, AV.l1.injEq, AV.l2.injEq, AV.l3.injEq, true_and, and_true])  | omega | refine And.intro ?_ ?_ | ((first | refine fcall_fresh rfl (l01Own_ok _ (by omega)) ?_ | refine YR_intro (acall_fresh rfl (l01Own_ok _ (by omega))) ?_); simp only [go_sem, seval, pl_fin, pl_stop, pl_one, pl_alt, PK_ap, pickO, List.getElem?_toArray, List.getElem?_cons_zero, List.getElem?_cons_succ, Option.getD_some, and_true, true_and, and_self, List.contains_cons, List.contains_nil, Bool.or_false, Bool.or_true]))
      (repeat refine ats_seq ?_); refine ats_go (by first | exact fix0 hcx | exact fix1 hcx rfl) fun K hK => ?_; simp only [go_sem, seval]; (repeat refine And.intro (by first | omega | (intro hq; first | omega | (simp only [decide_eq_false_iff_not, decide_eq_true_eq, Bool.not_eq_false', Bool.not_eq_true', Bool.or_eq_false_iff, Bool.and_eq_true] at hq; omega))) ?_); refine hK _ ?_; clear hK K
      refine ⟨some 1, ⟨Nat.le_refl _, by omega⟩, by show t.length - 1 < t.length + 1; omega, .inr ⟨[3], by simp only [killL, List.map_cons, List.map_nil, killA, killAs, qOf, rmT, killH, killT, List.filter_cons, List.filter_nil, List.contains_cons, List.contains_nil, SlotsLe, St.get, slotGet, Nat.reduceEqDiff, Nat.reduceBEq, Bool.or_false, Bool.or_true, Bool.false_and, Bool.not_true, Bool.not_false, Bool.false_eq_true, ↓reduceIte, if_true, if_false, AV.int.injEq, AV.bool.injEq, AV.l1.injEq, AV.l2.injEq, AV.l3.injEq, true_and, and_true]; omega, by simp only [killL, List.map_cons, List.map_nil, killA, killAs, qOf, rmT, killH, killT, List.filter_cons, List.filter_nil, List.contains_cons, List.contains_nil, SlotsLe, St.get, slotGet, Nat.reduceEqDiff, Nat.reduceBEq, Bool.or_false, Bool.or_true, Bool.false_and, Bool.not_true, Bool.not_false, Bool.false_eq_true, ↓reduceIte, if_true, if_false, AV.int.injEq, AV.bool.injEq, AV.l1.injEq, AV.l2.injEq, AV.l3.injEq, true_and, and_true]; rfl⟩⟩
    · omega
  | some i =>
    dsimp only at ho ⊢
    have hl := cjM_length (s := s) (c := c) (n := i)
    (repeat refine ats_seq ?_); refine ats_go (by first | exact fix0 hcx | exact fix1 hcx rfl) fun K hK => ?_; simp only [go_sem, seval]; refine hK _ ?_; clear hK K
    (repeat refine ats_seq ?_); first | refine ats_ifn (p := _) rfl trivial (fun hli => ?_) (fun hli => ?_) | refine ats_ifp (p := _) rfl trivial (fun hli => ?_) (fun hli => ?_) | refine ats_cond rfl trivial (fun hli => ?_) (fun hli => ?_)
    · have hC0 := hC i (by omega)
      have r0 := hm.row (show (c.getD i 0).toNat < t.length by omega)
      refine ats_skip ?_
      (repeat refine ats_seq ?_); refine ats_block ?_
      (repeat refine ats_seq ?_)
      refine ats_plan [] (.one 2 (.one 3 (.one 4 (.one 5 (.one 6 (.one 7 (.one 8 (.one 9 (.one 10 (.alt 0 (.alt 1 (.alt 11 (.alt 12 (.one 13 (.alt 14 .fin .stop)) .stop) .stop) (.alt 11 (.one 1 (.alt 12 (.one 13 (.alt 14 .fin .stop)) .stop)) .stop)) (.alt 11 (.one 0 (.one 1 (.alt 12 (.one 13 (.alt 14 .fin .stop)) .stop))) .stop))))))))))) ⟨[(1, .bptr 0 0), (2, .bptr 1 0), (3, .l1 c), (4, .bptr 2 0), (5, .int i)], [(0, .bx [.l2 s, .l1 t]), (1, .bx [.nil, .nil]), (2, .bx [.ref 4 [], .l1 (ivF t)]), (4, .r2 (cjM s c i ++ [s.getD (c.getD i 0).toNat []])), (5, .r2 [s.getD (c.getD i 0).toNat []])]⟩ (fix0 hcx) mixed (by kernel_rfl) (fun K hK => ?_) ?_
      · simp only [go_sem, seval, pl_fin, pl_stop, pl_one, pl_alt, PK_ap, pickO, List.getElem?_toArray, List.getElem?_cons_zero, List.getElem?_cons_succ, Option.getD_some, and_true, true_and, and_self, List.contains_cons, List.contains_nil, Bool.or_false, Bool.or_true]
        repeat' (first | exact hK _ (by refine And.intro ?_ rfl; simp only [SlotsLe, St.get, slotGet, Nat.reduceEqDiff, ↓reduceIte, AV.int.injEq, AV.bool.injEq, AV.l1.injEq, AV.l2.injEq, AV.l3.injEq, true_and, and_true])  | omega | refine And.intro ?_ ?_ | ((first | refine fcall_fresh rfl (l01Own_ok _ (by omega)) ?_ | refine YR_intro (acall_fresh rfl (l01Own_ok _ (by omega))) ?_); simp only [go_sem, seval, pl_fin, pl_stop, pl_one, pl_alt, PK_ap, pickO, List.getElem?_toArray, List.getElem?_cons_zero, List.getElem?_cons_succ, Option.getD_some, and_true, true_and, and_self, List.contains_cons, List.contains_nil, Bool.or_false, Bool.or_true]) | ((rw [hl]; omega)))
      (repeat refine ats_seq ?_); refine ats_go (by first | exact fix0 hcx | exact fix1 hcx rfl) fun K hK => ?_; simp only [go_sem, seval]; (repeat refine And.intro (by first | omega | (intro hq; first | omega | (simp only [decide_eq_false_iff_not, decide_eq_true_eq, Bool.not_eq_false', Bool.not_eq_true', Bool.or_eq_false_iff, Bool.and_eq_true] at hq; omega))) ?_); refine hK _ ?_; clear hK K
      refine ⟨some (i + 1), ⟨by omega, by omega⟩, by show t.length - (i + 1) < t.length - i; omega, .inr ⟨[5], by simp only [killL, List.map_cons, List.map_nil, killA, killAs, qOf, rmT, killH, killT, List.filter_cons, List.filter_nil, List.contains_cons, List.contains_nil, SlotsLe, St.get, slotGet, Nat.reduceEqDiff, Nat.reduceBEq, Bool.or_false, Bool.or_true, Bool.false_and, Bool.not_true, Bool.not_false, Bool.false_eq_true, ↓reduceIte, if_true, if_false, AV.int.injEq, AV.bool.injEq, AV.l1.injEq, AV.l2.injEq, AV.l3.injEq, true_and, and_true]; omega, by simp only [killL, List.map_cons, List.map_nil, killA, killAs, qOf, rmT, killH, killT, List.filter_cons, List.filter_nil, List.contains_cons, List.contains_nil, SlotsLe, St.get, slotGet, Nat.reduceEqDiff, Nat.reduceBEq, Bool.or_false, Bool.or_true, Bool.false_and, Bool.not_true, Bool.not_false, Bool.false_eq_true, ↓reduceIte, if_true, if_false, AV.int.injEq, AV.bool.injEq, AV.l1.injEq, AV.l2.injEq, AV.l3.injEq, true_and, and_true]; simp only [cjM_succ]⟩⟩
    · obtain rfl : i = t.length := by omega
      refine ats_exit (lq_x ?_)
      (repeat refine ats_seq ?_); refine ats_go (by first | exact fix0 hcx | exact fix1 hcx rfl) fun K hK => ?_; simp only [go_sem, seval]; refine hK _ ?_; clear hK K
      exact ats_ret (finC (v := .agg [.ref 4 [], .l1 (ivF t)]) (by simp only [go_sem, seval]) rfl)
theorem specCd_ok (s : List (List Int)) (t : List Int) : PureCall Try.prog 42 [.agg [.l2 s, .l1 t]] (cdA s t) := by
  have hk := l12Is_ok s t
  unfold cdA
  refine PureCall.intro (n := 10) (rs := [.cell 2 28, .tmp 3]) Try.call42 Try.func42 rfl rfl rfl (by simp only [List.length_cons, List.length_nil]; omega) (fun cx hcx => ats_of ?_); simp only [argSlots, Nat.zero_add, Nat.reduceAdd]
  (repeat refine ats_seq ?_); refine ats_go (by first | exact fix0 hcx | exact fix1 hcx rfl) fun K hK => ?_; simp only [go_sem, seval]; refine hK _ ?_; clear hK K
  cases h : isData s t with
  | false =>
    rw [h] at hk
    (repeat refine ats_seq ?_); refine ats_go (by first | exact fix0 hcx | exact fix1 hcx rfl) fun K hK => ?_; simp only [go_sem, seval]
    first | refine fcall_free rfl rfl (hk) ?_ | refine YR_intro (acall_free rfl rfl (hk)) ?_
    simp only [go_sem, seval]
    refine hK _ ?_; clear hK K
    (repeat refine ats_seq ?_); refine ats_yes rfl trivial ?_
    (repeat refine ats_seq ?_); refine ats_go (by first | exact fix0 hcx | exact fix1 hcx rfl) fun K hK => ?_; simp only [go_sem, seval]; refine hK _ ?_; clear hK K
    exact ats_ret (fin2C (v := .agg [.nil, .nil]) (by simp only [go_sem, seval]) trivial rfl)
  | true =>
    obtain ⟨hs, hst, hw, c, hc, hT, hR⟩ := isData_some h
    have hr := l12Conjugate_ok s t c hs hw hc
    obtain ⟨rfl, -⟩ := cj_get hc
    rw [h] at hk
    (repeat refine ats_seq ?_); refine ats_go (by first | exact fix0 hcx | exact fix1 hcx rfl) fun K hK => ?_; simp only [go_sem, seval]
    first | refine fcall_free rfl rfl (hk) ?_ | refine YR_intro (acall_free rfl rfl (hk)) ?_
    simp only [go_sem, seval]
    refine hK _ ?_; clear hK K
    (repeat refine ats_seq ?_); refine ats_no rfl trivial ?_
    refine ats_skip ?_
    (repeat refine ats_seq ?_); refine ats_go (by first | exact fix0 hcx | exact fix1 hcx rfl) fun K hK => ?_; simp only [go_sem, seval]
    first | refine fcall_data (hr) rfl ?_ | refine YR_intro (acall_data (hr) rfl) ?_
    simp only [go_sem, seval]
    refine hK _ ?_; clear hK K
    exact ats_ret (fin2C (v := .agg [.l2 (cjM s (cL s t.length) t.length), .l1 (ivF t)]) (by simp only [go_sem, seval]) trivial rfl)
set_option maxHeartbeats 4000000 in
theorem implCd_ok (s : List (List Int)) (t : List Int) : FreshCall Try.prog 43 [.agg [.l2 s, .l1 t]] (cdA s t) := by
  have hk := IsData_ok s t
  unfold cdA
  refine FreshCall.intro (n := 35) (rs := [.cell 2 28, .tmp 3]) Try.call43 Try.func43 rfl rfl rfl (by simp only [List.length_cons, List.length_nil]; omega) (fun cx hcx => ats_of ?_); simp only [argSlots, Nat.zero_add, Nat.reduceAdd]
  (repeat refine ats_seq ?_); refine ats_go (by first | exact fix0 hcx | exact fix1 hcx rfl) fun K hK => ?_; simp only [go_sem, seval]; refine hK _ ?_; clear hK K
  cases h : isData s t with
  | false =>
    rw [h] at hk
    (repeat refine ats_seq ?_); refine ats_go (by first | exact fix0 hcx | exact fix1 hcx rfl) fun K hK => ?_; simp only [go_sem, seval]
    first | refine fcall_free rfl rfl (hk) ?_ | refine YR_intro (acall_free rfl rfl (hk)) ?_
    simp only [go_sem, seval]
    refine hK _ ?_; clear hK K
    (repeat refine ats_seq ?_); refine ats_yes rfl trivial ?_
    (repeat refine ats_seq ?_); refine ats_go (by first | exact fix0 hcx | exact fix1 hcx rfl) fun K hK => ?_; simp only [go_sem, seval]; refine hK _ ?_; clear hK K
    exact ats_ret (own2C (v := .agg [.nil, .nil]) (by simp only [go_sem, seval]) trivial rfl (by simp))
  | true =>
    obtain ⟨hs, hst, hw, c, hc, hT, hR⟩ := isData_some h
    have hJ := conjugation_ok s t hs
    rw [hc] at hJ
    simp only [optA] at hJ
    obtain ⟨lc, hC⟩ := cj_in hc
    obtain ⟨ec, -⟩ := cj_get hc
    rw [← ec]
    have h1 := hs.1
    have h16 := hs.2.1
    have hm := hs.2.2.1
    have ls := hm.1
    have hI := inversesOf_ok t h16 hs.2.2.2
    rw [h] at hk
    (repeat refine ats_seq ?_); refine ats_go (by first | exact fix0 hcx | exact fix1 hcx rfl) fun K hK => ?_; simp only [go_sem, seval]
    first | refine fcall_free rfl rfl (hk) ?_ | refine YR_intro (acall_free rfl rfl (hk)) ?_
    simp only [go_sem, seval]
    refine hK _ ?_; clear hK K
    (repeat refine ats_seq ?_); refine ats_no rfl trivial ?_
    refine ats_skip ?_
    (repeat refine ats_seq ?_); refine ats_go (by first | exact fix0 hcx | exact fix1 hcx rfl) fun K hK => ?_; simp only [go_sem, seval]
    refine fcall_own rfl (hI) rfl ?_; simp only [go_sem, seval]
    refine hK _ ?_; clear hK K
    (repeat refine ats_seq ?_); refine ats_go (by first | exact fix0 hcx | exact fix1 hcx rfl) fun K hK => ?_; simp only [go_sem, seval]
    first | refine fcall_fresh rfl (hJ) ?_ | refine YR_intro (acall_fresh rfl (hJ)) ?_
    simp only [go_sem, seval]
    simp only [lc]
    refine hK _ ?_; clear hK K
    (repeat refine ats_seq ?_)
    refine ats_loop (fun o : Option Nat => match o with
      | none => ⟨[(1, .bptr 0 0), (2, .bptr 1 0), (3, .int 0), (4, .bptr 3 0), (16, .l1 c), (17, .int t.length), (18, .int 0)], [(2, .t1 (ivF t)), (0, .bx [.l2 s, .l1 t]), (1, .bx [.nil, .nil]), (3, .bx [.nil, .ref 2 []])]⟩
      | some i => ⟨[(1, .bptr 0 0), (2, .bptr 1 0), (3, .int 0), (4, .bptr 3 0), (16, .l1 c), (17, .int t.length), (18, .int i)], [(2, .t1 (ivF t)), (0, .bx [.l2 s, .l1 t]), (1, .bx [.nil, .nil]), (3, .bx [.ref 6 [], .ref 2 []]), (6, .t2 (cjM s c i))]⟩) (fun o => match o with
      | none => True
      | some i => 1 ≤ i ∧ i ≤ t.length) (fun o => match o with
      | none => t.length + 1
      | some i => t.length - i) none trivial ⟨by simp only [SlotsLe, St.get, slotGet, Nat.reduceEqDiff, ↓reduceIte, true_and, and_true], rfl⟩ (fun o ho => ?_)
    cases o with
    | none =>
      dsimp only at ho ⊢
      have hC0 := hC 0 (by omega)
      have r0 := hm.row (show (c.getD 0 0).toNat < t.length by omega)
      (repeat refine ats_seq ?_); refine ats_go (by first | exact fix0 hcx | exact fix1 hcx rfl) fun K hK => ?_; simp only [go_sem, seval]; refine hK _ ?_; clear hK K
      (repeat refine ats_seq ?_); first | refine ats_ifn (p := _) rfl trivial (fun hli => ?_) (fun hli => ?_) | refine ats_ifp (p := _) rfl trivial (fun hli => ?_) (fun hli => ?_) | refine ats_cond rfl trivial (fun hli => ?_) (fun hli => ?_)
      · refine ats_skip ?_
        (repeat refine ats_seq ?_); refine ats_block ?_
        (repeat refine ats_seq ?_); refine ats_go (by first | exact fix0 hcx | exact fix1 hcx rfl) fun K hK => ?_; simp only [go_sem, seval]
        simp only [lc]
        (repeat refine And.intro (by first | omega | (intro hq; first | omega | (simp only [decide_eq_false_iff_not, decide_eq_true_eq, Bool.not_eq_false', Bool.not_eq_true', Bool.or_eq_false_iff, Bool.and_eq_true] at hq; omega))) ?_)
        refine hK _ ?_; clear hK K
        (repeat refine ats_seq ?_)
        refine ats_plan [7] (.one 2 (.one 3 (.one 4 (.one 5 (.one 6 (.alt 0 (.alt 1 (.alt 7 (.alt 8 (.alt 9 (.one 10 (.alt 11 .fin .stop)) .stop) .stop) .stop) (.alt 7 (.alt 1 (.alt 8 (.alt 9 (.one 10 (.alt 11 .fin .stop)) .stop) .stop) (.alt 8 (.one 1 (.alt 9 (.one 10 (.alt 11 .fin .stop)) .stop)) .stop)) .stop)) (.alt 7 (.alt 0 (.alt 1 (.alt 8 (.alt 9 (.one 10 (.alt 11 .fin .stop)) .stop) .stop) (.alt 8 (.one 1 (.alt 9 (.one 10 (.alt 11 .fin .stop)) .stop)) .stop)) (.alt 8 (.one 0 (.one 1 (.alt 9 (.one 10 (.alt 11 .fin .stop)) .stop))) .stop)) .stop))))))) ⟨[(1, .bptr 0 0), (2, .bptr 1 0), (3, .int 0), (4, .bptr 3 0), (16, .l1 c), (17, .int t.length), (18, .int 0)], [(2, .t1 (ivF t)), (0, .bx [.l2 s, .l1 t]), (1, .bx [.nil, .nil]), (3, .bx [.ref 6 [], .ref 2 []]), (6, .t2 [s.getD (c.getD 0 0).toNat []])]⟩ (fix0 hcx) mixed (by kernel_rfl) (fun K hK => ?_) ?_
        · simp only [go_sem, seval, pl_fin, pl_stop, pl_one, pl_alt, PK_ap, pickO, List.getElem?_toArray, List.getElem?_cons_zero, List.getElem?_cons_succ, Option.getD_some, and_true, true_and, and_self, List.contains_cons, List.contains_nil, Bool.or_false, Bool.or_true]
          repeat' (first | exact hK _ (by refine And.intro ?_ rfl; simp only [SlotsLe, St.get, slotGet, Nat.reduceEqDiff, ↓reduceIte, AV.int.injEq, AV.bool.injEq, AV.l1.injEq, AV.l2.injEq, AV.l3.injEq, true_and, and_true])  | omega | refine And.intro ?_ ?_ | (refine fcall_own rfl (clone_ok _ (by omega) (by omega)) rfl ?_; simp only [go_sem, seval, pl_fin, pl_stop, pl_one, pl_alt, PK_ap, pickO, List.getElem?_toArray, List.getElem?_cons_zero, List.getElem?_cons_succ, Option.getD_some, and_true, true_and, and_self, List.contains_cons, List.contains_nil, Bool.or_false, Bool.or_true]))
        (repeat refine ats_seq ?_); refine ats_go (by first | exact fix0 hcx | exact fix1 hcx rfl) fun K hK => ?_; simp only [go_sem, seval]; (repeat refine And.intro (by first | omega | (intro hq; first | omega | (simp only [decide_eq_false_iff_not, decide_eq_true_eq, Bool.not_eq_false', Bool.not_eq_true', Bool.or_eq_false_iff, Bool.and_eq_true] at hq; omega))) ?_); refine hK _ ?_; clear hK K
        refine ⟨some 1, ⟨Nat.le_refl _, by omega⟩, by show t.length - 1 < t.length + 1; omega, .inl ⟨?_, rfl⟩⟩
        simp only [SlotsLe, St.get, slotGet, Nat.reduceEqDiff, ↓reduceIte, AV.int.injEq, true_and, and_true]
        omega
      · omega
    | some i =>
      dsimp only at ho ⊢
      have hl := cjM_length (s := s) (c := c) (n := i)
      (repeat refine ats_seq ?_); refine ats_go (by first | exact fix0 hcx | exact fix1 hcx rfl) fun K hK => ?_; simp only [go_sem, seval]; refine hK _ ?_; clear hK K
      (repeat refine ats_seq ?_); first | refine ats_ifn (p := _) rfl trivial (fun hli => ?_) (fun hli => ?_) | refine ats_ifp (p := _) rfl trivial (fun hli => ?_) (fun hli => ?_) | refine ats_cond rfl trivial (fun hli => ?_) (fun hli => ?_)
      · have hC0 := hC i (by omega)
        have r0 := hm.row (show (c.getD i 0).toNat < t.length by omega)
        refine ats_skip ?_
        (repeat refine ats_seq ?_); refine ats_block ?_
        (repeat refine ats_seq ?_); refine ats_go (by first | exact fix0 hcx | exact fix1 hcx rfl) fun K hK => ?_; simp only [go_sem, seval]
        simp only [lc]
        (repeat refine And.intro (by first | omega | (intro hq; first | omega | (simp only [decide_eq_false_iff_not, decide_eq_true_eq, Bool.not_eq_false', Bool.not_eq_true', Bool.or_eq_false_iff, Bool.and_eq_true] at hq; omega))) ?_)
        refine hK _ ?_; clear hK K
        (repeat refine ats_seq ?_)
        refine ats_plan [7] (.one 2 (.one 3 (.one 4 (.one 5 (.one 6 (.alt 0 (.alt 1 (.alt 7 (.alt 8 (.alt 9 (.one 10 (.alt 11 .fin .stop)) .stop) .stop) .stop) (.alt 7 (.alt 1 (.alt 8 (.alt 9 (.one 10 (.alt 11 .fin .stop)) .stop) .stop) (.alt 8 (.one 1 (.alt 9 (.one 10 (.alt 11 .fin .stop)) .stop)) .stop)) .stop)) (.alt 7 (.alt 0 (.alt 1 (.alt 8 (.alt 9 (.one 10 (.alt 11 .fin .stop)) .stop) .stop) (.alt 8 (.one 1 (.alt 9 (.one 10 (.alt 11 .fin .stop)) .stop)) .stop)) (.alt 8 (.one 0 (.one 1 (.alt 9 (.one 10 (.alt 11 .fin .stop)) .stop))) .stop)) .stop))))))) ⟨[(1, .bptr 0 0), (2, .bptr 1 0), (3, .int 0), (4, .bptr 3 0), (16, .l1 c), (17, .int t.length), (18, .int i)], [(2, .t1 (ivF t)), (0, .bx [.l2 s, .l1 t]), (1, .bx [.nil, .nil]), (3, .bx [.ref 6 [], .ref 2 []]), (6, .t2 (cjM s c i ++ [s.getD (c.getD i 0).toNat []]))]⟩ (fix0 hcx) mixed (by kernel_rfl) (fun K hK => ?_) ?_
        · simp only [go_sem, seval, pl_fin, pl_stop, pl_one, pl_alt, PK_ap, pickO, List.getElem?_toArray, List.getElem?_cons_zero, List.getElem?_cons_succ, Option.getD_some, and_true, true_and, and_self, List.contains_cons, List.contains_nil, Bool.or_false, Bool.or_true]
          repeat' (first | exact hK _ (by refine And.intro ?_ rfl; simp only [SlotsLe, St.get, slotGet, Nat.reduceEqDiff, ↓reduceIte, AV.int.injEq, AV.bool.injEq, AV.l1.injEq, AV.l2.injEq, AV.l3.injEq, true_and, and_true])  | omega | refine And.intro ?_ ?_ | (refine fcall_own rfl (clone_ok _ (by omega) (by omega)) rfl ?_; simp only [go_sem, seval, pl_fin, pl_stop, pl_one, pl_alt, PK_ap, pickO, List.getElem?_toArray, List.getElem?_cons_zero, List.getElem?_cons_succ, Option.getD_some, and_true, true_and, and_self, List.contains_cons, List.contains_nil, Bool.or_false, Bool.or_true]) | ((rw [hl]; omega)))
        (repeat refine ats_seq ?_); refine ats_go (by first | exact fix0 hcx | exact fix1 hcx rfl) fun K hK => ?_; simp only [go_sem, seval]; (repeat refine And.intro (by first | omega | (intro hq; first | omega | (simp only [decide_eq_false_iff_not, decide_eq_true_eq, Bool.not_eq_false', Bool.not_eq_true', Bool.or_eq_false_iff, Bool.and_eq_true] at hq; omega))) ?_); refine hK _ ?_; clear hK K
        refine ⟨some (i + 1), ⟨by omega, by omega⟩, by show t.length - (i + 1) < t.length - i; omega, .inl ⟨?_, by simp only [cjM_succ]⟩⟩
        simp only [SlotsLe, St.get, slotGet, Nat.reduceEqDiff, ↓reduceIte, AV.int.injEq, true_and, and_true]
        omega
      · obtain rfl : i = t.length := by omega
        refine ats_exit (lq_x ?_)
        (repeat refine ats_seq ?_); refine ats_go (by first | exact fix0 hcx | exact fix1 hcx rfl) fun K hK => ?_; simp only [go_sem, seval]; refine hK _ ?_; clear hK K
        exact ats_ret (own2C (v := .agg [.ref 6 [], .ref 2 []]) (by simp only [go_sem, seval]) trivial rfl (by simp))
end Go.Proofs.Ytejlokdophogcaa
