import Derived.Test.YtejlokdophogcaaDn
set_option linter.unusedSimpArgs false
set_option linter.unusedVariables false
namespace Go.Proofs.Ytejlokdophogcaa
open Go Go.Aw Go.Pl

theorem pwL_mul : ∀ (k : Nat) {o1 o2 a b : Int}, pwL (o1 * o2 % 55441) (a * b % 55441) k % 55441 = pwL o1 a k * pwL o2 b k % 55441 := by
  intro k
  induction k using Nat.strongRecOn with
  | _ k ih =>
    intro o1 o2 a b
    by_cases h : k = 0
    · subst h
      rw [pwL_zero, pwL_zero, pwL_zero, emd]
    · rw [pwL_step h, pwL_step (out := o1) h, pwL_step (out := o2) h]
      have e1 : a * b % 55441 * (a * b % 55441) % 55441 = a * a % 55441 * (b * b % 55441) % 55441 := by
        rw [← Int.mul_emod, ← Int.mul_emod]
        congr 1
        simp only [Int.mul_assoc, Int.mul_comm, Int.mul_left_comm]
      rw [e1]
      by_cases ho : k % 2 = 1
      · rw [if_pos ho, if_pos ho, if_pos ho]
        have e2 : o1 * o2 % 55441 * (a * b % 55441) % 55441 = o1 * a % 55441 * (o2 * b % 55441) % 55441 := by
          rw [← Int.mul_emod, ← Int.mul_emod]
          congr 1
          simp only [Int.mul_assoc, Int.mul_comm, Int.mul_left_comm]
        rw [e2]
        exact ih (k / 2) (by omega)
      · rw [if_neg ho, if_neg ho, if_neg ho]
        exact ih (k / 2) (by omega)
theorem inv_mul (x y : Int) : inv (x * y % 55441) % 55441 = inv x * inv y % 55441 := by
  have h := pwL_mul 55439 (o1 := 1) (o2 := 1) (a := x) (b := y)
  have e : (1 * 1 % 55441 : Int) = 1 := by decide
  rw [e] at h
  exact h
theorem mon_eq (e x y : Int) : e * inv (x * y % 55441) % 55441 = e * inv x % 55441 * inv y % 55441 := by
  rw [mul_md, Int.mul_assoc]
  exact cgm rfl (inv_mul x y)

noncomputable def monA (s : List (List Int)) (t : List Int) (a b : Int) : Int × Int := if isData s t then (if inC t a && inC t b then (e2 s a.toNat b.toNat * inv (e2 s 0 a.toNat) % 55441 * inv (e2 s 0 b.toNat) % 55441, 0) else (0, 2)) else (0, 1)
theorem specMon_ok (s : List (List Int)) (t : List Int) (a b : Int) : PureCall Try.prog 26 [.agg [.l2 s, .l1 t], .int a, .int b] (.tup [.int (monA s t a b).1, .int (monA s t a b).2]) := by
  have hk := l12Charge_ok s t a
  have hi : PureCall Try.prog 67 [.int b, .int 0, .int ((t.length : Int) - 1)] (.bool (inC t b)) := l01In_ok b 0 ((t.length : Int) - 1)
  unfold chg at hk
  unfold monA
  refine PureCall.intro (n := 54) (rs := [.tmp 6, .tmp 7]) Try.call26 Try.func26 rfl rfl rfl (by simp only [List.length_cons, List.length_nil]; omega) (fun cx hcx => ats_of ?_); simp only [argSlots, Nat.zero_add, Nat.reduceAdd]
  (repeat refine ats_seq ?_); refine ats_go (by first | exact fix0 hcx | exact fix1 hcx rfl) fun K hK => ?_; simp only [go_sem, seval]; refine hK _ ?_; clear hK K
  cases h : isData s t with
  | false =>
    rw [h] at hk
    simp only [Bool.false_eq_true, if_false] at hk
    (repeat refine ats_seq ?_); refine ats_go (by first | exact fix0 hcx | exact fix1 hcx rfl) fun K hK => ?_; simp only [go_sem, seval]
    first | refine fcall_free rfl rfl (hk) ?_ | refine YR_intro (acall_free rfl rfl (hk)) ?_
    simp only [go_sem, seval]
    refine hK _ ?_; clear hK K
    (repeat refine ats_seq ?_); refine ats_go (by first | exact fix0 hcx | exact fix1 hcx rfl) fun K hK => ?_; simp only [go_sem, seval]
    refine And.intro (fun hq => absurd hq (by decide)) ?_
    refine YR_intro (v := .bool false) (by first | trivial | (intro h; cases h)) ?_
    simp only [go_sem, seval]
    refine hK _ ?_; clear hK K
    (repeat refine ats_seq ?_); refine ats_no rfl trivial ?_
    refine ats_skip ?_
    (repeat refine ats_seq ?_); refine ats_go (by first | exact fix0 hcx | exact fix1 hcx rfl) fun K hK => ?_; simp only [go_sem, seval]; refine hK _ ?_; clear hK K
    (repeat refine ats_seq ?_); refine ats_yes rfl trivial ?_
    (repeat refine ats_seq ?_); refine ats_go (by first | exact fix0 hcx | exact fix1 hcx rfl) fun K hK => ?_; simp only [go_sem, seval]; refine hK _ ?_; clear hK K
    exact ats_ret (fin2 trivial trivial rfl)
  | true =>
    have hs := (isData_some h).1
    have h16 := hs.2.1
    have h1 := hs.1
    have hm := hs.2.2.1
    have ls := hm.1
    have r0 := hm.row (show 0 < t.length by omega)
    rw [h] at hk
    simp only [if_true] at hk
    cases ha : inC t a with
    | false =>
      rw [ha] at hk
      simp only [Bool.false_eq_true, if_false] at hk
      (repeat refine ats_seq ?_); refine ats_go (by first | exact fix0 hcx | exact fix1 hcx rfl) fun K hK => ?_; simp only [go_sem, seval]
      first | refine fcall_free rfl rfl (hk) ?_ | refine YR_intro (acall_free rfl rfl (hk)) ?_
      simp only [go_sem, seval]
      refine hK _ ?_; clear hK K
      (repeat refine ats_seq ?_); refine ats_go (by first | exact fix0 hcx | exact fix1 hcx rfl) fun K hK => ?_; simp only [go_sem, seval]
      refine And.intro (fun hq => absurd hq (by decide)) ?_
      refine YR_intro (v := .bool false) (by first | trivial | (intro h; cases h)) ?_
      simp only [go_sem, seval]
      refine hK _ ?_; clear hK K
      (repeat refine ats_seq ?_); refine ats_no rfl trivial ?_
      refine ats_skip ?_
      (repeat refine ats_seq ?_); refine ats_go (by first | exact fix0 hcx | exact fix1 hcx rfl) fun K hK => ?_; simp only [go_sem, seval]; refine hK _ ?_; clear hK K
      (repeat refine ats_seq ?_); refine ats_yes rfl trivial ?_
      (repeat refine ats_seq ?_); refine ats_go (by first | exact fix0 hcx | exact fix1 hcx rfl) fun K hK => ?_; simp only [go_sem, seval]; refine hK _ ?_; clear hK K
      exact ats_ret (fin2 trivial trivial rfl)
    | true =>
      have hai := inC_true ha
      rw [ha] at hk
      simp only [if_true] at hk
      (repeat refine ats_seq ?_); refine ats_go (by first | exact fix0 hcx | exact fix1 hcx rfl) fun K hK => ?_; simp only [go_sem, seval]
      first | refine fcall_free rfl rfl (hk) ?_ | refine YR_intro (acall_free rfl rfl (hk)) ?_
      simp only [go_sem, seval]
      refine hK _ ?_; clear hK K
      (repeat refine ats_seq ?_); refine ats_go (by first | exact fix0 hcx | exact fix1 hcx rfl) fun K hK => ?_; simp only [go_sem, seval]
      (repeat refine And.intro (by first | omega | (intro hq; first | omega | (simp only [decide_eq_false_iff_not, decide_eq_true_eq, Bool.not_eq_false', Bool.not_eq_true', Bool.or_eq_false_iff, Bool.and_eq_true] at hq; omega))) ?_)
      first | refine YR_intro (fun _ => acall_free rfl rfl (hi)) ?_ | refine YR_intro (acall_free rfl rfl (hi)) ?_
      simp only [go_sem, seval]
      refine hK _ ?_; clear hK K
      cases hb : inC t b with
      | false =>
        (repeat refine ats_seq ?_); refine ats_yes rfl trivial ?_
        (repeat refine ats_seq ?_); refine ats_go (by first | exact fix0 hcx | exact fix1 hcx rfl) fun K hK => ?_; simp only [go_sem, seval]; refine hK _ ?_; clear hK K
        (repeat refine ats_seq ?_); refine ats_go (by first | exact fix0 hcx | exact fix1 hcx rfl) fun K hK => ?_; simp only [go_sem, seval]; refine hK _ ?_; clear hK K
        (repeat refine ats_seq ?_); refine ats_yes rfl trivial ?_
        (repeat refine ats_seq ?_); refine ats_go (by first | exact fix0 hcx | exact fix1 hcx rfl) fun K hK => ?_; simp only [go_sem, seval]; refine hK _ ?_; clear hK K
        exact ats_ret (fin2 trivial trivial rfl)
      | true =>
        have hbi := inC_true hb
        have ra := hm.row (show a.toNat < t.length by omega)
        have p0 := hm.inP (show 0 < t.length by omega) (show a.toNat < t.length by omega)
        have p1 := hm.inP (show 0 < t.length by omega) (show b.toNat < t.length by omega)
        have pe := hm.inP (show a.toNat < t.length by omega) (show b.toNat < t.length by omega)
        have m1 := mulP pe (inv_InP p0)
        have m2 := mulP (inP_md (e2 s a.toNat b.toNat * inv (e2 s 0 a.toNat))) (inv_InP p1)
        have i0 := l01Inv_ok _ p0
        have i1 := l01Inv_ok _ p1
        simp only [e2] at m1 m2 i0 i1
        (repeat refine ats_seq ?_); refine ats_no rfl trivial ?_
        refine ats_skip ?_
        (repeat refine ats_seq ?_); refine ats_go (by first | exact fix0 hcx | exact fix1 hcx rfl) fun K hK => ?_; simp only [go_sem, seval]; refine hK _ ?_; clear hK K
        (repeat refine ats_seq ?_); refine ats_no rfl trivial ?_
        refine ats_skip ?_
        (repeat refine ats_seq ?_); refine ats_pick (fix0 hcx) mixed (by kernel_rfl) fun K hK => ?_; simp only [go_sem, seval]
        (repeat refine And.intro (by first | omega | (intro hq; first | omega | (simp only [decide_eq_false_iff_not, decide_eq_true_eq, Bool.not_eq_false', Bool.not_eq_true', Bool.or_eq_false_iff, Bool.and_eq_true] at hq; omega))) ?_)
        first | refine fcall_data (i0) rfl ?_ | refine YR_intro (acall_data (i0) rfl) ?_
        simp only [go_sem, seval]
        try simp (disch := omega) only [tmP, tdP]
        (repeat refine And.intro (by first | omega | (intro hq; first | omega | (simp only [decide_eq_false_iff_not, decide_eq_true_eq, Bool.not_eq_false', Bool.not_eq_true', Bool.or_eq_false_iff, Bool.and_eq_true] at hq; omega))) ?_)
        first | refine fcall_data (i1) rfl ?_ | refine YR_intro (acall_data (i1) rfl) ?_
        simp only [go_sem, seval]
        try simp (disch := omega) only [tmP, tdP]
        (repeat refine And.intro (by first | omega | (intro hq; first | omega | (simp only [decide_eq_false_iff_not, decide_eq_true_eq, Bool.not_eq_false', Bool.not_eq_true', Bool.or_eq_false_iff, Bool.and_eq_true] at hq; omega))) ?_)
        refine hK _ ?_; clear hK K
        exact ats_ret (fin2 trivial trivial rfl)
theorem implMon_ok (s : List (List Int)) (t : List Int) (a b : Int) : PureCall Try.prog 27 [.agg [.l2 s, .l1 t], .int a, .int b] (.tup [.int (monA s t a b).1, .int (monA s t a b).2]) := by
  have hk := IsData_ok s t
  unfold monA
  refine PureCall.intro (n := 46) (rs := [.tmp 6, .tmp 7]) Try.call27 Try.func27 rfl rfl rfl (by simp only [List.length_cons, List.length_nil]; omega) (fun cx hcx => ats_of ?_); simp only [argSlots, Nat.zero_add, Nat.reduceAdd]
  (repeat refine ats_seq ?_); refine ats_go (by first | exact fix0 hcx | exact fix1 hcx rfl) fun K hK => ?_; simp only [go_sem, seval]; refine hK _ ?_; clear hK K
  cases h : isData s t with
  | false =>
    rw [h] at hk
    (repeat refine ats_seq ?_); refine ats_go (by first | exact fix0 hcx | exact fix1 hcx rfl) fun K hK => ?_; simp only [go_sem, seval]
    first | refine fcall_free rfl rfl (hk) ?_ | refine YR_intro (acall_free rfl rfl (hk)) ?_
    simp only [go_sem, seval]
    refine hK _ ?_; clear hK K
    (repeat refine ats_seq ?_); refine ats_yes rfl trivial ?_
    (repeat refine ats_seq ?_); refine ats_go (by first | exact fix0 hcx | exact fix1 hcx rfl) fun K hK => ?_; simp only [go_sem, seval]; refine hK _ ?_; clear hK K
    exact ats_ret (fin2 trivial trivial rfl)
  | true =>
    have hs := (isData_some h).1
    have h16 := hs.2.1
    have h1 := hs.1
    have hm := hs.2.2.1
    have ls := hm.1
    have r0 := hm.row (show 0 < t.length by omega)
    have ca := isCharge_ok s t a hs
    have cb := isCharge_ok s t b hs
    rw [h] at hk
    (repeat refine ats_seq ?_); refine ats_go (by first | exact fix0 hcx | exact fix1 hcx rfl) fun K hK => ?_; simp only [go_sem, seval]
    first | refine fcall_free rfl rfl (hk) ?_ | refine YR_intro (acall_free rfl rfl (hk)) ?_
    simp only [go_sem, seval]
    refine hK _ ?_; clear hK K
    (repeat refine ats_seq ?_); refine ats_no rfl trivial ?_
    refine ats_skip ?_
    cases ha : inC t a with
    | false =>
      rw [ha] at ca
      (repeat refine ats_seq ?_); refine ats_go (by first | exact fix0 hcx | exact fix1 hcx rfl) fun K hK => ?_; simp only [go_sem, seval]
      first | refine fcall_free rfl rfl (ca) ?_ | refine YR_intro (acall_free rfl rfl (ca)) ?_
      simp only [go_sem, seval]
      refine YR_intro (v := .bool false) (by first | trivial | (intro h; cases h)) ?_
      simp only [go_sem, seval]
      refine hK _ ?_; clear hK K
      (repeat refine ats_seq ?_); refine ats_yes rfl trivial ?_
      (repeat refine ats_seq ?_); refine ats_go (by first | exact fix0 hcx | exact fix1 hcx rfl) fun K hK => ?_; simp only [go_sem, seval]; refine hK _ ?_; clear hK K
      exact ats_ret (fin2 trivial trivial rfl)
    | true =>
      have hai := inC_true ha
      rw [ha] at ca
      (repeat refine ats_seq ?_); refine ats_go (by first | exact fix0 hcx | exact fix1 hcx rfl) fun K hK => ?_; simp only [go_sem, seval]
      first | refine fcall_free rfl rfl (ca) ?_ | refine YR_intro (acall_free rfl rfl (ca)) ?_
      simp only [go_sem, seval]
      first | refine YR_intro (fun _ => acall_free rfl rfl (cb)) ?_ | refine YR_intro (acall_free rfl rfl (cb)) ?_
      simp only [go_sem, seval]
      refine hK _ ?_; clear hK K
      cases hb : inC t b with
      | false =>
        (repeat refine ats_seq ?_); refine ats_yes rfl trivial ?_
        (repeat refine ats_seq ?_); refine ats_go (by first | exact fix0 hcx | exact fix1 hcx rfl) fun K hK => ?_; simp only [go_sem, seval]; refine hK _ ?_; clear hK K
        exact ats_ret (fin2 trivial trivial rfl)
      | true =>
        have hbi := inC_true hb
        have ra := hm.row (show a.toNat < t.length by omega)
        have p0 := hm.inP (show 0 < t.length by omega) (show a.toNat < t.length by omega)
        have p1 := hm.inP (show 0 < t.length by omega) (show b.toNat < t.length by omega)
        have pe := hm.inP (show a.toNat < t.length by omega) (show b.toNat < t.length by omega)
        have m1 := mulP p0 p1
        have hd := divide_ok (e2 s a.toNat b.toNat) (e2 s 0 a.toNat * e2 s 0 b.toNat % 55441) pe (inP_md _)
        rw [mon_eq] at hd
        simp only [e2] at m1 hd
        (repeat refine ats_seq ?_); refine ats_no rfl trivial ?_
        refine ats_skip ?_
        (repeat refine ats_seq ?_); refine ats_pick (fix0 hcx) mixed (by kernel_rfl) fun K hK => ?_; simp only [go_sem, seval]
        try simp (disch := omega) only [tmP, tdP]
        (repeat refine And.intro (by first | omega | (intro hq; first | omega | (simp only [decide_eq_false_iff_not, decide_eq_true_eq, Bool.not_eq_false', Bool.not_eq_true', Bool.or_eq_false_iff, Bool.and_eq_true] at hq; omega))) ?_)
        first | refine fcall_data (hd) rfl ?_ | refine YR_intro (acall_data (hd) rfl) ?_
        simp only [go_sem, seval]
        refine hK _ ?_; clear hK K
        exact ats_ret (fin2 trivial trivial rfl)
end Go.Proofs.Ytejlokdophogcaa
