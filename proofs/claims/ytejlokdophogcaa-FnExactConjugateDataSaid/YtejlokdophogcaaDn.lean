import Derived.Test.YtejlokdophogcaaDm
set_option linter.unusedSimpArgs false
set_option linter.unusedVariables false
namespace Go.Proofs.Ytejlokdophogcaa
open Go Go.Aw Go.Pl

def inC (t : List Int) (a : Int) : Bool := decide (0 ≤ a) && decide (a ≤ (t.length : Int) - 1)
noncomputable def chg (s : List (List Int)) (t : List Int) (a : Int) : Int := if isData s t then (if inC t a then 0 else 2) else 1
theorem inC_true {t : List Int} {a : Int} (h : inC t a = true) : 0 ≤ a ∧ a < t.length := by
  simp only [inC, Bool.and_eq_true, decide_eq_true_eq] at h
  omega
theorem l12Charge_ok (s : List (List Int)) (t : List Int) (a : Int) : PureCall Try.prog 66 [.agg [.l2 s, .l1 t], .int a] (.int (chg s t a)) := by
  have hk := l12Is_ok s t
  have hi := l01In_ok a 0 ((t.length : Int) - 1)
  unfold chg
  refine PureCall.intro (n := 17) (rs := [.tmp 4]) Try.call66 Try.func66 rfl rfl rfl (by simp only [List.length_cons, List.length_nil]; omega) (fun cx hcx => ats_of ?_); simp only [argSlots, Nat.zero_add, Nat.reduceAdd]
  (repeat refine ats_seq ?_); refine ats_go (by first | exact fix0 hcx | exact fix1 hcx rfl) fun K hK => ?_; simp only [go_sem, seval]; refine hK _ ?_; clear hK K
  (repeat refine ats_seq ?_); refine ats_block ?_
  cases h : isData s t with
  | false =>
    rw [h] at hk
    (repeat refine ats_seq ?_); refine ats_go (by first | exact fix0 hcx | exact fix1 hcx rfl) fun K hK => ?_; simp only [go_sem, seval]
    first | refine fcall_free rfl rfl (hk) ?_ | refine YR_intro (acall_free rfl rfl (hk)) ?_
    simp only [go_sem, seval]
    refine hK _ ?_; clear hK K
    (repeat refine ats_seq ?_); refine ats_yes rfl trivial ?_
    (repeat refine ats_seq ?_); refine ats_go (by first | exact fix0 hcx | exact fix1 hcx rfl) fun K hK => ?_; simp only [go_sem, seval]; refine hK _ ?_; clear hK K
    refine ats_ret (finI rfl ?_)
    rfl
  | true =>
    have hs := (isData_some h).1
    have h16 := hs.2.1
    rw [h] at hk
    (repeat refine ats_seq ?_); refine ats_go (by first | exact fix0 hcx | exact fix1 hcx rfl) fun K hK => ?_; simp only [go_sem, seval]
    first | refine fcall_free rfl rfl (hk) ?_ | refine YR_intro (acall_free rfl rfl (hk)) ?_
    simp only [go_sem, seval]
    refine hK _ ?_; clear hK K
    (repeat refine ats_seq ?_); refine ats_no rfl trivial ?_
    cases h2 : inC t a with
    | true =>
      have h2' := h2
      unfold inC at h2'
      rw [h2'] at hi
      (repeat refine ats_seq ?_); refine ats_go (by first | exact fix0 hcx | exact fix1 hcx rfl) fun K hK => ?_; simp only [go_sem, seval]
      (repeat refine And.intro (by first | omega | (intro hq; first | omega | (simp only [decide_eq_false_iff_not, decide_eq_true_eq, Bool.not_eq_false', Bool.not_eq_true', Bool.or_eq_false_iff, Bool.and_eq_true] at hq; omega))) ?_)
      first | refine fcall_free rfl rfl (hi) ?_ | refine YR_intro (acall_free rfl rfl (hi)) ?_
      simp only [go_sem, seval]
      refine hK _ ?_; clear hK K
      (repeat refine ats_seq ?_); refine ats_no rfl trivial ?_
      refine ats_skip ?_
      (repeat refine ats_seq ?_); refine ats_go (by first | exact fix0 hcx | exact fix1 hcx rfl) fun K hK => ?_; simp only [go_sem, seval]; refine hK _ ?_; clear hK K
      refine ats_ret (finI rfl ?_)
      rfl
    | false =>
      have h2' := h2
      unfold inC at h2'
      rw [h2'] at hi
      (repeat refine ats_seq ?_); refine ats_go (by first | exact fix0 hcx | exact fix1 hcx rfl) fun K hK => ?_; simp only [go_sem, seval]
      (repeat refine And.intro (by first | omega | (intro hq; first | omega | (simp only [decide_eq_false_iff_not, decide_eq_true_eq, Bool.not_eq_false', Bool.not_eq_true', Bool.or_eq_false_iff, Bool.and_eq_true] at hq; omega))) ?_)
      first | refine fcall_free rfl rfl (hi) ?_ | refine YR_intro (acall_free rfl rfl (hi)) ?_
      simp only [go_sem, seval]
      refine hK _ ?_; clear hK K
      (repeat refine ats_seq ?_); refine ats_yes rfl trivial ?_
      (repeat refine ats_seq ?_); refine ats_go (by first | exact fix0 hcx | exact fix1 hcx rfl) fun K hK => ?_; simp only [go_sem, seval]; refine hK _ ?_; clear hK K
      refine ats_ret (finI rfl ?_)
      rfl
theorem isCharge_ok (s : List (List Int)) (t : List Int) (a : Int) (hs : Shape s t) : PureCall Try.prog 68 [.agg [.l2 s, .l1 t], .int a] (.bool (inC t a)) := by
  have h16 := hs.2.1
  have ls := hs.2.2.1.1
  have hi := within_ok a 0 ((s.length : Int) - 1)
  refine PureCall.intro (n := 11) (rs := [.tmp 4]) Try.call68 Try.func68 rfl rfl rfl (by simp only [List.length_cons, List.length_nil]; omega) (fun cx hcx => ats_of ?_); simp only [argSlots, Nat.zero_add, Nat.reduceAdd]
  (repeat refine ats_seq ?_); refine ats_go (by first | exact fix0 hcx | exact fix1 hcx rfl) fun K hK => ?_; simp only [go_sem, seval]; refine hK _ ?_; clear hK K
  (repeat refine ats_seq ?_); refine ats_go (by first | exact fix0 hcx | exact fix1 hcx rfl) fun K hK => ?_; simp only [go_sem, seval]
  (repeat refine And.intro (by first | omega | (intro hq; first | omega | (simp only [decide_eq_false_iff_not, decide_eq_true_eq, Bool.not_eq_false', Bool.not_eq_true', Bool.or_eq_false_iff, Bool.and_eq_true] at hq; omega))) ?_)
  first | refine fcall_free rfl rfl (hi) ?_ | refine YR_intro (acall_free rfl rfl (hi)) ?_
  simp only [go_sem, seval]
  refine hK _ ?_; clear hK K
  refine ats_ret (finB rfl ?_)
  unfold inC
  rw [ls]

noncomputable def gsA (s : List (List Int)) (t : List Int) (g : Int) : Int × Int := if isData s t then (if g = 1 then (gaussD s t t.length, 0) else if g = -1 then (gaussD s (ivF t) t.length, 0) else (0, 2)) else (0, 1)
theorem specGauss_ok (s : List (List Int)) (t : List Int) (g : Int) : PureCall Try.prog 28 [.agg [.l2 s, .l1 t], .int g] (.tup [.int (gsA s t g).1, .int (gsA s t g).2]) := by
  have hk := l12Is_ok s t
  unfold gsA
  refine PureCall.intro (n := 25) (rs := [.tmp 4, .tmp 5]) Try.call28 Try.func28 rfl rfl rfl (by simp only [List.length_cons, List.length_nil]; omega) (fun cx hcx => ats_of ?_); simp only [argSlots, Nat.zero_add, Nat.reduceAdd]
  (repeat refine ats_seq ?_); refine ats_go (by first | exact fix0 hcx | exact fix1 hcx rfl) fun K hK => ?_; simp only [go_sem, seval]; refine hK _ ?_; clear hK K
  (repeat refine ats_seq ?_); refine ats_block ?_
  cases h : isData s t with
  | false =>
    rw [h] at hk
    (repeat refine ats_seq ?_); refine ats_go (by first | exact fix0 hcx | exact fix1 hcx rfl) fun K hK => ?_; simp only [go_sem, seval]
    first | refine fcall_free rfl rfl (hk) ?_ | refine YR_intro (acall_free rfl rfl (hk)) ?_
    simp only [go_sem, seval]
    refine hK _ ?_; clear hK K
    (repeat refine ats_seq ?_); refine ats_yes rfl trivial ?_
    (repeat refine ats_seq ?_); refine ats_go (by first | exact fix0 hcx | exact fix1 hcx rfl) fun K hK => ?_; simp only [go_sem, seval]; refine hK _ ?_; clear hK K
    exact ats_ret (fin2 trivial trivial rfl)
  | true =>
    have hs := (isData_some h).1
    have h16 := hs.2.1
    have ht := hs.2.2.2
    have hI := l12Inverses_ok t h16 ht
    have g1 := l12Gauss_ok s t t hs rfl ht
    have g2 := l12Gauss_ok s t (ivF t) hs (ivF_length t) (fun i hi => by rw [ivF_get hi]; exact inP_md _)
    rw [h] at hk
    (repeat refine ats_seq ?_); refine ats_go (by first | exact fix0 hcx | exact fix1 hcx rfl) fun K hK => ?_; simp only [go_sem, seval]
    first | refine fcall_free rfl rfl (hk) ?_ | refine YR_intro (acall_free rfl rfl (hk)) ?_
    simp only [go_sem, seval]
    refine hK _ ?_; clear hK K
    (repeat refine ats_seq ?_); refine ats_no rfl trivial ?_
    (repeat refine ats_seq ?_); refine ats_go (by first | exact fix0 hcx | exact fix1 hcx rfl) fun K hK => ?_; simp only [go_sem, seval]; refine hK _ ?_; clear hK K
    (repeat refine ats_seq ?_); first | refine ats_ifn (p := _) rfl trivial (fun h1 => ?_) (fun h1 => ?_) | refine ats_ifp (p := _) rfl trivial (fun h1 => ?_) (fun h1 => ?_) | refine ats_cond rfl trivial (fun h1 => ?_) (fun h1 => ?_)
    · (repeat refine ats_seq ?_); refine ats_go (by first | exact fix0 hcx | exact fix1 hcx rfl) fun K hK => ?_; simp only [go_sem, seval]
      first | refine fcall_free rfl rfl (g1) ?_ | refine YR_intro (acall_free rfl rfl (g1)) ?_
      simp only [go_sem, seval]
      refine hK _ ?_; clear hK K
      exact ats_ret (fin2 trivial trivial (by rw [if_pos h1]; rfl))
    · (repeat refine ats_seq ?_); refine ats_go (by first | exact fix0 hcx | exact fix1 hcx rfl) fun K hK => ?_; simp only [go_sem, seval]; refine hK _ ?_; clear hK K
      (repeat refine ats_seq ?_); first | refine ats_ifn (p := _) rfl trivial (fun h2 => ?_) (fun h2 => ?_) | refine ats_ifp (p := _) rfl trivial (fun h2 => ?_) (fun h2 => ?_) | refine ats_cond rfl trivial (fun h2 => ?_) (fun h2 => ?_)
      · (repeat refine ats_seq ?_); refine ats_pick (fix0 hcx) mixed (by kernel_rfl) fun K hK => ?_; simp only [go_sem, seval]
        first | refine fcall_fresh rfl (hI) ?_ | refine YR_intro (acall_fresh rfl (hI)) ?_
        simp only [go_sem, seval]
        first | refine fcall_free rfl rfl (g2) ?_ | refine YR_intro (acall_free rfl rfl (g2)) ?_
        simp only [go_sem, seval]
        refine hK _ ?_; clear hK K
        exact ats_ret (fin2 trivial trivial (by rw [if_neg h1, if_pos h2]; rfl))
      · refine ats_skip ?_
        (repeat refine ats_seq ?_); refine ats_go (by first | exact fix0 hcx | exact fix1 hcx rfl) fun K hK => ?_; simp only [go_sem, seval]; refine hK _ ?_; clear hK K
        exact ats_ret (fin2 trivial trivial (by rw [if_neg h1, if_neg h2]; rfl))
theorem implGauss_ok (s : List (List Int)) (t : List Int) (g : Int) : PureCall Try.prog 29 [.agg [.l2 s, .l1 t], .int g] (.tup [.int (gsA s t g).1, .int (gsA s t g).2]) := by
  have hk := IsData_ok s t
  unfold gsA
  refine PureCall.intro (n := 23) (rs := [.tmp 4, .tmp 5]) Try.call29 Try.func29 rfl rfl rfl (by simp only [List.length_cons, List.length_nil]; omega) (fun cx hcx => ats_of ?_); simp only [argSlots, Nat.zero_add, Nat.reduceAdd]
  (repeat refine ats_seq ?_); refine ats_go (by first | exact fix0 hcx | exact fix1 hcx rfl) fun K hK => ?_; simp only [go_sem, seval]; refine hK _ ?_; clear hK K
  cases h : isData s t with
  | false =>
    rw [h] at hk
    (repeat refine ats_seq ?_); refine ats_go (by first | exact fix0 hcx | exact fix1 hcx rfl) fun K hK => ?_; simp only [go_sem, seval]
    first | refine fcall_free rfl rfl (hk) ?_ | refine YR_intro (acall_free rfl rfl (hk)) ?_
    simp only [go_sem, seval]
    refine hK _ ?_; clear hK K
    (repeat refine ats_seq ?_); refine ats_yes rfl trivial ?_
    (repeat refine ats_seq ?_); refine ats_go (by first | exact fix0 hcx | exact fix1 hcx rfl) fun K hK => ?_; simp only [go_sem, seval]; refine hK _ ?_; clear hK K
    exact ats_ret (fin2 trivial trivial rfl)
  | true =>
    have hs := (isData_some h).1
    have h16 := hs.2.1
    have ht := hs.2.2.2
    have hI := inversesOf_ok t h16 ht
    have g1 := gauss_ok s t t hs rfl ht
    have g2 := gauss_ok s t (ivF t) hs (ivF_length t) (fun i hi => by rw [ivF_get hi]; exact inP_md _)
    rw [h] at hk
    (repeat refine ats_seq ?_); refine ats_go (by first | exact fix0 hcx | exact fix1 hcx rfl) fun K hK => ?_; simp only [go_sem, seval]
    first | refine fcall_free rfl rfl (hk) ?_ | refine YR_intro (acall_free rfl rfl (hk)) ?_
    simp only [go_sem, seval]
    refine hK _ ?_; clear hK K
    (repeat refine ats_seq ?_); refine ats_no rfl trivial ?_
    refine ats_skip ?_
    (repeat refine ats_seq ?_); refine ats_go (by first | exact fix0 hcx | exact fix1 hcx rfl) fun K hK => ?_; simp only [go_sem, seval]; refine hK _ ?_; clear hK K
    (repeat refine ats_seq ?_); refine ats_block ?_
    (repeat refine ats_seq ?_); refine ats_go (by first | exact fix0 hcx | exact fix1 hcx rfl) fun K hK => ?_; simp only [go_sem, seval]; refine hK _ ?_; clear hK K
    (repeat refine ats_seq ?_); first | refine ats_ifn (p := _) rfl trivial (fun h1 => ?_) (fun h1 => ?_) | refine ats_ifp (p := _) rfl trivial (fun h1 => ?_) (fun h1 => ?_) | refine ats_cond rfl trivial (fun h1 => ?_) (fun h1 => ?_)
    · (repeat refine ats_seq ?_); refine ats_go (by first | exact fix0 hcx | exact fix1 hcx rfl) fun K hK => ?_; simp only [go_sem, seval]
      first | refine fcall_free rfl rfl (g1) ?_ | refine YR_intro (acall_free rfl rfl (g1)) ?_
      simp only [go_sem, seval]
      refine hK _ ?_; clear hK K
      exact ats_ret (fin2 trivial trivial (by rw [if_pos h1]; rfl))
    · (repeat refine ats_seq ?_); refine ats_go (by first | exact fix0 hcx | exact fix1 hcx rfl) fun K hK => ?_; simp only [go_sem, seval]; refine hK _ ?_; clear hK K
      (repeat refine ats_seq ?_); first | refine ats_ifn (p := _) rfl trivial (fun h2 => ?_) (fun h2 => ?_) | refine ats_ifp (p := _) rfl trivial (fun h2 => ?_) (fun h2 => ?_) | refine ats_cond rfl trivial (fun h2 => ?_) (fun h2 => ?_)
      · (repeat refine ats_seq ?_); refine ats_pick (fix0 hcx) mixed (by kernel_rfl) fun K hK => ?_; simp only [go_sem, seval]
        first | refine fcall_fresh rfl (hI) ?_ | refine YR_intro (acall_fresh rfl (hI)) ?_
        simp only [go_sem, seval]
        first | refine fcall_free rfl rfl (g2) ?_ | refine YR_intro (acall_free rfl rfl (g2)) ?_
        simp only [go_sem, seval]
        refine hK _ ?_; clear hK K
        exact ats_ret (fin2 trivial trivial (by rw [if_neg h1, if_pos h2]; rfl))
      · refine ats_skip ?_
        (repeat refine ats_seq ?_); refine ats_go (by first | exact fix0 hcx | exact fix1 hcx rfl) fun K hK => ?_; simp only [go_sem, seval]; refine hK _ ?_; clear hK K
        exact ats_ret (fin2 trivial trivial (by rw [if_neg h1, if_neg h2]; rfl))
end Go.Proofs.Ytejlokdophogcaa
