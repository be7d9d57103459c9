import Derived.Test.YtafkbnicffieeaaDo
import Derived.Test.YtafkbnicffieeaaPlL
set_option linter.unusedSimpArgs false
set_option linter.unusedVariables false
namespace Go.Proofs.Ytafkbnicffieeaa
open Go Go.Aw Go.Pl

theorem l15Raise_ok (a k : Int) (ha : InP a) (h1 : -1000000 ≤ k) (h2 : k ≤ 1000000) : PureCall Try.prog 102 [.int a, .int k] (.int (rs a k)) := by
  by_cases hk : k < 0
  · have e : (0 - k : Int) = ((-k).toNat : Int) := by omega
    have hp : PureCall Try.prog 147 [.int (inv a), .int (0 - k)] (.int (rs a k)) := by rw [e, ← rs_neg' hk]; exact l01Pow_ok _ _ (inv_InP ha) (by omega)
    refine PureCall.intro (n := 15) (rs := [.tmp 4]) Try.call102 Try.func102 rfl rfl rfl (by simp only [List.length_cons, List.length_nil]; omega) (fun cx hcx => ats_of ?_); simp only [argSlots, Nat.zero_add, Nat.reduceAdd]
    (repeat refine ats_seq ?_); refine ats_go (by first | exact fix0 hcx | exact fix1 hcx rfl) fun K hK => ?_; simp only [go_sem, seval]; refine hK _ ?_; clear hK K
    (repeat refine ats_seq ?_); refine ats_go (by first | exact fix0 hcx | exact fix1 hcx rfl) fun K hK => ?_; simp only [go_sem, seval]; refine hK _ ?_; clear hK K
    (repeat refine ats_seq ?_); first | refine ats_ifn (p := _) rfl trivial (fun hc => ?_) (fun hc => ?_) | refine ats_ifp (p := _) rfl trivial (fun hc => ?_) (fun hc => ?_) | refine ats_cond rfl trivial (fun hc => ?_) (fun hc => ?_)
    · (repeat refine ats_seq ?_); refine ats_go (by first | exact fix0 hcx | exact fix1 hcx rfl) fun K hK => ?_; simp only [go_sem, seval]
      first | refine fcall_free rfl rfl (l01Inv_ok a ha) ?_ | refine YR_intro (acall_free rfl rfl (l01Inv_ok a ha)) ?_
      simp only [go_sem, seval]
      (repeat refine And.intro (by first | omega | (intro hq; first | omega | (simp at hq <;> omega) | (simp_all <;> omega))) ?_)
      first | refine fcall_free rfl rfl (hp) ?_ | refine YR_intro (acall_free rfl rfl (hp)) ?_
      simp only [go_sem, seval]
      refine hK _ ?_; clear hK K
      refine ats_ret (finI rfl ?_)
      rfl
    · omega
  · have e : k = (k.toNat : Int) := by omega
    have hp : PureCall Try.prog 147 [.int a, .int k] (.int (rs a k)) := by
      have h := l01Pow_ok a k.toNat ha (by omega)
      rw [rs_pos hk, ← e] at h
      exact h
    refine PureCall.intro (n := 15) (rs := [.tmp 4]) Try.call102 Try.func102 rfl rfl rfl (by simp only [List.length_cons, List.length_nil]; omega) (fun cx hcx => ats_of ?_); simp only [argSlots, Nat.zero_add, Nat.reduceAdd]
    (repeat refine ats_seq ?_); refine ats_go (by first | exact fix0 hcx | exact fix1 hcx rfl) fun K hK => ?_; simp only [go_sem, seval]; refine hK _ ?_; clear hK K
    (repeat refine ats_seq ?_); refine ats_go (by first | exact fix0 hcx | exact fix1 hcx rfl) fun K hK => ?_; simp only [go_sem, seval]; refine hK _ ?_; clear hK K
    (repeat refine ats_seq ?_); first | refine ats_ifn (p := _) rfl trivial (fun hc => ?_) (fun hc => ?_) | refine ats_ifp (p := _) rfl trivial (fun hc => ?_) (fun hc => ?_) | refine ats_cond rfl trivial (fun hc => ?_) (fun hc => ?_)
    · omega
    · refine ats_skip ?_
      (repeat refine ats_seq ?_); refine ats_go (by first | exact fix0 hcx | exact fix1 hcx rfl) fun K hK => ?_; simp only [go_sem, seval]
      first | refine fcall_free rfl rfl (hp) ?_ | refine YR_intro (acall_free rfl rfl (hp)) ?_
      simp only [go_sem, seval]
      refine hK _ ?_; clear hK K
      refine ats_ret (finI rfl ?_)
      rfl
theorem powerOf_ok (a k : Int) (ha : InP a) (h1 : -1000000 ≤ k) (h2 : k ≤ 1000000) : PureCall Try.prog 106 [.int a, .int k] (.int (rs a k)) := by
  by_cases hk : k < 0
  · have e : (0 - k : Int) = ((-k).toNat : Int) := by omega
    have hp : PureCall Try.prog 154 [.int a, .int (0 - k)] (.int (pw a (-k).toNat)) := by rw [e]; exact power_ok _ _ ha (by omega)
    have hd := divide_ok 1 (pw a (-k).toNat) inP_one (pw_InP ha)
    rw [rs_neg ha hk] at hd
    refine PureCall.intro (n := 15) (rs := [.tmp 4]) Try.call106 Try.func106 rfl rfl rfl (by simp only [List.length_cons, List.length_nil]; omega) (fun cx hcx => ats_of ?_); simp only [argSlots, Nat.zero_add, Nat.reduceAdd]
    (repeat refine ats_seq ?_); refine ats_go (by first | exact fix0 hcx | exact fix1 hcx rfl) fun K hK => ?_; simp only [go_sem, seval]; refine hK _ ?_; clear hK K
    (repeat refine ats_seq ?_); refine ats_go (by first | exact fix0 hcx | exact fix1 hcx rfl) fun K hK => ?_; simp only [go_sem, seval]; refine hK _ ?_; clear hK K
    (repeat refine ats_seq ?_); first | refine ats_ifn (p := _) rfl trivial (fun hc => ?_) (fun hc => ?_) | refine ats_ifp (p := _) rfl trivial (fun hc => ?_) (fun hc => ?_) | refine ats_cond rfl trivial (fun hc => ?_) (fun hc => ?_)
    · (repeat refine ats_seq ?_); refine ats_go (by first | exact fix0 hcx | exact fix1 hcx rfl) fun K hK => ?_; simp only [go_sem, seval]
      (repeat refine And.intro (by first | omega | (intro hq; first | omega | (simp at hq <;> omega) | (simp_all <;> omega))) ?_)
      first | refine fcall_free rfl rfl (hp) ?_ | refine YR_intro (acall_free rfl rfl (hp)) ?_
      simp only [go_sem, seval]
      first | refine fcall_free rfl rfl (hd) ?_ | refine YR_intro (acall_free rfl rfl (hd)) ?_
      simp only [go_sem, seval]
      refine hK _ ?_; clear hK K
      refine ats_ret (finI rfl ?_)
      rfl
    · omega
  · have e : k = (k.toNat : Int) := by omega
    have hp : PureCall Try.prog 154 [.int a, .int k] (.int (rs a k)) := by
      have h := power_ok a k.toNat ha (by omega)
      rw [rs_pos hk, ← e] at h
      exact h
    refine PureCall.intro (n := 15) (rs := [.tmp 4]) Try.call106 Try.func106 rfl rfl rfl (by simp only [List.length_cons, List.length_nil]; omega) (fun cx hcx => ats_of ?_); simp only [argSlots, Nat.zero_add, Nat.reduceAdd]
    (repeat refine ats_seq ?_); refine ats_go (by first | exact fix0 hcx | exact fix1 hcx rfl) fun K hK => ?_; simp only [go_sem, seval]; refine hK _ ?_; clear hK K
    (repeat refine ats_seq ?_); refine ats_go (by first | exact fix0 hcx | exact fix1 hcx rfl) fun K hK => ?_; simp only [go_sem, seval]; refine hK _ ?_; clear hK K
    (repeat refine ats_seq ?_); first | refine ats_ifn (p := _) rfl trivial (fun hc => ?_) (fun hc => ?_) | refine ats_ifp (p := _) rfl trivial (fun hc => ?_) (fun hc => ?_) | refine ats_cond rfl trivial (fun hc => ?_) (fun hc => ?_)
    · omega
    · refine ats_skip ?_
      (repeat refine ats_seq ?_); refine ats_go (by first | exact fix0 hcx | exact fix1 hcx rfl) fun K hK => ?_; simp only [go_sem, seval]
      first | refine fcall_free rfl rfl (hp) ?_ | refine YR_intro (acall_free rfl rfl (hp)) ?_
      simp only [go_sem, seval]
      refine hK _ ?_; clear hK K
      refine ats_ret (finI rfl ?_)
      rfl

theorem l15Labels_ok (n : Nat) (cs : List Int) (hn : n ≤ 1000000) : PureCall Try.prog 101 [.int n, .l1 cs] (.bool (labB n cs)) := by
  refine PureCall.intro (n := 23) (rs := [.tmp 4]) Try.call101 Try.func101 rfl rfl rfl (by simp only [List.length_cons, List.length_nil]; omega) (fun cx hcx => ats_of ?_); simp only [argSlots, Nat.zero_add, Nat.reduceAdd]
  (repeat refine ats_seq ?_); refine ats_go (by first | exact fix0 hcx | exact fix1 hcx rfl) fun K hK => ?_; simp only [go_sem, seval]; refine hK _ ?_; clear hK K
  refine ats_know 1 fun h1 => ?_; simp only [St.get, slotGet, Nat.reduceEqDiff, ↓reduceIte, if_true, fact, facts] at h1
  have hl := h1.1
  (repeat refine ats_seq ?_); refine ats_go (by first | exact fix0 hcx | exact fix1 hcx rfl) fun K hK => ?_; simp only [go_sem, seval]; refine hK _ ?_; clear hK K
  (repeat refine ats_seq ?_); refine ats_loop (fun i : Nat => ⟨[(0, .int n), (1, .l1 cs), (5, .int i)], []⟩) (fun i => i ≤ cs.length ∧ ∀ b, b < i → (0 ≤ cs.getD b 0 ∧ cs.getD b 0 < n)) (fun i => cs.length - i) 0 ⟨Nat.zero_le _, fun a h => absurd h (Nat.not_lt_zero a)⟩ (by refine And.intro ?_ rfl; simp only [SlotsLe, St.get, slotGet, Nat.reduceEqDiff, ↓reduceIte, AV.int.injEq, AV.bool.injEq, AV.l1.injEq, AV.l2.injEq, AV.l3.injEq, true_and, and_true]; rfl) (fun i hi => ?_); obtain ⟨hi, Hi⟩ := hi
  (repeat refine ats_seq ?_); refine ats_go (by first | exact fix0 hcx | exact fix1 hcx rfl) fun K hK => ?_; simp only [go_sem, seval]; refine hK _ ?_; clear hK K
  (repeat refine ats_seq ?_); first | refine ats_ifn (p := _) rfl trivial (fun hc2 => ?_) (fun hc2 => ?_) | refine ats_ifp (p := _) rfl trivial (fun hc2 => ?_) (fun hc2 => ?_) | refine ats_cond rfl trivial (fun hc2 => ?_) (fun hc2 => ?_)
  · refine ats_skip ?_
    (repeat refine ats_seq ?_); refine ats_block ?_
    (repeat refine ats_seq ?_); refine ats_go (by first | exact fix0 hcx | exact fix1 hcx rfl) fun K hK => ?_; simp only [go_sem, seval]
    (repeat refine And.intro (by first | omega | (intro hq; first | omega | (simp at hq <;> omega) | (simp_all <;> omega))) ?_)
    first | refine fcall_data (l01In_ok _ _ _) rfl ?_ | refine YR_intro (acall_data (l01In_ok _ _ _) rfl) ?_
    simp only [go_sem, seval]
    refine hK _ ?_; clear hK K
    (repeat refine ats_seq ?_); first | refine ats_ifn (p := _) rfl trivial (fun hc3 => ?_) (fun hc3 => ?_) | refine ats_ifp (p := _) rfl trivial (fun hc3 => ?_) (fun hc3 => ?_) | refine ats_cond rfl trivial (fun hc3 => ?_) (fun hc3 => ?_)
    · (repeat refine ats_seq ?_); refine ats_go (by first | exact fix0 hcx | exact fix1 hcx rfl) fun K hK => ?_; simp only [go_sem, seval]; refine hK _ ?_; clear hK K
      refine ats_ret (finB rfl ?_)
      simp only [Bool.not_eq_true', Bool.and_eq_false_iff, decide_eq_false_iff_not] at hc3
      refine (Bool.eq_false_iff.2 (fun h => ?_)).symm
      have := (labB_iff.1 h).1 i (by omega)
      omega
    · simp only [Bool.not_eq_false', Bool.and_eq_true, decide_eq_true_eq] at hc3
      refine ats_skip ?_
      (repeat refine ats_seq ?_); refine ats_go (by first | exact fix0 hcx | exact fix1 hcx rfl) fun K hK => ?_; simp only [go_sem, seval]; (repeat refine And.intro (by first | omega | (intro hq; first | omega | (simp at hq <;> omega) | (simp_all <;> omega))) ?_); refine hK _ ?_; clear hK K
      refine ⟨i + 1, ⟨by omega, fun a ha => by rcases Nat.lt_succ_iff_lt_or_eq.1 ha with h | rfl; exact Hi a h; exact ⟨hc3.1, by omega⟩⟩, by omega, .inl ⟨?_, rfl⟩⟩; simp only [SlotsLe, St.get, slotGet, Nat.reduceEqDiff, ↓reduceIte, AV.int.injEq, AV.bool.injEq, AV.l1.injEq, AV.l2.injEq, AV.l3.injEq, true_and, and_true]; omega
  · refine ats_exit (lq_x ?_)
    (repeat refine ats_seq ?_); refine ats_go (by first | exact fix0 hcx | exact fix1 hcx rfl) fun K hK => ?_; simp only [go_sem, seval]; refine hK _ ?_; clear hK K
    refine ats_ret (finB rfl ?_)
    have h2 : (∀ i, i < cs.length → 0 ≤ cs.getD i 0 ∧ cs.getD i 0 < n) := fun j hj => Hi j (by omega)
    unfold labB
    rw [any_rng.2 h2, Bool.true_and]
    exact decide_eq_decide.2 (by omega)

theorem specSu_ok (s : List (List Int)) (t : List Int) (g : Int) (cs : List Int) : PureCall Try.prog 44 [.agg [.l2 s, .l1 t], .int g, .l1 cs] (.tup [.int (suA s t g cs).1, .int (suA s t g cs).2]) := by
  have hk := l12Is_ok s t
  have hi := l01In_ok g 0 20
  unfold suA
  refine PureCall.intro (n := 81) (rs := [.tmp 6, .tmp 7]) Try.call44 Try.func44 rfl rfl rfl (by simp only [List.length_cons, List.length_nil]; omega) (fun cx hcx => ats_of ?_); simp only [argSlots, Nat.zero_add, Nat.reduceAdd]
  (repeat refine ats_seq ?_); refine ats_go (by first | exact fix0 hcx | exact fix1 hcx rfl) fun K hK => ?_; simp only [go_sem, seval]; refine hK _ ?_; clear hK K
  cases h : isData s t with
  | false =>
    rw [h] at hk
    (repeat refine ats_seq ?_); refine ats_go (by first | exact fix0 hcx | exact fix1 hcx rfl) fun K hK => ?_; simp only [go_sem, seval]
    first | refine fcall_free rfl rfl (hk) ?_ | refine YR_intro (acall_free rfl rfl (hk)) ?_
    simp only [go_sem, seval]
    refine hK _ ?_; clear hK K
    (repeat refine ats_seq ?_); refine ats_yes rfl trivial ?_
    (repeat refine ats_seq ?_); refine ats_go (by first | exact fix0 hcx | exact fix1 hcx rfl) fun K hK => ?_; simp only [go_sem, seval]; refine hK _ ?_; clear hK K
    exact ats_ret (fin2 trivial trivial rfl)
  | true =>
    obtain ⟨hs, hst, hw, c, hc, hT, hR⟩ := isData_some h
    have h16 := hs.2.1
    have h1 := hs.1
    have hm := hs.2.2.1
    have ls := hm.1
    have r0 := hm.row (show 0 < t.length by omega)
    have hl := l15Labels_ok t.length cs (by omega)
    rw [h] at hk
    (repeat refine ats_seq ?_); refine ats_go (by first | exact fix0 hcx | exact fix1 hcx rfl) fun K hK => ?_; simp only [go_sem, seval]
    first | refine fcall_free rfl rfl (hk) ?_ | refine YR_intro (acall_free rfl rfl (hk)) ?_
    simp only [go_sem, seval]
    refine hK _ ?_; clear hK K
    (repeat refine ats_seq ?_); refine ats_no rfl trivial ?_
    refine ats_skip ?_
    cases hg : (decide (0 ≤ g) && decide (g ≤ 20)) with
    | false =>
      rw [hg] at hi
      (repeat refine ats_seq ?_); refine ats_go (by first | exact fix0 hcx | exact fix1 hcx rfl) fun K hK => ?_; simp only [go_sem, seval]
      first | refine fcall_free rfl rfl (hi) ?_ | refine YR_intro (acall_free rfl rfl (hi)) ?_
      simp only [go_sem, seval]
      refine YR_intro (v := .bool false) (by first | trivial | (intro h; cases h)) ?_
      simp only [go_sem, seval]
      refine hK _ ?_; clear hK K
      (repeat refine ats_seq ?_); refine ats_yes rfl trivial ?_
      (repeat refine ats_seq ?_); refine ats_go (by first | exact fix0 hcx | exact fix1 hcx rfl) fun K hK => ?_; simp only [go_sem, seval]; refine hK _ ?_; clear hK K
      exact ats_ret (fin2 trivial trivial rfl)
    | true =>
      rw [hg] at hi
      simp only [Bool.and_eq_true, decide_eq_true_eq] at hg
      cases hL : labB t.length cs with
      | false =>
        rw [hL] at hl
        (repeat refine ats_seq ?_); refine ats_go (by first | exact fix0 hcx | exact fix1 hcx rfl) fun K hK => ?_; simp only [go_sem, seval]
        first | refine fcall_free rfl rfl (hi) ?_ | refine YR_intro (acall_free rfl rfl (hi)) ?_
        simp only [go_sem, seval]
        simp only [ls]
        first | refine YR_intro (fun _ => acall_free rfl rfl (hl)) ?_ | refine YR_intro (acall_free rfl rfl (hl)) ?_
        simp only [go_sem, seval]
        refine hK _ ?_; clear hK K
        (repeat refine ats_seq ?_); refine ats_yes rfl trivial ?_
        (repeat refine ats_seq ?_); refine ats_go (by first | exact fix0 hcx | exact fix1 hcx rfl) fun K hK => ?_; simp only [go_sem, seval]; refine hK _ ?_; clear hK K
        exact ats_ret (fin2 trivial trivial rfl)
      | true =>
        rw [hL] at hl
        obtain ⟨hcs, hc8⟩ := labB_iff.1 hL
        have hW := l12Whole_ok s t hs
        have hRW := l15Raise_ok (wholeD s t.length) (g - 1) (inP_md _) (by omega) (by omega)
        have pW : InP (suW s t.length g) := rs_InP (inP_md _)
        (repeat refine ats_seq ?_); refine ats_go (by first | exact fix0 hcx | exact fix1 hcx rfl) fun K hK => ?_; simp only [go_sem, seval]
        first | refine fcall_free rfl rfl (hi) ?_ | refine YR_intro (acall_free rfl rfl (hi)) ?_
        simp only [go_sem, seval]
        simp only [ls]
        first | refine YR_intro (fun _ => acall_free rfl rfl (hl)) ?_ | refine YR_intro (acall_free rfl rfl (hl)) ?_
        simp only [go_sem, seval]
        refine hK _ ?_; clear hK K
        (repeat refine ats_seq ?_); refine ats_no rfl trivial ?_
        refine ats_skip ?_
        (repeat refine ats_seq ?_); refine ats_go (by first | exact fix0 hcx | exact fix1 hcx rfl) fun K hK => ?_; simp only [go_sem, seval]
        first | refine fcall_data (hW) rfl ?_ | refine YR_intro (acall_data (hW) rfl) ?_
        simp only [go_sem, seval]
        (repeat refine And.intro (by first | omega | (intro hq; first | omega | (simp at hq <;> omega) | (simp_all <;> omega))) ?_)
        first | refine fcall_free rfl rfl (hRW) ?_ | refine YR_intro (acall_free rfl rfl (hRW)) ?_
        simp only [go_sem, seval]
        refine hK _ ?_; clear hK K
        (repeat refine ats_seq ?_); refine ats_go (by first | exact fix0 hcx | exact fix1 hcx rfl) fun K hK => ?_; simp only [go_sem, seval]; refine hK _ ?_; clear hK K
        (repeat refine ats_seq ?_); refine ats_loop (fun l : Nat => ⟨[(1, .int g), (2, .l1 cs), (3, .bptr 0 0), (8, .int (sumTo (fun l => suT' s t.length g cs l cs.length) l % 55441)), (9, .int (suW s t.length g)), (10, .int l)], [(0, .bx [.l2 s, .l1 t])]⟩) (fun l => l ≤ t.length) (fun l => t.length - l) 0 (Nat.zero_le _) (by refine And.intro ?_ rfl; simp only [SlotsLe, St.get, slotGet, Nat.reduceEqDiff, ↓reduceIte, true_and, and_true, AV.int.injEq, AV.bool.injEq, AV.l1.injEq, AV.l2.injEq, AV.l3.injEq]; repeat' (first | rfl | omega | refine And.intro ?_ ?_)) (fun l hl => ?_)
        (repeat refine ats_seq ?_); refine ats_go (by first | exact fix0 hcx | exact fix1 hcx rfl) fun K hK => ?_; simp only [go_sem, seval]
        simp only [ls]
        refine hK _ ?_; clear hK K
        (repeat refine ats_seq ?_); first | refine ats_ifn (p := _) rfl trivial (fun hc4 => ?_) (fun hc4 => ?_) | refine ats_ifp (p := _) rfl trivial (fun hc4 => ?_) (fun hc4 => ?_) | refine ats_cond rfl trivial (fun hc4 => ?_) (fun hc4 => ?_)
        · have p0 := hm.inP (show 0 < t.length by omega) (show l < t.length by omega)
          have hRe := l15Raise_ok _ (2 - 2 * g - cs.length) p0 (by omega) (by omega)
          have pR : InP (rs (e2 s 0 l) (2 - 2 * g - cs.length)) := rs_InP p0
          have m1 := mulP pW pR
          simp only [e2] at hRe m1
          refine ats_skip ?_
          (repeat refine ats_seq ?_); refine ats_block ?_
          (repeat refine ats_seq ?_); refine ats_go (by first | exact fix0 hcx | exact fix1 hcx rfl) fun K hK => ?_; simp only [go_sem, seval]
          (repeat refine And.intro (by first | omega | (intro hq; first | omega | (simp at hq <;> omega) | (simp_all <;> omega))) ?_)
          first | refine fcall_free rfl rfl (hRe) ?_ | refine YR_intro (acall_free rfl rfl (hRe)) ?_
          simp only [go_sem, seval]
          try simp (disch := omega) only [tmP, tdP]
          (repeat refine And.intro (by first | omega | (intro hq; first | omega | (simp at hq <;> omega) | (simp_all <;> omega))) ?_)
          refine hK _ ?_; clear hK K
          (repeat refine ats_seq ?_); refine ats_go (by first | exact fix0 hcx | exact fix1 hcx rfl) fun K hK => ?_; simp only [go_sem, seval]; refine hK _ ?_; clear hK K
          (repeat refine ats_seq ?_); refine ats_loop (fun j : Nat => ⟨[(1, .int g), (2, .l1 cs), (3, .bptr 0 0), (8, .int (sumTo (fun l => suT' s t.length g cs l cs.length) l % 55441)), (9, .int (suW s t.length g)), (10, .int l), (11, .int (suT' s t.length g cs l j)), (12, .int j)], [(0, .bx [.l2 s, .l1 t])]⟩) (fun j => j ≤ cs.length) (fun j => cs.length - j) 0 (Nat.zero_le _) (by refine And.intro ?_ rfl; simp only [SlotsLe, St.get, slotGet, Nat.reduceEqDiff, ↓reduceIte, true_and, and_true, AV.int.injEq, AV.bool.injEq, AV.l1.injEq, AV.l2.injEq, AV.l3.injEq]; repeat' (first | rfl | omega | refine And.intro ?_ ?_)) (fun j hj => ?_)
          have pT : InP (suT' s t.length g cs l j) := pr_InP (inP_md _) j
          (repeat refine ats_seq ?_); refine ats_go (by first | exact fix0 hcx | exact fix1 hcx rfl) fun K hK => ?_; simp only [go_sem, seval]; refine hK _ ?_; clear hK K
          (repeat refine ats_seq ?_); first | refine ats_ifn (p := _) rfl trivial (fun hc6 => ?_) (fun hc6 => ?_) | refine ats_ifp (p := _) rfl trivial (fun hc6 => ?_) (fun hc6 => ?_) | refine ats_cond rfl trivial (fun hc6 => ?_) (fun hc6 => ?_)
          · have hcj := hcs j (by omega)
            have ra := hm.row (show (cs.getD j 0).toNat < t.length by omega)
            have pa := hm.inP (show (cs.getD j 0).toNat < t.length by omega) (show l < t.length by omega)
            have m2 := mulP pT pa
            simp only [e2] at m2
            refine ats_skip ?_
            (repeat refine ats_seq ?_); refine ats_block ?_
            (repeat refine ats_seq ?_); refine ats_pick (fix0 hcx) mixed (by kernel_rfl) fun K hK => ?_; simp only [go_sem, seval]; (try simp (disch := omega) only [tmP, tdP]); (repeat refine And.intro (by first | omega | (intro hq; first | omega | (simp at hq <;> omega) | (simp_all <;> omega))) ?_); refine hK _ ?_; clear hK K
            (repeat refine ats_seq ?_); refine ats_go (by first | exact fix0 hcx | exact fix1 hcx rfl) fun K hK => ?_; simp only [go_sem, seval]; (repeat refine And.intro (by first | omega | (intro hq; first | omega | (simp at hq <;> omega) | (simp_all <;> omega))) ?_); refine hK _ ?_; clear hK K
            refine ⟨j + 1,  by omega, by omega, .inl ⟨by simp only [SlotsLe, St.get, slotGet, Nat.reduceEqDiff, ↓reduceIte, AV.int.injEq, AV.bool.injEq, AV.l1.injEq, AV.l2.injEq, AV.l3.injEq, true_and, and_true]; exact ⟨rfl, by omega⟩,  rfl⟩⟩
          · obtain rfl : j = cs.length := by omega
            have pT2 : InP (sumTo (fun l => suT' s t.length g cs l cs.length) l % 55441) := inP_md _
            have ei := sum_it (f := fun l => suT' s t.length g cs l cs.length) (n := l)
            unfold InP at pT pT2
            refine ats_exit (lq_x ?_)
            (repeat refine ats_seq ?_); refine ats_go (by first | exact fix0 hcx | exact fix1 hcx rfl) fun K hK => ?_; simp only [go_sem, seval]; (try simp (disch := omega) only [tmP, tdP]); (repeat refine And.intro (by first | omega | (intro hq; first | omega | (simp at hq <;> omega) | (simp_all <;> omega))) ?_); refine hK _ ?_; clear hK K
            (repeat refine ats_seq ?_); refine ats_go (by first | exact fix0 hcx | exact fix1 hcx rfl) fun K hK => ?_; simp only [go_sem, seval]; (repeat refine And.intro (by first | omega | (intro hq; first | omega | (simp at hq <;> omega) | (simp_all <;> omega))) ?_); refine hK _ ?_; clear hK K
            refine ⟨l + 1,  by omega, by omega, .inl ⟨by simp only [SlotsLe, St.get, slotGet, Nat.reduceEqDiff, ↓reduceIte, AV.int.injEq, AV.bool.injEq, AV.l1.injEq, AV.l2.injEq, AV.l3.injEq, true_and, and_true]; exact ⟨ei, by omega⟩,  rfl⟩⟩
        · obtain rfl : l = t.length := by omega
          refine ats_exit (lq_x ?_)
          (repeat refine ats_seq ?_); refine ats_go (by first | exact fix0 hcx | exact fix1 hcx rfl) fun K hK => ?_; simp only [go_sem, seval]; refine hK _ ?_; clear hK K
          exact ats_ret (fin2 trivial trivial rfl)

theorem implSu_ok (s : List (List Int)) (t : List Int) (g : Int) (cs : List Int) : PureCall Try.prog 45 [.agg [.l2 s, .l1 t], .int g, .l1 cs] (.tup [.int (suA s t g cs).1, .int (suA s t g cs).2]) := by
  have hk := IsData_ok s t
  have hi := within_ok g 0 20
  unfold suA
  refine PureCall.intro (n := 83) (rs := [.tmp 6, .tmp 7]) Try.call45 Try.func45 rfl rfl rfl (by simp only [List.length_cons, List.length_nil]; omega) (fun cx hcx => ats_of ?_); simp only [argSlots, Nat.zero_add, Nat.reduceAdd]
  (repeat refine ats_seq ?_); refine ats_go (by first | exact fix0 hcx | exact fix1 hcx rfl) fun K hK => ?_; simp only [go_sem, seval]; refine hK _ ?_; clear hK K
  cases h : isData s t with
  | false =>
    rw [h] at hk
    (repeat refine ats_seq ?_); refine ats_go (by first | exact fix0 hcx | exact fix1 hcx rfl) fun K hK => ?_; simp only [go_sem, seval]
    first | refine fcall_free rfl rfl (hk) ?_ | refine YR_intro (acall_free rfl rfl (hk)) ?_
    simp only [go_sem, seval]
    refine hK _ ?_; clear hK K
    (repeat refine ats_seq ?_); refine ats_yes rfl trivial ?_
    (repeat refine ats_seq ?_); refine ats_go (by first | exact fix0 hcx | exact fix1 hcx rfl) fun K hK => ?_; simp only [go_sem, seval]; refine hK _ ?_; clear hK K
    exact ats_ret (fin2 trivial trivial rfl)
  | true =>
    obtain ⟨hs, hst, hw, c, hc, hT, hR⟩ := isData_some h
    have h16 := hs.2.1
    have h1 := hs.1
    have hm := hs.2.2.1
    have ls := hm.1
    have r0 := hm.row (show 0 < t.length by omega)
    have hA := allWithin_ok cs 0 ((t.length : Int) - 1)
    rw [h] at hk
    (repeat refine ats_seq ?_); refine ats_go (by first | exact fix0 hcx | exact fix1 hcx rfl) fun K hK => ?_; simp only [go_sem, seval]
    first | refine fcall_free rfl rfl (hk) ?_ | refine YR_intro (acall_free rfl rfl (hk)) ?_
    simp only [go_sem, seval]
    refine hK _ ?_; clear hK K
    (repeat refine ats_seq ?_); refine ats_no rfl trivial ?_
    refine ats_skip ?_
    refine ats_know 2 fun hkn => ?_; simp only [St.get, slotGet, Nat.reduceEqDiff, ↓reduceIte, if_true, fact, facts] at hkn
    have hlen := hkn.1
    (repeat refine ats_seq ?_); refine ats_go (by first | exact fix0 hcx | exact fix1 hcx rfl) fun K hK => ?_; simp only [go_sem, seval]
    first | refine fcall_free rfl rfl (hi) ?_ | refine YR_intro (acall_free rfl rfl (hi)) ?_
    simp only [go_sem, seval]
    (repeat refine And.intro (by first | omega | (intro hq; first | omega | (simp at hq <;> omega) | (simp_all <;> omega))) ?_)
    first | refine YR_intro (fun _ => acall_free rfl rfl (hA)) ?_ | refine YR_intro (acall_free rfl rfl (hA)) ?_
    simp only [go_sem, seval]
    (repeat refine And.intro (by first | omega | (intro hq; first | omega | (simp at hq <;> omega) | (simp_all <;> omega))) ?_)
    refine hK _ ?_; clear hK K
    (repeat refine ats_seq ?_); first | refine ats_ifn (p := _) rfl trivial (fun hcc => ?_) (fun hcc => ?_) | refine ats_ifp (p := _) rfl trivial (fun hcc => ?_) (fun hcc => ?_) | refine ats_cond rfl trivial (fun hcc => ?_) (fun hcc => ?_)
    · have e : ((decide (0 ≤ g) && decide (g ≤ 20)) && labB t.length cs) = false := by
        refine Bool.eq_false_iff.2 (fun h => ?_)
        rw [Bool.and_eq_true] at h
        obtain ⟨hg, hL⟩ := h
        have h8 := (labB_iff.1 hL).2
        unfold labB at hL
        rw [Bool.and_eq_true] at hL
        rw [hg, hL.1, decide_eq_false (show ¬ (8 : Int) < cs.length by omega)] at hcc
        cases hcc
      (repeat refine ats_seq ?_); refine ats_go (by first | exact fix0 hcx | exact fix1 hcx rfl) fun K hK => ?_; simp only [go_sem, seval]; refine hK _ ?_; clear hK K
      rw [e]
      exact ats_ret (fin2 trivial trivial rfl)
    · simp only [Bool.or_eq_false_iff, Bool.not_eq_false', decide_eq_false_iff_not] at hcc
      obtain ⟨⟨hg, h8⟩, hR2⟩ := hcc
      have hL : labB t.length cs = true := by
        unfold labB
        rw [hR2, decide_eq_true (show cs.length ≤ 8 by omega)]; rfl
      obtain ⟨hcs, hc8⟩ := labB_iff.1 hL
      rw [hg, hL]
      simp only [Bool.and_eq_true, decide_eq_true_eq] at hg
      have hW := dwhole_ok s t hs
      have hRW := powerOf_ok (wholeD s t.length) (g - 1) (inP_md _) (by omega) (by omega)
      have pW : InP (suW s t.length g) := rs_InP (inP_md _)
      refine ats_skip ?_
      (repeat refine ats_seq ?_); refine ats_go (by first | exact fix0 hcx | exact fix1 hcx rfl) fun K hK => ?_; simp only [go_sem, seval]; refine hK _ ?_; clear hK K
      (repeat refine ats_seq ?_); refine ats_go (by first | exact fix0 hcx | exact fix1 hcx rfl) fun K hK => ?_; simp only [go_sem, seval]
      simp only [ls, r0]
      (repeat refine And.intro (by first | omega | (intro hq; first | omega | (simp at hq <;> omega) | (simp_all <;> omega))) ?_)
      refine hK _ ?_; clear hK K
      (repeat refine ats_seq ?_); refine ats_loop (fun l : Nat => ⟨[(1, .int g), (2, .l1 cs), (3, .bptr 0 0), (8, .int (sumTo (fun l => suT s g cs l cs.length) l)), (37, .l1 (s.getD 0 [])), (38, .int t.length), (39, .int l)], [(0, .bx [.l2 s, .l1 t])]⟩) (fun l => l ≤ t.length) (fun l => t.length - l) 0 (Nat.zero_le _) (by refine And.intro ?_ rfl; simp only [SlotsLe, St.get, slotGet, Nat.reduceEqDiff, ↓reduceIte, true_and, and_true, AV.int.injEq, AV.bool.injEq, AV.l1.injEq, AV.l2.injEq, AV.l3.injEq]; repeat' (first | rfl | omega | refine And.intro ?_ ?_)) (fun l hl => ?_)
      have sl := sumTo_le (f := fun l => suT s g cs l cs.length) (B := 55440) (n := l)
      (repeat refine ats_seq ?_); refine ats_go (by first | exact fix0 hcx | exact fix1 hcx rfl) fun K hK => ?_; simp only [go_sem, seval]; refine hK _ ?_; clear hK K
      (repeat refine ats_seq ?_); first | refine ats_ifn (p := _) rfl trivial (fun hc4 => ?_) (fun hc4 => ?_) | refine ats_ifp (p := _) rfl trivial (fun hc4 => ?_) (fun hc4 => ?_) | refine ats_cond rfl trivial (fun hc4 => ?_) (fun hc4 => ?_)
      · have p0 := hm.inP (show 0 < t.length by omega) (show l < t.length by omega)
        have hRe := powerOf_ok _ (2 - 2 * g - cs.length) p0 (by omega) (by omega)
        have pR : InP (rs (e2 s 0 l) (2 - 2 * g - cs.length)) := rs_InP p0
        simp only [e2] at hRe
        have sl2 := sl (fun x hx => pr_InP (rs_InP (hm.inP (by omega) (by omega))) _)
        refine ats_skip ?_
        (repeat refine ats_seq ?_); refine ats_block ?_
        (repeat refine ats_seq ?_); refine ats_go (by first | exact fix0 hcx | exact fix1 hcx rfl) fun K hK => ?_; simp only [go_sem, seval]
        simp only [r0]
        (repeat refine And.intro (by first | omega | (intro hq; first | omega | (simp at hq <;> omega) | (simp_all <;> omega))) ?_)
        refine hK _ ?_; clear hK K
        (repeat refine ats_seq ?_); refine ats_go (by first | exact fix0 hcx | exact fix1 hcx rfl) fun K hK => ?_; simp only [go_sem, seval]
        (repeat refine And.intro (by first | omega | (intro hq; first | omega | (simp at hq <;> omega) | (simp_all <;> omega))) ?_)
        first | refine fcall_free rfl rfl (hRe) ?_ | refine YR_intro (acall_free rfl rfl (hRe)) ?_
        simp only [go_sem, seval]
        refine hK _ ?_; clear hK K
        (repeat refine ats_seq ?_); refine ats_go (by first | exact fix0 hcx | exact fix1 hcx rfl) fun K hK => ?_; simp only [go_sem, seval]; refine hK _ ?_; clear hK K
        (repeat refine ats_seq ?_); refine ats_loop (fun j : Nat => ⟨[(1, .int g), (2, .l1 cs), (3, .bptr 0 0), (8, .int (sumTo (fun l => suT s g cs l cs.length) l)), (9, .int l), (11, .int (suT s g cs l j)), (37, .l1 (s.getD 0 [])), (38, .int t.length), (39, .int l), (52, .l1 cs), (53, .int cs.length), (54, .int j)], [(0, .bx [.l2 s, .l1 t])]⟩) (fun j => j ≤ cs.length) (fun j => cs.length - j) 0 (Nat.zero_le _) (by refine And.intro ?_ rfl; simp only [SlotsLe, St.get, slotGet, Nat.reduceEqDiff, ↓reduceIte, true_and, and_true, AV.int.injEq, AV.bool.injEq, AV.l1.injEq, AV.l2.injEq, AV.l3.injEq]; repeat' (first | rfl | omega | refine And.intro ?_ ?_)) (fun j hj => ?_)
        have pT : InP (suT s g cs l j) := pr_InP pR j
        (repeat refine ats_seq ?_); refine ats_go (by first | exact fix0 hcx | exact fix1 hcx rfl) fun K hK => ?_; simp only [go_sem, seval]; refine hK _ ?_; clear hK K
        (repeat refine ats_seq ?_); first | refine ats_ifn (p := _) rfl trivial (fun hc6 => ?_) (fun hc6 => ?_) | refine ats_ifp (p := _) rfl trivial (fun hc6 => ?_) (fun hc6 => ?_) | refine ats_cond rfl trivial (fun hc6 => ?_) (fun hc6 => ?_)
        · have hcj := hcs j (by omega)
          have ra := hm.row (show (cs.getD j 0).toNat < t.length by omega)
          have pa := hm.inP (show (cs.getD j 0).toNat < t.length by omega) (show l < t.length by omega)
          have m2 := mulP pT pa
          simp only [e2] at m2
          refine ats_skip ?_
          (repeat refine ats_seq ?_); refine ats_block ?_
          (repeat refine ats_seq ?_); refine ats_go (by first | exact fix0 hcx | exact fix1 hcx rfl) fun K hK => ?_; simp only [go_sem, seval]; (repeat refine And.intro (by first | omega | (intro hq; first | omega | (simp at hq <;> omega) | (simp_all <;> omega))) ?_); refine hK _ ?_; clear hK K
          (repeat refine ats_seq ?_); refine ats_go (by first | exact fix0 hcx | exact fix1 hcx rfl) fun K hK => ?_; simp only [go_sem, seval]
          try simp (disch := omega) only [tmP, tdP]
          (repeat refine And.intro (by first | omega | (intro hq; first | omega | (simp at hq <;> omega) | (simp_all <;> omega))) ?_)
          refine hK _ ?_; clear hK K
          (repeat refine ats_seq ?_); refine ats_go (by first | exact fix0 hcx | exact fix1 hcx rfl) fun K hK => ?_; simp only [go_sem, seval]; (repeat refine And.intro (by first | omega | (intro hq; first | omega | (simp at hq <;> omega) | (simp_all <;> omega))) ?_); refine hK _ ?_; clear hK K
          refine ⟨j + 1,  by omega, by omega, .inl ⟨by simp only [SlotsLe, St.get, slotGet, Nat.reduceEqDiff, ↓reduceIte, AV.int.injEq, AV.bool.injEq, AV.l1.injEq, AV.l2.injEq, AV.l3.injEq, true_and, and_true]; exact ⟨rfl, by omega⟩,  rfl⟩⟩
        · obtain rfl : j = cs.length := by omega
          unfold InP at pT
          refine ats_exit (lq_x ?_)
          (repeat refine ats_seq ?_); refine ats_go (by first | exact fix0 hcx | exact fix1 hcx rfl) fun K hK => ?_; simp only [go_sem, seval]; (repeat refine And.intro (by first | omega | (intro hq; first | omega | (simp at hq <;> omega) | (simp_all <;> omega))) ?_); refine hK _ ?_; clear hK K
          (repeat refine ats_seq ?_); refine ats_go (by first | exact fix0 hcx | exact fix1 hcx rfl) fun K hK => ?_; simp only [go_sem, seval]; (repeat refine And.intro (by first | omega | (intro hq; first | omega | (simp at hq <;> omega) | (simp_all <;> omega))) ?_); refine hK _ ?_; clear hK K
          refine ⟨l + 1,  by omega, by omega, .inl ⟨by simp only [SlotsLe, St.get, slotGet, Nat.reduceEqDiff, ↓reduceIte, AV.int.injEq, AV.bool.injEq, AV.l1.injEq, AV.l2.injEq, AV.l3.injEq, true_and, and_true]; exact ⟨rfl, by omega⟩,  rfl⟩⟩
      · obtain rfl : l = t.length := by omega
        have sl2 := sl (fun x hx => pr_InP (rs_InP (hm.inP (by omega) (by omega))) _)
        have mm := mulP (inP_md (sumTo (fun l => suT s g cs l cs.length) t.length)) pW
        unfold suW at mm
        refine ats_exit (lq_x ?_)
        (repeat refine ats_seq ?_); refine ats_go (by first | exact fix0 hcx | exact fix1 hcx rfl) fun K hK => ?_; simp only [go_sem, seval]
        try simp (disch := omega) only [tmP, tdP]
        (repeat refine And.intro (by first | omega | (intro hq; first | omega | (simp at hq <;> omega) | (simp_all <;> omega))) ?_)
        first | refine fcall_data (hW) rfl ?_ | refine YR_intro (acall_data (hW) rfl) ?_
        simp only [go_sem, seval]
        (repeat refine And.intro (by first | omega | (intro hq; first | omega | (simp at hq <;> omega) | (simp_all <;> omega))) ?_)
        first | refine fcall_free rfl rfl (hRW) ?_ | refine YR_intro (acall_free rfl rfl (hRW)) ?_
        simp only [go_sem, seval]
        try simp (disch := omega) only [tmP, tdP]
        (repeat refine And.intro (by first | omega | (intro hq; first | omega | (simp at hq <;> omega) | (simp_all <;> omega))) ?_)
        refine hK _ ?_; clear hK K
        rw [← su_eq]
        exact ats_ret (fin2 trivial trivial rfl)
theorem specPt_ok (s : List (List Int)) (t : List Int) (a : Int) : PureCall Try.prog 48 [.agg [.l2 s, .l1 t], .int a] (.tup [.int (suA s t 1 [a]).1, .int (suA s t 1 [a]).2]) := by
  have hk := specSu_ok s t 1 [a]
  refine PureCall.intro (n := 17) (rs := [.tmp 4, .tmp 5]) Try.call48 Try.func48 rfl rfl rfl (by simp only [List.length_cons, List.length_nil]; omega) (fun cx hcx => ats_of ?_); simp only [argSlots, Nat.zero_add, Nat.reduceAdd]
  (repeat refine ats_seq ?_); refine ats_go (by first | exact fix0 hcx | exact fix1 hcx rfl) fun K hK => ?_; simp only [go_sem, seval]; refine hK _ ?_; clear hK K
  (repeat refine ats_seq ?_); refine ats_go (by first | exact fix0 hcx | exact fix1 hcx rfl) fun K hK => ?_; simp only [go_sem, seval]
  first | refine fcall_free rfl rfl (hk) ?_ | refine YR_intro (acall_free rfl rfl (hk)) ?_
  simp only [go_sem, seval]
  refine hK _ ?_; clear hK K
  (repeat refine ats_seq ?_); refine ats_go (by first | exact fix0 hcx | exact fix1 hcx rfl) fun K hK => ?_; simp only [go_sem, seval]; refine hK _ ?_; clear hK K
  exact ats_ret (fin2 trivial trivial rfl)
theorem implPt_ok (s : List (List Int)) (t : List Int) (a : Int) : PureCall Try.prog 49 [.agg [.l2 s, .l1 t], .int a] (.tup [.int (suA s t 1 [a]).1, .int (suA s t 1 [a]).2]) := by
  have hk := implSu_ok s t 1 [a]
  refine PureCall.intro (n := 12) (rs := [.tmp 4, .tmp 5]) Try.call49 Try.func49 rfl rfl rfl (by simp only [List.length_cons, List.length_nil]; omega) (fun cx hcx => ats_of ?_); simp only [argSlots, Nat.zero_add, Nat.reduceAdd]
  (repeat refine ats_seq ?_); refine ats_go (by first | exact fix0 hcx | exact fix1 hcx rfl) fun K hK => ?_; simp only [go_sem, seval]; refine hK _ ?_; clear hK K
  (repeat refine ats_seq ?_); refine ats_go (by first | exact fix0 hcx | exact fix1 hcx rfl) fun K hK => ?_; simp only [go_sem, seval]
  first | refine fcall_free rfl rfl (hk) ?_ | refine YR_intro (acall_free rfl rfl (hk)) ?_
  simp only [go_sem, seval]
  refine hK _ ?_; clear hK K
  exact ats_ret (fin2 trivial trivial rfl)
end Go.Proofs.Ytafkbnicffieeaa
