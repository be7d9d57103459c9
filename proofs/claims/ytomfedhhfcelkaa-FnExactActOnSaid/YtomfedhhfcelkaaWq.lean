import Derived.Test.YtomfedhhfcelkaaWo
set_option linter.unusedSimpArgs false
set_option linter.unusedVariables false
namespace Go.Proofs.Ytomfedhhfcelkaa
open Go Go.Aw Go.Pl

theorem l03Label_ok (t : List (List (List Int))) (h : t.length ≤ 16) (i : Int) : PureCall Try.prog 100 [.agg [.l3 t], .int i] (.bool (lblB t i)) := by
  refine PureCall.intro (n := 11) (rs := [.tmp 4]) Try.call100 Try.func100 rfl rfl rfl (by simp only [List.length_cons, List.length_nil]; omega) (fun cx hcx => ats_of ?_); simp only [argSlots, Nat.zero_add, Nat.reduceAdd]
  (repeat refine ats_seq ?_); refine ats_go (by first | exact fix0 hcx | exact fix1 hcx rfl) fun K hK => ?_; simp only [go_sem, Nat.reduceLT, Nat.reduceBNe, Nat.reduceBEq, Nat.reduceEqDiff, Nat.reduceAdd, Nat.reduceSub, Nat.reduceLeDiff, Int.reduceLE, Int.reduceLT, Int.reduceToNat, Int.reduceNeg, Int.reduceEq, ↓reduceIte, reduceCtorEq]; refine hK _ ?_; clear hK K
  (repeat refine ats_seq ?_); refine ats_go (by first | exact fix0 hcx | exact fix1 hcx rfl) fun K hK => ?_; simp only [go_sem, Nat.reduceLT, Nat.reduceBNe, Nat.reduceBEq, Nat.reduceEqDiff, Nat.reduceAdd, Nat.reduceSub, Nat.reduceLeDiff, Int.reduceLE, Int.reduceLT, Int.reduceToNat, Int.reduceNeg, Int.reduceEq, ↓reduceIte, reduceCtorEq]
  (repeat refine And.intro (by first | omega | (intro hq; first | omega | (simp only [decide_eq_false_iff_not, decide_eq_true_eq, Bool.not_eq_false', Bool.not_eq_true'] at hq; omega))) ?_)
  first | refine fcall_free rfl rfl (l01In_ok i 0 _) ?_ | refine YR_intro (acall_free rfl rfl (l01In_ok i 0 _)) ?_
  simp only [go_sem, Nat.reduceLT, Nat.reduceBNe, Nat.reduceBEq, Nat.reduceEqDiff, Nat.reduceAdd, Nat.reduceSub, Nat.reduceLeDiff, Int.reduceLE, Int.reduceLT, Int.reduceToNat, Int.reduceNeg, Int.reduceEq, ↓reduceIte, reduceCtorEq]
  refine hK _ ?_; clear hK K
  refine ats_ret (finB rfl ?_)
  rfl
theorem isLabel_ok (t : List (List (List Int))) (h : t.length ≤ 16) (i : Int) : PureCall Try.prog 102 [.agg [.l3 t], .int i] (.bool (lblB t i)) := by
  refine PureCall.intro (n := 11) (rs := [.tmp 4]) Try.call102 Try.func102 rfl rfl rfl (by simp only [List.length_cons, List.length_nil]; omega) (fun cx hcx => ats_of ?_); simp only [argSlots, Nat.zero_add, Nat.reduceAdd]
  (repeat refine ats_seq ?_); refine ats_go (by first | exact fix0 hcx | exact fix1 hcx rfl) fun K hK => ?_; simp only [go_sem, Nat.reduceLT, Nat.reduceBNe, Nat.reduceBEq, Nat.reduceEqDiff, Nat.reduceAdd, Nat.reduceSub, Nat.reduceLeDiff, Int.reduceLE, Int.reduceLT, Int.reduceToNat, Int.reduceNeg, Int.reduceEq, ↓reduceIte, reduceCtorEq]; refine hK _ ?_; clear hK K
  (repeat refine ats_seq ?_); refine ats_go (by first | exact fix0 hcx | exact fix1 hcx rfl) fun K hK => ?_; simp only [go_sem, Nat.reduceLT, Nat.reduceBNe, Nat.reduceBEq, Nat.reduceEqDiff, Nat.reduceAdd, Nat.reduceSub, Nat.reduceLeDiff, Int.reduceLE, Int.reduceLT, Int.reduceToNat, Int.reduceNeg, Int.reduceEq, ↓reduceIte, reduceCtorEq]
  (repeat refine And.intro (by first | omega | (intro hq; first | omega | (simp only [decide_eq_false_iff_not, decide_eq_true_eq, Bool.not_eq_false', Bool.not_eq_true'] at hq; omega))) ?_)
  first | refine fcall_free rfl rfl (within_ok i 0 _) ?_ | refine YR_intro (acall_free rfl rfl (within_ok i 0 _)) ?_
  simp only [go_sem, Nat.reduceLT, Nat.reduceBNe, Nat.reduceBEq, Nat.reduceEqDiff, Nat.reduceAdd, Nat.reduceSub, Nat.reduceLeDiff, Int.reduceLE, Int.reduceLT, Int.reduceToNat, Int.reduceNeg, Int.reduceEq, ↓reduceIte, reduceCtorEq]
  refine hK _ ?_; clear hK K
  refine ats_ret (finB rfl ?_)
  rfl

theorem specActOn_ok (t a : List (List (List Int))) (i : Int) (v : List Int) : PureCall Try.prog 47 [.agg [.l3 t], .agg [.l3 a], .int i, .l1 v] (actA' t a i v) := by
  have hk := l09Is_ok t a
  refine PureCall.intro (n := 78) (rs := [.tmp 8, .tmp 9]) Try.call47 Try.func47 rfl rfl rfl (by simp only [List.length_cons, List.length_nil]; omega) (fun cx hcx => ats_of ?_); simp only [argSlots, Nat.zero_add, Nat.reduceAdd]
  (repeat refine ats_seq ?_); refine ats_go (by first | exact fix0 hcx | exact fix1 hcx rfl) fun K hK => ?_; simp only [go_sem, Nat.reduceLT, Nat.reduceBNe, Nat.reduceBEq, Nat.reduceEqDiff, Nat.reduceAdd, Nat.reduceSub, Nat.reduceLeDiff, Int.reduceLE, Int.reduceLT, Int.reduceToNat, Int.reduceNeg, Int.reduceEq, ↓reduceIte, reduceCtorEq]; refine hK _ ?_; clear hK K
  cases hr : isAct t a with
  | false =>
    rw [hr] at hk
    have e : actA' t a i v = .tup [.nil, .int 1] := by simp only [actA', hr, Bool.false_eq_true, if_false]
    (repeat refine ats_seq ?_); refine ats_go (by first | exact fix0 hcx | exact fix1 hcx rfl) fun K hK => ?_; simp only [go_sem, Nat.reduceLT, Nat.reduceBNe, Nat.reduceBEq, Nat.reduceEqDiff, Nat.reduceAdd, Nat.reduceSub, Nat.reduceLeDiff, Int.reduceLE, Int.reduceLT, Int.reduceToNat, Int.reduceNeg, Int.reduceEq, ↓reduceIte, reduceCtorEq]
    first | refine fcall_free rfl rfl (hk) ?_ | refine YR_intro (acall_free rfl rfl (hk)) ?_
    simp only [go_sem, Nat.reduceLT, Nat.reduceBNe, Nat.reduceBEq, Nat.reduceEqDiff, Nat.reduceAdd, Nat.reduceSub, Nat.reduceLeDiff, Int.reduceLE, Int.reduceLT, Int.reduceToNat, Int.reduceNeg, Int.reduceEq, ↓reduceIte, reduceCtorEq]
    refine hK _ ?_; clear hK K
    (repeat refine ats_seq ?_); refine ats_yes rfl trivial ?_
    (repeat refine ats_seq ?_); refine ats_go (by first | exact fix0 hcx | exact fix1 hcx rfl) fun K hK => ?_; simp only [go_sem, Nat.reduceLT, Nat.reduceBNe, Nat.reduceBEq, Nat.reduceEqDiff, Nat.reduceAdd, Nat.reduceSub, Nat.reduceLeDiff, Int.reduceLE, Int.reduceLT, Int.reduceToNat, Int.reduceNeg, Int.reduceEq, ↓reduceIte, reduceCtorEq]; refine hK _ ?_; clear hK K
    exact ats_ret (fin2 trivial trivial (by rw [e]; rfl))
  | true =>
    rw [hr] at hk
    have hc := (isAct_ring hr).1
    have hf := isAct_fam hr
    have h16 := hc.2.1
    have hm16 := hf.2.2.2.1
    have hat := hf.1
    have hc1 := hc.1
    have hlb := l03Label_ok t h16 i
    (repeat refine ats_seq ?_); refine ats_go (by first | exact fix0 hcx | exact fix1 hcx rfl) fun K hK => ?_; simp only [go_sem, Nat.reduceLT, Nat.reduceBNe, Nat.reduceBEq, Nat.reduceEqDiff, Nat.reduceAdd, Nat.reduceSub, Nat.reduceLeDiff, Int.reduceLE, Int.reduceLT, Int.reduceToNat, Int.reduceNeg, Int.reduceEq, ↓reduceIte, reduceCtorEq]
    first | refine fcall_free rfl rfl (hk) ?_ | refine YR_intro (acall_free rfl rfl (hk)) ?_
    simp only [go_sem, Nat.reduceLT, Nat.reduceBNe, Nat.reduceBEq, Nat.reduceEqDiff, Nat.reduceAdd, Nat.reduceSub, Nat.reduceLeDiff, Int.reduceLE, Int.reduceLT, Int.reduceToNat, Int.reduceNeg, Int.reduceEq, ↓reduceIte, reduceCtorEq]
    refine hK _ ?_; clear hK K
    (repeat refine ats_seq ?_); refine ats_no rfl trivial ?_
    refine ats_skip ?_
    cases hi : lblB t i with
    | false =>
      have e : actA' t a i v = .tup [.nil, .int 2] := by simp only [actA', hr, hi, Bool.false_eq_true, false_and, if_true, if_false]
      rw [hi] at hlb
      (repeat refine ats_seq ?_); refine ats_go (by first | exact fix0 hcx | exact fix1 hcx rfl) fun K hK => ?_; simp only [go_sem, Nat.reduceLT, Nat.reduceBNe, Nat.reduceBEq, Nat.reduceEqDiff, Nat.reduceAdd, Nat.reduceSub, Nat.reduceLeDiff, Int.reduceLE, Int.reduceLT, Int.reduceToNat, Int.reduceNeg, Int.reduceEq, ↓reduceIte, reduceCtorEq]
      first | refine fcall_free rfl rfl (hlb) ?_ | refine YR_intro (acall_free rfl rfl (hlb)) ?_
      simp only [go_sem, Nat.reduceLT, Nat.reduceBNe, Nat.reduceBEq, Nat.reduceEqDiff, Nat.reduceAdd, Nat.reduceSub, Nat.reduceLeDiff, Int.reduceLE, Int.reduceLT, Int.reduceToNat, Int.reduceNeg, Int.reduceEq, ↓reduceIte, reduceCtorEq]
      refine YR_intro (v := .int 0) (by first | trivial | (intro h; cases h)) ?_
      simp only [go_sem, Nat.reduceLT, Nat.reduceBNe, Nat.reduceBEq, Nat.reduceEqDiff, Nat.reduceAdd, Nat.reduceSub, Nat.reduceLeDiff, Int.reduceLE, Int.reduceLT, Int.reduceToNat, Int.reduceNeg, Int.reduceEq, ↓reduceIte, reduceCtorEq]
      refine hK _ ?_; clear hK K
      (repeat refine ats_seq ?_); refine ats_yes rfl trivial ?_
      (repeat refine ats_seq ?_); refine ats_go (by first | exact fix0 hcx | exact fix1 hcx rfl) fun K hK => ?_; simp only [go_sem, Nat.reduceLT, Nat.reduceBNe, Nat.reduceBEq, Nat.reduceEqDiff, Nat.reduceAdd, Nat.reduceSub, Nat.reduceLeDiff, Int.reduceLE, Int.reduceLT, Int.reduceToNat, Int.reduceNeg, Int.reduceEq, ↓reduceIte, reduceCtorEq]; refine hK _ ?_; clear hK K
      exact ats_ret (fin2 trivial trivial (by rw [e]; rfl))
    | true =>
      rw [hi] at hlb
      obtain ⟨i0, i1⟩ := lblB_iff.1 hi
      have mi := hf.mat (show i.toNat < a.length by omega)
      (repeat refine ats_seq ?_); refine ats_go (by first | exact fix0 hcx | exact fix1 hcx rfl) fun K hK => ?_; simp only [go_sem, Nat.reduceLT, Nat.reduceBNe, Nat.reduceBEq, Nat.reduceEqDiff, Nat.reduceAdd, Nat.reduceSub, Nat.reduceLeDiff, Int.reduceLE, Int.reduceLT, Int.reduceToNat, Int.reduceNeg, Int.reduceEq, ↓reduceIte, reduceCtorEq]
      first | refine fcall_free rfl rfl (hlb) ?_ | refine YR_intro (acall_free rfl rfl (hlb)) ?_
      simp only [go_sem, Nat.reduceLT, Nat.reduceBNe, Nat.reduceBEq, Nat.reduceEqDiff, Nat.reduceAdd, Nat.reduceSub, Nat.reduceLeDiff, Int.reduceLE, Int.reduceLT, Int.reduceToNat, Int.reduceNeg, Int.reduceEq, ↓reduceIte, reduceCtorEq]
      first | refine YR_intro (fun _ => acall_free rfl rfl (l09Size_ok a (by omega))) ?_ | refine YR_intro (acall_free rfl rfl (l09Size_ok a (by omega))) ?_
      simp only [go_sem, Nat.reduceLT, Nat.reduceBNe, Nat.reduceBEq, Nat.reduceEqDiff, Nat.reduceAdd, Nat.reduceSub, Nat.reduceLeDiff, Int.reduceLE, Int.reduceLT, Int.reduceToNat, Int.reduceNeg, Int.reduceEq, ↓reduceIte, reduceCtorEq]
      refine hK _ ?_; clear hK K
      (repeat refine ats_seq ?_); first | refine ats_ifn (p := _) rfl trivial (fun hne => ?_) (fun hne => ?_) | refine ats_ifp (p := _) rfl trivial (fun hne => ?_) (fun hne => ?_) | refine ats_cond rfl trivial (fun hne => ?_) (fun hne => ?_)
      · have e : actA' t a i v = .tup [.nil, .int 2] := by
          unfold actA'
          rw [if_pos hr, if_neg (fun h => by have := h.2.1; omega)]
        (repeat refine ats_seq ?_); refine ats_go (by first | exact fix0 hcx | exact fix1 hcx rfl) fun K hK => ?_; simp only [go_sem, Nat.reduceLT, Nat.reduceBNe, Nat.reduceBEq, Nat.reduceEqDiff, Nat.reduceAdd, Nat.reduceSub, Nat.reduceLeDiff, Int.reduceLE, Int.reduceLT, Int.reduceToNat, Int.reduceNeg, Int.reduceEq, ↓reduceIte, reduceCtorEq]; refine hK _ ?_; clear hK K
        exact ats_ret (fin2 trivial trivial (by rw [e]; rfl))
      · refine ats_skip ?_
        (repeat refine ats_seq ?_); refine ats_go (by first | exact fix0 hcx | exact fix1 hcx rfl) fun K hK => ?_; simp only [go_sem, Nat.reduceLT, Nat.reduceBNe, Nat.reduceBEq, Nat.reduceEqDiff, Nat.reduceAdd, Nat.reduceSub, Nat.reduceLeDiff, Int.reduceLE, Int.reduceLT, Int.reduceToNat, Int.reduceNeg, Int.reduceEq, ↓reduceIte, reduceCtorEq]; refine hK _ ?_; clear hK K
        (repeat refine ats_seq ?_); refine ats_loop (fun k : Nat => ⟨[(2, .int i), (3, .l1 v), (5, .bptr 1 0), (10, .int k)], [(0, .bx [.l3 t]), (1, .bx [.l3 a])]⟩) (fun k => k ≤ v.length ∧ ∀ b, b < k → inV (v.getD b 0)) (fun k => v.length - k) 0 ⟨Nat.zero_le _, fun a h => absurd h (Nat.not_lt_zero a)⟩ (by refine And.intro ?_ rfl; simp only [SlotsLe, St.get, slotGet, Nat.reduceEqDiff, ↓reduceIte, AV.int.injEq, AV.bool.injEq, AV.l1.injEq, AV.l2.injEq, AV.l3.injEq, true_and, and_true]; rfl) (fun k hk => ?_); obtain ⟨hk, Hk⟩ := hk
        (repeat refine ats_seq ?_); refine ats_go (by first | exact fix0 hcx | exact fix1 hcx rfl) fun K hK => ?_; simp only [go_sem, Nat.reduceLT, Nat.reduceBNe, Nat.reduceBEq, Nat.reduceEqDiff, Nat.reduceAdd, Nat.reduceSub, Nat.reduceLeDiff, Int.reduceLE, Int.reduceLT, Int.reduceToNat, Int.reduceNeg, Int.reduceEq, ↓reduceIte, reduceCtorEq]; refine hK _ ?_; clear hK K
        (repeat refine ats_seq ?_); first | refine ats_ifn (p := _) rfl trivial (fun hlk => ?_) (fun hlk => ?_) | refine ats_ifp (p := _) rfl trivial (fun hlk => ?_) (fun hlk => ?_) | refine ats_cond rfl trivial (fun hlk => ?_) (fun hlk => ?_)
        · refine ats_skip ?_
          (repeat refine ats_seq ?_); refine ats_block ?_
          (repeat refine ats_seq ?_); refine ats_go (by first | exact fix0 hcx | exact fix1 hcx rfl) fun K hK => ?_; simp only [go_sem, Nat.reduceLT, Nat.reduceBNe, Nat.reduceBEq, Nat.reduceEqDiff, Nat.reduceAdd, Nat.reduceSub, Nat.reduceLeDiff, Int.reduceLE, Int.reduceLT, Int.reduceToNat, Int.reduceNeg, Int.reduceEq, ↓reduceIte, reduceCtorEq]
          (repeat refine And.intro (by first | omega | (intro hq; first | omega | (simp only [decide_eq_false_iff_not, decide_eq_true_eq, Bool.not_eq_false', Bool.not_eq_true'] at hq; omega))) ?_)
          first | refine fcall_data (l01In_ok _ _ _) rfl ?_ | refine YR_intro (acall_data (l01In_ok _ _ _) rfl) ?_
          simp only [go_sem, Nat.reduceLT, Nat.reduceBNe, Nat.reduceBEq, Nat.reduceEqDiff, Nat.reduceAdd, Nat.reduceSub, Nat.reduceLeDiff, Int.reduceLE, Int.reduceLT, Int.reduceToNat, Int.reduceNeg, Int.reduceEq, ↓reduceIte, reduceCtorEq]
          refine hK _ ?_; clear hK K
          (repeat refine ats_seq ?_); first | refine ats_ifn (p := _) rfl trivial (fun h6 => ?_) (fun h6 => ?_) | refine ats_ifp (p := _) rfl trivial (fun h6 => ?_) (fun h6 => ?_) | refine ats_cond rfl trivial (fun h6 => ?_) (fun h6 => ?_)
          · have e : actA' t a i v = .tup [.nil, .int 2] := by
              unfold actA'
              rw [if_pos hr, if_neg (fun h => by
                have := vecB_iff.1 h.2.2 k (by omega)
                simp only [Bool.not_eq_true', Bool.and_eq_false_iff, decide_eq_false_iff_not] at h6
                exact h6.elim (fun h => h this.1) (fun h => h this.2))]
            (repeat refine ats_seq ?_); refine ats_go (by first | exact fix0 hcx | exact fix1 hcx rfl) fun K hK => ?_; simp only [go_sem, Nat.reduceLT, Nat.reduceBNe, Nat.reduceBEq, Nat.reduceEqDiff, Nat.reduceAdd, Nat.reduceSub, Nat.reduceLeDiff, Int.reduceLE, Int.reduceLT, Int.reduceToNat, Int.reduceNeg, Int.reduceEq, ↓reduceIte, reduceCtorEq]; refine hK _ ?_; clear hK K
            exact ats_ret (fin2 trivial trivial (by rw [e]; rfl))
          · simp only [Bool.not_eq_false', Bool.and_eq_true, decide_eq_true_eq] at h6
            refine ats_skip ?_
            (repeat refine ats_seq ?_); refine ats_go (by first | exact fix0 hcx | exact fix1 hcx rfl) fun K hK => ?_; simp only [go_sem, Nat.reduceLT, Nat.reduceBNe, Nat.reduceBEq, Nat.reduceEqDiff, Nat.reduceAdd, Nat.reduceSub, Nat.reduceLeDiff, Int.reduceLE, Int.reduceLT, Int.reduceToNat, Int.reduceNeg, Int.reduceEq, ↓reduceIte, reduceCtorEq]; (repeat refine And.intro (by first | omega | (intro hq; first | omega | (simp only [decide_eq_false_iff_not, decide_eq_true_eq, Bool.not_eq_false', Bool.not_eq_true'] at hq; omega))) ?_); refine hK _ ?_; clear hK K
            refine ⟨k + 1, ⟨by omega, fun a ha => by rcases Nat.lt_succ_iff_lt_or_eq.1 ha with h | rfl; exact Hk a h; exact h6⟩, by omega, .inl ⟨?_, rfl⟩⟩; simp only [SlotsLe, St.get, slotGet, Nat.reduceEqDiff, ↓reduceIte, AV.int.injEq, AV.bool.injEq, AV.l1.injEq, AV.l2.injEq, AV.l3.injEq, true_and, and_true]; omega
        · have hV : vecB v = true := vecB_iff.2 (fun k' hk' => Hk k' (by omega))
          have hV' : ∀ y, y < v.length → inV (v.getD y 0) := vecB_iff.1 hV
          clear Hk
          have hvl : v.length = (a.getD 0 []).length := by omega
          have e : actA' t a i v = .tup [.l1 (actL a i v), .int 0] := by simp only [actA', hr, hi, hV, hvl, and_self, if_true]
          refine ats_exit (lq_x ?_)
          (repeat refine ats_seq ?_); refine ats_go (by first | exact fix0 hcx | exact fix1 hcx rfl) fun K hK => ?_; simp only [go_sem, Nat.reduceLT, Nat.reduceBNe, Nat.reduceBEq, Nat.reduceEqDiff, Nat.reduceAdd, Nat.reduceSub, Nat.reduceLeDiff, Int.reduceLE, Int.reduceLT, Int.reduceToNat, Int.reduceNeg, Int.reduceEq, ↓reduceIte, reduceCtorEq]; refine hK _ ?_; clear hK K
          (repeat refine ats_seq ?_); refine ats_go (by first | exact fix0 hcx | exact fix1 hcx rfl) fun K hK => ?_; simp only [go_sem, Nat.reduceLT, Nat.reduceBNe, Nat.reduceBEq, Nat.reduceEqDiff, Nat.reduceAdd, Nat.reduceSub, Nat.reduceLeDiff, Int.reduceLE, Int.reduceLT, Int.reduceToNat, Int.reduceNeg, Int.reduceEq, ↓reduceIte, reduceCtorEq]; refine hK _ ?_; clear hK K
          (repeat refine ats_seq ?_); refine ats_loop (fun x : Nat => ⟨[(2, .int i), (3, .l1 v), (5, .bptr 1 0), (11, .ref 2 []), (12, .int x)], [(0, .bx [.l3 t]), (1, .bx [.l3 a]), (2, .t1 (((a.getD i.toNat []).take x).map (dot v)))]⟩) (fun x => x ≤ v.length) (fun x => v.length - x) 0 (Nat.zero_le _) (by refine And.intro ?_ rfl; simp only [SlotsLe, St.get, slotGet, Nat.reduceEqDiff, ↓reduceIte, true_and, and_true, AV.int.injEq, AV.bool.injEq, AV.l1.injEq, AV.l2.injEq, AV.l3.injEq]; repeat' (first | rfl | refine And.intro ?_ ?_)) (fun x hx => ?_)
          have hl := take_map_length (f := dot v) (xs := a.getD i.toNat []) (k := x) (by omega)
          (repeat refine ats_seq ?_); refine ats_go (by first | exact fix0 hcx | exact fix1 hcx rfl) fun K hK => ?_; simp only [go_sem, Nat.reduceLT, Nat.reduceBNe, Nat.reduceBEq, Nat.reduceEqDiff, Nat.reduceAdd, Nat.reduceSub, Nat.reduceLeDiff, Int.reduceLE, Int.reduceLT, Int.reduceToNat, Int.reduceNeg, Int.reduceEq, ↓reduceIte, reduceCtorEq]; refine hK _ ?_; clear hK K
          (repeat refine ats_seq ?_); first | refine ats_ifn (p := _) rfl trivial (fun hlx => ?_) (fun hlx => ?_) | refine ats_ifp (p := _) rfl trivial (fun hlx => ?_) (fun hlx => ?_) | refine ats_cond rfl trivial (fun hlx => ?_) (fun hlx => ?_)
          · have rix := hf.row (show i.toNat < a.length by omega) (show x < (a.getD 0 []).length by omega)
            have bd := dot_bd (r := (a.getD i.toNat []).getD x []) (v := v) (n := v.length) (fun y hy => hf.inM (show i.toNat < a.length by omega) (show x < (a.getD 0 []).length by omega) (show y < (a.getD 0 []).length by omega)) hV'
            refine ats_skip ?_
            (repeat refine ats_seq ?_); refine ats_block ?_
            (repeat refine ats_seq ?_); refine ats_go (by first | exact fix0 hcx | exact fix1 hcx rfl) fun K hK => ?_; simp only [go_sem, Nat.reduceLT, Nat.reduceBNe, Nat.reduceBEq, Nat.reduceEqDiff, Nat.reduceAdd, Nat.reduceSub, Nat.reduceLeDiff, Int.reduceLE, Int.reduceLT, Int.reduceToNat, Int.reduceNeg, Int.reduceEq, ↓reduceIte, reduceCtorEq]; refine hK _ ?_; clear hK K
            (repeat refine ats_seq ?_); refine ats_go (by first | exact fix0 hcx | exact fix1 hcx rfl) fun K hK => ?_; simp only [go_sem, Nat.reduceLT, Nat.reduceBNe, Nat.reduceBEq, Nat.reduceEqDiff, Nat.reduceAdd, Nat.reduceSub, Nat.reduceLeDiff, Int.reduceLE, Int.reduceLT, Int.reduceToNat, Int.reduceNeg, Int.reduceEq, ↓reduceIte, reduceCtorEq]; refine hK _ ?_; clear hK K
            (repeat refine ats_seq ?_); refine ats_loop (fun y : Nat => ⟨[(2, .int i), (3, .l1 v), (5, .bptr 1 0), (11, .ref 2 []), (12, .int x), (13, .int (sumTo (dotG ((a.getD i.toNat []).getD x []) v) y)), (14, .int y)], [(0, .bx [.l3 t]), (1, .bx [.l3 a]), (2, .t1 (((a.getD i.toNat []).take x).map (dot v)))]⟩) (fun y => y ≤ v.length) (fun y => v.length - y) 0 (Nat.zero_le _) (by refine And.intro ?_ rfl; simp only [SlotsLe, St.get, slotGet, Nat.reduceEqDiff, ↓reduceIte, true_and, and_true, AV.int.injEq, AV.bool.injEq, AV.l1.injEq, AV.l2.injEq, AV.l3.injEq]; repeat' (first | rfl | refine And.intro ?_ ?_)) (fun y hy => ?_)
            (repeat refine ats_seq ?_); refine ats_go (by first | exact fix0 hcx | exact fix1 hcx rfl) fun K hK => ?_; simp only [go_sem, Nat.reduceLT, Nat.reduceBNe, Nat.reduceBEq, Nat.reduceEqDiff, Nat.reduceAdd, Nat.reduceSub, Nat.reduceLeDiff, Int.reduceLE, Int.reduceLT, Int.reduceToNat, Int.reduceNeg, Int.reduceEq, ↓reduceIte, reduceCtorEq]; refine hK _ ?_; clear hK K
            (repeat refine ats_seq ?_); first | refine ats_ifn (p := _) rfl trivial (fun hly => ?_) (fun hly => ?_) | refine ats_ifp (p := _) rfl trivial (fun hly => ?_) (fun hly => ?_) | refine ats_cond rfl trivial (fun hly => ?_) (fun hly => ?_)
            · have sL := sumTo_le (n := y) (fun x hx => bd x (by omega))
              have cL := bd y (by omega)
              simp only [dotG] at cL
              refine ats_skip ?_
              (repeat refine ats_seq ?_); refine ats_block ?_
              (repeat refine ats_seq ?_); refine ats_pick (fix0 hcx) mixed (by kernel_rfl) fun K hK => ?_; simp only [go_sem, Nat.reduceLT, Nat.reduceBNe, Nat.reduceBEq, Nat.reduceEqDiff, Nat.reduceAdd, Nat.reduceSub, Nat.reduceLeDiff, Int.reduceLE, Int.reduceLT, Int.reduceToNat, Int.reduceNeg, Int.reduceEq, ↓reduceIte, reduceCtorEq]; (repeat refine And.intro (by first | omega | (intro hq; first | omega | (simp only [decide_eq_false_iff_not, decide_eq_true_eq, Bool.not_eq_false', Bool.not_eq_true'] at hq; omega))) ?_); refine hK _ ?_; clear hK K
              (repeat refine ats_seq ?_); refine ats_go (by first | exact fix0 hcx | exact fix1 hcx rfl) fun K hK => ?_; simp only [go_sem, Nat.reduceLT, Nat.reduceBNe, Nat.reduceBEq, Nat.reduceEqDiff, Nat.reduceAdd, Nat.reduceSub, Nat.reduceLeDiff, Int.reduceLE, Int.reduceLT, Int.reduceToNat, Int.reduceNeg, Int.reduceEq, ↓reduceIte, reduceCtorEq]; (repeat refine And.intro (by first | omega | (intro hq; first | omega | (simp only [decide_eq_false_iff_not, decide_eq_true_eq, Bool.not_eq_false', Bool.not_eq_true'] at hq; omega))) ?_); refine hK _ ?_; clear hK K
              refine ⟨y + 1,  by omega, by omega, .inl ⟨by simp only [SlotsLe, St.get, slotGet, Nat.reduceEqDiff, ↓reduceIte, AV.int.injEq, AV.bool.injEq, AV.l1.injEq, AV.l2.injEq, AV.l3.injEq, true_and, and_true]; exact ⟨rfl, by omega⟩,  rfl⟩⟩
            · obtain rfl : y = v.length := by omega
              have sL := sumTo_le (n := v.length) bd
              refine ats_exit (lq_x ?_)
              (repeat refine ats_seq ?_); refine ats_go (by first | exact fix0 hcx | exact fix1 hcx rfl) fun K hK => ?_; simp only [go_sem, Nat.reduceLT, Nat.reduceBNe, Nat.reduceBEq, Nat.reduceEqDiff, Nat.reduceAdd, Nat.reduceSub, Nat.reduceLeDiff, Int.reduceLE, Int.reduceLT, Int.reduceToNat, Int.reduceNeg, Int.reduceEq, ↓reduceIte, reduceCtorEq]
              (repeat refine And.intro (by (first | omega | (rw [hl]; omega))) ?_)
              refine hK _ ?_; clear hK K
              (repeat refine ats_seq ?_); refine ats_go (by first | exact fix0 hcx | exact fix1 hcx rfl) fun K hK => ?_; simp only [go_sem, Nat.reduceLT, Nat.reduceBNe, Nat.reduceBEq, Nat.reduceEqDiff, Nat.reduceAdd, Nat.reduceSub, Nat.reduceLeDiff, Int.reduceLE, Int.reduceLT, Int.reduceToNat, Int.reduceNeg, Int.reduceEq, ↓reduceIte, reduceCtorEq]; (repeat refine And.intro (by first | omega | (intro hq; first | omega | (simp only [decide_eq_false_iff_not, decide_eq_true_eq, Bool.not_eq_false', Bool.not_eq_true'] at hq; omega))) ?_); refine hK _ ?_; clear hK K
              refine ⟨x + 1, by omega, by omega, .inr ⟨[3], by simp only [killL, List.map_cons, List.map_nil, killA, killAs, qOf, rmT, killH, killT, List.filter_cons, List.filter_nil, List.contains_cons, List.contains_nil, SlotsLe, St.get, slotGet, Nat.reduceEqDiff, Nat.reduceBEq, Bool.or_false, Bool.or_true, Bool.false_and, Bool.not_true, Bool.not_false, Bool.false_eq_true, ↓reduceIte, if_true, if_false, AV.int.injEq, AV.bool.injEq, AV.l1.injEq, AV.l2.injEq, AV.l3.injEq, true_and, and_true]; omega, by simp only [killL, List.map_cons, List.map_nil, killA, killAs, qOf, rmT, killH, killT, List.filter_cons, List.filter_nil, List.contains_cons, List.contains_nil, SlotsLe, St.get, slotGet, Nat.reduceEqDiff, Nat.reduceBEq, Bool.or_false, Bool.or_true, Bool.false_and, Bool.not_true, Bool.not_false, Bool.false_eq_true, ↓reduceIte, if_true, if_false, AV.int.injEq, AV.bool.injEq, AV.l1.injEq, AV.l2.injEq, AV.l3.injEq, true_and, and_true]; rw [take_succ_map (d := []) (by omega), dot, rix, hvl]⟩⟩
          · obtain rfl : x = v.length := by omega
            refine ats_exit (lq_x ?_)
            (repeat refine ats_seq ?_); refine ats_go (by first | exact fix0 hcx | exact fix1 hcx rfl) fun K hK => ?_; simp only [go_sem, Nat.reduceLT, Nat.reduceBNe, Nat.reduceBEq, Nat.reduceEqDiff, Nat.reduceAdd, Nat.reduceSub, Nat.reduceLeDiff, Int.reduceLE, Int.reduceLT, Int.reduceToNat, Int.reduceNeg, Int.reduceEq, ↓reduceIte, reduceCtorEq]; refine hK _ ?_; clear hK K
            exact ats_ret (fin2 trivial trivial (by rw [e, actL, List.take_of_length_le (by omega)]; rfl))

theorem sumOfProducts_ok (r v : List Int) (n : Nat) (hn : r.length = n) (hv : v.length = n) (h16 : n ≤ 16) (bd : ∀ y, y < n → 0 ≤ dotG r v y ∧ dotG r v y ≤ 1000000000) : PureCall Try.prog 105 [.l1 r, .l1 v] (.int (dot v r)) := by
  refine PureCall.intro (n := 25) (rs := [.tmp 4]) Try.call105 Try.func105 rfl rfl rfl (by simp only [List.length_cons, List.length_nil]; omega) (fun cx hcx => ats_of ?_); simp only [argSlots, Nat.zero_add, Nat.reduceAdd]
  (repeat refine ats_seq ?_); refine ats_go (by first | exact fix0 hcx | exact fix1 hcx rfl) fun K hK => ?_; simp only [go_sem, Nat.reduceLT, Nat.reduceBNe, Nat.reduceBEq, Nat.reduceEqDiff, Nat.reduceAdd, Nat.reduceSub, Nat.reduceLeDiff, Int.reduceLE, Int.reduceLT, Int.reduceToNat, Int.reduceNeg, Int.reduceEq, ↓reduceIte, reduceCtorEq]; refine hK _ ?_; clear hK K
  (repeat refine ats_seq ?_); refine ats_go (by first | exact fix0 hcx | exact fix1 hcx rfl) fun K hK => ?_; simp only [go_sem, Nat.reduceLT, Nat.reduceBNe, Nat.reduceBEq, Nat.reduceEqDiff, Nat.reduceAdd, Nat.reduceSub, Nat.reduceLeDiff, Int.reduceLE, Int.reduceLT, Int.reduceToNat, Int.reduceNeg, Int.reduceEq, ↓reduceIte, reduceCtorEq]; refine hK _ ?_; clear hK K
  (repeat refine ats_seq ?_); refine ats_go (by first | exact fix0 hcx | exact fix1 hcx rfl) fun K hK => ?_; simp only [go_sem, Nat.reduceLT, Nat.reduceBNe, Nat.reduceBEq, Nat.reduceEqDiff, Nat.reduceAdd, Nat.reduceSub, Nat.reduceLeDiff, Int.reduceLE, Int.reduceLT, Int.reduceToNat, Int.reduceNeg, Int.reduceEq, ↓reduceIte, reduceCtorEq]; refine hK _ ?_; clear hK K
  (repeat refine ats_seq ?_); refine ats_loop (fun y : Nat => ⟨[(0, .l1 r), (1, .l1 v), (5, .int (sumTo (dotG r v) y)), (8, .int r.length), (9, .int y)], []⟩) (fun y => y ≤ r.length) (fun y => r.length - y) 0 (Nat.zero_le _) (by refine And.intro ?_ rfl; simp only [SlotsLe, St.get, slotGet, Nat.reduceEqDiff, ↓reduceIte, true_and, and_true, AV.int.injEq, AV.bool.injEq, AV.l1.injEq, AV.l2.injEq, AV.l3.injEq]; repeat' (first | rfl | refine And.intro ?_ ?_)) (fun y hy => ?_)
  (repeat refine ats_seq ?_); refine ats_go (by first | exact fix0 hcx | exact fix1 hcx rfl) fun K hK => ?_; simp only [go_sem, Nat.reduceLT, Nat.reduceBNe, Nat.reduceBEq, Nat.reduceEqDiff, Nat.reduceAdd, Nat.reduceSub, Nat.reduceLeDiff, Int.reduceLE, Int.reduceLT, Int.reduceToNat, Int.reduceNeg, Int.reduceEq, ↓reduceIte, reduceCtorEq]; refine hK _ ?_; clear hK K
  (repeat refine ats_seq ?_); first | refine ats_ifn (p := _) rfl trivial (fun hly => ?_) (fun hly => ?_) | refine ats_ifp (p := _) rfl trivial (fun hly => ?_) (fun hly => ?_) | refine ats_cond rfl trivial (fun hly => ?_) (fun hly => ?_)
  · have sL := sumTo_le (n := y) (fun x hx => bd x (by omega))
    have cL := bd y (by omega)
    simp only [dotG] at cL
    refine ats_skip ?_
    (repeat refine ats_seq ?_); refine ats_block ?_
    (repeat refine ats_seq ?_); refine ats_go (by first | exact fix0 hcx | exact fix1 hcx rfl) fun K hK => ?_; simp only [go_sem, Nat.reduceLT, Nat.reduceBNe, Nat.reduceBEq, Nat.reduceEqDiff, Nat.reduceAdd, Nat.reduceSub, Nat.reduceLeDiff, Int.reduceLE, Int.reduceLT, Int.reduceToNat, Int.reduceNeg, Int.reduceEq, ↓reduceIte, reduceCtorEq]; refine hK _ ?_; clear hK K
    (repeat refine ats_seq ?_); refine ats_pick (fix0 hcx) mixed (by kernel_rfl) fun K hK => ?_; simp only [go_sem, Nat.reduceLT, Nat.reduceBNe, Nat.reduceBEq, Nat.reduceEqDiff, Nat.reduceAdd, Nat.reduceSub, Nat.reduceLeDiff, Int.reduceLE, Int.reduceLT, Int.reduceToNat, Int.reduceNeg, Int.reduceEq, ↓reduceIte, reduceCtorEq]; (repeat refine And.intro (by first | omega | (intro hq; first | omega | (simp only [decide_eq_false_iff_not, decide_eq_true_eq, Bool.not_eq_false', Bool.not_eq_true'] at hq; omega))) ?_); refine hK _ ?_; clear hK K
    (repeat refine ats_seq ?_); refine ats_go (by first | exact fix0 hcx | exact fix1 hcx rfl) fun K hK => ?_; simp only [go_sem, Nat.reduceLT, Nat.reduceBNe, Nat.reduceBEq, Nat.reduceEqDiff, Nat.reduceAdd, Nat.reduceSub, Nat.reduceLeDiff, Int.reduceLE, Int.reduceLT, Int.reduceToNat, Int.reduceNeg, Int.reduceEq, ↓reduceIte, reduceCtorEq]; (repeat refine And.intro (by first | omega | (intro hq; first | omega | (simp only [decide_eq_false_iff_not, decide_eq_true_eq, Bool.not_eq_false', Bool.not_eq_true'] at hq; omega))) ?_); refine hK _ ?_; clear hK K
    refine ⟨y + 1,  by omega, by omega, .inl ⟨by simp only [SlotsLe, St.get, slotGet, Nat.reduceEqDiff, ↓reduceIte, AV.int.injEq, AV.bool.injEq, AV.l1.injEq, AV.l2.injEq, AV.l3.injEq, true_and, and_true]; exact ⟨rfl, by omega⟩,  rfl⟩⟩
  · obtain rfl : y = r.length := by omega
    refine ats_exit (lq_x ?_)
    (repeat refine ats_seq ?_); refine ats_go (by first | exact fix0 hcx | exact fix1 hcx rfl) fun K hK => ?_; simp only [go_sem, Nat.reduceLT, Nat.reduceBNe, Nat.reduceBEq, Nat.reduceEqDiff, Nat.reduceAdd, Nat.reduceSub, Nat.reduceLeDiff, Int.reduceLE, Int.reduceLT, Int.reduceToNat, Int.reduceNeg, Int.reduceEq, ↓reduceIte, reduceCtorEq]; refine hK _ ?_; clear hK K
    refine ats_ret (finI rfl ?_)
    rfl

theorem implActOn_ok (t a : List (List (List Int))) (i : Int) (v : List Int) : FreshCall Try.prog 49 [.agg [.l3 t], .agg [.l3 a], .int i, .l1 v] (actA' t a i v) := by
  have hk := IsAction_ok t a
  refine FreshCall.intro (n := 52) (rs := [.tmp 8, .tmp 9]) Try.call49 Try.func49 rfl rfl rfl (by simp only [List.length_cons, List.length_nil]; omega) (fun cx hcx => ats_of ?_); simp only [argSlots, Nat.zero_add, Nat.reduceAdd]
  (repeat refine ats_seq ?_); refine ats_go (by first | exact fix0 hcx | exact fix1 hcx rfl) fun K hK => ?_; simp only [go_sem, Nat.reduceLT, Nat.reduceBNe, Nat.reduceBEq, Nat.reduceEqDiff, Nat.reduceAdd, Nat.reduceSub, Nat.reduceLeDiff, Int.reduceLE, Int.reduceLT, Int.reduceToNat, Int.reduceNeg, Int.reduceEq, ↓reduceIte, reduceCtorEq]; refine hK _ ?_; clear hK K
  cases hr : isAct t a with
  | false =>
    rw [hr] at hk
    have e : actA' t a i v = .tup [.nil, .int 1] := by simp only [actA', hr, Bool.false_eq_true, if_false]
    (repeat refine ats_seq ?_); refine ats_go (by first | exact fix0 hcx | exact fix1 hcx rfl) fun K hK => ?_; simp only [go_sem, Nat.reduceLT, Nat.reduceBNe, Nat.reduceBEq, Nat.reduceEqDiff, Nat.reduceAdd, Nat.reduceSub, Nat.reduceLeDiff, Int.reduceLE, Int.reduceLT, Int.reduceToNat, Int.reduceNeg, Int.reduceEq, ↓reduceIte, reduceCtorEq]
    first | refine fcall_free rfl rfl (hk) ?_ | refine YR_intro (acall_free rfl rfl (hk)) ?_
    simp only [go_sem, Nat.reduceLT, Nat.reduceBNe, Nat.reduceBEq, Nat.reduceEqDiff, Nat.reduceAdd, Nat.reduceSub, Nat.reduceLeDiff, Int.reduceLE, Int.reduceLT, Int.reduceToNat, Int.reduceNeg, Int.reduceEq, ↓reduceIte, reduceCtorEq]
    refine hK _ ?_; clear hK K
    (repeat refine ats_seq ?_); refine ats_yes rfl trivial ?_
    (repeat refine ats_seq ?_); refine ats_go (by first | exact fix0 hcx | exact fix1 hcx rfl) fun K hK => ?_; simp only [go_sem, Nat.reduceLT, Nat.reduceBNe, Nat.reduceBEq, Nat.reduceEqDiff, Nat.reduceAdd, Nat.reduceSub, Nat.reduceLeDiff, Int.reduceLE, Int.reduceLT, Int.reduceToNat, Int.reduceNeg, Int.reduceEq, ↓reduceIte, reduceCtorEq]; refine hK _ ?_; clear hK K
    exact ats_ret (own2 (is := []) trivial trivial (by rw [e]; rfl) (by simp))
  | true =>
    rw [hr] at hk
    have hc := (isAct_ring hr).1
    have hf := isAct_fam hr
    have h16 := hc.2.1
    have hm16 := hf.2.2.2.1
    have hat := hf.1
    have hc1 := hc.1
    have hlb := isLabel_ok t h16 i
    (repeat refine ats_seq ?_); refine ats_go (by first | exact fix0 hcx | exact fix1 hcx rfl) fun K hK => ?_; simp only [go_sem, Nat.reduceLT, Nat.reduceBNe, Nat.reduceBEq, Nat.reduceEqDiff, Nat.reduceAdd, Nat.reduceSub, Nat.reduceLeDiff, Int.reduceLE, Int.reduceLT, Int.reduceToNat, Int.reduceNeg, Int.reduceEq, ↓reduceIte, reduceCtorEq]
    first | refine fcall_free rfl rfl (hk) ?_ | refine YR_intro (acall_free rfl rfl (hk)) ?_
    simp only [go_sem, Nat.reduceLT, Nat.reduceBNe, Nat.reduceBEq, Nat.reduceEqDiff, Nat.reduceAdd, Nat.reduceSub, Nat.reduceLeDiff, Int.reduceLE, Int.reduceLT, Int.reduceToNat, Int.reduceNeg, Int.reduceEq, ↓reduceIte, reduceCtorEq]
    refine hK _ ?_; clear hK K
    (repeat refine ats_seq ?_); refine ats_no rfl trivial ?_
    refine ats_skip ?_
    cases hi : lblB t i with
    | false =>
      have e : actA' t a i v = .tup [.nil, .int 2] := by simp only [actA', hr, hi, Bool.false_eq_true, false_and, if_true, if_false]
      rw [hi] at hlb
      (repeat refine ats_seq ?_); refine ats_go (by first | exact fix0 hcx | exact fix1 hcx rfl) fun K hK => ?_; simp only [go_sem, Nat.reduceLT, Nat.reduceBNe, Nat.reduceBEq, Nat.reduceEqDiff, Nat.reduceAdd, Nat.reduceSub, Nat.reduceLeDiff, Int.reduceLE, Int.reduceLT, Int.reduceToNat, Int.reduceNeg, Int.reduceEq, ↓reduceIte, reduceCtorEq]
      first | refine fcall_free rfl rfl (hlb) ?_ | refine YR_intro (acall_free rfl rfl (hlb)) ?_
      simp only [go_sem, Nat.reduceLT, Nat.reduceBNe, Nat.reduceBEq, Nat.reduceEqDiff, Nat.reduceAdd, Nat.reduceSub, Nat.reduceLeDiff, Int.reduceLE, Int.reduceLT, Int.reduceToNat, Int.reduceNeg, Int.reduceEq, ↓reduceIte, reduceCtorEq]
      refine YR_intro (v := .int 0) (by first | trivial | (intro h; cases h)) ?_
      simp only [go_sem, Nat.reduceLT, Nat.reduceBNe, Nat.reduceBEq, Nat.reduceEqDiff, Nat.reduceAdd, Nat.reduceSub, Nat.reduceLeDiff, Int.reduceLE, Int.reduceLT, Int.reduceToNat, Int.reduceNeg, Int.reduceEq, ↓reduceIte, reduceCtorEq]
      refine YR_intro (v := .bool false) (by first | trivial | (intro h; cases h)) ?_
      simp only [go_sem, Nat.reduceLT, Nat.reduceBNe, Nat.reduceBEq, Nat.reduceEqDiff, Nat.reduceAdd, Nat.reduceSub, Nat.reduceLeDiff, Int.reduceLE, Int.reduceLT, Int.reduceToNat, Int.reduceNeg, Int.reduceEq, ↓reduceIte, reduceCtorEq]
      refine hK _ ?_; clear hK K
      (repeat refine ats_seq ?_); refine ats_yes rfl trivial ?_
      (repeat refine ats_seq ?_); refine ats_go (by first | exact fix0 hcx | exact fix1 hcx rfl) fun K hK => ?_; simp only [go_sem, Nat.reduceLT, Nat.reduceBNe, Nat.reduceBEq, Nat.reduceEqDiff, Nat.reduceAdd, Nat.reduceSub, Nat.reduceLeDiff, Int.reduceLE, Int.reduceLT, Int.reduceToNat, Int.reduceNeg, Int.reduceEq, ↓reduceIte, reduceCtorEq]; refine hK _ ?_; clear hK K
      exact ats_ret (own2 (is := []) trivial trivial (by rw [e]; rfl) (by simp))
    | true =>
      rw [hi] at hlb
      obtain ⟨i0, i1⟩ := lblB_iff.1 hi
      have mi := hf.mat (show i.toNat < a.length by omega)
      by_cases hvl : v.length = (a.getD 0 []).length
      · have haw : PureCall Try.prog 104 [.l1 v, .int 0, .int 1000000] (.bool (vecB v)) := allWithin_ok v 0 1000000
        cases hV : vecB v with
        | false =>
          rw [hV] at haw
          have e : actA' t a i v = .tup [.nil, .int 2] := by simp only [actA', hr, hi, hV, Bool.false_eq_true, and_false, if_true, if_false]
          (repeat refine ats_seq ?_); refine ats_go (by first | exact fix0 hcx | exact fix1 hcx rfl) fun K hK => ?_; simp only [go_sem, Nat.reduceLT, Nat.reduceBNe, Nat.reduceBEq, Nat.reduceEqDiff, Nat.reduceAdd, Nat.reduceSub, Nat.reduceLeDiff, Int.reduceLE, Int.reduceLT, Int.reduceToNat, Int.reduceNeg, Int.reduceEq, ↓reduceIte, reduceCtorEq]
          first | refine fcall_free rfl rfl (hlb) ?_ | refine YR_intro (acall_free rfl rfl (hlb)) ?_
          simp only [go_sem, Nat.reduceLT, Nat.reduceBNe, Nat.reduceBEq, Nat.reduceEqDiff, Nat.reduceAdd, Nat.reduceSub, Nat.reduceLeDiff, Int.reduceLE, Int.reduceLT, Int.reduceToNat, Int.reduceNeg, Int.reduceEq, ↓reduceIte, reduceCtorEq]
          first | refine YR_intro (fun _ => acall_free rfl rfl (points_ok a (by omega))) ?_ | refine YR_intro (acall_free rfl rfl (points_ok a (by omega))) ?_
          simp only [go_sem, Nat.reduceLT, Nat.reduceBNe, Nat.reduceBEq, Nat.reduceEqDiff, Nat.reduceAdd, Nat.reduceSub, Nat.reduceLeDiff, Int.reduceLE, Int.reduceLT, Int.reduceToNat, Int.reduceNeg, Int.reduceEq, ↓reduceIte, reduceCtorEq]
          simp only [hvl, decide_true, Bool.not_true, Bool.not_false]
          simp only [go_sem, Nat.reduceLT, Nat.reduceBNe, Nat.reduceBEq, Nat.reduceEqDiff, Nat.reduceAdd, Nat.reduceSub, Nat.reduceLeDiff, Int.reduceLE, Int.reduceLT, Int.reduceToNat, Int.reduceNeg, Int.reduceEq, ↓reduceIte, reduceCtorEq]
          first | refine YR_intro (fun _ => acall_free rfl rfl (haw)) ?_ | refine YR_intro (acall_free rfl rfl (haw)) ?_
          simp only [go_sem, Nat.reduceLT, Nat.reduceBNe, Nat.reduceBEq, Nat.reduceEqDiff, Nat.reduceAdd, Nat.reduceSub, Nat.reduceLeDiff, Int.reduceLE, Int.reduceLT, Int.reduceToNat, Int.reduceNeg, Int.reduceEq, ↓reduceIte, reduceCtorEq]
          refine hK _ ?_; clear hK K
          (repeat refine ats_seq ?_); refine ats_yes rfl trivial ?_
          (repeat refine ats_seq ?_); refine ats_go (by first | exact fix0 hcx | exact fix1 hcx rfl) fun K hK => ?_; simp only [go_sem, Nat.reduceLT, Nat.reduceBNe, Nat.reduceBEq, Nat.reduceEqDiff, Nat.reduceAdd, Nat.reduceSub, Nat.reduceLeDiff, Int.reduceLE, Int.reduceLT, Int.reduceToNat, Int.reduceNeg, Int.reduceEq, ↓reduceIte, reduceCtorEq]; refine hK _ ?_; clear hK K
          exact ats_ret (own2 (is := []) trivial trivial (by rw [e]; rfl) (by simp))
        | true =>
          rw [hV] at haw
          have hV' : ∀ y, y < v.length → inV (v.getD y 0) := vecB_iff.1 hV
          have e : actA' t a i v = .tup [.l1 (actL a i v), .int 0] := by simp only [actA', hr, hi, hV, hvl, and_self, if_true]
          (repeat refine ats_seq ?_); refine ats_go (by first | exact fix0 hcx | exact fix1 hcx rfl) fun K hK => ?_; simp only [go_sem, Nat.reduceLT, Nat.reduceBNe, Nat.reduceBEq, Nat.reduceEqDiff, Nat.reduceAdd, Nat.reduceSub, Nat.reduceLeDiff, Int.reduceLE, Int.reduceLT, Int.reduceToNat, Int.reduceNeg, Int.reduceEq, ↓reduceIte, reduceCtorEq]
          first | refine fcall_free rfl rfl (hlb) ?_ | refine YR_intro (acall_free rfl rfl (hlb)) ?_
          simp only [go_sem, Nat.reduceLT, Nat.reduceBNe, Nat.reduceBEq, Nat.reduceEqDiff, Nat.reduceAdd, Nat.reduceSub, Nat.reduceLeDiff, Int.reduceLE, Int.reduceLT, Int.reduceToNat, Int.reduceNeg, Int.reduceEq, ↓reduceIte, reduceCtorEq]
          first | refine YR_intro (fun _ => acall_free rfl rfl (points_ok a (by omega))) ?_ | refine YR_intro (acall_free rfl rfl (points_ok a (by omega))) ?_
          simp only [go_sem, Nat.reduceLT, Nat.reduceBNe, Nat.reduceBEq, Nat.reduceEqDiff, Nat.reduceAdd, Nat.reduceSub, Nat.reduceLeDiff, Int.reduceLE, Int.reduceLT, Int.reduceToNat, Int.reduceNeg, Int.reduceEq, ↓reduceIte, reduceCtorEq]
          simp only [hvl, decide_true, Bool.not_true, Bool.not_false]
          simp only [go_sem, Nat.reduceLT, Nat.reduceBNe, Nat.reduceBEq, Nat.reduceEqDiff, Nat.reduceAdd, Nat.reduceSub, Nat.reduceLeDiff, Int.reduceLE, Int.reduceLT, Int.reduceToNat, Int.reduceNeg, Int.reduceEq, ↓reduceIte, reduceCtorEq]
          first | refine YR_intro (fun _ => acall_free rfl rfl (haw)) ?_ | refine YR_intro (acall_free rfl rfl (haw)) ?_
          simp only [go_sem, Nat.reduceLT, Nat.reduceBNe, Nat.reduceBEq, Nat.reduceEqDiff, Nat.reduceAdd, Nat.reduceSub, Nat.reduceLeDiff, Int.reduceLE, Int.reduceLT, Int.reduceToNat, Int.reduceNeg, Int.reduceEq, ↓reduceIte, reduceCtorEq]
          refine hK _ ?_; clear hK K
          (repeat refine ats_seq ?_); refine ats_no rfl trivial ?_
          refine ats_skip ?_
          (repeat refine ats_seq ?_); refine ats_go (by first | exact fix0 hcx | exact fix1 hcx rfl) fun K hK => ?_; simp only [go_sem, Nat.reduceLT, Nat.reduceBNe, Nat.reduceBEq, Nat.reduceEqDiff, Nat.reduceAdd, Nat.reduceSub, Nat.reduceLeDiff, Int.reduceLE, Int.reduceLT, Int.reduceToNat, Int.reduceNeg, Int.reduceEq, ↓reduceIte, reduceCtorEq]; refine hK _ ?_; clear hK K
          (repeat refine ats_seq ?_); refine ats_go (by first | exact fix0 hcx | exact fix1 hcx rfl) fun K hK => ?_; simp only [go_sem, Nat.reduceLT, Nat.reduceBNe, Nat.reduceBEq, Nat.reduceEqDiff, Nat.reduceAdd, Nat.reduceSub, Nat.reduceLeDiff, Int.reduceLE, Int.reduceLT, Int.reduceToNat, Int.reduceNeg, Int.reduceEq, ↓reduceIte, reduceCtorEq]; (repeat refine And.intro (by first | omega | (intro hq; first | omega | (simp only [decide_eq_false_iff_not, decide_eq_true_eq, Bool.not_eq_false', Bool.not_eq_true'] at hq; omega))) ?_); refine hK _ ?_; clear hK K
          (repeat refine ats_seq ?_); refine ats_loop (fun x : Nat => ⟨[(3, .l1 v), (10, .ref 2 []), (38, .l2 (a.getD i.toNat [])), (39, .int (a.getD i.toNat []).length), (40, .int x)], [(0, .bx [.l3 t]), (1, .bx [.l3 a]), (2, .t1 (((a.getD i.toNat []).take x).map (dot v)))]⟩) (fun x => x ≤ (a.getD i.toNat []).length) (fun x => (a.getD i.toNat []).length - x) 0 (Nat.zero_le _) (by refine And.intro ?_ rfl; simp only [SlotsLe, St.get, slotGet, Nat.reduceEqDiff, ↓reduceIte, true_and, and_true, AV.int.injEq, AV.bool.injEq, AV.l1.injEq, AV.l2.injEq, AV.l3.injEq]; repeat' (first | rfl | refine And.intro ?_ ?_)) (fun x hx => ?_)
          have hl := take_map_length (f := dot v) (xs := a.getD i.toNat []) (k := x) (by omega)
          (repeat refine ats_seq ?_); refine ats_go (by first | exact fix0 hcx | exact fix1 hcx rfl) fun K hK => ?_; simp only [go_sem, Nat.reduceLT, Nat.reduceBNe, Nat.reduceBEq, Nat.reduceEqDiff, Nat.reduceAdd, Nat.reduceSub, Nat.reduceLeDiff, Int.reduceLE, Int.reduceLT, Int.reduceToNat, Int.reduceNeg, Int.reduceEq, ↓reduceIte, reduceCtorEq]; refine hK _ ?_; clear hK K
          (repeat refine ats_seq ?_); first | refine ats_ifn (p := _) rfl trivial (fun hlx => ?_) (fun hlx => ?_) | refine ats_ifp (p := _) rfl trivial (fun hlx => ?_) (fun hlx => ?_) | refine ats_cond rfl trivial (fun hlx => ?_) (fun hlx => ?_)
          · have rix := hf.row (show i.toNat < a.length by omega) (show x < (a.getD 0 []).length by omega)
            have bd := dot_bd (r := (a.getD i.toNat []).getD x []) (v := v) (n := v.length) (fun y hy => hf.inM (show i.toNat < a.length by omega) (show x < (a.getD 0 []).length by omega) (show y < (a.getD 0 []).length by omega)) hV'
            refine ats_skip ?_
            (repeat refine ats_seq ?_); refine ats_block ?_
            (repeat refine ats_seq ?_); refine ats_go (by first | exact fix0 hcx | exact fix1 hcx rfl) fun K hK => ?_; simp only [go_sem, Nat.reduceLT, Nat.reduceBNe, Nat.reduceBEq, Nat.reduceEqDiff, Nat.reduceAdd, Nat.reduceSub, Nat.reduceLeDiff, Int.reduceLE, Int.reduceLT, Int.reduceToNat, Int.reduceNeg, Int.reduceEq, ↓reduceIte, reduceCtorEq]; (repeat refine And.intro (by first | omega | (intro hq; first | omega | (simp only [decide_eq_false_iff_not, decide_eq_true_eq, Bool.not_eq_false', Bool.not_eq_true'] at hq; omega))) ?_); refine hK _ ?_; clear hK K
            (repeat refine ats_seq ?_); refine ats_go (by first | exact fix0 hcx | exact fix1 hcx rfl) fun K hK => ?_; simp only [go_sem, Nat.reduceLT, Nat.reduceBNe, Nat.reduceBEq, Nat.reduceEqDiff, Nat.reduceAdd, Nat.reduceSub, Nat.reduceLeDiff, Int.reduceLE, Int.reduceLT, Int.reduceToNat, Int.reduceNeg, Int.reduceEq, ↓reduceIte, reduceCtorEq]
            first | refine fcall_free rfl rfl (sumOfProducts_ok ((a.getD i.toNat []).getD x []) v v.length (by omega) rfl (by omega) bd) ?_ | refine YR_intro (acall_free rfl rfl (sumOfProducts_ok ((a.getD i.toNat []).getD x []) v v.length (by omega) rfl (by omega) bd)) ?_
            simp only [go_sem, Nat.reduceLT, Nat.reduceBNe, Nat.reduceBEq, Nat.reduceEqDiff, Nat.reduceAdd, Nat.reduceSub, Nat.reduceLeDiff, Int.reduceLE, Int.reduceLT, Int.reduceToNat, Int.reduceNeg, Int.reduceEq, ↓reduceIte, reduceCtorEq]
            (repeat refine And.intro (by (first | omega | (rw [hl]; omega))) ?_)
            refine hK _ ?_; clear hK K
            (repeat refine ats_seq ?_); refine ats_go (by first | exact fix0 hcx | exact fix1 hcx rfl) fun K hK => ?_; simp only [go_sem, Nat.reduceLT, Nat.reduceBNe, Nat.reduceBEq, Nat.reduceEqDiff, Nat.reduceAdd, Nat.reduceSub, Nat.reduceLeDiff, Int.reduceLE, Int.reduceLT, Int.reduceToNat, Int.reduceNeg, Int.reduceEq, ↓reduceIte, reduceCtorEq]; (repeat refine And.intro (by first | omega | (intro hq; first | omega | (simp only [decide_eq_false_iff_not, decide_eq_true_eq, Bool.not_eq_false', Bool.not_eq_true'] at hq; omega))) ?_); refine hK _ ?_; clear hK K
            refine ⟨x + 1, by omega, by omega, .inr ⟨[3], by simp only [killL, List.map_cons, List.map_nil, killA, killAs, qOf, rmT, killH, killT, List.filter_cons, List.filter_nil, List.contains_cons, List.contains_nil, SlotsLe, St.get, slotGet, Nat.reduceEqDiff, Nat.reduceBEq, Bool.or_false, Bool.or_true, Bool.false_and, Bool.not_true, Bool.not_false, Bool.false_eq_true, ↓reduceIte, if_true, if_false, AV.int.injEq, AV.bool.injEq, AV.l1.injEq, AV.l2.injEq, AV.l3.injEq, true_and, and_true]; omega, by simp only [killL, List.map_cons, List.map_nil, killA, killAs, qOf, rmT, killH, killT, List.filter_cons, List.filter_nil, List.contains_cons, List.contains_nil, SlotsLe, St.get, slotGet, Nat.reduceEqDiff, Nat.reduceBEq, Bool.or_false, Bool.or_true, Bool.false_and, Bool.not_true, Bool.not_false, Bool.false_eq_true, ↓reduceIte, if_true, if_false, AV.int.injEq, AV.bool.injEq, AV.l1.injEq, AV.l2.injEq, AV.l3.injEq, true_and, and_true]; rw [take_succ_map (d := []) (by omega)]⟩⟩
          · obtain rfl : x = (a.getD i.toNat []).length := by omega
            refine ats_exit (lq_x ?_)
            (repeat refine ats_seq ?_); refine ats_go (by first | exact fix0 hcx | exact fix1 hcx rfl) fun K hK => ?_; simp only [go_sem, Nat.reduceLT, Nat.reduceBNe, Nat.reduceBEq, Nat.reduceEqDiff, Nat.reduceAdd, Nat.reduceSub, Nat.reduceLeDiff, Int.reduceLE, Int.reduceLT, Int.reduceToNat, Int.reduceNeg, Int.reduceEq, ↓reduceIte, reduceCtorEq]; refine hK _ ?_; clear hK K
            exact ats_ret (own2 (is := [2]) trivial trivial (by rw [e, actL, List.take_of_length_le (by omega)]; rfl) (by simp))
      · have e : actA' t a i v = .tup [.nil, .int 2] := by
          unfold actA'
          rw [if_pos hr, if_neg (fun h => hvl h.2.1)]
        have hne : (v.length : Int) ≠ ((a.getD 0 []).length : Int) := by omega
        (repeat refine ats_seq ?_); refine ats_go (by first | exact fix0 hcx | exact fix1 hcx rfl) fun K hK => ?_; simp only [go_sem, Nat.reduceLT, Nat.reduceBNe, Nat.reduceBEq, Nat.reduceEqDiff, Nat.reduceAdd, Nat.reduceSub, Nat.reduceLeDiff, Int.reduceLE, Int.reduceLT, Int.reduceToNat, Int.reduceNeg, Int.reduceEq, ↓reduceIte, reduceCtorEq]
        first | refine fcall_free rfl rfl (hlb) ?_ | refine YR_intro (acall_free rfl rfl (hlb)) ?_
        simp only [go_sem, Nat.reduceLT, Nat.reduceBNe, Nat.reduceBEq, Nat.reduceEqDiff, Nat.reduceAdd, Nat.reduceSub, Nat.reduceLeDiff, Int.reduceLE, Int.reduceLT, Int.reduceToNat, Int.reduceNeg, Int.reduceEq, ↓reduceIte, reduceCtorEq]
        first | refine YR_intro (fun _ => acall_free rfl rfl (points_ok a (by omega))) ?_ | refine YR_intro (acall_free rfl rfl (points_ok a (by omega))) ?_
        simp only [go_sem, Nat.reduceLT, Nat.reduceBNe, Nat.reduceBEq, Nat.reduceEqDiff, Nat.reduceAdd, Nat.reduceSub, Nat.reduceLeDiff, Int.reduceLE, Int.reduceLT, Int.reduceToNat, Int.reduceNeg, Int.reduceEq, ↓reduceIte, reduceCtorEq]
        simp only [hne, decide_false, Bool.not_true, Bool.not_false]
        simp only [go_sem, Nat.reduceLT, Nat.reduceBNe, Nat.reduceBEq, Nat.reduceEqDiff, Nat.reduceAdd, Nat.reduceSub, Nat.reduceLeDiff, Int.reduceLE, Int.reduceLT, Int.reduceToNat, Int.reduceNeg, Int.reduceEq, ↓reduceIte, reduceCtorEq]
        refine YR_intro (v := .bool false) (by first | trivial | (intro h; cases h)) ?_
        simp only [go_sem, Nat.reduceLT, Nat.reduceBNe, Nat.reduceBEq, Nat.reduceEqDiff, Nat.reduceAdd, Nat.reduceSub, Nat.reduceLeDiff, Int.reduceLE, Int.reduceLT, Int.reduceToNat, Int.reduceNeg, Int.reduceEq, ↓reduceIte, reduceCtorEq]
        refine hK _ ?_; clear hK K
        (repeat refine ats_seq ?_); refine ats_yes rfl trivial ?_
        (repeat refine ats_seq ?_); refine ats_go (by first | exact fix0 hcx | exact fix1 hcx rfl) fun K hK => ?_; simp only [go_sem, Nat.reduceLT, Nat.reduceBNe, Nat.reduceBEq, Nat.reduceEqDiff, Nat.reduceAdd, Nat.reduceSub, Nat.reduceLeDiff, Int.reduceLE, Int.reduceLT, Int.reduceToNat, Int.reduceNeg, Int.reduceEq, ↓reduceIte, reduceCtorEq]; refine hK _ ?_; clear hK K
        exact ats_ret (own2 (is := []) trivial trivial (by rw [e]; rfl) (by simp))
end Go.Proofs.Ytomfedhhfcelkaa
