import Derived.Test.YtakhnoenhmpfpaaGreatDa
import Derived.Test.YtakhnoenhmpfpaaGreatPl2
set_option linter.unusedSimpArgs false
set_option linter.unusedVariables false
namespace Go.Proofs.YtakhnoenhmpfpaaGreat
open Go Go.Aw Go.Pl
theorem areNumbers_ok (xs : List Int) : PureCall Tryz.prog 46 [.l1 xs] (.bool (numsB xs)) := by
  have hk : PureCall Tryz.prog 65 [.l1 xs, .int 0, .int 55440] (.bool (numsB xs)) := allWithin_ok xs 0 55440
  refine PureCall.intro (n := 5) (rs := [.tmp 2]) Tryz.call46 Tryz.func46 rfl rfl rfl (by simp only [List.length_cons, List.length_nil]; omega) (fun cx hcx => ats_of ?_); simp only [argSlots, Nat.zero_add, Nat.reduceAdd]
  (repeat refine ats_seq ?_); refine ats_go (fix0 hcx) fun K hK => ?_; simp only [go_sem, seval]; refine hK _ ?_; clear hK K
  (repeat refine ats_seq ?_); refine ats_go (fix0 hcx) fun K hK => ?_; simp only [go_sem, seval]
  first | refine fcall_free rfl rfl (hk) ?_ | refine YR_intro (acall_free rfl rfl (hk)) ?_
  simp only [go_sem, seval]
  refine hK _ ?_; clear hK K
  refine ats_ret (finB rfl ?_)
  rfl
theorem haveNumbers1_ok (r : List Int) : PureCall Tryz.prog 87 [.l1 r] (.bool (!(numsB r))) := by
  refine PureCall.intro (n := 6) (rs := [.tmp 2]) Tryz.call87 Tryz.func87 rfl rfl rfl (by simp only [List.length_cons, List.length_nil]; omega) (fun cx hcx => ats_of ?_); simp only [argSlots, Nat.zero_add, Nat.reduceAdd]
  (repeat refine ats_seq ?_); refine ats_go (fix0 hcx) fun K hK => ?_; simp only [go_sem, seval]; refine hK _ ?_; clear hK K
  (repeat refine ats_seq ?_); refine ats_go (fix0 hcx) fun K hK => ?_; simp only [go_sem, seval]
  first | refine fcall_free rfl rfl (areNumbers_ok r) ?_ | refine YR_intro (acall_free rfl rfl (areNumbers_ok r)) ?_
  simp only [go_sem, seval]
  refine hK _ ?_; clear hK K
  refine ats_ret (finB rfl ?_)
  rfl
theorem haveNumbers_ok (m : List (List Int)) : PureCall Tryz.prog 64 [.l2 m] (.bool (NumsM m)) := by
  refine PureCall.intro (n := 6) (rs := [.tmp 2]) Tryz.call64 Tryz.func64 rfl rfl rfl (by simp only [List.length_cons, List.length_nil]; omega) (fun cx hcx => ats_of ?_); simp only [argSlots, Nat.zero_add, Nat.reduceAdd]
  (repeat refine ats_seq ?_); refine ats_go (fix0 hcx) fun K hK => ?_; simp only [go_sem, seval]; refine hK _ ?_; clear hK K
  (repeat refine ats_seq ?_); refine ats_go (fix0 hcx) fun K hK => ?_; simp only [go_sem, seval]
  first | refine fcall_free rfl rfl (containsF2_ok m 87 [] (fun r => !(numsB r)) rfl (fun r => haveNumbers1_ok r)) ?_ | refine YR_intro (acall_free rfl rfl (containsF2_ok m 87 [] (fun r => !(numsB r)) rfl (fun r => haveNumbers1_ok r))) ?_
  simp only [go_sem, seval]
  refine hK _ ?_; clear hK K
  refine ats_ret (finB rfl ?_)
  rfl
theorem isBlock_ok (m : List (List Int)) : PureCall Tryz.prog 63 [.l2 m, .int 1] (.bool (bd (Blk m))) := by
  refine PureCall.intro (n := 40) (rs := [.tmp 4]) Tryz.call63 Tryz.func63 rfl rfl rfl (by simp only [List.length_cons, List.length_nil]; omega) (fun cx hcx => ats_of ?_); simp only [argSlots, Nat.zero_add, Nat.reduceAdd]
  (repeat refine ats_seq ?_); refine ats_go (fix0 hcx) fun K hK => ?_; simp only [go_sem, seval]; refine hK _ ?_; clear hK K
  refine ats_know 0 fun h0 => ?_; simp only [St.get, slotGet, Nat.reduceEqDiff, ↓reduceIte, if_true, fact, facts] at h0
  have hlen := h0.1
  (repeat refine ats_seq ?_); refine ats_go (fix0 hcx) fun K hK => ?_; simp only [go_sem, seval]; refine hK _ ?_; clear hK K
  (repeat refine ats_seq ?_); refine ats_loop (fun i : Nat => ⟨[(0, .l2 m), (1, .int 1), (7, .l2 m), (8, .int m.length), (9, .int i)], []⟩) (fun i => i ≤ m.length ∧ ∀ b, b < i → (1 ≤ (m.getD b []).length ∧ (m.getD b []).length ≤ 16 ∧ (m.getD b []).length = (m.getD 0 []).length)) (fun i => m.length - i) 0 ⟨Nat.zero_le _, fun a h => absurd h (Nat.not_lt_zero a)⟩ (by refine And.intro ?_ rfl; simp only [SlotsLe, St.get, slotGet, Nat.reduceEqDiff, ↓reduceIte, AV.int.injEq, AV.bool.injEq, AV.l1.injEq, AV.l2.injEq, AV.l3.injEq, true_and, and_true]; rfl) (fun i hi => ?_); obtain ⟨hi, Hi⟩ := hi
  (repeat refine ats_seq ?_); refine ats_go (fix0 hcx) fun K hK => ?_; simp only [go_sem, seval]; refine hK _ ?_; clear hK K
  (repeat refine ats_seq ?_); first | refine ats_ifn (p := _) rfl trivial (fun hli => ?_) (fun hli => ?_) | refine ats_ifp (p := _) rfl trivial (fun hli => ?_) (fun hli => ?_) | refine ats_cond rfl trivial (fun hli => ?_) (fun hli => ?_)
  · refine ats_skip ?_
    (repeat refine ats_seq ?_); refine ats_block ?_
    (repeat refine ats_seq ?_); refine ats_go (fix0 hcx) fun K hK => ?_; simp only [go_sem, seval]; (repeat refine And.intro (by first | omega | (intro hq; first | omega | (simp at hq <;> omega) | (simp_all <;> omega))) ?_); refine hK _ ?_; clear hK K
    (repeat refine ats_seq ?_); refine ats_go (fix0 hcx) fun K hK => ?_; simp only [go_sem, seval]; (repeat refine And.intro (by first | omega | (intro hq; first | omega | (simp at hq <;> omega) | (simp_all <;> omega))) ?_); refine hK _ ?_; clear hK K
    (repeat refine ats_seq ?_); first | refine ats_ifn (p := _) rfl trivial (fun h2 => ?_) (fun h2 => ?_) | refine ats_ifp (p := _) rfl trivial (fun h2 => ?_) (fun h2 => ?_) | refine ats_cond rfl trivial (fun h2 => ?_) (fun h2 => ?_)
    · simp only [Bool.or_eq_true, Bool.not_eq_true', decide_eq_false_iff_not, decide_eq_true_eq] at h2
      (repeat refine ats_seq ?_); refine ats_go (fix0 hcx) fun K hK => ?_; simp only [go_sem, seval]; refine hK _ ?_; clear hK K
      refine ats_ret (finB rfl ?_)
      exact (bd_false (fun h => by have := h.2 i (by omega); omega)).symm
    · simp only [Bool.or_eq_false_iff, Bool.not_eq_false', decide_eq_false_iff_not, decide_eq_true_eq] at h2
      refine ats_skip ?_
      (repeat refine ats_seq ?_); refine ats_go (fix0 hcx) fun K hK => ?_; simp only [go_sem, seval]; (repeat refine And.intro (by first | omega | (intro hq; first | omega | (simp at hq <;> omega) | (simp_all <;> omega))) ?_); refine hK _ ?_; clear hK K
      refine ⟨i + 1, ⟨by omega, fun a ha => by rcases Nat.lt_succ_iff_lt_or_eq.1 ha with h | rfl; exact Hi a h; exact ⟨by omega, by omega, by omega⟩⟩, by omega, .inl ⟨?_, rfl⟩⟩; simp only [SlotsLe, St.get, slotGet, Nat.reduceEqDiff, ↓reduceIte, AV.int.injEq, AV.bool.injEq, AV.l1.injEq, AV.l2.injEq, AV.l3.injEq, true_and, and_true]; omega
  · have hA : ∀ i, i < m.length → (1 ≤ (m.getD i []).length ∧ (m.getD i []).length ≤ 16 ∧ (m.getD i []).length = (m.getD 0 []).length) := fun i hi => Hi i (by omega)
    refine ats_exit (lq_x ?_)
    (repeat refine ats_seq ?_); refine ats_go (fix0 hcx) fun K hK => ?_; simp only [go_sem, seval]; refine hK _ ?_; clear hK K
    refine ats_ret (finB rfl ?_)
    by_cases h1 : 1 ≤ m.length ∧ m.length ≤ 16
    · rw [bd_true ⟨h1, hA⟩]
      simp only [Bool.true_eq, Bool.and_eq_true, decide_eq_true_eq]
      omega
    · rw [bd_false (fun h => h1 h.1)]
      simp only [Bool.false_eq, Bool.and_eq_false_iff, decide_eq_false_iff_not]
      omega
theorem IsMatrix_ok (m : List (List Int)) : PureCall Tryz.prog 44 [.l2 m] (.bool (bd (Blk m ∧ NumsM m = true))) := by
  refine PureCall.intro (n := 9) (rs := [.tmp 2]) Tryz.call44 Tryz.func44 rfl rfl rfl (by simp only [List.length_cons, List.length_nil]; omega) (fun cx hcx => ats_of ?_); simp only [argSlots, Nat.zero_add, Nat.reduceAdd]
  (repeat refine ats_seq ?_); refine ats_go (fix0 hcx) fun K hK => ?_; simp only [go_sem, seval]; refine hK _ ?_; clear hK K
  (repeat refine ats_seq ?_); refine ats_go (fix0 hcx) fun K hK => ?_; simp only [go_sem, seval]
  first | refine fcall_free rfl rfl (isBlock_ok m) ?_ | refine YR_intro (acall_free rfl rfl (isBlock_ok m)) ?_
  simp only [go_sem, seval]
  first | refine YR_intro (fun _ => acall_free rfl rfl (haveNumbers_ok m)) ?_ | refine YR_intro (acall_free rfl rfl (haveNumbers_ok m)) ?_
  simp only [go_sem, seval]
  refine hK _ ?_; clear hK K
  refine ats_ret (finB rfl ?_)
  exact bd_and.symm
theorem isSquare_ok (m : List (List Int)) (h : 0 < m.length) : PureCall Tryz.prog 45 [.l2 m] (.bool (decide (m.length = (m.getD 0 []).length))) := by
  refine PureCall.intro (n := 10) (rs := [.tmp 2]) Tryz.call45 Tryz.func45 rfl rfl rfl (by simp only [List.length_cons, List.length_nil]; omega) (fun cx hcx => ats_of ?_); simp only [argSlots, Nat.zero_add, Nat.reduceAdd]
  (repeat refine ats_seq ?_); refine ats_go (fix0 hcx) fun K hK => ?_; simp only [go_sem, seval]; refine hK _ ?_; clear hK K
  (repeat refine ats_seq ?_); refine ats_go (fix0 hcx) fun K hK => ?_; simp only [go_sem, seval]; (repeat refine And.intro (by first | omega | (intro hq; first | omega | (simp at hq <;> omega) | (simp_all <;> omega))) ?_); refine hK _ ?_; clear hK K
  refine ats_ret (finB rfl ?_)
  by_cases h1 : m.length = (m.getD 0 []).length
  · rw [decide_eq_true h1, decide_eq_true (by omega)]
  · rw [decide_eq_false h1, decide_eq_false (by omega)]
theorem isShape_ok (s : List (List Int)) (t : List Int) : PureCall Tryz.prog 28 [.agg [.l2 s, .l1 t]] (.bool (bd (Shape s t))) := by
  have hk := IsMatrix_ok s
  refine PureCall.intro (n := 27) (rs := [.tmp 2]) Tryz.call28 Tryz.func28 rfl rfl rfl (by simp only [List.length_cons, List.length_nil]; omega) (fun cx hcx => ats_of ?_); simp only [argSlots, Nat.zero_add, Nat.reduceAdd]
  (repeat refine ats_seq ?_); refine ats_go (fix0 hcx) fun K hK => ?_; simp only [go_sem, seval]; refine hK _ ?_; clear hK K
  (repeat refine ats_seq ?_); refine ats_go (fix0 hcx) fun K hK => ?_; simp only [go_sem, seval]; refine hK _ ?_; clear hK K
  by_cases h1 : Blk s ∧ NumsM s = true
  · rw [bd_true h1] at hk
    (repeat refine ats_seq ?_); refine ats_go (fix0 hcx) fun K hK => ?_; simp only [go_sem, seval]
    first | refine fcall_free rfl rfl (hk) ?_ | refine YR_intro (acall_free rfl rfl (hk)) ?_
    simp only [go_sem, seval]
    first | refine YR_intro (fun _ => acall_free rfl rfl (isSquare_ok s (by have := h1.1.1.1; omega))) ?_ | refine YR_intro (acall_free rfl rfl (isSquare_ok s (by have := h1.1.1.1; omega))) ?_
    simp only [go_sem, seval]
    first | refine YR_intro (fun _ => acall_free rfl rfl (areNumbers_ok t)) ?_ | refine YR_intro (acall_free rfl rfl (areNumbers_ok t)) ?_
    simp only [go_sem, seval]
    refine hK _ ?_; clear hK K
    refine ats_ret (finB rfl ?_)
    by_cases hs : Shape s t
    · have hh := shape_iff.1 hs
      rw [bd_true hs, hh.2.2, decide_eq_true hh.1.2, decide_eq_true (by omega)]; rfl
    · rw [bd_false hs]
      by_cases a1 : s.length = (s.getD 0 []).length
      · by_cases a2 : t.length = s.length
        · cases a3 : numsB t with
          | true => exact absurd (shape_iff.2 ⟨⟨h1, a1⟩, a2, a3⟩) hs
          | false => simp
        · rw [decide_eq_false (p := (t.length : Int) = s.length) (by omega)]; simp
      · rw [decide_eq_false a1]; simp
  · rw [bd_false h1] at hk
    have e : bd (Shape s t) = false := bd_false (fun h => h1 (shape_iff.1 h).1.1)
    (repeat refine ats_seq ?_); refine ats_go (fix0 hcx) fun K hK => ?_; simp only [go_sem, seval]
    first | refine fcall_free rfl rfl (hk) ?_ | refine YR_intro (acall_free rfl rfl (hk)) ?_
    simp only [go_sem, seval]
    refine YR_intro (v := .bool false) (by first | trivial | (intro h; cases h)) ?_
    simp only [go_sem, seval]
    refine YR_intro (v := .bool false) (by first | trivial | (intro h; cases h)) ?_
    simp only [go_sem, seval]
    refine hK _ ?_; clear hK K
    refine ats_ret (finB rfl ?_)
    rw [e]
theorem dot_ok (x y : List Int) (n : Nat) (h16 : n ≤ 64) (hx : x.length = n) (hy : y.length = n) (px : ∀ i, i < n → InP (x.getD i 0)) (py : ∀ i, i < n → InP (y.getD i 0)) : PureCall Tryz.prog 68 [.l1 x, .l1 y] (.int (dotP x y n)) := by
  have bd : ∀ k, k < n → 0 ≤ dotG x y k ∧ dotG x y k ≤ 3073593600 := fun k hk => mulP (px k hk) (py k hk)
  refine PureCall.intro (n := 27) (rs := [.tmp 4]) Tryz.call68 Tryz.func68 rfl rfl rfl (by simp only [List.length_cons, List.length_nil]; omega) (fun cx hcx => ats_of ?_); simp only [argSlots, Nat.zero_add, Nat.reduceAdd]
  (repeat refine ats_seq ?_); refine ats_go (fix0 hcx) fun K hK => ?_; simp only [go_sem, seval]; refine hK _ ?_; clear hK K
  (repeat refine ats_seq ?_); refine ats_go (fix0 hcx) fun K hK => ?_; simp only [go_sem, seval]; refine hK _ ?_; clear hK K
  (repeat refine ats_seq ?_); refine ats_go (fix0 hcx) fun K hK => ?_; simp only [go_sem, seval]; refine hK _ ?_; clear hK K
  (repeat refine ats_seq ?_); refine ats_loop (fun k : Nat => ⟨[(0, .l1 x), (1, .l1 y), (5, .int (sumTo (fun k => dotG x y k % 55441) k)), (8, .int n), (9, .int k)], []⟩) (fun k => k ≤ n) (fun k => n - k) 0 (Nat.zero_le _) (by refine And.intro ?_ rfl; simp only [SlotsLe, St.get, slotGet, Nat.reduceEqDiff, ↓reduceIte, true_and, and_true, AV.int.injEq, AV.bool.injEq, AV.l1.injEq, AV.l2.injEq, AV.l3.injEq]; repeat' (first | rfl | omega | refine And.intro ?_ ?_)) (fun k hk => ?_)
  have sL := sumTo_le (f := fun k => dotG x y k % 55441) (B := 55440) (n := k) (fun x hx => by have := bd x (by omega); omega)
  (repeat refine ats_seq ?_); refine ats_go (fix0 hcx) fun K hK => ?_; simp only [go_sem, seval]; refine hK _ ?_; clear hK K
  (repeat refine ats_seq ?_); first | refine ats_ifn (p := _) rfl trivial (fun hlk => ?_) (fun hlk => ?_) | refine ats_ifp (p := _) rfl trivial (fun hlk => ?_) (fun hlk => ?_) | refine ats_cond rfl trivial (fun hlk => ?_) (fun hlk => ?_)
  · have cL := bd k (by omega)
    simp only [dotG] at cL
    refine ats_skip ?_
    (repeat refine ats_seq ?_); refine ats_block ?_
    (repeat refine ats_seq ?_); refine ats_go (fix0 hcx) fun K hK => ?_; simp only [go_sem, seval]; refine hK _ ?_; clear hK K
    (repeat refine ats_seq ?_); refine ats_pick (fix0 hcx) mixed (by kernel_rfl) fun K hK => ?_; simp only [go_sem, seval]; (try simp (disch := omega) only [tmP, tdP]); (repeat refine And.intro (by first | omega | (intro hq; first | omega | (simp at hq <;> omega) | (simp_all <;> omega))) ?_); refine hK _ ?_; clear hK K
    (repeat refine ats_seq ?_); refine ats_go (fix0 hcx) fun K hK => ?_; simp only [go_sem, seval]; (repeat refine And.intro (by first | omega | (intro hq; first | omega | (simp at hq <;> omega) | (simp_all <;> omega))) ?_); refine hK _ ?_; clear hK K
    refine ⟨k + 1,  by omega, by omega, .inl ⟨by simp only [SlotsLe, St.get, slotGet, Nat.reduceEqDiff, ↓reduceIte, AV.int.injEq, AV.bool.injEq, AV.l1.injEq, AV.l2.injEq, AV.l3.injEq, true_and, and_true]; exact ⟨rfl, by omega⟩,  rfl⟩⟩
  · obtain rfl : k = n := by omega
    refine ats_exit (lq_x ?_)
    (repeat refine ats_seq ?_); refine ats_go (fix0 hcx) fun K hK => ?_; simp only [go_sem, seval]; (try simp (disch := omega) only [tmP, tdP]); (repeat refine And.intro (by first | omega | (intro hq; first | omega | (simp at hq <;> omega) | (simp_all <;> omega))) ?_); refine hK _ ?_; clear hK K
    refine ats_ret (finI rfl ?_)
    unfold dotP
    rw [sum_md]
theorem dwhole_ok (s : List (List Int)) (t : List Int) (hs : Shape s t) : PureCall Tryz.prog 48 [.agg [.l2 s, .l1 t]] (.int (wholeD s t.length)) := by
  have h16 := hs.2.1
  have h1 := hs.1
  have hm := hs.2.2.1
  have ls := hm.1
  have r0 := hm.row (show 0 < t.length by omega)
  have hd : PureCall Tryz.prog 68 [.l1 (s.getD 0 []), .l1 (s.getD 0 [])] (.int (wholeD s t.length)) := dot_ok _ _ t.length (by omega) r0 r0 (fun i hi => hm.inP (by omega) hi) (fun i hi => hm.inP (by omega) hi)
  refine PureCall.intro (n := 12) (rs := [.tmp 2]) Tryz.call48 Tryz.func48 rfl rfl rfl (by simp only [List.length_cons, List.length_nil]; omega) (fun cx hcx => ats_of ?_); simp only [argSlots, Nat.zero_add, Nat.reduceAdd]
  (repeat refine ats_seq ?_); refine ats_go (fix0 hcx) fun K hK => ?_; simp only [go_sem, seval]; refine hK _ ?_; clear hK K
  (repeat refine ats_seq ?_); refine ats_pick (fix0 hcx) mixed (by kernel_rfl) fun K hK => ?_; simp only [go_sem, seval]
  (repeat refine And.intro (by first | omega | (intro hq; first | omega | (simp at hq <;> omega) | (simp_all <;> omega))) ?_)
  first | refine fcall_data (hd) rfl ?_ | refine YR_intro (acall_data (hd) rfl) ?_
  simp only [go_sem, seval]
  refine hK _ ?_; clear hK K
  refine ats_ret (finI rfl ?_)
  rfl
theorem gauss_ok (s : List (List Int)) (t v : List Int) (hs : Shape s t) (hv : v.length = t.length) (hP : ∀ i, i < t.length → InP (v.getD i 0)) : PureCall Tryz.prog 77 [.agg [.l2 s, .l1 t], .l1 v] (.int (gaussD s v t.length)) := by
  have h16 := hs.2.1
  have h1 := hs.1
  have hm := hs.2.2.1
  have ls := hm.1
  have r0 := hm.row (show 0 < t.length by omega)
  have bw : ∀ k, k < t.length → 0 ≤ wG s k ∧ wG s k ≤ 3073593600 := fun k hk => mulP (hm.inP (by omega) hk) (hm.inP (by omega) hk)
  have bd : ∀ k, k < t.length → 0 ≤ gG s v k ∧ gG s v k ≤ 3073593600 := fun k hk => mulP (inP_md _) (hP k hk)
  refine PureCall.intro (n := 33) (rs := [.tmp 4]) Tryz.call77 Tryz.func77 rfl rfl rfl (by simp only [List.length_cons, List.length_nil]; omega) (fun cx hcx => ats_of ?_); simp only [argSlots, Nat.zero_add, Nat.reduceAdd]
  (repeat refine ats_seq ?_); refine ats_go (fix0 hcx) fun K hK => ?_; simp only [go_sem, seval]; refine hK _ ?_; clear hK K
  (repeat refine ats_seq ?_); refine ats_go (fix0 hcx) fun K hK => ?_; simp only [go_sem, seval]; refine hK _ ?_; clear hK K
  (repeat refine ats_seq ?_); refine ats_go (fix0 hcx) fun K hK => ?_; simp only [go_sem, seval]; (repeat refine And.intro (by first | omega | (intro hq; first | omega | (simp at hq <;> omega) | (simp_all <;> omega))) ?_); refine hK _ ?_; clear hK K
  (repeat refine ats_seq ?_); refine ats_loop (fun k : Nat => ⟨[(1, .l1 v), (5, .int (sumTo (fun k => gG s v k % 55441) k)), (11, .l1 (s.getD 0 [])), (12, .int t.length), (13, .int k)], [(0, .bx [.l2 s, .l1 t])]⟩) (fun k => k ≤ t.length) (fun k => t.length - k) 0 (Nat.zero_le _) (by refine And.intro ?_ rfl; simp only [SlotsLe, St.get, slotGet, Nat.reduceEqDiff, ↓reduceIte, true_and, and_true, AV.int.injEq, AV.bool.injEq, AV.l1.injEq, AV.l2.injEq, AV.l3.injEq]; repeat' (first | rfl | omega | refine And.intro ?_ ?_)) (fun k hk => ?_)
  have sL := sumTo_le (f := fun k => gG s v k % 55441) (B := 55440) (n := k) (fun x hx => by have := bd x (by omega); omega)
  (repeat refine ats_seq ?_); refine ats_go (fix0 hcx) fun K hK => ?_; simp only [go_sem, seval]; refine hK _ ?_; clear hK K
  (repeat refine ats_seq ?_); first | refine ats_ifn (p := _) rfl trivial (fun hlk => ?_) (fun hlk => ?_) | refine ats_ifp (p := _) rfl trivial (fun hlk => ?_) (fun hlk => ?_) | refine ats_cond rfl trivial (fun hlk => ?_) (fun hlk => ?_)
  · have cL := bd k (by omega)
    have cW := bw k (by omega)
    simp only [gG, wG, e2] at cL cW
    refine ats_skip ?_
    (repeat refine ats_seq ?_); refine ats_block ?_
    (repeat refine ats_seq ?_); refine ats_go (fix0 hcx) fun K hK => ?_; simp only [go_sem, seval]; (repeat refine And.intro (by first | omega | (intro hq; first | omega | (simp at hq <;> omega) | (simp_all <;> omega))) ?_); refine hK _ ?_; clear hK K
    (repeat refine ats_seq ?_); refine ats_go (fix0 hcx) fun K hK => ?_; simp only [go_sem, seval]; (try simp (disch := omega) only [tmP, tdP]); (repeat refine And.intro (by first | omega | (intro hq; first | omega | (simp at hq <;> omega) | (simp_all <;> omega))) ?_); refine hK _ ?_; clear hK K
    (repeat refine ats_seq ?_); refine ats_go (fix0 hcx) fun K hK => ?_; simp only [go_sem, seval]; (repeat refine And.intro (by first | omega | (intro hq; first | omega | (simp at hq <;> omega) | (simp_all <;> omega))) ?_); refine hK _ ?_; clear hK K
    refine ⟨k + 1,  by omega, by omega, .inl ⟨by simp only [SlotsLe, St.get, slotGet, Nat.reduceEqDiff, ↓reduceIte, AV.int.injEq, AV.bool.injEq, AV.l1.injEq, AV.l2.injEq, AV.l3.injEq, true_and, and_true]; exact ⟨rfl, by omega⟩,  rfl⟩⟩
  · obtain rfl : k = t.length := by omega
    refine ats_exit (lq_x ?_)
    (repeat refine ats_seq ?_); refine ats_go (fix0 hcx) fun K hK => ?_; simp only [go_sem, seval]; (try simp (disch := omega) only [tmP, tdP]); (repeat refine And.intro (by first | omega | (intro hq; first | omega | (simp at hq <;> omega) | (simp_all <;> omega))) ?_); refine hK _ ?_; clear hK K
    refine ats_ret (finI rfl ?_)
    unfold gaussD
    rw [sum_md]
theorem apply_ok (b : List (List Int)) (v : List Int) (n : Nat) (h1 : 1 ≤ n) (h16 : n ≤ 16) (hb : MatP n b) (hv : v.length = n) (pv : ∀ i, i < n → InP (v.getD i 0)) : FreshCall Tryz.prog 93 [.l2 (turnM b), .l1 v] (.l1 (apL b v n)) := by
  have r0 := hb.row (show 0 < n by omega)
  have lb := hb.1
  have lt := turnM_length b
  have hcol : ∀ j, j < n → (turnM b).getD j [] = rowF n (fun i => e2 b i j) := fun j hj => by rw [turnM_get (by omega), lb]
  refine FreshCall.intro (n := 23) (rs := [.tmp 4]) Tryz.call93 Tryz.func93 rfl rfl rfl (by simp only [List.length_cons, List.length_nil]; omega) (fun cx hcx => ats_of ?_); simp only [argSlots, Nat.zero_add, Nat.reduceAdd]
  (repeat refine ats_seq ?_); refine ats_go (fix0 hcx) fun K hK => ?_; simp only [go_sem, seval]; refine hK _ ?_; clear hK K
  (repeat refine ats_seq ?_); refine ats_go (fix0 hcx) fun K hK => ?_; simp only [go_sem, seval]; refine hK _ ?_; clear hK K
  (repeat refine ats_seq ?_); refine ats_go (fix0 hcx) fun K hK => ?_; simp only [go_sem, seval]; refine hK _ ?_; clear hK K
  (repeat refine ats_seq ?_); refine ats_loop (fun j : Nat => ⟨[(1, .l1 v), (5, .ref 0 []), (9, .l2 (turnM b)), (10, .int n), (11, .int j)], [(0, .t1 ((List.range j).map fun j => sumTo (fun k => v.getD k 0 * e2 b k j) n % 55441))]⟩) (fun j => j ≤ n) (fun j => n - j) 0 (Nat.zero_le _) (by refine And.intro ?_ rfl; simp only [SlotsLe, St.get, slotGet, Nat.reduceEqDiff, ↓reduceIte, true_and, and_true, AV.int.injEq, AV.bool.injEq, AV.l1.injEq, AV.l2.injEq, AV.l3.injEq]; repeat' (first | rfl | omega | refine And.intro ?_ ?_)) (fun j hj => ?_)
  have hl : ((List.range j).map fun j => sumTo (fun k => v.getD k 0 * e2 b k j) n % 55441).length = j := by simp
  (repeat refine ats_seq ?_); refine ats_go (fix0 hcx) fun K hK => ?_; simp only [go_sem, seval]; refine hK _ ?_; clear hK K
  (repeat refine ats_seq ?_); first | refine ats_ifn (p := _) rfl trivial (fun hlj => ?_) (fun hlj => ?_) | refine ats_ifp (p := _) rfl trivial (fun hlj => ?_) (fun hlj => ?_) | refine ats_cond rfl trivial (fun hlj => ?_) (fun hlj => ?_)
  · have hc := hcol j (by omega)
    have hd : PureCall Tryz.prog 68 [.l1 (rowF n fun i => e2 b i j), .l1 v] (.int (sumTo (fun k => v.getD k 0 * e2 b k j) n % 55441)) := by
      rw [← dot_col]
      exact dot_ok _ _ n (by omega) (rowF_length ..) hv (fun i hi => by rw [rowF_get hi]; exact hb.inP hi (by omega)) pv
    refine ats_skip ?_
    (repeat refine ats_seq ?_); refine ats_block ?_
    (repeat refine ats_seq ?_); refine ats_go (fix0 hcx) fun K hK => ?_; simp only [go_sem, seval]
    (repeat refine And.intro (by first | omega | (intro hq; first | omega | (simp at hq <;> omega) | (simp_all <;> omega))) ?_)
    simp only [hc]
    refine hK _ ?_; clear hK K
    (repeat refine ats_seq ?_); refine ats_go (fix0 hcx) fun K hK => ?_; simp only [go_sem, seval]
    first | refine fcall_data (hd) rfl ?_ | refine YR_intro (acall_data (hd) rfl) ?_
    simp only [go_sem, seval]
    (repeat refine And.intro (by (first | omega | (rw [hl]; omega))) ?_)
    refine hK _ ?_; clear hK K
    (repeat refine ats_seq ?_); refine ats_go (fix0 hcx) fun K hK => ?_; simp only [go_sem, seval]; (repeat refine And.intro (by first | omega | (intro hq; first | omega | (simp at hq <;> omega) | (simp_all <;> omega))) ?_); refine hK _ ?_; clear hK K
    refine ⟨j + 1, by omega, by omega, .inr ⟨[1], by simp only [killL, List.map_cons, List.map_nil, killA, killAs, qOf, rmT, killH, killT, List.filter_cons, List.filter_nil, List.contains_cons, List.contains_nil, SlotsLe, St.get, slotGet, Nat.reduceEqDiff, Nat.reduceBEq, Bool.or_false, Bool.or_true, Bool.false_and, Bool.not_true, Bool.not_false, Bool.false_eq_true, ↓reduceIte, if_true, if_false, AV.int.injEq, AV.bool.injEq, AV.l1.injEq, AV.l2.injEq, AV.l3.injEq, true_and, and_true]; omega, by simp only [killL, List.map_cons, List.map_nil, killA, killAs, qOf, rmT, killH, killT, List.filter_cons, List.filter_nil, List.contains_cons, List.contains_nil, SlotsLe, St.get, slotGet, Nat.reduceEqDiff, Nat.reduceBEq, Bool.or_false, Bool.or_true, Bool.false_and, Bool.not_true, Bool.not_false, Bool.false_eq_true, ↓reduceIte, if_true, if_false, AV.int.injEq, AV.bool.injEq, AV.l1.injEq, AV.l2.injEq, AV.l3.injEq, true_and, and_true]; simp only [List.range_succ (n := j), List.map_append, List.map_cons, List.map_nil]⟩⟩
  · obtain rfl : j = n := by omega
    refine ats_exit (lq_x ?_)
    (repeat refine ats_seq ?_); refine ats_go (fix0 hcx) fun K hK => ?_; simp only [go_sem, seval]; refine hK _ ?_; clear hK K
    exact ats_ret (ownV (is := [0]) rfl ⟨rfl, trivial⟩ rfl (by simp))
theorem multiply_ok (a b : List (List Int)) (n : Nat) (h1 : 1 ≤ n) (h16 : n ≤ 16) (ha : MatP n a) (hb : MatP n b) : FreshCall Tryz.prog 69 [.l2 a, .l2 b] (.l2 (mulM a b n)) := by
  have la := ha.1
  have lb := hb.1
  have r0 := hb.row (show 0 < n by omega)
  have hT := transpose_ok b (by omega) (by omega) (by omega) (fun i hi => by rw [hb.row (by omega), r0])
  refine FreshCall.intro (n := 26) (rs := [.tmp 4]) Tryz.call69 Tryz.func69 rfl rfl rfl (by simp only [List.length_cons, List.length_nil]; omega) (fun cx hcx => ats_of ?_); simp only [argSlots, Nat.zero_add, Nat.reduceAdd]
  (repeat refine ats_seq ?_); refine ats_go (fix0 hcx) fun K hK => ?_; simp only [go_sem, seval]; refine hK _ ?_; clear hK K
  (repeat refine ats_seq ?_); refine ats_go (fix0 hcx) fun K hK => ?_; simp only [go_sem, seval]
  first | refine fcall_fresh rfl (hT) ?_ | refine YR_intro (acall_fresh rfl (hT)) ?_
  simp only [go_sem, seval]
  refine hK _ ?_; clear hK K
  (repeat refine ats_seq ?_); refine ats_go (fix0 hcx) fun K hK => ?_; simp only [go_sem, seval]; refine hK _ ?_; clear hK K
  (repeat refine ats_seq ?_); refine ats_go (fix0 hcx) fun K hK => ?_; simp only [go_sem, seval]; refine hK _ ?_; clear hK K
  (repeat refine ats_seq ?_); refine ats_loop (fun i : Nat => ⟨[(5, .l2 (turnM b)), (6, .ref 0 []), (12, .l2 a), (13, .int n), (14, .int i)], [(0, .t2 ((List.range i).map fun i => rowF n fun j => sumTo (pG a b i j) n % 55441))]⟩) (fun i => i ≤ n) (fun i => n - i) 0 (Nat.zero_le _) (by refine And.intro ?_ rfl; simp only [SlotsLe, St.get, slotGet, Nat.reduceEqDiff, ↓reduceIte, true_and, and_true, AV.int.injEq, AV.bool.injEq, AV.l1.injEq, AV.l2.injEq, AV.l3.injEq]; repeat' (first | rfl | omega | refine And.intro ?_ ?_)) (fun i hi => ?_)
  have hl : ((List.range i).map fun i => rowF n fun j => sumTo (pG a b i j) n % 55441).length = i := by simp
  (repeat refine ats_seq ?_); refine ats_go (fix0 hcx) fun K hK => ?_; simp only [go_sem, seval]; refine hK _ ?_; clear hK K
  (repeat refine ats_seq ?_); first | refine ats_ifn (p := _) rfl trivial (fun hli => ?_) (fun hli => ?_) | refine ats_ifp (p := _) rfl trivial (fun hli => ?_) (fun hli => ?_) | refine ats_cond rfl trivial (fun hli => ?_) (fun hli => ?_)
  · have hA : FreshCall Tryz.prog 93 [.l2 (turnM b), .l1 (a.getD i [])] (.l1 (rowF n fun j => sumTo (pG a b i j) n % 55441)) := apply_ok b (a.getD i []) n h1 h16 hb (ha.row (by omega)) (fun k hk => ha.inP (by omega) hk)
    refine ats_skip ?_
    (repeat refine ats_seq ?_); refine ats_block ?_
    (repeat refine ats_seq ?_); refine ats_go (fix0 hcx) fun K hK => ?_; simp only [go_sem, seval]; (repeat refine And.intro (by first | omega | (intro hq; first | omega | (simp at hq <;> omega) | (simp_all <;> omega))) ?_); refine hK _ ?_; clear hK K
    (repeat refine ats_seq ?_); refine ats_go (fix0 hcx) fun K hK => ?_; simp only [go_sem, seval]
    refine fcall_own rfl (hA) rfl ?_; simp only [go_sem, seval]
    (repeat refine And.intro (by (first | omega | (rw [hl]; omega))) ?_)
    refine hK _ ?_; clear hK K
    (repeat refine ats_seq ?_); refine ats_go (fix0 hcx) fun K hK => ?_; simp only [go_sem, seval]; (repeat refine And.intro (by first | omega | (intro hq; first | omega | (simp at hq <;> omega) | (simp_all <;> omega))) ?_); refine hK _ ?_; clear hK K
    refine ⟨i + 1,  by omega, by omega, .inl ⟨by simp only [SlotsLe, St.get, slotGet, Nat.reduceEqDiff, ↓reduceIte, AV.int.injEq, AV.bool.injEq, AV.l1.injEq, AV.l2.injEq, AV.l3.injEq, true_and, and_true]; omega,  by simp only [List.range_succ (n := i), List.map_append, List.map_cons, List.map_nil]⟩⟩
  · obtain rfl : i = n := by omega
    refine ats_exit (lq_x ?_)
    (repeat refine ats_seq ?_); refine ats_go (fix0 hcx) fun K hK => ?_; simp only [go_sem, seval]; refine hK _ ?_; clear hK K
    exact ats_ret (ownV (is := [0]) rfl ⟨rfl, trivial⟩ rfl (by simp))
end Go.Proofs.YtakhnoenhmpfpaaGreat
