import Derived.Test.YtakhnoenhmpfpaaGreatDg
import Derived.Test.YtakhnoenhmpfpaaGreatLib4
set_option linter.unusedSimpArgs false
set_option linter.unusedVariables false
namespace Go.Proofs.YtakhnoenhmpfpaaGreat
open Go Go.Aw Go.Pl
theorem scale_ok (m : List (List Int)) (g : Int) (n : Nat) (h16 : n ≤ 16) (hm : MatP n m) (hg : InP g) : FreshCall Tryz.prog 76 [.l2 m, .int g] (.l2 (scF m g n)) := by
  have lm := hm.1
  refine FreshCall.intro (n := 39) (rs := [.tmp 4]) Tryz.call76 Tryz.func76 rfl rfl rfl (by simp only [List.length_cons, List.length_nil]; omega) (fun cx hcx => ats_of ?_); simp only [argSlots, Nat.zero_add, Nat.reduceAdd]
  (repeat refine ats_seq ?_); refine ats_go (fix0 hcx) fun K hK => ?_; simp only [go_sem, seval]; refine hK _ ?_; clear hK K
  (repeat refine ats_seq ?_); refine ats_go (fix0 hcx) fun K hK => ?_; simp only [go_sem, seval]; refine hK _ ?_; clear hK K
  (repeat refine ats_seq ?_); refine ats_go (fix0 hcx) fun K hK => ?_; simp only [go_sem, seval]; refine hK _ ?_; clear hK K
  (repeat refine ats_seq ?_); refine ats_loop (fun i : Nat => ⟨[(1, .int g), (5, .ref 0 []), (12, .l2 m), (13, .int n), (14, .int i)], [(0, .t2 ((List.range i).map fun i => rowF n fun j => e2 m i j * g % 55441))]⟩) (fun i => i ≤ n) (fun i => n - i) 0 (Nat.zero_le _) (by refine And.intro ?_ rfl; simp only [SlotsLe, St.get, slotGet, Nat.reduceEqDiff, ↓reduceIte, true_and, and_true, AV.int.injEq, AV.bool.injEq, AV.l1.injEq, AV.l2.injEq, AV.l3.injEq]; repeat' (first | rfl | omega | refine And.intro ?_ ?_)) (fun i hi => ?_)
  have hl : ((List.range i).map fun i => rowF n fun j => e2 m i j * g % 55441).length = i := by simp
  (repeat refine ats_seq ?_); refine ats_go (fix0 hcx) fun K hK => ?_; simp only [go_sem, seval]; refine hK _ ?_; clear hK K
  (repeat refine ats_seq ?_); first | refine ats_ifn (p := _) rfl trivial (fun hli => ?_) (fun hli => ?_) | refine ats_ifp (p := _) rfl trivial (fun hli => ?_) (fun hli => ?_) | refine ats_cond rfl trivial (fun hli => ?_) (fun hli => ?_)
  · have ri := hm.row (show i < n by omega)
    refine ats_skip ?_
    (repeat refine ats_seq ?_); refine ats_block ?_
    (repeat refine ats_seq ?_); refine ats_go (fix0 hcx) fun K hK => ?_; simp only [go_sem, seval]; (repeat refine And.intro (by first | omega | (intro hq; first | omega | (simp at hq <;> omega) | (simp_all <;> omega))) ?_); refine hK _ ?_; clear hK K
    (repeat refine ats_seq ?_); refine ats_go (fix0 hcx) fun K hK => ?_; simp only [go_sem, seval]; refine hK _ ?_; clear hK K
    (repeat refine ats_seq ?_); refine ats_go (fix0 hcx) fun K hK => ?_; simp only [go_sem, seval]; refine hK _ ?_; clear hK K
    (repeat refine ats_seq ?_); refine ats_loop (fun j : Nat => ⟨[(1, .int g), (5, .ref 0 []), (12, .l2 m), (13, .int n), (14, .int i), (8, .ref 1 []), (19, .l1 (m.getD i [])), (20, .int n), (21, .int j)], [(0, .t2 ((List.range i).map fun i => rowF n fun j => e2 m i j * g % 55441)), (1, .t1 ((List.range j).map fun j => e2 m i j * g % 55441))]⟩) (fun j => j ≤ n) (fun j => n - j) 0 (Nat.zero_le _) (by refine And.intro ?_ rfl; simp only [SlotsLe, St.get, slotGet, Nat.reduceEqDiff, ↓reduceIte, true_and, and_true, AV.int.injEq, AV.bool.injEq, AV.l1.injEq, AV.l2.injEq, AV.l3.injEq]; repeat' (first | rfl | omega | refine And.intro ?_ ?_)) (fun j hj => ?_)
    have hl2 : ((List.range j).map fun j => e2 m i j * g % 55441).length = j := by simp
    (repeat refine ats_seq ?_); refine ats_go (fix0 hcx) fun K hK => ?_; simp only [go_sem, seval]; refine hK _ ?_; clear hK K
    (repeat refine ats_seq ?_); first | refine ats_ifn (p := _) rfl trivial (fun hlj => ?_) (fun hlj => ?_) | refine ats_ifp (p := _) rfl trivial (fun hlj => ?_) (fun hlj => ?_) | refine ats_cond rfl trivial (fun hlj => ?_) (fun hlj => ?_)
    · have mp := mulP (hm.inP (show i < n by omega) (show j < n by omega)) hg
      simp only [e2] at mp
      refine ats_skip ?_
      (repeat refine ats_seq ?_); refine ats_block ?_
      (repeat refine ats_seq ?_); refine ats_go (fix0 hcx) fun K hK => ?_; simp only [go_sem, seval]; (repeat refine And.intro (by first | omega | (intro hq; first | omega | (simp at hq <;> omega) | (simp_all <;> omega))) ?_); refine hK _ ?_; clear hK K
      (repeat refine ats_seq ?_); refine ats_go (fix0 hcx) fun K hK => ?_; simp only [go_sem, seval]
      try simp (disch := omega) only [tmP, tdP]
      (repeat refine And.intro (by (first | omega | (rw [hl2]; omega))) ?_)
      refine hK _ ?_; clear hK K
      (repeat refine ats_seq ?_); refine ats_go (fix0 hcx) fun K hK => ?_; simp only [go_sem, seval]; (repeat refine And.intro (by first | omega | (intro hq; first | omega | (simp at hq <;> omega) | (simp_all <;> omega))) ?_); refine hK _ ?_; clear hK K
      refine ⟨j + 1, by omega, by omega, .inr ⟨[2], by simp only [killL, List.map_cons, List.map_nil, killA, killAs, qOf, rmT, killH, killT, List.filter_cons, List.filter_nil, List.contains_cons, List.contains_nil, SlotsLe, St.get, slotGet, Nat.reduceEqDiff, Nat.reduceBEq, Bool.or_false, Bool.or_true, Bool.false_and, Bool.not_true, Bool.not_false, Bool.false_eq_true, ↓reduceIte, if_true, if_false, AV.int.injEq, AV.bool.injEq, AV.l1.injEq, AV.l2.injEq, AV.l3.injEq, true_and, and_true]; omega, by simp only [killL, List.map_cons, List.map_nil, killA, killAs, qOf, rmT, killH, killT, List.filter_cons, List.filter_nil, List.contains_cons, List.contains_nil, SlotsLe, St.get, slotGet, Nat.reduceEqDiff, Nat.reduceBEq, Bool.or_false, Bool.or_true, Bool.false_and, Bool.not_true, Bool.not_false, Bool.false_eq_true, ↓reduceIte, if_true, if_false, AV.int.injEq, AV.bool.injEq, AV.l1.injEq, AV.l2.injEq, AV.l3.injEq, true_and, and_true]; simp only [List.range_succ (n := j), List.map_append, List.map_cons, List.map_nil]⟩⟩
    · obtain rfl : j = n := by omega
      refine ats_exit (lq_x ?_)
      (repeat refine ats_seq ?_); refine ats_go (fix0 hcx) fun K hK => ?_; simp only [go_sem, seval]
      (repeat refine And.intro (by (first | omega | (rw [hl]; omega))) ?_)
      refine hK _ ?_; clear hK K
      (repeat refine ats_seq ?_); refine ats_go (fix0 hcx) fun K hK => ?_; simp only [go_sem, seval]; (repeat refine And.intro (by first | omega | (intro hq; first | omega | (simp at hq <;> omega) | (simp_all <;> omega))) ?_); refine hK _ ?_; clear hK K
      refine ⟨i + 1,  by omega, by omega, .inl ⟨by simp only [SlotsLe, St.get, slotGet, Nat.reduceEqDiff, ↓reduceIte, AV.int.injEq, AV.bool.injEq, AV.l1.injEq, AV.l2.injEq, AV.l3.injEq, true_and, and_true]; omega,  by simp only [List.range_succ (n := i), List.map_append, List.map_cons, List.map_nil]; rfl⟩⟩
  · obtain rfl : i = n := by omega
    refine ats_exit (lq_x ?_)
    (repeat refine ats_seq ?_); refine ats_go (fix0 hcx) fun K hK => ?_; simp only [go_sem, seval]; refine hK _ ?_; clear hK K
    exact ats_ret (ownV (is := [0]) rfl ⟨rfl, trivial⟩ rfl (by simp))
theorem diagonal_ok (v : List Int) (n : Nat) (h16 : n ≤ 16) (hv : v.length = n) : FreshCall Tryz.prog 75 [.l1 v] (.l2 (diF v n)) := by
  refine FreshCall.intro (n := 27) (rs := [.tmp 2]) Tryz.call75 Tryz.func75 rfl rfl rfl (by simp only [List.length_cons, List.length_nil]; omega) (fun cx hcx => ats_of ?_); simp only [argSlots, Nat.zero_add, Nat.reduceAdd]
  (repeat refine ats_seq ?_); refine ats_go (fix0 hcx) fun K hK => ?_; simp only [go_sem, seval]; refine hK _ ?_; clear hK K
  (repeat refine ats_seq ?_); refine ats_go (fix0 hcx) fun K hK => ?_; simp only [go_sem, seval]
  simp only [hv]
  refine fcall_own rfl (zeros_ok n n (by omega) (by omega)) rfl ?_; simp only [go_sem, seval]
  refine hK _ ?_; clear hK K
  rw [← diS_zero v n]
  (repeat refine ats_seq ?_); refine ats_go (fix0 hcx) fun K hK => ?_; simp only [go_sem, seval]; refine hK _ ?_; clear hK K
  (repeat refine ats_seq ?_); refine ats_loop (fun k : Nat => ⟨[(3, .ref 0 []), (11, .l1 v), (12, .int n), (13, .int k)], [(0, .t2 (diS v n k))]⟩) (fun k => k ≤ n) (fun k => n - k) 0 (Nat.zero_le _) (by refine And.intro ?_ rfl; simp only [SlotsLe, St.get, slotGet, Nat.reduceEqDiff, ↓reduceIte, true_and, and_true, AV.int.injEq, AV.bool.injEq, AV.l1.injEq, AV.l2.injEq, AV.l3.injEq]; repeat' (first | rfl | omega | refine And.intro ?_ ?_)) (fun k hk => ?_)
  have hl := diS_length v n k
  (repeat refine ats_seq ?_); refine ats_go (fix0 hcx) fun K hK => ?_; simp only [go_sem, seval]; refine hK _ ?_; clear hK K
  (repeat refine ats_seq ?_); first | refine ats_ifn (p := _) rfl trivial (fun hlk => ?_) (fun hlk => ?_) | refine ats_ifp (p := _) rfl trivial (fun hlk => ?_) (fun hlk => ?_) | refine ats_cond rfl trivial (fun hlk => ?_) (fun hlk => ?_)
  · have hr := diS_row (v := v) (n := n) (k := k) (show k < n by omega)
    refine ats_skip ?_
    (repeat refine ats_seq ?_); refine ats_block ?_
    (repeat refine ats_seq ?_); refine ats_go (fix0 hcx) fun K hK => ?_; simp only [go_sem, seval]; (repeat refine And.intro (by first | omega | (intro hq; first | omega | (simp at hq <;> omega) | (simp_all <;> omega))) ?_); refine hK _ ?_; clear hK K
    (repeat refine ats_seq ?_); refine ats_go (fix0 hcx) fun K hK => ?_; simp only [go_sem, seval]
    simp only [hl, hr]
    (repeat refine And.intro (by first | omega | (intro hq; first | omega | (simp at hq <;> omega) | (simp_all <;> omega))) ?_)
    refine hK _ ?_; clear hK K
    (repeat refine ats_seq ?_); refine ats_go (fix0 hcx) fun K hK => ?_; simp only [go_sem, seval]; (repeat refine And.intro (by first | omega | (intro hq; first | omega | (simp at hq <;> omega) | (simp_all <;> omega))) ?_); refine hK _ ?_; clear hK K
    refine ⟨k + 1,  by omega, by omega, .inl ⟨by simp only [SlotsLe, St.get, slotGet, Nat.reduceEqDiff, ↓reduceIte, AV.int.injEq, AV.bool.injEq, AV.l1.injEq, AV.l2.injEq, AV.l3.injEq, true_and, and_true]; omega,  by rw [← diS_set (show k < n by omega)]⟩⟩
  · obtain rfl : k = n := by omega
    refine ats_exit (lq_x ?_)
    (repeat refine ats_seq ?_); refine ats_go (fix0 hcx) fun K hK => ?_; simp only [go_sem, seval]; refine hK _ ?_; clear hK K
    exact ats_ret (ownV (is := [0]) rfl ⟨rfl, trivial⟩ (by rw [← diS_all]; rfl) (by simp))
theorem turns_ok (s : List (List Int)) (t : List Int) (hs : Shape s t) : PureCall Tryz.prog 50 [.agg [.l2 s, .l1 t]] (.bool (bd (TurnP s t))) := by
  have h16 := hs.2.1
  have h1 := hs.1
  have hm := hs.2.2.1
  have ht := hs.2.2.2
  have hu := uD_MatP hs
  have k0 := diagonal_ok t t.length h16 rfl
  have k1 : FreshCall Tryz.prog 69 [.l2 s, .l2 (diF t t.length)] (.l2 (uD s t t.length)) := by
    rw [← mul_di]
    exact multiply_ok s (diF t t.length) t.length h1 h16 hm (diF_MatP ht)
  have k2 := multiply_ok (uD s t t.length) (uD s t t.length) t.length h1 h16 hu hu
  have k3 : FreshCall Tryz.prog 69 [.l2 (mulM (uD s t t.length) (uD s t t.length) t.length), .l2 (uD s t t.length)] (.l2 (cubeD s t t.length)) := multiply_ok _ _ t.length h1 h16 (mulM_MatP ..) hu
  have k4 : FreshCall Tryz.prog 69 [.l2 s, .l2 s] (.l2 (sqD s t.length)) := multiply_ok s s t.length h1 h16 hm hm
  have k5 := gauss_ok s t t hs rfl ht
  have k6 := scale_ok (sqD s t.length) (gaussD s t t.length) t.length h16 (mulM_MatP ..) (inP_md _)
  have k7 := equalRows_ok (cubeD s t t.length) (scF (sqD s t.length) (gaussD s t t.length) t.length)
  refine PureCall.intro (n := 26) (rs := [.tmp 2]) Tryz.call50 Tryz.func50 rfl rfl rfl (by simp only [List.length_cons, List.length_nil]; omega) (fun cx hcx => ats_of ?_); simp only [argSlots, Nat.zero_add, Nat.reduceAdd]
  (repeat refine ats_seq ?_); refine ats_go (fix0 hcx) fun K hK => ?_; simp only [go_sem, seval]; refine hK _ ?_; clear hK K
  (repeat refine ats_seq ?_); refine ats_pick (fix0 hcx) mixed (by kernel_rfl) fun K hK => ?_; simp only [go_sem, seval]
  first | refine fcall_fresh rfl (k0) ?_ | refine YR_intro (acall_fresh rfl (k0)) ?_
  simp only [go_sem, seval]
  first | refine fcall_fresh rfl (k1) ?_ | refine YR_intro (acall_fresh rfl (k1)) ?_
  simp only [go_sem, seval]
  refine hK _ ?_; clear hK K
  (repeat refine ats_seq ?_); refine ats_pick (fix0 hcx) mixed (by kernel_rfl) fun K hK => ?_; simp only [go_sem, seval]
  first | refine fcall_fresh rfl (k2) ?_ | refine YR_intro (acall_fresh rfl (k2)) ?_
  simp only [go_sem, seval]
  first | refine fcall_fresh rfl (k3) ?_ | refine YR_intro (acall_fresh rfl (k3)) ?_
  simp only [go_sem, seval]
  first | refine fcall_fresh rfl (k4) ?_ | refine YR_intro (acall_fresh rfl (k4)) ?_
  simp only [go_sem, seval]
  first | refine fcall_data (k5) rfl ?_ | refine YR_intro (acall_data (k5) rfl) ?_
  simp only [go_sem, seval]
  first | refine fcall_fresh rfl (k6) ?_ | refine YR_intro (acall_fresh rfl (k6)) ?_
  simp only [go_sem, seval]
  first | refine fcall_data (k7) rfl ?_ | refine YR_intro (acall_data (k7) rfl) ?_
  simp only [go_sem, seval]
  refine hK _ ?_; clear hK K
  refine ats_ret (finB rfl ?_)
  by_cases h : TurnP s t
  · rw [bd_true h, decide_eq_true ((turn_iff s t).2 h)]
  · rw [bd_false h, decide_eq_false (fun e => h ((turn_iff s t).1 e))]
theorem sIndex_ok (xs : List Int) (x : Int) : PureCall Tryz.prog 53 [.l1 xs, .int x] (.int (fidx (fun y => decide (y = x)) xs)) := by
  refine PureCall.intro (n := 19) (rs := [.tmp 4]) Tryz.call53 Tryz.func53 rfl rfl rfl (by simp only [List.length_cons, List.length_nil]; omega) (fun cx hcx => ats_of ?_); simp only [argSlots, Nat.zero_add, Nat.reduceAdd]
  (repeat refine ats_seq ?_); refine ats_go (fix0 hcx) fun K hK => ?_; simp only [go_sem, seval]; refine hK _ ?_; clear hK K
  refine ats_know 0 fun h0 => ?_; simp only [St.get, slotGet, Nat.reduceEqDiff, ↓reduceIte, if_true, fact, facts] at h0
  have hlen := h0.1
  (repeat refine ats_seq ?_); refine ats_go (fix0 hcx) fun K hK => ?_; simp only [go_sem, seval]; refine hK _ ?_; clear hK K
  (repeat refine ats_seq ?_); refine ats_loop (fun k : Nat => ⟨[(0, .l1 xs), (1, .int x), (7, .int xs.length), (8, .int k)], []⟩) (fun k => k ≤ xs.length ∧ ∀ b, b < k → decide (xs.getD b 0 = x) = false) (fun k => xs.length - k) 0 ⟨Nat.zero_le _, fun a h => absurd h (Nat.not_lt_zero a)⟩ (by refine And.intro ?_ rfl; simp only [SlotsLe, St.get, slotGet, Nat.reduceEqDiff, ↓reduceIte, AV.int.injEq, AV.bool.injEq, AV.l1.injEq, AV.l2.injEq, AV.l3.injEq, true_and, and_true]; rfl) (fun k hk => ?_); obtain ⟨hk, Hk⟩ := hk
  (repeat refine ats_seq ?_); refine ats_go (fix0 hcx) fun K hK => ?_; simp only [go_sem, seval]; refine hK _ ?_; clear hK K
  (repeat refine ats_seq ?_); first | refine ats_ifn (p := _) rfl trivial (fun hlk => ?_) (fun hlk => ?_) | refine ats_ifp (p := _) rfl trivial (fun hlk => ?_) (fun hlk => ?_) | refine ats_cond rfl trivial (fun hlk => ?_) (fun hlk => ?_)
  · refine ats_skip ?_
    (repeat refine ats_seq ?_); refine ats_block ?_
    (repeat refine ats_seq ?_); refine ats_go (fix0 hcx) fun K hK => ?_; simp only [go_sem, seval]; refine hK _ ?_; clear hK K
    (repeat refine ats_seq ?_); refine ats_go (fix0 hcx) fun K hK => ?_; simp only [go_sem, seval]; (repeat refine And.intro (by first | omega | (intro hq; first | omega | (simp at hq <;> omega) | (simp_all <;> omega))) ?_); refine hK _ ?_; clear hK K
    (repeat refine ats_seq ?_); first | refine ats_ifn (p := _) rfl trivial (fun h6 => ?_) (fun h6 => ?_) | refine ats_ifp (p := _) rfl trivial (fun h6 => ?_) (fun h6 => ?_) | refine ats_cond rfl trivial (fun h6 => ?_) (fun h6 => ?_)
    · (repeat refine ats_seq ?_); refine ats_go (fix0 hcx) fun K hK => ?_; simp only [go_sem, seval]; refine hK _ ?_; clear hK K
      refine ats_ret (finI rfl ?_)
      exact (fidx_some (d := 0) (show k < xs.length by omega) Hk (decide_eq_true h6.symm)).symm
    · refine ats_skip ?_
      (repeat refine ats_seq ?_); refine ats_go (fix0 hcx) fun K hK => ?_; simp only [go_sem, seval]; (repeat refine And.intro (by first | omega | (intro hq; first | omega | (simp at hq <;> omega) | (simp_all <;> omega))) ?_); refine hK _ ?_; clear hK K
      refine ⟨k + 1, ⟨by omega, fun a ha => by rcases Nat.lt_succ_iff_lt_or_eq.1 ha with h | rfl; exact Hk a h; exact decide_eq_false (fun e => h6 e.symm)⟩, by omega, .inl ⟨?_, rfl⟩⟩; simp only [SlotsLe, St.get, slotGet, Nat.reduceEqDiff, ↓reduceIte, AV.int.injEq, AV.bool.injEq, AV.l1.injEq, AV.l2.injEq, AV.l3.injEq, true_and, and_true]; omega
  · refine ats_exit (lq_x ?_)
    (repeat refine ats_seq ?_); refine ats_go (fix0 hcx) fun K hK => ?_; simp only [go_sem, seval]; refine hK _ ?_; clear hK K
    refine ats_ret (finI rfl ?_)
    exact (fidx_none (d := 0) (fun i hi => Hk i (by omega))).symm
theorem sContains_ok (xs : List Int) (x : Int) : PureCall Tryz.prog 32 [.l1 xs, .int x] (.bool (xs.any fun y => decide (y = x))) := by
  refine PureCall.intro (n := 9) (rs := [.tmp 4]) Tryz.call32 Tryz.func32 rfl rfl rfl (by simp only [List.length_cons, List.length_nil]; omega) (fun cx hcx => ats_of ?_); simp only [argSlots, Nat.zero_add, Nat.reduceAdd]
  (repeat refine ats_seq ?_); refine ats_go (fix0 hcx) fun K hK => ?_; simp only [go_sem, seval]; refine hK _ ?_; clear hK K
  (repeat refine ats_seq ?_); refine ats_go (fix0 hcx) fun K hK => ?_; simp only [go_sem, seval]
  first | refine fcall_free rfl rfl (sIndex_ok xs x) ?_ | refine YR_intro (acall_free rfl rfl (sIndex_ok xs x)) ?_
  simp only [go_sem, seval]
  refine hK _ ?_; clear hK K
  refine ats_ret (finB rfl ?_)
  exact fidx_any
theorem nIndex_ok (xs : List Int) (x : Int) : PureCall Tryz.prog 94 [.l1 xs, .int x] (.int (fidx (fun y => decide (y = x)) xs)) := by
  refine PureCall.intro (n := 19) (rs := [.tmp 4]) Tryz.call94 Tryz.func94 rfl rfl rfl (by simp only [List.length_cons, List.length_nil]; omega) (fun cx hcx => ats_of ?_); simp only [argSlots, Nat.zero_add, Nat.reduceAdd]
  (repeat refine ats_seq ?_); refine ats_go (fix0 hcx) fun K hK => ?_; simp only [go_sem, seval]; refine hK _ ?_; clear hK K
  refine ats_know 0 fun h0 => ?_; simp only [St.get, slotGet, Nat.reduceEqDiff, ↓reduceIte, if_true, fact, facts] at h0
  have hlen := h0.1
  (repeat refine ats_seq ?_); refine ats_go (fix0 hcx) fun K hK => ?_; simp only [go_sem, seval]; refine hK _ ?_; clear hK K
  (repeat refine ats_seq ?_); refine ats_loop (fun k : Nat => ⟨[(0, .l1 xs), (1, .int x), (7, .int xs.length), (8, .int k)], []⟩) (fun k => k ≤ xs.length ∧ ∀ b, b < k → decide (xs.getD b 0 = x) = false) (fun k => xs.length - k) 0 ⟨Nat.zero_le _, fun a h => absurd h (Nat.not_lt_zero a)⟩ (by refine And.intro ?_ rfl; simp only [SlotsLe, St.get, slotGet, Nat.reduceEqDiff, ↓reduceIte, AV.int.injEq, AV.bool.injEq, AV.l1.injEq, AV.l2.injEq, AV.l3.injEq, true_and, and_true]; rfl) (fun k hk => ?_); obtain ⟨hk, Hk⟩ := hk
  (repeat refine ats_seq ?_); refine ats_go (fix0 hcx) fun K hK => ?_; simp only [go_sem, seval]; refine hK _ ?_; clear hK K
  (repeat refine ats_seq ?_); first | refine ats_ifn (p := _) rfl trivial (fun hlk => ?_) (fun hlk => ?_) | refine ats_ifp (p := _) rfl trivial (fun hlk => ?_) (fun hlk => ?_) | refine ats_cond rfl trivial (fun hlk => ?_) (fun hlk => ?_)
  · refine ats_skip ?_
    (repeat refine ats_seq ?_); refine ats_block ?_
    (repeat refine ats_seq ?_); refine ats_go (fix0 hcx) fun K hK => ?_; simp only [go_sem, seval]; refine hK _ ?_; clear hK K
    (repeat refine ats_seq ?_); refine ats_go (fix0 hcx) fun K hK => ?_; simp only [go_sem, seval]; (repeat refine And.intro (by first | omega | (intro hq; first | omega | (simp at hq <;> omega) | (simp_all <;> omega))) ?_); refine hK _ ?_; clear hK K
    (repeat refine ats_seq ?_); first | refine ats_ifn (p := _) rfl trivial (fun h6 => ?_) (fun h6 => ?_) | refine ats_ifp (p := _) rfl trivial (fun h6 => ?_) (fun h6 => ?_) | refine ats_cond rfl trivial (fun h6 => ?_) (fun h6 => ?_)
    · (repeat refine ats_seq ?_); refine ats_go (fix0 hcx) fun K hK => ?_; simp only [go_sem, seval]; refine hK _ ?_; clear hK K
      refine ats_ret (finI rfl ?_)
      exact (fidx_some (d := 0) (show k < xs.length by omega) Hk (decide_eq_true h6.symm)).symm
    · refine ats_skip ?_
      (repeat refine ats_seq ?_); refine ats_go (fix0 hcx) fun K hK => ?_; simp only [go_sem, seval]; (repeat refine And.intro (by first | omega | (intro hq; first | omega | (simp at hq <;> omega) | (simp_all <;> omega))) ?_); refine hK _ ?_; clear hK K
      refine ⟨k + 1, ⟨by omega, fun a ha => by rcases Nat.lt_succ_iff_lt_or_eq.1 ha with h | rfl; exact Hk a h; exact decide_eq_false (fun e => h6 e.symm)⟩, by omega, .inl ⟨?_, rfl⟩⟩; simp only [SlotsLe, St.get, slotGet, Nat.reduceEqDiff, ↓reduceIte, AV.int.injEq, AV.bool.injEq, AV.l1.injEq, AV.l2.injEq, AV.l3.injEq, true_and, and_true]; omega
  · refine ats_exit (lq_x ?_)
    (repeat refine ats_seq ?_); refine ats_go (fix0 hcx) fun K hK => ?_; simp only [go_sem, seval]; refine hK _ ?_; clear hK K
    refine ats_ret (finI rfl ?_)
    exact (fidx_none (d := 0) (fun i hi => Hk i (by omega))).symm
theorem nContains_ok (xs : List Int) (x : Int) : PureCall Tryz.prog 74 [.l1 xs, .int x] (.bool (xs.any fun y => decide (y = x))) := by
  refine PureCall.intro (n := 9) (rs := [.tmp 4]) Tryz.call74 Tryz.func74 rfl rfl rfl (by simp only [List.length_cons, List.length_nil]; omega) (fun cx hcx => ats_of ?_); simp only [argSlots, Nat.zero_add, Nat.reduceAdd]
  (repeat refine ats_seq ?_); refine ats_go (fix0 hcx) fun K hK => ?_; simp only [go_sem, seval]; refine hK _ ?_; clear hK K
  (repeat refine ats_seq ?_); refine ats_go (fix0 hcx) fun K hK => ?_; simp only [go_sem, seval]
  first | refine fcall_free rfl rfl (nIndex_ok xs x) ?_ | refine YR_intro (acall_free rfl rfl (nIndex_ok xs x)) ?_
  simp only [go_sem, seval]
  refine hK _ ?_; clear hK K
  refine ats_ret (finB rfl ?_)
  exact fidx_any
theorem isStart_ok (s : List (List Int)) (t : List Int) (hs : Shape s t) : PureCall Tryz.prog 47 [.agg [.l2 s, .l1 t]] (.bool (bd (StartP s t))) := by
  have h16 := hs.2.1
  have h1 := hs.1
  have hm := hs.2.2.1
  have ls := hm.1
  have r0 := hm.row (show 0 < t.length by omega)
  have hT := transpose_ok s (by omega) (by omega) (by omega) (fun i hi => by rw [hm.row (by omega), r0])
  have k1 := sContains_ok (s.getD 0 []) 0
  have k2 := sContains_ok t 0
  refine PureCall.intro (n := 39) (rs := [.tmp 2]) Tryz.call47 Tryz.func47 rfl rfl rfl (by simp only [List.length_cons, List.length_nil]; omega) (fun cx hcx => ats_of ?_); simp only [argSlots, Nat.zero_add, Nat.reduceAdd]
  (repeat refine ats_seq ?_); refine ats_go (fix0 hcx) fun K hK => ?_; simp only [go_sem, seval]; refine hK _ ?_; clear hK K
  (repeat refine ats_seq ?_); refine ats_pick (fix0 hcx) mixed (by kernel_rfl) fun K hK => ?_; simp only [go_sem, seval]
  first | refine fcall_fresh rfl (hT) ?_ | refine YR_intro (acall_fresh rfl (hT)) ?_
  simp only [go_sem, seval]
  first | refine fcall_data (equalRows_ok s (turnM s)) rfl ?_ | refine YR_intro (acall_data (equalRows_ok s (turnM s)) rfl) ?_
  simp only [go_sem, seval]
  (repeat refine And.intro (by first | omega | (intro hq; first | omega | (simp at hq <;> omega) | (simp_all <;> omega))) ?_)
  first | refine YR_intro (fun _ => acall_data (k1) rfl) ?_ | refine YR_intro (acall_data (k1) rfl) ?_
  simp only [go_sem, seval]
  first | refine YR_intro (fun _ => acall_data (k2) rfl) ?_ | refine YR_intro (acall_data (k2) rfl) ?_
  simp only [go_sem, seval]
  refine hK _ ?_; clear hK K
  refine ats_ret (finB rfl ?_)
  by_cases h : StartP s t
  · rw [bd_true h]
    obtain ⟨⟨⟨⟨e1, e2⟩, e3⟩, e4⟩, e5⟩ := (start_iff hs).1 h
    simp only [e4, e5, decide_eq_true e1]
    simp only [e2, e3, decide_true, Bool.not_false, Bool.and_true]
  · rw [bd_false h]
    refine Bool.eq_false_iff.2 (fun hh => ?_)
    simp only [Bool.and_eq_true, decide_eq_true_eq, Bool.not_eq_true'] at hh
    exact h ((start_iff hs).2 hh)
theorem conj1_ok (x : Int) : PureCall Tryz.prog 71 [.int x] (.bool (!decide (x = 0))) := by
  refine PureCall.intro (n := 5) (rs := [.tmp 2]) Tryz.call71 Tryz.func71 rfl rfl rfl (by simp only [List.length_cons, List.length_nil]; omega) (fun cx hcx => ats_of ?_); simp only [argSlots, Nat.zero_add, Nat.reduceAdd]
  (repeat refine ats_seq ?_); refine ats_go (fix0 hcx) fun K hK => ?_; simp only [go_sem, seval]; refine hK _ ?_; clear hK K
  (repeat refine ats_seq ?_); refine ats_go (fix0 hcx) fun K hK => ?_; simp only [go_sem, seval]; refine hK _ ?_; clear hK K
  refine ats_ret (finB rfl ?_)
  rfl
theorem conj2_ok (x : Int) : PureCall Tryz.prog 73 [.int x] (.bool (!decide (x = 0))) := by
  refine PureCall.intro (n := 5) (rs := [.tmp 2]) Tryz.call73 Tryz.func73 rfl rfl rfl (by simp only [List.length_cons, List.length_nil]; omega) (fun cx hcx => ats_of ?_); simp only [argSlots, Nat.zero_add, Nat.reduceAdd]
  (repeat refine ats_seq ?_); refine ats_go (fix0 hcx) fun K hK => ?_; simp only [go_sem, seval]; refine hK _ ?_; clear hK K
  (repeat refine ats_seq ?_); refine ats_go (fix0 hcx) fun K hK => ?_; simp only [go_sem, seval]; refine hK _ ?_; clear hK K
  refine ats_ret (finB rfl ?_)
  rfl
theorem conjugation_ok (s : List (List Int)) (t : List Int) (hs : Shape s t) : FreshCall Tryz.prog 49 [.agg [.l2 s, .l1 t]] (optA (cj s t)) := by
  have h16 := hs.2.1
  have h1 := hs.1
  have hm := hs.2.2.1
  have ls := hm.1
  have hW := dwhole_ok s t hs
  have hT : FreshCall Tryz.prog 69 [.l2 s, .l2 s] (.l2 (sqD s t.length)) := multiply_ok s s t.length h1 h16 hm hm
  have lq : (sqD s t.length).length = t.length := (mulM_MatP s s t.length).1
  refine FreshCall.intro (n := 72) (rs := [.tmp 2]) Tryz.call49 Tryz.func49 rfl rfl rfl (by simp only [List.length_cons, List.length_nil]; omega) (fun cx hcx => ats_of ?_); simp only [argSlots, Nat.zero_add, Nat.reduceAdd]
  (repeat refine ats_seq ?_); refine ats_go (by first | exact fix0 hcx | exact fix1 hcx rfl) fun K hK => ?_; simp only [go_sem, seval]; refine hK _ ?_; clear hK K
  (repeat refine ats_seq ?_); refine ats_pickP [0, 1, 2, 3, 4, 5, 6, 8, 9, 7, 10] (fix0 hcx) mixed (by kernel_rfl) fun K hK => ?_; simp only [pickL, pickO, List.map_cons, List.map_nil, List.getElem?_toArray, List.getElem?_cons_zero, List.getElem?_cons_succ, Option.getD_some]; simp only [go_sem, seval]
  first | refine fcall_data (hW) rfl ?_ | refine YR_intro (acall_data (hW) rfl) ?_
  simp only [go_sem, seval]
  first | refine fcall_fresh rfl (hT) ?_ | refine YR_intro (acall_fresh rfl (hT)) ?_
  simp only [go_sem, seval]
  refine hK _ ?_; clear hK K
  (repeat refine ats_seq ?_); refine ats_go (by first | exact fix0 hcx | exact fix1 hcx rfl) fun K hK => ?_; simp only [go_sem, seval]
  simp only [lq]
  refine hK _ ?_; clear hK K
  (repeat refine ats_seq ?_); refine ats_loop (fun i : Nat => ⟨[(1, .bptr 0 0), (3, .int (wholeD s t.length)), (5, .ref 1 []), (17, .l2 (sqD s t.length)), (18, .int t.length), (19, .int i)], [(0, .bx [.l2 s, .l1 t]), (1, .t1 ((List.range i).map (cI s t.length)))]⟩) (fun i => i ≤ t.length ∧ ∀ b, b < i → StepOk s t b) (fun i => t.length - i) 0 ⟨Nat.zero_le _, fun a h => absurd h (Nat.not_lt_zero a)⟩ (by refine And.intro ?_ rfl; simp only [SlotsLe, St.get, slotGet, Nat.reduceEqDiff, ↓reduceIte, AV.int.injEq, AV.bool.injEq, AV.l1.injEq, AV.l2.injEq, AV.l3.injEq, true_and, and_true]; rfl) (fun i hi => ?_); obtain ⟨hi, Hi⟩ := hi
  have hl : ((List.range i).map (cI s t.length)).length = i := by simp
  (repeat refine ats_seq ?_); refine ats_go (by first | exact fix0 hcx | exact fix1 hcx rfl) fun K hK => ?_; simp only [go_sem, seval]; refine hK _ ?_; clear hK K
  (repeat refine ats_seq ?_); first | refine ats_ifn (p := _) rfl trivial (fun hli => ?_) (fun hli => ?_) | refine ats_ifp (p := _) rfl trivial (fun hli => ?_) (fun hli => ?_) | refine ats_cond rfl trivial (fun hli => ?_) (fun hli => ?_)
  · have rq := sq_row (s := s) (show i < t.length by omega)
    have al := cI_lt (s := s) (show i < t.length by omega)
    have hix : PureCall Tryz.prog 70 [.l1 ((sqD s t.length).getD i []), .fn 71 []] (.int (cI s t.length i)) := indexF1_ok _ 71 [] (fun x => !decide (x = 0)) rfl (fun x => conj1_ok x)
    have hcf : PureCall Tryz.prog 72 [.l1 ((((sqD s t.length).getD i []).take ((sqD s t.length).getD i []).length).drop (cI s t.length i + 1).toNat), .fn 73 []] (.bool (((((sqD s t.length).getD i []).take ((sqD s t.length).getD i []).length).drop (cI s t.length i + 1).toNat).any fun x => !decide (x = 0))) := containsF1_ok _ 73 [] (fun x => !decide (x = 0)) rfl (fun x => conj2_ok x)
    have gi := good_iff (s := s) (show i < t.length by omega)
    have hH := nContains_ok ((List.range i).map (cI s t.length)) (cI s t.length i)
    have hdr : 0 ≤ cI s t.length i → (((sqD s t.length).getD i []).take ((sqD s t.length).getD i []).length).drop (cI s t.length i + 1).toNat = ((sqD s t.length).getD i []).drop ((cI s t.length i).toNat + 1) := fun h => by
      rw [List.take_length, show (cI s t.length i + 1).toNat = (cI s t.length i).toNat + 1 by omega]
    refine ats_skip ?_
    (repeat refine ats_seq ?_); refine ats_block ?_
    (repeat refine ats_seq ?_); refine ats_go (by first | exact fix0 hcx | exact fix1 hcx rfl) fun K hK => ?_; simp only [go_sem, seval]; (repeat refine And.intro (by first | omega | (intro hq; first | omega | (simp at hq <;> omega) | (simp_all <;> omega))) ?_); refine hK _ ?_; clear hK K
    (repeat refine ats_seq ?_); refine ats_go (by first | exact fix0 hcx | exact fix1 hcx rfl) fun K hK => ?_; simp only [go_sem, seval]
    first | refine fcall_data (hix) rfl ?_ | refine YR_intro (acall_data (hix) rfl) ?_
    simp only [go_sem, seval]
    refine hK _ ?_; clear hK K
    (repeat refine ats_seq ?_); refine ats_go (by first | exact fix0 hcx | exact fix1 hcx rfl) fun K hK => ?_; simp only [go_sem, seval]
    (repeat refine And.intro (by first | omega | (intro hq; first | omega | (simp at hq <;> omega) | (simp_all <;> omega))) ?_)
    first | refine YR_intro (fun _ => acall_data (hcf) rfl) ?_ | refine YR_intro (acall_data (hcf) rfl) ?_
    simp only [go_sem, seval]
    refine hK _ ?_; clear hK K
    (repeat refine ats_seq ?_); first | refine ats_ifn (p := _) rfl trivial (fun h2 => ?_) (fun h2 => ?_) | refine ats_ifp (p := _) rfl trivial (fun h2 => ?_) (fun h2 => ?_) | refine ats_cond rfl trivial (fun h2 => ?_) (fun h2 => ?_)
    · simp only [Bool.or_eq_true, Bool.not_eq_true', decide_eq_false_iff_not, decide_eq_true_eq] at h2
      have e : cj s t = none := cj_none_st (i := i) (by omega) (fun h => by
        obtain ⟨g1, g2, g3⟩ := gi.1 h.1
        rcases h2 with (h2 | h2) | h2
        · omega
        · exact h2 g2
        · rw [hdr g1, g3] at h2; cases h2)
      (repeat refine ats_seq ?_); refine ats_go (by first | exact fix0 hcx | exact fix1 hcx rfl) fun K hK => ?_; simp only [go_sem, seval]; refine hK _ ?_; clear hK K
      exact ats_ret (ownV (is := []) rfl ⟨rfl, trivial⟩ (by rw [e]; rfl) (by simp))
    · simp only [Bool.or_eq_false_iff, Bool.not_eq_false', decide_eq_false_iff_not, decide_eq_true_eq] at h2
      have c0 : 0 ≤ cI s t.length i := by omega
      have hg : Pl.Good s t.length i := gi.2 ⟨c0, h2.1.2, by rw [← hdr c0]; exact h2.2⟩
      refine ats_skip ?_
      (repeat refine ats_seq ?_); refine ats_pick (fix0 hcx) mixed (by kernel_rfl) fun K hK => ?_; simp only [go_sem, seval]
      (repeat refine And.intro (by first | omega | (intro hq; first | omega | (simp at hq <;> omega) | (simp_all <;> omega))) ?_)
      first | refine fcall_free rfl rfl (hH) ?_ | refine YR_intro (acall_free rfl rfl (hH)) ?_
      simp only [go_sem, seval]
      (repeat refine And.intro (by first | omega | (intro hq; first | omega | (simp at hq <;> omega) | (simp_all <;> omega))) ?_)
      refine hK _ ?_; clear hK K
      (repeat refine ats_seq ?_); first | refine ats_ifn (p := _) rfl trivial (fun h3 => ?_) (fun h3 => ?_) | refine ats_ifp (p := _) rfl trivial (fun h3 => ?_) (fun h3 => ?_) | refine ats_cond rfl trivial (fun h3 => ?_) (fun h3 => ?_)
      · simp only [Bool.or_eq_true, Bool.not_eq_true', decide_eq_false_iff_not, decide_eq_true_eq] at h3
        have e : cj s t = none := cj_none_st (i := i) (by omega) (fun h => by
          rcases h3 with (h3 | h3) | h3
          · obtain ⟨j, hj, e⟩ := any_cI.1 h3
            exact h.2.1 j hj e
          · exact h3 h.2.2.1
          · have := h.2.2.2
            by_cases hi0 : i = 0
            · simp [hi0, this.1 hi0] at h3
              rw [hi0] at this
              have h7 := this.1 rfl
              simp [h7] at h3
            · have h8 : ¬ cI s t.length i = 0 := fun e => hi0 (this.2 e)
              simp [hi0, h8] at h3)
        (repeat refine ats_seq ?_); refine ats_go (by first | exact fix0 hcx | exact fix1 hcx rfl) fun K hK => ?_; simp only [go_sem, seval]; refine hK _ ?_; clear hK K
        exact ats_ret (ownV (is := []) rfl ⟨rfl, trivial⟩ (by rw [e]; rfl) (by simp))
      · simp only [Bool.or_eq_false_iff, Bool.not_eq_false', decide_eq_false_iff_not, decide_eq_true_eq] at h3
        have hd : ∀ j, j < i → cI s t.length j ≠ cI s t.length i := fun j hj e => by
          have := any_cI.2 ⟨j, hj, e⟩
          rw [h3.1.1] at this
          cases this
        have hz : i = 0 ↔ cI s t.length i = 0 := by
          have h4 := h3.2
          simp only [beq_iff_eq, decide_eq_decide] at h4
          omega
        have hst : StepOk s t i := ⟨hg, hd, h3.1.2, hz⟩
        refine ats_skip ?_
        (repeat refine ats_seq ?_); refine ats_go (by first | exact fix0 hcx | exact fix1 hcx rfl) fun K hK => ?_; simp only [go_sem, seval]
        (repeat refine And.intro (by (first | omega | (rw [hl]; omega))) ?_)
        refine hK _ ?_; clear hK K
        (repeat refine ats_seq ?_); refine ats_go (by first | exact fix0 hcx | exact fix1 hcx rfl) fun K hK => ?_; simp only [go_sem, seval]; (repeat refine And.intro (by first | omega | (intro hq; first | omega | (simp at hq <;> omega) | (simp_all <;> omega))) ?_); refine hK _ ?_; clear hK K
        refine ⟨i + 1, ⟨by omega, fun a ha => by rcases Nat.lt_succ_iff_lt_or_eq.1 ha with h | rfl; exact Hi a h; exact hst⟩, by omega, .inr ⟨[2], by simp only [killL, List.map_cons, List.map_nil, killA, killAs, qOf, rmT, killH, killT, List.filter_cons, List.filter_nil, List.contains_cons, List.contains_nil, SlotsLe, St.get, slotGet, Nat.reduceEqDiff, Nat.reduceBEq, Bool.or_false, Bool.or_true, Bool.false_and, Bool.not_true, Bool.not_false, Bool.false_eq_true, ↓reduceIte, if_true, if_false, AV.int.injEq, AV.bool.injEq, AV.l1.injEq, AV.l2.injEq, AV.l3.injEq, true_and, and_true]; omega, by simp only [killL, List.map_cons, List.map_nil, killA, killAs, qOf, rmT, killH, killT, List.filter_cons, List.filter_nil, List.contains_cons, List.contains_nil, SlotsLe, St.get, slotGet, Nat.reduceEqDiff, Nat.reduceBEq, Bool.or_false, Bool.or_true, Bool.false_and, Bool.not_true, Bool.not_false, Bool.false_eq_true, ↓reduceIte, if_true, if_false, AV.int.injEq, AV.bool.injEq, AV.l1.injEq, AV.l2.injEq, AV.l3.injEq, true_and, and_true]; simp only [List.range_succ, List.map_append, List.map_cons, List.map_nil]⟩⟩
  · obtain rfl : i = t.length := by omega
    have e : cj s t = some (cL s t.length) := cj_some_st (fun i hi => Hi i (by omega))
    refine ats_exit (lq_x ?_)
    (repeat refine ats_seq ?_); refine ats_go (by first | exact fix0 hcx | exact fix1 hcx rfl) fun K hK => ?_; simp only [go_sem, seval]; refine hK _ ?_; clear hK K
    exact ats_ret (ownV (is := [1]) rfl ⟨rfl, trivial⟩ (by rw [e]; rfl) (by simp))
end Go.Proofs.YtakhnoenhmpfpaaGreat
