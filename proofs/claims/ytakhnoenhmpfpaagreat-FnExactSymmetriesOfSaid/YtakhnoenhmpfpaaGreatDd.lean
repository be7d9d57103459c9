import Derived.Test.YtakhnoenhmpfpaaGreatDc
import Derived.Test.YtakhnoenhmpfpaaGreatLib4
set_option linter.unusedSimpArgs false
set_option linter.unusedVariables false
namespace Go.Proofs.YtakhnoenhmpfpaaGreat
open Go Go.Aw Go.Pl
theorem l12Conjugation_ok (s : List (List Int)) (t : List Int) (hs : Shape s t) (hw : wholeD s t.length ≠ 0) : PureCall Tryz.prog 35 [.agg [.l2 s, .l1 t]] (optA (cj s t)) := by
  have h16 := hs.2.1
  have h1 := hs.1
  have hm := hs.2.2.1
  have ls := hm.1
  have hT : PureCall Tryz.prog 36 [.l2 s, .l2 s] (.l2 (sqD s t.length)) := (l12Times_ok s s t.length h16 hm hm).pure
  have hW := l12Whole_ok s t hs
  have lq : (sqD s t.length).length = t.length := (mulM_MatP s s t.length).1
  refine PureCall.intro (n := 79) (rs := [.tmp 2]) Tryz.call35 Tryz.func35 rfl rfl rfl (by simp only [List.length_cons, List.length_nil]; omega) (fun cx hcx => ats_of ?_); simp only [argSlots, Nat.zero_add, Nat.reduceAdd]
  (repeat refine ats_seq ?_); refine ats_go (fix0 hcx) fun K hK => ?_; simp only [go_sem, seval]; refine hK _ ?_; clear hK K
  (repeat refine ats_seq ?_); refine ats_pickP [0, 1, 2, 3, 4, 5, 6, 8, 9, 7, 10] (fix0 hcx) mixed (by kernel_rfl) fun K hK => ?_; simp only [pickL, pickO, List.map_cons, List.map_nil, List.getElem?_toArray, List.getElem?_cons_zero, List.getElem?_cons_succ, Option.getD_some]; simp only [go_sem, seval]
  first | refine fcall_data (hT) rfl ?_ | refine YR_intro (acall_data (hT) rfl) ?_
  simp only [go_sem, seval]
  first | refine fcall_data (hW) rfl ?_ | refine YR_intro (acall_data (hW) rfl) ?_
  simp only [go_sem, seval]
  refine hK _ ?_; clear hK K
  (repeat refine ats_seq ?_); refine ats_go (fix0 hcx) fun K hK => ?_; simp only [go_sem, seval]; refine hK _ ?_; clear hK K
  (repeat refine ats_seq ?_); refine ats_loop (fun i : Nat => ⟨[(1, .bptr 0 0), (3, .l2 (sqD s t.length)), (4, .int (wholeD s t.length)), (5, .ref 1 []), (6, .int i)], [(0, .bx [.l2 s, .l1 t]), (1, .t1 ((List.range i).map (cI s t.length)))]⟩) (fun i => i ≤ t.length ∧ ∀ b, b < i → Sp s t b) (fun i => t.length - i) 0 ⟨Nat.zero_le _, fun a h => absurd h (Nat.not_lt_zero a)⟩ (by refine And.intro ?_ rfl; simp only [SlotsLe, St.get, slotGet, Nat.reduceEqDiff, ↓reduceIte, AV.int.injEq, AV.bool.injEq, AV.l1.injEq, AV.l2.injEq, AV.l3.injEq, true_and, and_true]; rfl) (fun i hi => ?_); obtain ⟨hi, Hi⟩ := hi
  have hl : ((List.range i).map (cI s t.length)).length = i := by simp
  (repeat refine ats_seq ?_); refine ats_go (fix0 hcx) fun K hK => ?_; simp only [go_sem, seval]; refine hK _ ?_; clear hK K
  (repeat refine ats_seq ?_); first | refine ats_ifn (p := _) rfl trivial (fun hli => ?_) (fun hli => ?_) | refine ats_ifp (p := _) rfl trivial (fun hli => ?_) (fun hli => ?_) | refine ats_cond rfl trivial (fun hli => ?_) (fun hli => ?_)
  · have rq := sq_row (s := s) (show i < t.length by omega)
    have al := aI_lt (s := s) (show i < t.length by omega)
    have hix : PureCall Tryz.prog 55 [.l1 ((sqD s t.length).getD i []), .int (wholeD s t.length)] (.int (aI s t.length i)) := l01Index_ok _ _
    refine ats_skip ?_
    (repeat refine ats_seq ?_); refine ats_block ?_
    (repeat refine ats_seq ?_); refine ats_go (fix0 hcx) fun K hK => ?_; simp only [go_sem, seval]
    (repeat refine And.intro (by first | omega | (intro hq; first | omega | (simp at hq <;> omega) | (simp_all <;> omega))) ?_)
    first | refine fcall_data (hix) rfl ?_ | refine YR_intro (acall_data (hix) rfl) ?_
    simp only [go_sem, seval]
    refine hK _ ?_; clear hK K
    (repeat refine ats_seq ?_); refine ats_go (fix0 hcx) fun K hK => ?_; simp only [go_sem, seval]; refine hK _ ?_; clear hK K
    (repeat refine ats_seq ?_); refine ats_loop (fun k : Nat => ⟨[(1, .bptr 0 0), (3, .l2 (sqD s t.length)), (4, .int (wholeD s t.length)), (5, .ref 1 []), (6, .int i), (7, .int (aI s t.length i)), (8, .int k)], [(0, .bx [.l2 s, .l1 t]), (1, .t1 ((List.range i).map (cI s t.length)))]⟩) (fun k => k ≤ t.length ∧ ∀ b, b < k → ((b : Int) ≠ aI s t.length i → e2 (sqD s t.length) i b = 0)) (fun k => t.length - k) 0 ⟨Nat.zero_le _, fun a h => absurd h (Nat.not_lt_zero a)⟩ (by refine And.intro ?_ rfl; simp only [SlotsLe, St.get, slotGet, Nat.reduceEqDiff, ↓reduceIte, AV.int.injEq, AV.bool.injEq, AV.l1.injEq, AV.l2.injEq, AV.l3.injEq, true_and, and_true]; rfl) (fun k hk => ?_); obtain ⟨hk, Hk⟩ := hk
    (repeat refine ats_seq ?_); refine ats_go (fix0 hcx) fun K hK => ?_; simp only [go_sem, seval]; refine hK _ ?_; clear hK K
    (repeat refine ats_seq ?_); first | refine ats_ifn (p := _) rfl trivial (fun hlk => ?_) (fun hlk => ?_) | refine ats_ifp (p := _) rfl trivial (fun hlk => ?_) (fun hlk => ?_) | refine ats_cond rfl trivial (fun hlk => ?_) (fun hlk => ?_)
    · refine ats_skip ?_
      (repeat refine ats_seq ?_); refine ats_block ?_
      (repeat refine ats_seq ?_); refine ats_go (fix0 hcx) fun K hK => ?_; simp only [go_sem, seval]; (repeat refine And.intro (by first | omega | (intro hq; first | omega | (simp at hq <;> omega) | (simp_all <;> omega))) ?_); refine hK _ ?_; clear hK K
      (repeat refine ats_seq ?_); first | refine ats_ifn (p := _) rfl trivial (fun h2 => ?_) (fun h2 => ?_) | refine ats_ifp (p := _) rfl trivial (fun h2 => ?_) (fun h2 => ?_) | refine ats_cond rfl trivial (fun h2 => ?_) (fun h2 => ?_)
      · simp only [Bool.and_eq_true, Bool.not_eq_true', decide_eq_false_iff_not] at h2
        have e : cj s t = none := cj_none_sp (i := i) (by omega) (fun h => by
          have hg := h.1
          have h5 := good_aI (by omega) hw hg
          have h6 := hg.1
          exact h2.2 (hg.2.2 k (by omega) (by omega)))
        (repeat refine ats_seq ?_); refine ats_go (fix0 hcx) fun K hK => ?_; simp only [go_sem, seval]; refine hK _ ?_; clear hK K
        exact ats_ret (finV rfl ⟨rfl, trivial⟩ (by rw [e]; rfl))
      · simp only [Bool.and_eq_false_iff, Bool.not_eq_false', decide_eq_true_eq] at h2
        refine ats_skip ?_
        (repeat refine ats_seq ?_); refine ats_go (fix0 hcx) fun K hK => ?_; simp only [go_sem, seval]; (repeat refine And.intro (by first | omega | (intro hq; first | omega | (simp at hq <;> omega) | (simp_all <;> omega))) ?_); refine hK _ ?_; clear hK K
        refine ⟨k + 1, ⟨by omega, fun a ha => by rcases Nat.lt_succ_iff_lt_or_eq.1 ha with h | rfl; exact Hk a h; exact (fun hne => h2.resolve_left hne)⟩, by omega, .inl ⟨?_, rfl⟩⟩; simp only [SlotsLe, St.get, slotGet, Nat.reduceEqDiff, ↓reduceIte, AV.int.injEq, AV.bool.injEq, AV.l1.injEq, AV.l2.injEq, AV.l3.injEq, true_and, and_true]; omega
    · have hz : ∀ k, k < t.length → (k : Int) ≠ aI s t.length i → e2 (sqD s t.length) i k = 0 := fun k hk => Hk k (by omega)
      have hH := l01Has_ok ((List.range i).map (cI s t.length)) (aI s t.length i)
      refine ats_exit (lq_x ?_)
      (repeat refine ats_seq ?_); refine ats_pick (fix0 hcx) mixed (by kernel_rfl) fun K hK => ?_; simp only [go_sem, seval]
      (repeat refine And.intro (by first | omega | (intro hq; first | omega | (simp at hq <;> omega) | (simp_all <;> omega))) ?_)
      first | refine YR_intro (fun _ => acall_free rfl rfl (hH)) ?_ | refine YR_intro (acall_free rfl rfl (hH)) ?_
      simp only [go_sem, seval]
      (repeat refine And.intro (by first | omega | (intro hq; first | omega | (simp at hq <;> omega) | (simp_all <;> omega))) ?_)
      refine hK _ ?_; clear hK K
      (repeat refine ats_seq ?_); first | refine ats_ifn (p := _) rfl trivial (fun h3 => ?_) (fun h3 => ?_) | refine ats_ifp (p := _) rfl trivial (fun h3 => ?_) (fun h3 => ?_) | refine ats_cond rfl trivial (fun h3 => ?_) (fun h3 => ?_)
      · simp only [Bool.or_eq_true, Bool.not_eq_true', decide_eq_false_iff_not, decide_eq_true_eq] at h3
        have e : cj s t = none := cj_none_sp (i := i) (by omega) (fun h => by
          have hg := h.1
          have h5 := good_aI (by omega) hw hg
          have h6 := hg.1
          rcases h3 with (h3 | h3) | h3
          · omega
          · obtain ⟨j, hj, e⟩ := any_cI.1 h3
            exact h.2.1 j hj (by rw [e, h5])
          · exact h3 (by rw [h5]; exact h.2.2))
        (repeat refine ats_seq ?_); refine ats_go (fix0 hcx) fun K hK => ?_; simp only [go_sem, seval]; refine hK _ ?_; clear hK K
        exact ats_ret (finV rfl ⟨rfl, trivial⟩ (by rw [e]; rfl))
      · simp only [Bool.or_eq_false_iff, Bool.not_eq_false', decide_eq_false_iff_not, decide_eq_true_eq] at h3
        have hg := good_of (by omega) hw (by omega) hz
        have hd : ∀ j, j < i → cI s t.length j ≠ cI s t.length i := fun j hj e => by
          have := any_cI.2 ⟨j, hj, e.trans hg.1⟩
          rw [h3.1.2] at this
          cases this
        have hsp : Sp s t i := ⟨hg.2, hd, by rw [hg.1]; exact h3.2⟩
        refine ats_skip ?_
        (repeat refine ats_seq ?_); refine ats_go (fix0 hcx) fun K hK => ?_; simp only [go_sem, seval]
        (repeat refine And.intro (by (first | omega | (rw [hl]; omega))) ?_)
        refine hK _ ?_; clear hK K
        (repeat refine ats_seq ?_); refine ats_go (fix0 hcx) fun K hK => ?_; simp only [go_sem, seval]; (repeat refine And.intro (by first | omega | (intro hq; first | omega | (simp at hq <;> omega) | (simp_all <;> omega))) ?_); refine hK _ ?_; clear hK K
        refine ⟨i + 1, ⟨by omega, fun a ha => by rcases Nat.lt_succ_iff_lt_or_eq.1 ha with h | rfl; exact Hi a h; exact hsp⟩, by omega, .inr ⟨[2], by simp only [killL, List.map_cons, List.map_nil, killA, killAs, qOf, rmT, killH, killT, List.filter_cons, List.filter_nil, List.contains_cons, List.contains_nil, SlotsLe, St.get, slotGet, Nat.reduceEqDiff, Nat.reduceBEq, Bool.or_false, Bool.or_true, Bool.false_and, Bool.not_true, Bool.not_false, Bool.false_eq_true, ↓reduceIte, if_true, if_false, AV.int.injEq, AV.bool.injEq, AV.l1.injEq, AV.l2.injEq, AV.l3.injEq, true_and, and_true]; omega, by simp only [killL, List.map_cons, List.map_nil, killA, killAs, qOf, rmT, killH, killT, List.filter_cons, List.filter_nil, List.contains_cons, List.contains_nil, SlotsLe, St.get, slotGet, Nat.reduceEqDiff, Nat.reduceBEq, Bool.or_false, Bool.or_true, Bool.false_and, Bool.not_true, Bool.not_false, Bool.false_eq_true, ↓reduceIte, if_true, if_false, AV.int.injEq, AV.bool.injEq, AV.l1.injEq, AV.l2.injEq, AV.l3.injEq, true_and, and_true]; simp only [List.range_succ, List.map_append, List.map_cons, List.map_nil, hg.1]⟩⟩
  · obtain rfl : i = t.length := by omega
    have hsp : ∀ i, i < t.length → Sp s t i := fun i hi => Hi i (by omega)
    have h0 : ((List.range t.length).map (cI s t.length)).getD 0 0 = cI s t.length 0 := cL_get (by omega)
    clear Hi
    refine ats_exit (lq_x ?_)
    (repeat refine ats_seq ?_); refine ats_go (fix0 hcx) fun K hK => ?_; simp only [go_sem, seval]
    (repeat refine And.intro (by (first | omega | (rw [hl]; omega))) ?_)
    simp only [h0]
    refine hK _ ?_; clear hK K
    (repeat refine ats_seq ?_); first | refine ats_ifn (p := _) rfl trivial (fun h4 => ?_) (fun h4 => ?_) | refine ats_ifp (p := _) rfl trivial (fun h4 => ?_) (fun h4 => ?_) | refine ats_cond rfl trivial (fun h4 => ?_) (fun h4 => ?_)
    · have e : cj s t = none := cj_none_0 (by omega) h4
      (repeat refine ats_seq ?_); refine ats_go (fix0 hcx) fun K hK => ?_; simp only [go_sem, seval]; refine hK _ ?_; clear hK K
      exact ats_ret (finV rfl ⟨rfl, trivial⟩ (by rw [e]; rfl))
    · have e : cj s t = some (cL s t.length) := cj_some hsp (fun _ => h4)
      refine ats_skip ?_
      (repeat refine ats_seq ?_); refine ats_go (fix0 hcx) fun K hK => ?_; simp only [go_sem, seval]; refine hK _ ?_; clear hK K
      exact ats_ret (finV rfl ⟨rfl, trivial⟩ (by rw [e]; rfl))
theorem l06Empty_ok (n : Nat) (h16 : n ≤ 16) : FreshCall Tryz.prog 59 [.int n] (.l3 (List.replicate n (List.replicate n (List.replicate n 0)))) := by
  refine FreshCall.intro (n := 29) (rs := [.tmp 2]) Tryz.call59 Tryz.func59 rfl rfl rfl (by simp only [List.length_cons, List.length_nil]; omega) (fun cx hcx => ats_of ?_); simp only [argSlots, Nat.zero_add, Nat.reduceAdd]
  (repeat refine ats_seq ?_); refine ats_go (fix0 hcx) fun K hK => ?_; simp only [go_sem, seval]; refine hK _ ?_; clear hK K
  (repeat refine ats_seq ?_); refine ats_go (fix0 hcx) fun K hK => ?_; simp only [go_sem, seval]; refine hK _ ?_; clear hK K
  (repeat refine ats_seq ?_); refine ats_go (fix0 hcx) fun K hK => ?_; simp only [go_sem, seval]; refine hK _ ?_; clear hK K
  (repeat refine ats_seq ?_); refine ats_loop (fun i : Nat => ⟨[(0, .int n), (3, .ref 0 []), (4, .int i)], [(0, .t3 (List.replicate i (List.replicate n (List.replicate n 0))))]⟩) (fun i => i ≤ n) (fun i => n - i) 0 (Nat.zero_le _) (by refine And.intro ?_ rfl; simp only [SlotsLe, St.get, slotGet, Nat.reduceEqDiff, ↓reduceIte, true_and, and_true, AV.int.injEq, AV.bool.injEq, AV.l1.injEq, AV.l2.injEq, AV.l3.injEq]; repeat' (first | rfl | omega | refine And.intro ?_ ?_)) (fun i hi => ?_)
  have hl : (List.replicate i (List.replicate n (List.replicate n (0 : Int)))).length = i := List.length_replicate
  (repeat refine ats_seq ?_); refine ats_go (fix0 hcx) fun K hK => ?_; simp only [go_sem, seval]; refine hK _ ?_; clear hK K
  (repeat refine ats_seq ?_); first | refine ats_ifn (p := _) rfl trivial (fun hli => ?_) (fun hli => ?_) | refine ats_ifp (p := _) rfl trivial (fun hli => ?_) (fun hli => ?_) | refine ats_cond rfl trivial (fun hli => ?_) (fun hli => ?_)
  · refine ats_skip ?_
    (repeat refine ats_seq ?_); refine ats_block ?_
    (repeat refine ats_seq ?_); refine ats_go (fix0 hcx) fun K hK => ?_; simp only [go_sem, seval]; refine hK _ ?_; clear hK K
    (repeat refine ats_seq ?_); refine ats_go (fix0 hcx) fun K hK => ?_; simp only [go_sem, seval]; refine hK _ ?_; clear hK K
    (repeat refine ats_seq ?_); refine ats_loop (fun j : Nat => ⟨[(0, .int n), (3, .ref 0 []), (4, .int i), (5, .ref 1 []), (6, .int j)], [(0, .t3 (List.replicate i (List.replicate n (List.replicate n 0)))), (1, .t2 (List.replicate j (List.replicate n 0)))]⟩) (fun j => j ≤ n) (fun j => n - j) 0 (Nat.zero_le _) (by refine And.intro ?_ rfl; simp only [SlotsLe, St.get, slotGet, Nat.reduceEqDiff, ↓reduceIte, true_and, and_true, AV.int.injEq, AV.bool.injEq, AV.l1.injEq, AV.l2.injEq, AV.l3.injEq]; repeat' (first | rfl | omega | refine And.intro ?_ ?_)) (fun j hj => ?_)
    have hl2 : (List.replicate j (List.replicate n (0 : Int))).length = j := List.length_replicate
    (repeat refine ats_seq ?_); refine ats_go (fix0 hcx) fun K hK => ?_; simp only [go_sem, seval]; refine hK _ ?_; clear hK K
    (repeat refine ats_seq ?_); first | refine ats_ifn (p := _) rfl trivial (fun hlj => ?_) (fun hlj => ?_) | refine ats_ifp (p := _) rfl trivial (fun hlj => ?_) (fun hlj => ?_) | refine ats_cond rfl trivial (fun hlj => ?_) (fun hlj => ?_)
    · refine ats_skip ?_
      (repeat refine ats_seq ?_); refine ats_block ?_
      (repeat refine ats_seq ?_); refine ats_go (fix0 hcx) fun K hK => ?_; simp only [go_sem, seval]
      simp only [hl2]
      (repeat refine And.intro (by first | omega | (intro hq; first | omega | (simp at hq <;> omega) | (simp_all <;> omega))) ?_)
      refine hK _ ?_; clear hK K
      (repeat refine ats_seq ?_); refine ats_go (fix0 hcx) fun K hK => ?_; simp only [go_sem, seval]; (repeat refine And.intro (by first | omega | (intro hq; first | omega | (simp at hq <;> omega) | (simp_all <;> omega))) ?_); refine hK _ ?_; clear hK K
      refine ⟨j + 1,  by omega, by omega, .inl ⟨by simp only [SlotsLe, St.get, slotGet, Nat.reduceEqDiff, ↓reduceIte, AV.int.injEq, AV.bool.injEq, AV.l1.injEq, AV.l2.injEq, AV.l3.injEq, true_and, and_true]; omega,  by simp only [List.replicate_succ']⟩⟩
    · obtain rfl : j = n := by omega
      refine ats_exit (lq_x ?_)
      (repeat refine ats_seq ?_); refine ats_go (fix0 hcx) fun K hK => ?_; simp only [go_sem, seval]
      (repeat refine And.intro (by (first | omega | (rw [hl]; omega))) ?_)
      refine hK _ ?_; clear hK K
      (repeat refine ats_seq ?_); refine ats_go (fix0 hcx) fun K hK => ?_; simp only [go_sem, seval]; (repeat refine And.intro (by first | omega | (intro hq; first | omega | (simp at hq <;> omega) | (simp_all <;> omega))) ?_); refine hK _ ?_; clear hK K
      refine ⟨i + 1,  by omega, by omega, .inl ⟨by simp only [SlotsLe, St.get, slotGet, Nat.reduceEqDiff, ↓reduceIte, AV.int.injEq, AV.bool.injEq, AV.l1.injEq, AV.l2.injEq, AV.l3.injEq, true_and, and_true]; omega,  by simp only [List.replicate_succ' (n := i)]⟩⟩
  · obtain rfl : i = n := by omega
    refine ats_exit (lq_x ?_)
    (repeat refine ats_seq ?_); refine ats_go (fix0 hcx) fun K hK => ?_; simp only [go_sem, seval]; refine hK _ ?_; clear hK K
    exact ats_ret (ownV (is := [0]) rfl ⟨rfl, trivial⟩ rfl (by simp))
end Go.Proofs.YtakhnoenhmpfpaaGreat
