import Derived.Test.YtakhnoenhmpfpaaGreatPl4
import Derived.Test.YtakhnoenhmpfpaaGreatLib7
import Derived.Test.YtakhnoenhmpfpaaGreatDr
import Derived.Test.YtakhnoenhmpfpaaGreatDc
set_option linter.unusedSimpArgs false
set_option linter.unusedVariables false
namespace Go.Proofs.YtakhnoenhmpfpaaGreat
open Go Go.Aw Go.Pl
attribute [local go_sem] pl_fin pl_stop pl_one pl_alt PK_ap pickO List.getElem?_toArray List.getElem?_cons_zero List.getElem?_cons_succ
set_option maxHeartbeats 4000000 in
theorem l03Sorted_ok : ∀ (m : Nat) (xs : List Int), xs.length ≤ m → xs.length ≤ 1000 → PureCall Tryz.prog 40 [.l1 xs] (.l1 (srt xs)) := by
  intro m
  induction m with
  | zero =>
    intro xs hm hl
    have e := srt_short (xs := xs) (by omega)
    rw [e]
    refine PureCall.intro (n := 75) (rs := [.tmp 2]) Tryz.call40 Tryz.func40 rfl rfl rfl (by simp only [List.length_cons, List.length_nil]; omega) (fun cx hcx => ats_of ?_); simp only [argSlots, Nat.zero_add, Nat.reduceAdd]
    (repeat refine ats_seq ?_); refine ats_go (fix0 hcx) fun K hK => ?_; simp only [go_sem, seval]; (repeat refine And.intro (by first | omega | (intro hq; first | omega | (simp at hq <;> omega) | (simp_all <;> omega))) ?_); refine hK _ ?_; clear hK K
    (repeat refine ats_seq ?_); refine ats_go (fix0 hcx) fun K hK => ?_; simp only [go_sem, seval]; (repeat refine And.intro (by first | omega | (intro hq; first | omega | (simp at hq <;> omega) | (simp_all <;> omega))) ?_); refine hK _ ?_; clear hK K
    (repeat refine ats_seq ?_); first | refine ats_ifn (p := _) rfl trivial (fun h1 => ?_) (fun h1 => ?_) | refine ats_ifp (p := _) rfl trivial (fun h1 => ?_) (fun h1 => ?_) | refine ats_cond rfl trivial (fun h1 => ?_) (fun h1 => ?_)
    · (repeat refine ats_seq ?_); refine ats_go (fix0 hcx) fun K hK => ?_; simp only [go_sem, seval]; (repeat refine And.intro (by first | omega | (intro hq; first | omega | (simp at hq <;> omega) | (simp_all <;> omega))) ?_); refine hK _ ?_; clear hK K
      exact ats_ret (finV rfl ⟨rfl, trivial⟩ rfl)
    · omega
  | succ m ih =>
    intro xs hm hl
    by_cases h2 : xs.length < 2
    · have e := srt_short h2
      rw [e]
      refine PureCall.intro (n := 75) (rs := [.tmp 2]) Tryz.call40 Tryz.func40 rfl rfl rfl (by simp only [List.length_cons, List.length_nil]; omega) (fun cx hcx => ats_of ?_); simp only [argSlots, Nat.zero_add, Nat.reduceAdd]
      (repeat refine ats_seq ?_); refine ats_go (fix0 hcx) fun K hK => ?_; simp only [go_sem, seval]; (repeat refine And.intro (by first | omega | (intro hq; first | omega | (simp at hq <;> omega) | (simp_all <;> omega))) ?_); refine hK _ ?_; clear hK K
      (repeat refine ats_seq ?_); refine ats_go (fix0 hcx) fun K hK => ?_; simp only [go_sem, seval]; (repeat refine And.intro (by first | omega | (intro hq; first | omega | (simp at hq <;> omega) | (simp_all <;> omega))) ?_); refine hK _ ?_; clear hK K
      (repeat refine ats_seq ?_); first | refine ats_ifn (p := _) rfl trivial (fun h1 => ?_) (fun h1 => ?_) | refine ats_ifp (p := _) rfl trivial (fun h1 => ?_) (fun h1 => ?_) | refine ats_cond rfl trivial (fun h1 => ?_) (fun h1 => ?_)
      · (repeat refine ats_seq ?_); refine ats_go (fix0 hcx) fun K hK => ?_; simp only [go_sem, seval]; (repeat refine And.intro (by first | omega | (intro hq; first | omega | (simp at hq <;> omega) | (simp_all <;> omega))) ?_); refine hK _ ?_; clear hK K
        exact ats_ret (finV rfl ⟨rfl, trivial⟩ rfl)
      · omega
    · have ia := ih (xs.take (xs.length / 2)) (by rw [List.length_take]; omega) (by rw [List.length_take]; omega)
      have ib := ih (xs.drop (xs.length / 2)) (by rw [List.length_drop]; omega) (by rw [List.length_drop]; omega)
      have em := srt_merge xs (xs.length / 2)
      have la : (srt (xs.take (xs.length / 2))).length = xs.length / 2 := by rw [srt_length, List.length_take]; omega
      have lb : (srt (xs.drop (xs.length / 2))).length = xs.length - xs.length / 2 := by rw [srt_length, List.length_drop]
      obtain ⟨a, ea⟩ : ∃ a, srt (xs.take (xs.length / 2)) = a := ⟨_, rfl⟩
      obtain ⟨b, eb⟩ : ∃ b, srt (xs.drop (xs.length / 2)) = b := ⟨_, rfl⟩
      rw [ea] at ia em la
      rw [eb] at ib em lb
      rw [← em]
      have ib2 : PureCall Tryz.prog 40 [.l1 ((xs.take xs.length).drop (xs.length / 2))] (.l1 b) := by rw [List.take_length]; exact ib
      refine PureCall.intro (n := 75) (rs := [.tmp 2]) Tryz.call40 Tryz.func40 rfl rfl rfl (by simp only [List.length_cons, List.length_nil]; omega) (fun cx hcx => ats_of ?_); simp only [argSlots, Nat.zero_add, Nat.reduceAdd]
      (repeat refine ats_seq ?_); refine ats_go (fix0 hcx) fun K hK => ?_; simp only [go_sem, seval]; (repeat refine And.intro (by first | omega | (intro hq; first | omega | (simp at hq <;> omega) | (simp_all <;> omega))) ?_); refine hK _ ?_; clear hK K
      (repeat refine ats_seq ?_); refine ats_go (fix0 hcx) fun K hK => ?_; simp only [go_sem, seval]; (repeat refine And.intro (by first | omega | (intro hq; first | omega | (simp at hq <;> omega) | (simp_all <;> omega))) ?_); refine hK _ ?_; clear hK K
      (repeat refine ats_seq ?_); first | refine ats_ifn (p := _) rfl trivial (fun h1 => ?_) (fun h1 => ?_) | refine ats_ifp (p := _) rfl trivial (fun h1 => ?_) (fun h1 => ?_) | refine ats_cond rfl trivial (fun h1 => ?_) (fun h1 => ?_)
      · omega
      · refine ats_skip ?_
        (repeat refine ats_seq ?_); refine ats_go (fix0 hcx) fun K hK => ?_; simp only [go_sem, seval]; (try simp (disch := omega) only [tmP, tdP]); (repeat refine And.intro (by first | omega | (intro hq; first | omega | (simp at hq <;> omega) | (simp_all <;> omega))) ?_); refine hK _ ?_; clear hK K
        rw [show (xs.length : Int) / 2 = ((xs.length / 2 : Nat) : Int) by omega]
        (repeat refine ats_seq ?_)
        refine ats_plan [] (.one 0 (.one 1 (.one 2 (.one 3 (.one 4 (.one 5 (.one 6 (.one 7 (.one 9 (.one 10 (.alt 8 (.one 11 .fin) .stop))))))))))) ⟨[(0, .l1 xs), (4, .l1 a), (5, .l1 b), (6, .ref 0 [])], [(0, .t1 [])]⟩ (fix0 hcx) mixed (by kernel_rfl) (fun K hK => ?_) ?_
        · simp only [go_sem, seval, Option.getD_some, and_true, true_and, and_self, List.contains_cons, List.contains_nil, Bool.or_false, Bool.or_true]
          repeat' (first | exact hK _ (by refine And.intro ?_ rfl; simp only [SlotsLe, St.get, slotGet, Nat.reduceEqDiff, ↓reduceIte, AV.int.injEq, AV.bool.injEq, AV.l1.injEq, AV.l2.injEq, AV.l3.injEq, true_and, and_true])  | omega | refine And.intro ?_ ?_ | ((first | refine fcall_data (ia) rfl ?_ | refine YR_intro (acall_data (ia) rfl) ?_); simp only [go_sem, seval, Option.getD_some, and_true, true_and, and_self, List.contains_cons, List.contains_nil, Bool.or_false, Bool.or_true]) | ((first | refine fcall_data (ib2) rfl ?_ | refine YR_intro (acall_data (ib2) rfl) ?_); simp only [go_sem, seval, Option.getD_some, and_true, true_and, and_self, List.contains_cons, List.contains_nil, Bool.or_false, Bool.or_true]))
        (repeat refine ats_seq ?_); refine ats_go (fix0 hcx) fun K hK => ?_; simp only [go_sem, seval]; (repeat refine And.intro (by first | omega | (intro hq; first | omega | (simp at hq <;> omega) | (simp_all <;> omega))) ?_); refine hK _ ?_; clear hK K
        (repeat refine ats_seq ?_); refine ats_loop (fun p : Nat × Nat × List Int => ⟨[(4, .l1 a), (5, .l1 b), (6, .ref 0 []), (7, .int p.1), (8, .int p.2.1)], [(0, .t1 p.2.2)]⟩) (fun p => p.1 ≤ a.length ∧ p.2.1 ≤ b.length ∧ p.2.2.length = p.1 + p.2.1 ∧ p.2.2 ++ List.merge (a.drop p.1) (b.drop p.2.1) leI = List.merge a b leI) (fun p => a.length + b.length - p.1 - p.2.1) (0, 0, []) ⟨Nat.zero_le _, Nat.zero_le _, rfl, by simp⟩ (by
          refine And.intro ?_ rfl; simp only [SlotsLe, St.get, slotGet, Nat.reduceEqDiff, ↓reduceIte, AV.int.injEq, AV.bool.injEq, AV.l1.injEq, AV.l2.injEq, AV.l3.injEq, true_and, and_true]
          exact ⟨rfl, rfl⟩) (fun p hp => ?_)
        obtain ⟨i, k, out⟩ := p
        simp only at hp ⊢
        obtain ⟨hi, hk, hlo, hm⟩ := hp
        have ms := fun h => merge_step (a := a) (b := b) (i := i) (k := k) hi hk h
        (repeat refine ats_seq ?_); refine ats_go (fix0 hcx) fun K hK => ?_; simp only [go_sem, seval]; (repeat refine And.intro (by first | omega | (intro hq; first | omega | (simp at hq <;> omega) | (simp_all <;> omega))) ?_); refine hK _ ?_; clear hK K
        (repeat refine ats_seq ?_); first | refine ats_ifn (p := _) rfl trivial (fun h3 => ?_) (fun h3 => ?_) | refine ats_ifp (p := _) rfl trivial (fun h3 => ?_) (fun h3 => ?_) | refine ats_cond rfl trivial (fun h3 => ?_) (fun h3 => ?_)
        · have h3' : i < a.length ∨ k < b.length := by
            simp at h3
            omega
          have ms := ms h3'
          refine ats_skip ?_
          (repeat refine ats_seq ?_); refine ats_block ?_
          (repeat refine ats_seq ?_); refine ats_pick (fix0 hcx) mixed (by kernel_rfl) fun K hK => ?_; simp only [go_sem, seval]
          (repeat refine And.intro (by first | omega | (intro hq; first | omega | (simp at hq <;> omega) | (simp_all <;> omega))) ?_)
          refine hK _ ?_; clear hK K
          (repeat refine ats_seq ?_); first | refine ats_ifn (p := _) rfl trivial (fun h4 => ?_) (fun h4 => ?_) | refine ats_ifp (p := _) rfl trivial (fun h4 => ?_) (fun h4 => ?_) | refine ats_cond rfl trivial (fun h4 => ?_) (fun h4 => ?_)
          · have h4' : k = b.length ∨ (i < a.length ∧ a.getD i 0 ≤ b.getD k 0) := by
              simp only [Bool.or_eq_true, Bool.or_eq_false_iff, Bool.and_eq_true, Bool.and_eq_false_iff, decide_eq_true_eq, decide_eq_false_iff_not, Bool.not_eq_true', Bool.not_eq_false'] at h4
              omega
            rw [if_pos h4'] at ms
            have hia : i < a.length := by omega
            rw [ms] at hm
            (repeat refine ats_seq ?_); refine ats_go (fix0 hcx) fun K hK => ?_; simp only [go_sem, seval]; (repeat refine And.intro (by first | omega | (intro hq; first | omega | (simp at hq <;> omega) | (simp_all <;> omega))) ?_); refine hK _ ?_; clear hK K
            (repeat refine ats_seq ?_); refine ats_go (fix0 hcx) fun K hK => ?_; simp only [go_sem, seval]; (repeat refine And.intro (by first | omega | (intro hq; first | omega | (simp at hq <;> omega) | (simp_all <;> omega))) ?_); refine hK _ ?_; clear hK K
            refine ⟨(i + 1, k, out ++ [a.getD i 0]), ⟨by simp only; omega, hk, by simp only [List.length_append, List.length_cons, List.length_nil]; omega, by simp only [List.append_assoc, List.cons_append, List.nil_append]; exact hm⟩, (by simp only; omega), .inr ⟨[1], by simp only [killL, List.map_cons, List.map_nil, killA, killAs, qOf, rmT, killH, killT, List.filter_cons, List.filter_nil, List.contains_cons, List.contains_nil, SlotsLe, St.get, slotGet, Nat.reduceEqDiff, Nat.reduceBEq, Bool.or_false, Bool.or_true, Bool.false_and, Bool.not_true, Bool.not_false, Bool.false_eq_true, ↓reduceIte, if_true, if_false, AV.int.injEq, AV.bool.injEq, AV.l1.injEq, AV.l2.injEq, AV.l3.injEq, true_and, and_true]; (try omega), by simp only [killL, List.map_cons, List.map_nil, killA, killAs, qOf, rmT, killH, killT, List.filter_cons, List.filter_nil, List.contains_cons, List.contains_nil, SlotsLe, St.get, slotGet, Nat.reduceEqDiff, Nat.reduceBEq, Bool.or_false, Bool.or_true, Bool.false_and, Bool.not_true, Bool.not_false, Bool.false_eq_true, ↓reduceIte, if_true, if_false, AV.int.injEq, AV.bool.injEq, AV.l1.injEq, AV.l2.injEq, AV.l3.injEq, true_and, and_true]; (try rfl)⟩⟩
          · have h4' : ¬ (k = b.length ∨ (i < a.length ∧ a.getD i 0 ≤ b.getD k 0)) := by
              simp only [Bool.or_eq_true, Bool.or_eq_false_iff, Bool.and_eq_true, Bool.and_eq_false_iff, decide_eq_true_eq, decide_eq_false_iff_not, Bool.not_eq_true', Bool.not_eq_false'] at h4
              omega
            rw [if_neg h4'] at ms
            have hkb : k < b.length := by omega
            rw [ms] at hm
            (repeat refine ats_seq ?_); refine ats_go (fix0 hcx) fun K hK => ?_; simp only [go_sem, seval]; (repeat refine And.intro (by first | omega | (intro hq; first | omega | (simp at hq <;> omega) | (simp_all <;> omega))) ?_); refine hK _ ?_; clear hK K
            (repeat refine ats_seq ?_); refine ats_go (fix0 hcx) fun K hK => ?_; simp only [go_sem, seval]; (repeat refine And.intro (by first | omega | (intro hq; first | omega | (simp at hq <;> omega) | (simp_all <;> omega))) ?_); refine hK _ ?_; clear hK K
            refine ⟨(i, k + 1, out ++ [b.getD k 0]), ⟨hi, by simp only; omega, by simp only [List.length_append, List.length_cons, List.length_nil]; omega, by simp only [List.append_assoc, List.cons_append, List.nil_append]; exact hm⟩, (by simp only; omega), .inr ⟨[1], by simp only [killL, List.map_cons, List.map_nil, killA, killAs, qOf, rmT, killH, killT, List.filter_cons, List.filter_nil, List.contains_cons, List.contains_nil, SlotsLe, St.get, slotGet, Nat.reduceEqDiff, Nat.reduceBEq, Bool.or_false, Bool.or_true, Bool.false_and, Bool.not_true, Bool.not_false, Bool.false_eq_true, ↓reduceIte, if_true, if_false, AV.int.injEq, AV.bool.injEq, AV.l1.injEq, AV.l2.injEq, AV.l3.injEq, true_and, and_true]; (try omega), by simp only [killL, List.map_cons, List.map_nil, killA, killAs, qOf, rmT, killH, killT, List.filter_cons, List.filter_nil, List.contains_cons, List.contains_nil, SlotsLe, St.get, slotGet, Nat.reduceEqDiff, Nat.reduceBEq, Bool.or_false, Bool.or_true, Bool.false_and, Bool.not_true, Bool.not_false, Bool.false_eq_true, ↓reduceIte, if_true, if_false, AV.int.injEq, AV.bool.injEq, AV.l1.injEq, AV.l2.injEq, AV.l3.injEq, true_and, and_true]; (try rfl)⟩⟩
        · have h3' : i = a.length ∧ k = b.length := by
            simp at h3
            omega
          obtain ⟨rfl, rfl⟩ := h3'
          rw [List.drop_length, List.drop_length, List.nil_merge, List.append_nil] at hm
          rw [← hm]
          refine ats_exit (lq_x ?_)
          (repeat refine ats_seq ?_); refine ats_go (fix0 hcx) fun K hK => ?_; simp only [go_sem, seval]; (repeat refine And.intro (by first | omega | (intro hq; first | omega | (simp at hq <;> omega) | (simp_all <;> omega))) ?_); refine hK _ ?_; clear hK K
          exact ats_ret (finV rfl ⟨rfl, trivial⟩ rfl)
end Go.Proofs.YtakhnoenhmpfpaaGreat
