import Derived.Test.YtmjcbgpbhlheoaaDoorJz2
set_option linter.unusedSimpArgs false
set_option linter.unusedVariables false
namespace Go.Proofs.YtmjcbgpbhlheoaaDoor
open Go Go.Aw Go.Pl
end Go.Proofs.YtmjcbgpbhlheoaaDoor
namespace Go.Proofs.YtmjcbgpbhlheoaaDoor
open Go Go.Aw Go.Pl
structure CodeOk (c : List Int) : Prop where
 len : c.length ≤ 1048576
 byte : ∀ i, i < c.length → 0 ≤ c.getD i 0 ∧ c.getD i 0 ≤ 255
end Go.Proofs.YtmjcbgpbhlheoaaDoor
namespace Go.Proofs.YtmjcbgpbhlheoaaDoor
open Go Go.Aw Go.Pl
theorem big_ok (c : List Int) : PureCall Tryd.prog 4 [.lv (bsV c)] (.bool (decide (4096 < c.length))) := by
 have hl := bsV_len (c := c)
 refine PureCall.intro (n := 6) (rs := [.tmp 2]) Tryd.call4 Tryd.func4 rfl rfl rfl (by simp only [List.length_cons, List.length_nil]; omega) (fun cx hcx => ats_of ?_); simp only [argSlots, Nat.zero_add, Nat.reduceAdd]
 refine gB ?_
 refine gB ?_
 refine ats_ret (finB rfl ?_)
 rw [decide_eq_decide]
 omega
theorem likeInts_ok (xs ys : List Int) : PureCall Tryd.prog 38 [.l1 xs, .l1 ys] (.bool (decide (xs = ys))) := by
 refine PureCall.intro (n := 26) (rs := [.tmp 4]) Tryd.call38 Tryd.func38 rfl rfl rfl (by simp only [List.length_cons, List.length_nil]; omega) (fun cx hcx => ats_of ?_); simp only [argSlots, Nat.zero_add, Nat.reduceAdd]
 refine gB ?_
 refine ats_know 0 fun h0 => ?_; simp only [St.get, slotGet, Nat.reduceEqDiff, ↓reduceIte, if_true, fact, facts] at h0
 refine ats_know 1 fun h1 => ?_; simp only [St.get, slotGet, Nat.reduceEqDiff, ↓reduceIte, if_true, fact, facts] at h1
 have lx := h0.1
 have ly := h1.1
 refine gB ?_
 refine gI (fun hl => ?_) fun hl => ?_
 ·refine gB ?_
  refine ats_ret (finB rfl ?_)
  exact (decide_eq_false (fun h => hl (by rw [h]))).symm
 ·have el : xs.length = ys.length := by omega
  refine ats_skip ?_
  refine gB ?_
  (repeat refine ats_seq ?_); refine ats_loop (fun i : Nat => ⟨[(0, .l1 xs), (1, .l1 ys), (5, .int i)], []⟩) (fun i => i ≤ xs.length ∧ ∀ b, b < i → xs.getD b 0 = ys.getD b 0) (fun i => xs.length - i) 0 ⟨Nat.zero_le _, fun a h => absurd h (Nat.not_lt_zero a)⟩ (by refine And.intro ?_ rfl; simp only [leS, Nat.reduceEqDiff, ↓reduceIte, true_and, and_true]; rfl) (fun i hi => ?_); obtain ⟨hi, Hi⟩ := hi
  refine gB ?_
  refine gI (fun h2 => ?_) fun h2 => ?_
  ·refine ats_skip ?_
   (repeat refine ats_seq ?_); refine ats_block ?_
   (repeat refine ats_seq ?_); refine ats_pick (fix0 hcx) mixed (by kernel_rfl) fun K hK => ?_; simp only [go_sem, seval]; (repeat refine aI (hb := ?_)); refine hK _ ?_; clear hK K
   refine gI (fun h3 => ?_) fun h3 => ?_
   ·refine gB ?_
    refine ats_ret (finB rfl ?_)
    exact (decide_eq_false (fun h => h3 (by rw [h]))).symm
   ·refine ats_skip ?_
    refine gB ?_
    refine ⟨i + 1, ⟨by omega, fun a ha => by rcases Nat.lt_succ_iff_lt_or_eq.1 ha with h | rfl; exact Hi a h; exact (by omega)⟩, by omega, .inl ⟨?_, rfl⟩⟩; simp only [leS, Nat.reduceEqDiff, ↓reduceIte, true_and, and_true]; omega
  ·refine ats_exit (lq_x ?_)
   refine gB ?_
   refine ats_ret (finB rfl ?_)
   refine (decide_eq_true (List.ext_getElem el fun j j1 j2 => ?_)).symm
   have := Hi j (by omega)
   rw [List.getD_eq_getElem?_getD, List.getElem?_eq_getElem j1, List.getD_eq_getElem?_getD, List.getElem?_eq_getElem j2] at this
   simpa using this
theorem same9_ok (xs ys : List (List Int)) : PureCall Tryd.prog 24 [.l2 xs, .l2 ys] (.bool (decide (xs = ys))) := by
 refine PureCall.intro (n := 27) (rs := [.tmp 4]) Tryd.call24 Tryd.func24 rfl rfl rfl (by simp only [List.length_cons, List.length_nil]; omega) (fun cx hcx => ats_of ?_); simp only [argSlots, Nat.zero_add, Nat.reduceAdd]
 refine gB ?_
 refine ats_know 0 fun h0 => ?_; simp only [St.get, slotGet, Nat.reduceEqDiff, ↓reduceIte, if_true, fact, facts] at h0
 refine ats_know 1 fun h1 => ?_; simp only [St.get, slotGet, Nat.reduceEqDiff, ↓reduceIte, if_true, fact, facts] at h1
 have lx := h0.1
 have ly := h1.1
 refine gB ?_
 refine gI (fun hl => ?_) fun hl => ?_
 ·refine gB ?_
  refine ats_ret (finB rfl ?_)
  exact (decide_eq_false (fun h => hl (by rw [h]))).symm
 ·have el : xs.length = ys.length := by omega
  refine ats_skip ?_
  refine gB ?_
  (repeat refine ats_seq ?_); refine ats_loop (fun i : Nat => ⟨[(0, .l2 xs), (1, .l2 ys), (5, .int i)], []⟩) (fun i => i ≤ xs.length ∧ ∀ b, b < i → xs.getD b [] = ys.getD b []) (fun i => xs.length - i) 0 ⟨Nat.zero_le _, fun a h => absurd h (Nat.not_lt_zero a)⟩ (by refine And.intro ?_ rfl; simp only [leS, Nat.reduceEqDiff, ↓reduceIte, true_and, and_true]; rfl) (fun i hi => ?_); obtain ⟨hi, Hi⟩ := hi
  refine gB ?_
  refine gI (fun h2 => ?_) fun h2 => ?_
  ·have hk := likeInts_ok (xs.getD i []) (ys.getD i [])
   refine ats_skip ?_
   (repeat refine ats_seq ?_); refine ats_block ?_
   by_cases e : xs.getD i [] = ys.getD i []
   ·rw [decide_eq_true e] at hk
    (repeat refine ats_seq ?_); refine ats_pick (fix0 hcx) mixed (by kernel_rfl) fun K hK => ?_; simp only [go_sem, seval]
    (repeat refine aI (hb := ?_))
    first | refine fcall_free rfl rfl (hk) ?_ | refine YR_intro (acall_free rfl rfl (hk)) ?_
    simp only [go_sem, seval]
    refine hK _ ?_; clear hK K
    (repeat refine ats_seq ?_); refine ats_no rfl trivial ?_
    refine ats_skip ?_
    refine gB ?_
    refine ⟨i + 1, ⟨by omega, fun a ha => by rcases Nat.lt_succ_iff_lt_or_eq.1 ha with h | rfl; exact Hi a h; exact e⟩, by omega, .inl ⟨?_, rfl⟩⟩; simp only [leS, Nat.reduceEqDiff, ↓reduceIte, true_and, and_true]; omega
   ·rw [decide_eq_false e] at hk
    (repeat refine ats_seq ?_); refine ats_pick (fix0 hcx) mixed (by kernel_rfl) fun K hK => ?_; simp only [go_sem, seval]
    (repeat refine aI (hb := ?_))
    first | refine fcall_free rfl rfl (hk) ?_ | refine YR_intro (acall_free rfl rfl (hk)) ?_
    simp only [go_sem, seval]
    refine hK _ ?_; clear hK K
    (repeat refine ats_seq ?_); refine ats_yes rfl trivial ?_
    refine gB ?_
    refine ats_ret (finB rfl ?_)
    exact (decide_eq_false (fun h => e (by rw [h]))).symm
  ·refine ats_exit (lq_x ?_)
   refine gB ?_
   refine ats_ret (finB rfl ?_)
   refine (decide_eq_true (List.ext_getElem el fun j j1 j2 => ?_)).symm
   have := Hi j (by omega)
   rw [List.getD_eq_getElem?_getD, List.getElem?_eq_getElem j1, List.getD_eq_getElem?_getD, List.getElem?_eq_getElem j2] at this
   simpa using this
theorem ring9_ok (xs ys : Cu) : PureCall Tryd.prog 8 [.agg [.l3 xs], .agg [.l3 ys]] (.bool (decide (xs = ys))) := by
 refine PureCall.intro (n := 32) (rs := [.tmp 4]) Tryd.call8 Tryd.func8 rfl rfl rfl (by simp only [List.length_cons, List.length_nil]; omega) (fun cx hcx => ats_of ?_); simp only [argSlots, Nat.zero_add, Nat.reduceAdd]
 refine gB ?_
 refine ats_knowT 0 fun h0 => ?_; simp only [find, Nat.reduceEqDiff, ↓reduceIte, if_true, factT, fact, facts] at h0
 refine ats_knowT 1 fun h1 => ?_; simp only [find, Nat.reduceEqDiff, ↓reduceIte, if_true, factT, fact, facts] at h1
 have lx := h0.1.1
 have ly := h1.1.1
 refine gB ?_
 refine gI (fun hl => ?_) fun hl => ?_
 ·refine gB ?_
  refine ats_ret (finB rfl ?_)
  exact (decide_eq_false (fun h => hl (by rw [h]))).symm
 ·have el : xs.length = ys.length := by omega
  refine ats_skip ?_
  refine gB ?_
  (repeat refine ats_seq ?_); refine ats_loop (fun i : Nat => ⟨[(2, .bptr 0 0), (3, .bptr 1 0), (5, .int i)], [(0, .bx [.l3 xs]), (1, .bx [.l3 ys])]⟩) (fun i => i ≤ xs.length ∧ ∀ b, b < i → xs.getD b [] = ys.getD b []) (fun i => xs.length - i) 0 ⟨Nat.zero_le _, fun a h => absurd h (Nat.not_lt_zero a)⟩ (by refine And.intro ?_ rfl; simp only [leS, Nat.reduceEqDiff, ↓reduceIte, true_and, and_true]; rfl) (fun i hi => ?_); obtain ⟨hi, Hi⟩ := hi
  refine gB ?_
  refine gI (fun h2 => ?_) fun h2 => ?_
  ·have hk := same9_ok (xs.getD i []) (ys.getD i [])
   refine ats_skip ?_
   (repeat refine ats_seq ?_); refine ats_block ?_
   by_cases e : xs.getD i [] = ys.getD i []
   ·rw [decide_eq_true e] at hk
    (repeat refine ats_seq ?_); refine ats_pick (fix0 hcx) mixed (by kernel_rfl) fun K hK => ?_; simp only [go_sem, seval]
    (repeat refine aI (hb := ?_))
    first | refine fcall_free rfl rfl (hk) ?_ | refine YR_intro (acall_free rfl rfl (hk)) ?_
    simp only [go_sem, seval]
    refine hK _ ?_; clear hK K
    (repeat refine ats_seq ?_); refine ats_no rfl trivial ?_
    refine ats_skip ?_
    refine gB ?_
    refine ⟨i + 1, ⟨by omega, fun a ha => by rcases Nat.lt_succ_iff_lt_or_eq.1 ha with h | rfl; exact Hi a h; exact e⟩, by omega, .inl ⟨?_, rfl⟩⟩; simp only [leS, Nat.reduceEqDiff, ↓reduceIte, true_and, and_true]; omega
   ·rw [decide_eq_false e] at hk
    (repeat refine ats_seq ?_); refine ats_pick (fix0 hcx) mixed (by kernel_rfl) fun K hK => ?_; simp only [go_sem, seval]
    (repeat refine aI (hb := ?_))
    first | refine fcall_free rfl rfl (hk) ?_ | refine YR_intro (acall_free rfl rfl (hk)) ?_
    simp only [go_sem, seval]
    refine hK _ ?_; clear hK K
    (repeat refine ats_seq ?_); refine ats_yes rfl trivial ?_
    refine gB ?_
    refine ats_ret (finB rfl ?_)
    exact (decide_eq_false (fun h => e (by rw [h]))).symm
  ·refine ats_exit (lq_x ?_)
   refine gB ?_
   refine ats_ret (finB rfl ?_)
   refine (decide_eq_true (List.ext_getElem el fun j j1 j2 => ?_)).symm
   have := Hi j (by omega)
   rw [List.getD_eq_getElem?_getD, List.getElem?_eq_getElem j1, List.getD_eq_getElem?_getD, List.getElem?_eq_getElem j2] at this
   simpa using this
end Go.Proofs.YtmjcbgpbhlheoaaDoor
namespace Go.Proofs.YtmjcbgpbhlheoaaDoor
open Go Go.Aw Go.Pl
end Go.Proofs.YtmjcbgpbhlheoaaDoor
