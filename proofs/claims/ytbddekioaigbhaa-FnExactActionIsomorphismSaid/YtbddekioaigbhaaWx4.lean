/-
  Joined out of: Wg Wh Wi Wj Wk.
-/
import Derived.Test.YtbddekioaigbhaaWx2
import Derived.Test.YtbddekioaigbhaaPl1
import Derived.Test.YtbddekioaigbhaaWx3
set_option linter.unusedSimpArgs false
set_option linter.unusedVariables false
namespace Go.Proofs.Ytbddekioaigbhaa
open Go Go.Aw Go.Pl

theorem sliceEqual_ok (xs ys : List Int) : PureCall Try.prog 82 [.l1 xs, .l1 ys] (.bool (decide (xs = ys))) := by
  refine PureCall.intro (n := 26) (rs := [.tmp 4]) Try.call82 Try.func82 rfl rfl rfl (by simp only [List.length_cons, List.length_nil]; omega) (fun cx hcx => ats_of ?_); simp only [argSlots, Nat.zero_add, Nat.reduceAdd]
  (repeat refine ats_seq ?_); refine ats_go (fix0 hcx) fun K hK => ?_; simp only [go_sem, seval]; refine hK _ ?_; clear hK K
  refine ats_know 0 fun h0 => ?_; simp only [St.get, slotGet, Nat.reduceEqDiff, ↓reduceIte, if_true, fact, facts] at h0
  have hlen := h0.1
  (repeat refine ats_seq ?_); refine ats_go (fix0 hcx) fun K hK => ?_; simp only [go_sem, seval]; refine hK _ ?_; clear hK K
  (repeat refine ats_seq ?_); first | refine ats_ifn (p := _) rfl trivial (fun hc => ?_) (fun hc => ?_) | refine ats_ifp (p := _) rfl trivial (fun hc => ?_) (fun hc => ?_) | refine ats_cond rfl trivial (fun hc => ?_) (fun hc => ?_)
  · (repeat refine ats_seq ?_); refine ats_go (fix0 hcx) fun K hK => ?_; simp only [go_sem, seval]; refine hK _ ?_; clear hK K
    refine ats_ret (finB rfl ?_)
    simp only [Bool.false_eq, decide_eq_false_iff_not]
    exact fun e => hc (by rw [e])
  · refine ats_skip ?_
    (repeat refine ats_seq ?_); refine ats_go (fix0 hcx) fun K hK => ?_; simp only [go_sem, seval]; refine hK _ ?_; clear hK K
    (repeat refine ats_seq ?_); refine ats_loop (fun k : Nat => ⟨[(0, .l1 xs), (1, .l1 ys), (12, .int xs.length), (13, .int k)], []⟩) (fun k => k ≤ xs.length ∧ xs.take k = ys.take k) (fun k => xs.length - k) 0 ⟨Nat.zero_le _, rfl⟩ (by
      refine And.intro ?_ rfl; simp only [SlotsLe, St.get, slotGet, Nat.reduceEqDiff, ↓reduceIte, AV.int.injEq, AV.bool.injEq, AV.l1.injEq, AV.l2.injEq, AV.l3.injEq, true_and, and_true]
      rfl) (fun k hk => ?_)
    (repeat refine ats_seq ?_); refine ats_go (fix0 hcx) fun K hK => ?_; simp only [go_sem, seval]; refine hK _ ?_; clear hK K
    (repeat refine ats_seq ?_); first | refine ats_ifn (p := _) rfl trivial (fun h1 => ?_) (fun h1 => ?_) | refine ats_ifp (p := _) rfl trivial (fun h1 => ?_) (fun h1 => ?_) | refine ats_cond rfl trivial (fun h1 => ?_) (fun h1 => ?_)
    · refine ats_skip ?_
      (repeat refine ats_seq ?_); refine ats_block ?_
      (repeat refine ats_seq ?_); refine ats_go (fix0 hcx) fun K hK => ?_; simp only [go_sem, seval]; refine hK _ ?_; clear hK K
      (repeat refine ats_seq ?_); refine ats_pick (fix0 hcx) mixed (by kernel_rfl) fun K hK => ?_; simp only [go_sem, seval]; (repeat refine And.intro (by first | omega | (intro hq; first | omega | (simp at hq <;> omega) | (simp_all <;> omega))) ?_); refine hK _ ?_; clear hK K
      (repeat refine ats_seq ?_); first | refine ats_ifn (p := _) rfl trivial (fun h2 => ?_) (fun h2 => ?_) | refine ats_ifp (p := _) rfl trivial (fun h2 => ?_) (fun h2 => ?_) | refine ats_cond rfl trivial (fun h2 => ?_) (fun h2 => ?_)
      · (repeat refine ats_seq ?_); refine ats_go (fix0 hcx) fun K hK => ?_; simp only [go_sem, seval]; refine hK _ ?_; clear hK K
        refine ats_ret (finB rfl ?_)
        simp only [Bool.false_eq, decide_eq_false_iff_not]
        exact ne_of_getD h2
      · refine ats_skip ?_
        (repeat refine ats_seq ?_); refine ats_go (fix0 hcx) fun K hK => ?_; simp only [go_sem, seval]; (repeat refine And.intro (by first | omega | (intro hq; first | omega | (simp at hq <;> omega) | (simp_all <;> omega))) ?_); refine hK _ ?_; clear hK K
        refine ⟨k + 1,  ⟨by omega, take_succ_eq (by omega) (by omega) hk.2 h2⟩, by omega, .inl ⟨?_, rfl⟩⟩; simp only [SlotsLe, St.get, slotGet, Nat.reduceEqDiff, ↓reduceIte, AV.int.injEq, AV.bool.injEq, AV.l1.injEq, AV.l2.injEq, AV.l3.injEq, true_and, and_true]
        omega
    · refine ats_exit (lq_x ?_)
      (repeat refine ats_seq ?_); refine ats_go (fix0 hcx) fun K hK => ?_; simp only [go_sem, seval]; refine hK _ ?_; clear hK K
      refine ats_ret (finB rfl ?_)
      have h := hk.2
      rw [List.take_of_length_le (by omega), List.take_of_length_le (by omega)] at h
      simp only [h, decide_true]

theorem equalFunc_ok (xs ys : List (List Int)) : PureCall Try.prog 81 [.l2 xs, .l2 ys, .fn 82 []] (.bool (decide (xs = ys))) := by
  refine PureCall.intro (n := 32) (rs := [.tmp 6]) Try.call81 Try.func81 rfl rfl rfl (by simp only [List.length_cons, List.length_nil]; omega) (fun cx hcx => ats_of ?_); simp only [argSlots, Nat.zero_add, Nat.reduceAdd]
  (repeat refine ats_seq ?_); refine ats_go (fix0 hcx) fun K hK => ?_; simp only [go_sem, seval]; refine hK _ ?_; clear hK K
  refine ats_know 0 fun h0 => ?_; simp only [St.get, slotGet, Nat.reduceEqDiff, ↓reduceIte, if_true, fact, facts] at h0
  have hlen := h0.1
  (repeat refine ats_seq ?_); refine ats_go (fix0 hcx) fun K hK => ?_; simp only [go_sem, seval]; refine hK _ ?_; clear hK K
  (repeat refine ats_seq ?_); first | refine ats_ifn (p := _) rfl trivial (fun hc => ?_) (fun hc => ?_) | refine ats_ifp (p := _) rfl trivial (fun hc => ?_) (fun hc => ?_) | refine ats_cond rfl trivial (fun hc => ?_) (fun hc => ?_)
  · (repeat refine ats_seq ?_); refine ats_go (fix0 hcx) fun K hK => ?_; simp only [go_sem, seval]; refine hK _ ?_; clear hK K
    refine ats_ret (finB rfl ?_)
    simp only [Bool.false_eq, decide_eq_false_iff_not]
    exact fun e => hc (by rw [e])
  · refine ats_skip ?_
    (repeat refine ats_seq ?_); refine ats_go (fix0 hcx) fun K hK => ?_; simp only [go_sem, seval]; refine hK _ ?_; clear hK K
    (repeat refine ats_seq ?_); refine ats_loop (fun k : Nat => ⟨[(0, .l2 xs), (1, .l2 ys), (2, .fn 82 []), (15, .l2 xs), (16, .int xs.length), (17, .int k)], []⟩) (fun k => k ≤ xs.length ∧ xs.take k = ys.take k) (fun k => xs.length - k) 0 ⟨Nat.zero_le _, rfl⟩ (by
      refine And.intro ?_ rfl; simp only [SlotsLe, St.get, slotGet, Nat.reduceEqDiff, ↓reduceIte, AV.int.injEq, AV.bool.injEq, AV.l1.injEq, AV.l2.injEq, AV.l3.injEq, true_and, and_true]
      rfl) (fun k hk => ?_)
    (repeat refine ats_seq ?_); refine ats_go (fix0 hcx) fun K hK => ?_; simp only [go_sem, seval]; refine hK _ ?_; clear hK K
    (repeat refine ats_seq ?_); first | refine ats_ifn (p := _) rfl trivial (fun h1 => ?_) (fun h1 => ?_) | refine ats_ifp (p := _) rfl trivial (fun h1 => ?_) (fun h1 => ?_) | refine ats_cond rfl trivial (fun h1 => ?_) (fun h1 => ?_)
    · refine ats_skip ?_
      (repeat refine ats_seq ?_); refine ats_block ?_
      (repeat refine ats_seq ?_); refine ats_go (fix0 hcx) fun K hK => ?_; simp only [go_sem, seval]; (repeat refine And.intro (by first | omega | (intro hq; first | omega | (simp at hq <;> omega) | (simp_all <;> omega))) ?_); refine hK _ ?_; clear hK K
      (repeat refine ats_seq ?_); refine ats_go (fix0 hcx) fun K hK => ?_; simp only [go_sem, seval]; (repeat refine And.intro (by first | omega | (intro hq; first | omega | (simp at hq <;> omega) | (simp_all <;> omega))) ?_); refine hK _ ?_; clear hK K
      (repeat refine ats_seq ?_); refine ats_go (fix0 hcx) fun K hK => ?_; simp only [go_sem, seval]
      first | refine fcall_data (sliceEqual_ok _ _) rfl ?_ | refine YR_intro (acall_data (sliceEqual_ok _ _) rfl) ?_
      simp only [go_sem, seval]
      refine hK _ ?_; clear hK K
      (repeat refine ats_seq ?_); first | refine ats_ifn (p := _) rfl trivial (fun h2 => ?_) (fun h2 => ?_) | refine ats_ifp (p := _) rfl trivial (fun h2 => ?_) (fun h2 => ?_) | refine ats_cond rfl trivial (fun h2 => ?_) (fun h2 => ?_)
      · (repeat refine ats_seq ?_); refine ats_go (fix0 hcx) fun K hK => ?_; simp only [go_sem, seval]; refine hK _ ?_; clear hK K
        refine ats_ret (finB rfl ?_)
        simp only [Bool.false_eq, decide_eq_false_iff_not]
        exact ne_of_getD h2
      · refine ats_skip ?_
        (repeat refine ats_seq ?_); refine ats_go (fix0 hcx) fun K hK => ?_; simp only [go_sem, seval]; (repeat refine And.intro (by first | omega | (intro hq; first | omega | (simp at hq <;> omega) | (simp_all <;> omega))) ?_); refine hK _ ?_; clear hK K
        refine ⟨k + 1,  ⟨by omega, take_succ_eq (by omega) (by omega) hk.2 h2⟩, by omega, .inl ⟨?_, rfl⟩⟩; simp only [SlotsLe, St.get, slotGet, Nat.reduceEqDiff, ↓reduceIte, AV.int.injEq, AV.bool.injEq, AV.l1.injEq, AV.l2.injEq, AV.l3.injEq, true_and, and_true]
        omega
    · refine ats_exit (lq_x ?_)
      (repeat refine ats_seq ?_); refine ats_go (fix0 hcx) fun K hK => ?_; simp only [go_sem, seval]; refine hK _ ?_; clear hK K
      refine ats_ret (finB rfl ?_)
      have h := hk.2
      rw [List.take_of_length_le (by omega), List.take_of_length_le (by omega)] at h
      simp only [h, decide_true]

theorem equalRows_ok (xs ys : List (List Int)) : PureCall Try.prog 60 [.l2 xs, .l2 ys] (.bool (decide (xs = ys))) := by
  refine PureCall.intro (n := 8) (rs := [.tmp 4]) Try.call60 Try.func60 rfl rfl rfl (by simp only [List.length_cons, List.length_nil]; omega) (fun cx hcx => ats_of ?_); simp only [argSlots, Nat.zero_add, Nat.reduceAdd]
  (repeat refine ats_seq ?_); refine ats_go (fix0 hcx) fun K hK => ?_; simp only [go_sem, seval]; refine hK _ ?_; clear hK K
  (repeat refine ats_seq ?_); refine ats_go (fix0 hcx) fun K hK => ?_; simp only [go_sem, seval]
  first | refine fcall_data (equalFunc_ok xs ys) rfl ?_ | refine YR_intro (acall_data (equalFunc_ok xs ys) rfl) ?_
  simp only [go_sem, seval]
  refine hK _ ?_; clear hK K
  refine ats_ret (finB rfl ?_)
  rfl

theorem zeros_ok (r c : Nat) (hr : r ≤ 1048576) (hc : c ≤ 1048576) : FreshCall Try.prog 62 [.int r, .int c] (.l2 (List.replicate r (List.replicate c 0))) := by
  refine FreshCall.intro (n := 17) (rs := [.tmp 4]) Try.call62 Try.func62 rfl rfl rfl (by simp only [List.length_cons, List.length_nil]; omega) (fun cx hcx => ats_of ?_); simp only [argSlots, Nat.zero_add, Nat.reduceAdd]
  (repeat refine ats_seq ?_); refine ats_go (fix0 hcx) fun K hK => ?_; simp only [go_sem, seval]; refine hK _ ?_; clear hK K
  (repeat refine ats_seq ?_); refine ats_go (fix0 hcx) fun K hK => ?_; simp only [go_sem, seval]; refine hK _ ?_; clear hK K
  (repeat refine ats_seq ?_); refine ats_go (fix0 hcx) fun K hK => ?_; simp only [go_sem, seval]; refine hK _ ?_; clear hK K
  (repeat refine ats_seq ?_); refine ats_loop (fun i : Nat => ⟨[(1, .int c), (5, .ref 0 []), (7, .int r), (8, .int i)], [(0, .t2 (List.replicate i (List.replicate c 0)))]⟩) (fun i => i ≤ r) (fun i => r - i) 0 (Nat.zero_le _) (by
    refine And.intro ?_ rfl
    simp only [SlotsLe, St.get, slotGet, Nat.reduceEqDiff, ↓reduceIte, true_and, and_true, AV.int.injEq]
    rfl) (fun i hi => ?_)
  have hl : (List.replicate i (List.replicate c (0 : Int))).length = i := List.length_replicate
  (repeat refine ats_seq ?_); refine ats_go (fix0 hcx) fun K hK => ?_; simp only [go_sem, seval]; refine hK _ ?_; clear hK K
  (repeat refine ats_seq ?_); first | refine ats_ifn (p := _) rfl trivial (fun hli => ?_) (fun hli => ?_) | refine ats_ifp (p := _) rfl trivial (fun hli => ?_) (fun hli => ?_) | refine ats_cond rfl trivial (fun hli => ?_) (fun hli => ?_)
  · refine ats_skip ?_
    (repeat refine ats_seq ?_); refine ats_block ?_
    (repeat refine ats_seq ?_); refine ats_go (fix0 hcx) fun K hK => ?_; simp only [go_sem, seval]
    simp only [hl]
    (repeat refine And.intro (by first | omega | (intro hq; first | omega | (simp at hq <;> omega) | (simp_all <;> omega))) ?_)
    refine hK _ ?_; clear hK K
    (repeat refine ats_seq ?_); refine ats_go (fix0 hcx) fun K hK => ?_; simp only [go_sem, seval]; (repeat refine And.intro (by first | omega | (intro hq; first | omega | (simp at hq <;> omega) | (simp_all <;> omega))) ?_); refine hK _ ?_; clear hK K
    refine ⟨i + 1,  by omega, by omega, .inl ⟨by simp only [SlotsLe, St.get, slotGet, Nat.reduceEqDiff, ↓reduceIte, AV.int.injEq, AV.bool.injEq, AV.l1.injEq, AV.l2.injEq, AV.l3.injEq, true_and, and_true]; omega,  by simp only [List.replicate_succ']⟩⟩
  · obtain rfl : i = r := by omega
    refine ats_exit (lq_x ?_)
    (repeat refine ats_seq ?_); refine ats_go (fix0 hcx) fun K hK => ?_; simp only [go_sem, seval]; refine hK _ ?_; clear hK K
    exact ats_ret (ownV (is := [0]) rfl ⟨rfl, trivial⟩ rfl (by simp))
end Go.Proofs.Ytbddekioaigbhaa

namespace Go.Proofs.Ytbddekioaigbhaa
open Go Go.Aw Go.Pl

theorem unitMatrix_ok (n : Nat) (hn : n ≤ 1048576) : FreshCall Try.prog 61 [.int n, .int 1] (.l2 (unitM n)) := by
  have hz := zeros_ok n n hn hn
  rw [zeros_matF] at hz
  rw [unitM_matF]
  refine FreshCall.intro (n := 23) (rs := [.tmp 4]) Try.call61 Try.func61 rfl rfl rfl (by simp only [List.length_cons, List.length_nil]; omega) (fun cx hcx => ats_of ?_); simp only [argSlots, Nat.zero_add, Nat.reduceAdd]
  (repeat refine ats_seq ?_); refine ats_go (fix0 hcx) fun K hK => ?_; simp only [go_sem, seval]; refine hK _ ?_; clear hK K
  (repeat refine ats_seq ?_); refine ats_go (fix0 hcx) fun K hK => ?_; simp only [go_sem, seval]
  refine fcall_own rfl (hz) rfl ?_; simp only [go_sem, seval]
  refine hK _ ?_; clear hK K
  (repeat refine ats_seq ?_); refine ats_go (fix0 hcx) fun K hK => ?_; simp only [go_sem, seval]; refine hK _ ?_; clear hK K
  (repeat refine ats_seq ?_); refine ats_loop (fun i : Nat => ⟨[(1, .int 1), (5, .ref 0 []), (10, .int n), (11, .int i)], [(0, .t2 (matF n n (fun x y => if x = y ∧ x < i then 1 else 0)))]⟩) (fun i => i ≤ n) (fun i => n - i) 0 (Nat.zero_le _) (by
    refine And.intro ?_ (by simp)
    simp only [SlotsLe, St.get, slotGet, Nat.reduceEqDiff, ↓reduceIte, true_and, and_true, AV.int.injEq]
    rfl) (fun i hi => ?_)
  (repeat refine ats_seq ?_); refine ats_go (fix0 hcx) fun K hK => ?_; simp only [go_sem, seval]; refine hK _ ?_; clear hK K
  (repeat refine ats_seq ?_); first | refine ats_ifn (p := _) rfl trivial (fun hli => ?_) (fun hli => ?_) | refine ats_ifp (p := _) rfl trivial (fun hli => ?_) (fun hli => ?_) | refine ats_cond rfl trivial (fun hli => ?_) (fun hli => ?_)
  · have hg := matF_get (r := n) (c := n) (f := fun x y => if x = y ∧ x < i then (1 : Int) else 0) (show i < n by omega)
    have hstep : (matF n n (fun x y => if x = y ∧ x < i then (1 : Int) else 0)).set i ((rowF n (fun y => if i = y ∧ i < i then (1 : Int) else 0)).set i 1) = matF n n (fun x y => if x = y ∧ x < i + 1 then 1 else 0) := by
      rw [← hg, matF_set (show i < n by omega)]
      exact matF_congr fun x hx y hy => by
        by_cases h1 : x = i
        · subst h1
          by_cases h2 : y = x
          · subst h2; simp
          · rw [if_neg (fun e => h2 e.2), if_neg (fun e => h2 e.1.symm), if_neg (fun e => h2 e.1.symm)]
        · rw [if_neg (fun e => h1 e.1)]
          by_cases h3 : x = y ∧ x < i
          · rw [if_pos h3, if_pos ⟨h3.1, by omega⟩]
          · rw [if_neg h3, if_neg (fun e => h3 ⟨e.1, by omega⟩)]
    refine ats_skip ?_
    (repeat refine ats_seq ?_); refine ats_block ?_
    (repeat refine ats_seq ?_); refine ats_go (fix0 hcx) fun K hK => ?_; simp only [go_sem, seval]; refine hK _ ?_; clear hK K
    (repeat refine ats_seq ?_); refine ats_go (fix0 hcx) fun K hK => ?_; simp only [go_sem, seval]
    simp only [matF_length, hg, rowF_length]
    (repeat refine And.intro (by first | omega | (intro hq; first | omega | (simp at hq <;> omega) | (simp_all <;> omega))) ?_)
    refine hK _ ?_; clear hK K
    (repeat refine ats_seq ?_); refine ats_go (fix0 hcx) fun K hK => ?_; simp only [go_sem, seval]; (repeat refine And.intro (by first | omega | (intro hq; first | omega | (simp at hq <;> omega) | (simp_all <;> omega))) ?_); refine hK _ ?_; clear hK K
    refine ⟨i + 1,  by omega, by omega, .inl ⟨by simp only [SlotsLe, St.get, slotGet, Nat.reduceEqDiff, ↓reduceIte, AV.int.injEq, AV.bool.injEq, AV.l1.injEq, AV.l2.injEq, AV.l3.injEq, true_and, and_true]; omega,  by rw [hstep]⟩⟩
  · obtain rfl : i = n := by omega
    refine ats_exit (lq_x ?_)
    (repeat refine ats_seq ?_); refine ats_go (fix0 hcx) fun K hK => ?_; simp only [go_sem, seval]; refine hK _ ?_; clear hK K
    have e : matF i i (fun x y => if x = y ∧ x < i then (1 : Int) else 0) = matF i i (fun x y => if x = y then 1 else 0) := matF_congr fun x hx y hy => by
      by_cases h : x = y
      · rw [if_pos ⟨h, hx⟩, if_pos h]
      · rw [if_neg (fun e => h e.1), if_neg h]
    rw [e]
    exact ats_ret (ownV (is := [0]) rfl ⟨rfl, trivial⟩ rfl (by simp))

def trF (a : List (List Int)) (i k : Nat) (p q : Nat) : Int := if q < i ∨ (q = i ∧ p < k) then e2 a q p else 0

theorem transpose_ok (a : List (List Int)) (h0 : 0 < a.length) (h1 : a.length ≤ 16) (hm : (a.getD 0 []).length ≤ 16) (hr : ∀ i, i < a.length → (a.getD i []).length = (a.getD 0 []).length) : FreshCall Try.prog 65 [.l2 a] (.l2 (turnM a)) := by
  have hz := zeros_ok (a.getD 0 []).length a.length (by omega) (by omega)
  rw [zeros_matF] at hz
  refine FreshCall.intro (n := 39) (rs := [.tmp 2]) Try.call65 Try.func65 rfl rfl rfl (by simp only [List.length_cons, List.length_nil]; omega) (fun cx hcx => ats_of ?_); simp only [argSlots, Nat.zero_add, Nat.reduceAdd]
  (repeat refine ats_seq ?_); refine ats_go (fix0 hcx) fun K hK => ?_; simp only [go_sem, seval]; refine hK _ ?_; clear hK K
  (repeat refine ats_seq ?_); refine ats_go (fix0 hcx) fun K hK => ?_; simp only [go_sem, seval]
  (repeat refine And.intro (by first | omega | (intro hq; first | omega | (simp at hq <;> omega) | (simp_all <;> omega))) ?_)
  refine fcall_own rfl (hz) rfl ?_; simp only [go_sem, seval]
  refine hK _ ?_; clear hK K
  (repeat refine ats_seq ?_); refine ats_go (fix0 hcx) fun K hK => ?_; simp only [go_sem, seval]; refine hK _ ?_; clear hK K
  (repeat refine ats_seq ?_); refine ats_loop (fun i : Nat => ⟨[(3, .ref 0 []), (15, .l2 a), (16, .int a.length), (17, .int i)], [(0, .t2 (matF (a.getD 0 []).length a.length (trF a i 0)))]⟩) (fun i => i ≤ a.length) (fun i => a.length - i) 0 (Nat.zero_le _) (by
    refine And.intro ?_ (by
      simp only [List.cons_append, List.nil_append]
      rw [show matF (a.getD 0 []).length a.length (trF a 0 0) = matF (a.getD 0 []).length a.length (fun _ _ => 0) from matF_congr fun x _ y _ => if_neg (by omega)])
    simp only [SlotsLe, St.get, slotGet, Nat.reduceEqDiff, ↓reduceIte, true_and, and_true, AV.int.injEq]
    rfl) (fun i hi => ?_)
  (repeat refine ats_seq ?_); refine ats_go (fix0 hcx) fun K hK => ?_; simp only [go_sem, seval]; refine hK _ ?_; clear hK K
  (repeat refine ats_seq ?_); first | refine ats_ifn (p := _) rfl trivial (fun hli => ?_) (fun hli => ?_) | refine ats_ifp (p := _) rfl trivial (fun hli => ?_) (fun hli => ?_) | refine ats_cond rfl trivial (fun hli => ?_) (fun hli => ?_)
  · have hri := hr i (by omega)
    refine ats_skip ?_
    (repeat refine ats_seq ?_); refine ats_block ?_
    (repeat refine ats_seq ?_); refine ats_go (fix0 hcx) fun K hK => ?_; simp only [go_sem, seval]; (repeat refine And.intro (by first | omega | (intro hq; first | omega | (simp at hq <;> omega) | (simp_all <;> omega))) ?_); refine hK _ ?_; clear hK K
    (repeat refine ats_seq ?_); refine ats_go (fix0 hcx) fun K hK => ?_; simp only [go_sem, seval]; refine hK _ ?_; clear hK K
    (repeat refine ats_seq ?_); refine ats_loop (fun k : Nat => ⟨[(3, .ref 0 []), (15, .l2 a), (16, .int a.length), (17, .int i), (4, .int i), (22, .l1 (a.getD i [])), (23, .int (a.getD i []).length), (24, .int k)], [(0, .t2 (matF (a.getD 0 []).length a.length (trF a i k)))]⟩) (fun k => k ≤ (a.getD i []).length) (fun k => (a.getD i []).length - k) 0 (Nat.zero_le _) (by
      refine And.intro ?_ rfl
      simp only [SlotsLe, St.get, slotGet, Nat.reduceEqDiff, ↓reduceIte, true_and, and_true, AV.int.injEq]
      rfl) (fun k hk => ?_)
    (repeat refine ats_seq ?_); refine ats_go (fix0 hcx) fun K hK => ?_; simp only [go_sem, seval]; refine hK _ ?_; clear hK K
    (repeat refine ats_seq ?_); first | refine ats_ifn (p := _) rfl trivial (fun hlk => ?_) (fun hlk => ?_) | refine ats_ifp (p := _) rfl trivial (fun hlk => ?_) (fun hlk => ?_) | refine ats_cond rfl trivial (fun hlk => ?_) (fun hlk => ?_)
    · have hg := matF_get (r := (a.getD 0 []).length) (c := a.length) (f := trF a i k) (show k < (a.getD 0 []).length by omega)
      have hstep : (matF (a.getD 0 []).length a.length (trF a i k)).set k ((rowF a.length (trF a i k k)).set i ((a.getD i []).getD k 0)) = matF (a.getD 0 []).length a.length (trF a i (k + 1)) := by
        rw [← hg, matF_set (show k < (a.getD 0 []).length by omega)]
        refine matF_congr fun x hx y hy => ?_
        unfold trF
        by_cases h1 : x = k ∧ y = i
        · rw [if_pos h1, if_pos (.inr ⟨h1.2, by omega⟩), h1.1, h1.2]
        · rw [if_neg h1]
          by_cases h3 : y < i ∨ (y = i ∧ x < k)
          · rw [if_pos h3, if_pos (by omega)]
          · rw [if_neg h3, if_neg (by omega)]
      refine ats_skip ?_
      (repeat refine ats_seq ?_); refine ats_block ?_
      (repeat refine ats_seq ?_); refine ats_go (fix0 hcx) fun K hK => ?_; simp only [go_sem, seval]; (repeat refine And.intro (by first | omega | (intro hq; first | omega | (simp at hq <;> omega) | (simp_all <;> omega))) ?_); refine hK _ ?_; clear hK K
      (repeat refine ats_seq ?_); refine ats_go (fix0 hcx) fun K hK => ?_; simp only [go_sem, seval]
      simp only [matF_length, hg, rowF_length]
      (repeat refine And.intro (by first | omega | (intro hq; first | omega | (simp at hq <;> omega) | (simp_all <;> omega))) ?_)
      refine hK _ ?_; clear hK K
      (repeat refine ats_seq ?_); refine ats_go (fix0 hcx) fun K hK => ?_; simp only [go_sem, seval]; (repeat refine And.intro (by first | omega | (intro hq; first | omega | (simp at hq <;> omega) | (simp_all <;> omega))) ?_); refine hK _ ?_; clear hK K
      refine ⟨k + 1,  by omega, by omega, .inl ⟨by simp only [SlotsLe, St.get, slotGet, Nat.reduceEqDiff, ↓reduceIte, AV.int.injEq, AV.bool.injEq, AV.l1.injEq, AV.l2.injEq, AV.l3.injEq, true_and, and_true]; omega,  by rw [hstep]⟩⟩
    · refine ats_exit (lq_x (ats_nil (bq_n ?_)))
      (repeat refine ats_seq ?_); refine ats_go (fix0 hcx) fun K hK => ?_; simp only [go_sem, seval]; (repeat refine And.intro (by first | omega | (intro hq; first | omega | (simp at hq <;> omega) | (simp_all <;> omega))) ?_); refine hK _ ?_; clear hK K
      refine ⟨i + 1,  by omega, by omega, .inl ⟨by simp only [SlotsLe, St.get, slotGet, Nat.reduceEqDiff, ↓reduceIte, AV.int.injEq, AV.bool.injEq, AV.l1.injEq, AV.l2.injEq, AV.l3.injEq, true_and, and_true]; omega,  by rw [show matF (a.getD 0 []).length a.length (trF a (i + 1) 0) = matF (a.getD 0 []).length a.length (trF a i k) from matF_congr fun x hx y hy => by unfold trF; by_cases h3 : y < i ∨ (y = i ∧ x < k); rw [if_pos h3, if_pos (by omega)]; rw [if_neg h3, if_neg (by omega)]]⟩⟩
  · obtain rfl : i = a.length := by omega
    have e : matF (a.getD 0 []).length a.length (trF a a.length 0) = turnM a := by
      rw [turnM_matF]
      exact matF_congr fun x hx y hy => if_pos (.inl hy)
    refine ats_exit (lq_x ?_)
    (repeat refine ats_seq ?_); refine ats_go (fix0 hcx) fun K hK => ?_; simp only [go_sem, seval]; refine hK _ ?_; clear hK K
    rw [e]
    exact ats_ret (ownV (is := [0]) rfl ⟨rfl, trivial⟩ rfl (by simp))

theorem whole_ok (a b : List (List Int)) (m : Nat) (h1 : 1 ≤ m) (h16 : m ≤ 16) (ha : MatOk m a) (hb : MatOk m b) : FreshCall Try.prog 63 [.l2 a, .l2 b] (.l2 (prodM a b m)) := by
  have hal := ha.1
  have hbl := hb.1
  have hb0 := hb.row (show 0 < m by omega)
  have hz := zeros_ok m m (by omega) (by omega)
  rw [zeros_matF] at hz
  refine FreshCall.intro (n := 59) (rs := [.tmp 4]) Try.call63 Try.func63 rfl rfl rfl (by simp only [List.length_cons, List.length_nil]; omega) (fun cx hcx => ats_of ?_); simp only [argSlots, Nat.zero_add, Nat.reduceAdd]
  (repeat refine ats_seq ?_); refine ats_go (fix0 hcx) fun K hK => ?_; simp only [go_sem, seval]; refine hK _ ?_; clear hK K
  (repeat refine ats_seq ?_); refine ats_go (fix0 hcx) fun K hK => ?_; simp only [go_sem, seval]
  simp only [hal, hbl, hb0]
  (repeat refine And.intro (by first | omega | (intro hq; first | omega | (simp at hq <;> omega) | (simp_all <;> omega))) ?_)
  refine fcall_own rfl (hz) rfl ?_; simp only [go_sem, seval]
  refine hK _ ?_; clear hK K
  (repeat refine ats_seq ?_); refine ats_go (fix0 hcx) fun K hK => ?_; simp only [go_sem, seval]; refine hK _ ?_; clear hK K
  simp only [hal]
  (repeat refine ats_seq ?_); refine ats_loop (fun i : Nat => ⟨[(1, .l2 b), (5, .ref 0 []), (19, .l2 a), (20, .int m), (21, .int i)], [(0, .t2 (matF m m (whF a b m i 0 0)))]⟩) (fun i => i ≤ m) (fun i => m - i) 0 (Nat.zero_le _) (by
    refine And.intro ?_ (by
      simp only [List.cons_append, List.nil_append]
      rw [show matF m m (whF a b m 0 0 0) = matF m m (fun _ _ => 0) from matF_congr fun x _ y _ => by unfold whF; rw [if_neg (by omega), if_neg (show ¬ y < 0 by omega)]; simp [sumTo]])
    simp only [SlotsLe, St.get, slotGet, Nat.reduceEqDiff, ↓reduceIte, true_and, and_true, AV.int.injEq]
    rfl) (fun i hi => ?_)
  (repeat refine ats_seq ?_); refine ats_go (fix0 hcx) fun K hK => ?_; simp only [go_sem, seval]; refine hK _ ?_; clear hK K
  (repeat refine ats_seq ?_); first | refine ats_ifn (p := _) rfl trivial (fun hli => ?_) (fun hli => ?_) | refine ats_ifp (p := _) rfl trivial (fun hli => ?_) (fun hli => ?_) | refine ats_cond rfl trivial (fun hli => ?_) (fun hli => ?_)
  · have hri := ha.row (show i < m by omega)
    refine ats_skip ?_
    (repeat refine ats_seq ?_); refine ats_block ?_
    (repeat refine ats_seq ?_); refine ats_go (fix0 hcx) fun K hK => ?_; simp only [go_sem, seval]; (repeat refine And.intro (by first | omega | (intro hq; first | omega | (simp at hq <;> omega) | (simp_all <;> omega))) ?_); refine hK _ ?_; clear hK K
    (repeat refine ats_seq ?_); refine ats_go (fix0 hcx) fun K hK => ?_; simp only [go_sem, seval]; refine hK _ ?_; clear hK K
    simp only [hri]
    (repeat refine ats_seq ?_); refine ats_loop (fun k : Nat => ⟨[(1, .l2 b), (5, .ref 0 []), (19, .l2 a), (20, .int m), (21, .int i), (6, .int i), (26, .l1 (a.getD i [])), (27, .int m), (28, .int k)], [(0, .t2 (matF m m (whF a b m i k 0)))]⟩) (fun k => k ≤ m) (fun k => m - k) 0 (Nat.zero_le _) (by
      refine And.intro ?_ rfl
      simp only [SlotsLe, St.get, slotGet, Nat.reduceEqDiff, ↓reduceIte, true_and, and_true, AV.int.injEq]
      rfl) (fun k hk => ?_)
    (repeat refine ats_seq ?_); refine ats_go (fix0 hcx) fun K hK => ?_; simp only [go_sem, seval]; refine hK _ ?_; clear hK K
    (repeat refine ats_seq ?_); first | refine ats_ifn (p := _) rfl trivial (fun hlk => ?_) (fun hlk => ?_) | refine ats_ifp (p := _) rfl trivial (fun hlk => ?_) (fun hlk => ?_) | refine ats_cond rfl trivial (fun hlk => ?_) (fun hlk => ?_)
    · have hrk := hb.row (show k < m by omega)
      refine ats_skip ?_
      (repeat refine ats_seq ?_); refine ats_block ?_
      (repeat refine ats_seq ?_); refine ats_go (fix0 hcx) fun K hK => ?_; simp only [go_sem, seval]; (repeat refine And.intro (by first | omega | (intro hq; first | omega | (simp at hq <;> omega) | (simp_all <;> omega))) ?_); refine hK _ ?_; clear hK K
      (repeat refine ats_seq ?_); refine ats_go (fix0 hcx) fun K hK => ?_; simp only [go_sem, seval]; (repeat refine And.intro (by first | omega | (intro hq; first | omega | (simp at hq <;> omega) | (simp_all <;> omega))) ?_); refine hK _ ?_; clear hK K
      simp only [hrk]
      (repeat refine ats_seq ?_); refine ats_loop (fun j : Nat => ⟨[(1, .l2 b), (5, .ref 0 []), (19, .l2 a), (20, .int m), (21, .int i), (6, .int i), (26, .l1 (a.getD i [])), (27, .int m), (28, .int k), (8, .int k), (9, .int ((a.getD i []).getD k 0)), (36, .l1 (b.getD k [])), (37, .int m), (38, .int j)], [(0, .t2 (matF m m (whF a b m i k j)))]⟩) (fun j => j ≤ m) (fun j => m - j) 0 (Nat.zero_le _) (by
        refine And.intro ?_ rfl
        simp only [SlotsLe, St.get, slotGet, Nat.reduceEqDiff, ↓reduceIte, true_and, and_true, AV.int.injEq]
        rfl) (fun j hj => ?_)
      (repeat refine ats_seq ?_); refine ats_go (fix0 hcx) fun K hK => ?_; simp only [go_sem, seval]; refine hK _ ?_; clear hK K
      (repeat refine ats_seq ?_); first | refine ats_ifn (p := _) rfl trivial (fun hlj => ?_) (fun hlj => ?_) | refine ats_ifp (p := _) rfl trivial (fun hlj => ?_) (fun hlj => ?_) | refine ats_cond rfl trivial (fun hlj => ?_) (fun hlj => ?_)
      · have hg := matF_get (r := m) (c := m) (f := whF a b m i k j) (show i < m by omega)
        have hg2 := rowF_get (c := m) (f := whF a b m i k j i) (show j < m by omega)
        have bd := mg_bd ha hb (show i < m by omega) (show j < m by omega)
        have s1 := sumTo_le (n := k) (fun x hx => bd x (by omega))
        have b1 := bd k (by omega)
        have hv : whF a b m i k j i j = sumTo (mg a b i j) k := by unfold whF; rw [if_neg (by omega), if_pos rfl, if_neg (by omega)]; omega
        have hstep : (matF m m (whF a b m i k j)).set i ((rowF m (whF a b m i k j i)).set j (sumTo (mg a b i j) k + (a.getD i []).getD k 0 * (b.getD k []).getD j 0)) = matF m m (whF a b m i k (j + 1)) := by
          rw [← hg, matF_set (show i < m by omega)]
          refine matF_congr fun x hx y hy => ?_
          by_cases h1 : x = i ∧ y = j
          · obtain ⟨rfl, rfl⟩ := h1
            rw [if_pos ⟨rfl, rfl⟩]; unfold whF; rw [if_neg (by omega), if_pos rfl, if_pos (by omega)]; rfl
          · rw [if_neg h1]
            unfold whF
            by_cases h2 : x < i
            · rw [if_pos h2, if_pos h2]
            · rw [if_neg h2, if_neg h2]
              by_cases h3 : x = i
              · rw [if_pos h3, if_pos h3]
                by_cases h4 : y < j
                · rw [if_pos h4, if_pos (by omega)]
                · rw [if_neg h4, if_neg (by omega)]
              · rw [if_neg h3, if_neg h3]
        simp only [mg, e2] at b1
        refine ats_skip ?_
        (repeat refine ats_seq ?_); refine ats_block ?_
        (repeat refine ats_seq ?_); refine ats_go (fix0 hcx) fun K hK => ?_; simp only [go_sem, seval]; (repeat refine And.intro (by first | omega | (intro hq; first | omega | (simp at hq <;> omega) | (simp_all <;> omega))) ?_); refine hK _ ?_; clear hK K
        (repeat refine ats_seq ?_); refine ats_go (fix0 hcx) fun K hK => ?_; simp only [go_sem, seval]
        simp only [matF_length, hg, rowF_length, hg2, hv]
        (repeat refine And.intro (by first | omega | (intro hq; first | omega | (simp at hq <;> omega) | (simp_all <;> omega))) ?_)
        refine hK _ ?_; clear hK K
        (repeat refine ats_seq ?_); refine ats_go (fix0 hcx) fun K hK => ?_; simp only [go_sem, seval]; (repeat refine And.intro (by first | omega | (intro hq; first | omega | (simp at hq <;> omega) | (simp_all <;> omega))) ?_); refine hK _ ?_; clear hK K
        refine ⟨j + 1,  by omega, by omega, .inl ⟨by simp only [SlotsLe, St.get, slotGet, Nat.reduceEqDiff, ↓reduceIte, AV.int.injEq, AV.bool.injEq, AV.l1.injEq, AV.l2.injEq, AV.l3.injEq, true_and, and_true]; omega,  by rw [hstep]⟩⟩
      · obtain rfl : j = m := by omega
        have e : matF j j (whF a b j i (k + 1) 0) = matF j j (whF a b j i k j) := matF_congr fun x hx y hy => by
          unfold whF
          by_cases h2 : x < i
          · rw [if_pos h2, if_pos h2]
          · rw [if_neg h2, if_neg h2]
            by_cases h3 : x = i
            · rw [if_pos h3, if_pos h3, if_neg (show ¬ y < 0 by omega), if_pos hy]; simp only [sumTo]; omega
            · rw [if_neg h3, if_neg h3]
        refine ats_exit (lq_x (ats_nil (bq_n ?_)))
        (repeat refine ats_seq ?_); refine ats_go (fix0 hcx) fun K hK => ?_; simp only [go_sem, seval]; (repeat refine And.intro (by first | omega | (intro hq; first | omega | (simp at hq <;> omega) | (simp_all <;> omega))) ?_); refine hK _ ?_; clear hK K
        refine ⟨k + 1,  by omega, by omega, .inl ⟨by simp only [SlotsLe, St.get, slotGet, Nat.reduceEqDiff, ↓reduceIte, AV.int.injEq, AV.bool.injEq, AV.l1.injEq, AV.l2.injEq, AV.l3.injEq, true_and, and_true]; omega,  by rw [e]⟩⟩
    · obtain rfl : k = m := by omega
      have e : matF k k (whF a b k (i + 1) 0 0) = matF k k (whF a b k i k 0) := matF_congr fun x hx y hy => by
        unfold whF
        by_cases h2 : x < i
        · rw [if_pos (by omega), if_pos h2]
        · by_cases h3 : x = i
          · rw [if_pos (by omega), if_neg h2, if_pos h3, if_neg (show ¬ y < 0 by omega)]; omega
          · rw [if_neg (by omega), if_neg h2, if_neg h3, if_neg (show ¬ y < 0 by omega)]; simp only [sumTo]; split <;> omega
      refine ats_exit (lq_x (ats_nil (bq_n ?_)))
      (repeat refine ats_seq ?_); refine ats_go (fix0 hcx) fun K hK => ?_; simp only [go_sem, seval]; (repeat refine And.intro (by first | omega | (intro hq; first | omega | (simp at hq <;> omega) | (simp_all <;> omega))) ?_); refine hK _ ?_; clear hK K
      refine ⟨i + 1,  by omega, by omega, .inl ⟨by simp only [SlotsLe, St.get, slotGet, Nat.reduceEqDiff, ↓reduceIte, AV.int.injEq, AV.bool.injEq, AV.l1.injEq, AV.l2.injEq, AV.l3.injEq, true_and, and_true]; omega,  by rw [e]⟩⟩
  · obtain rfl : i = m := by omega
    have e : matF i i (whF a b i i 0 0) = prodM a b i := matF_congr fun x hx y hy => if_pos hx
    refine ats_exit (lq_x ?_)
    (repeat refine ats_seq ?_); refine ats_go (fix0 hcx) fun K hK => ?_; simp only [go_sem, seval]; refine hK _ ?_; clear hK K
    rw [e]
    exact ats_ret (ownV (is := [0]) rfl ⟨rfl, trivial⟩ rfl (by simp))
end Go.Proofs.Ytbddekioaigbhaa

namespace Go.Proofs.Ytbddekioaigbhaa
open Go Go.Aw Go.Pl

theorem isFamily1_ok (r : List Int) (n : Int) : PureCall Try.prog 58 [.l1 r, .cptr [.int n] 0] (.bool (rowBad n r)) := by
  refine PureCall.intro (n := 13) (rs := [.tmp 3]) Try.call58 Try.func58 rfl rfl rfl (by simp only [List.length_cons, List.length_nil]; omega) (fun cx hcx => ats_of ?_); simp only [argSlots, Nat.zero_add, Nat.reduceAdd]
  (repeat refine ats_seq ?_); refine ats_go (fix0 hcx) fun K hK => ?_; simp only [go_sem, seval]; refine hK _ ?_; clear hK K
  (repeat refine ats_seq ?_); refine ats_go (fix0 hcx) fun K hK => ?_; simp only [go_sem, seval]
  first | refine YR_intro (fun _ => acall_data (allWithin_ok r 0 1000) rfl) ?_ | refine YR_intro (acall_data (allWithin_ok r 0 1000) rfl) ?_
  simp only [go_sem, seval]
  refine hK _ ?_; clear hK K
  refine ats_ret (finB rfl ?_)
  rfl

theorem isFamily_ok (t a : List (List (List Int))) (hc : Cube t) : PureCall Try.prog 36 [.agg [.l3 t], .agg [.l3 a]] (.bool (bd (Fam t a))) := by
  have ht := hc.1
  refine PureCall.intro (n := 43) (rs := [.tmp 4]) Try.call36 Try.func36 rfl rfl rfl (by simp only [List.length_cons, List.length_nil]; omega) (fun cx hcx => ats_of ?_); simp only [argSlots, Nat.zero_add, Nat.reduceAdd]
  (repeat refine ats_seq ?_); refine ats_go (fix0 hcx) fun K hK => ?_; simp only [go_sem, seval]; refine hK _ ?_; clear hK K
  refine ats_know 1 fun ha => ?_; simp only [St.get, slotGet, Nat.reduceEqDiff, ↓reduceIte, if_true, fact, facts] at ha
  have hal := ha.1.1
  (repeat refine ats_seq ?_); refine ats_go (fix0 hcx) fun K hK => ?_; simp only [go_sem, seval]; refine hK _ ?_; clear hK K
  (repeat refine ats_seq ?_); first | refine ats_ifn (p := _) rfl trivial (fun hl => ?_) (fun hl => ?_) | refine ats_ifp (p := _) rfl trivial (fun hl => ?_) (fun hl => ?_) | refine ats_cond rfl trivial (fun hl => ?_) (fun hl => ?_)
  · (repeat refine ats_seq ?_); refine ats_go (fix0 hcx) fun K hK => ?_; simp only [go_sem, seval]; refine hK _ ?_; clear hK K
    refine ats_ret (finB rfl ?_)
    exact (bd_false (fun h => hl (by rw [h.1]))).symm
  · refine ats_skip ?_
    (repeat refine ats_seq ?_); refine ats_go (fix0 hcx) fun K hK => ?_; simp only [go_sem, seval]; (repeat refine And.intro (by first | omega | (intro hq; first | omega | (simp at hq <;> omega) | (simp_all <;> omega))) ?_); refine hK _ ?_; clear hK K
    (repeat refine ats_seq ?_); refine ats_go (fix0 hcx) fun K hK => ?_; simp only [go_sem, seval]; refine hK _ ?_; clear hK K
    (repeat refine ats_seq ?_); refine ats_loop (fun i : Nat => ⟨[(5, .bptr 2 0), (21, .l3 a), (22, .int a.length), (23, .int i)], [(0, .bx [.l3 t]), (1, .bx [.l3 a]), (2, .bx [.int (a.getD 0 []).length])]⟩) (fun i => i ≤ a.length ∧ ∀ b, b < i → MatOk (a.getD 0 []).length (a.getD b [])) (fun i => a.length - i) 0 ⟨Nat.zero_le _, fun a h => absurd h (Nat.not_lt_zero a)⟩ (by refine And.intro ?_ rfl; simp only [SlotsLe, St.get, slotGet, Nat.reduceEqDiff, ↓reduceIte, AV.int.injEq, AV.bool.injEq, AV.l1.injEq, AV.l2.injEq, AV.l3.injEq, true_and, and_true]; rfl) (fun i hi => ?_); obtain ⟨hi, Hi⟩ := hi
    (repeat refine ats_seq ?_); refine ats_go (fix0 hcx) fun K hK => ?_; simp only [go_sem, seval]; refine hK _ ?_; clear hK K
    (repeat refine ats_seq ?_); first | refine ats_ifn (p := _) rfl trivial (fun h1 => ?_) (fun h1 => ?_) | refine ats_ifp (p := _) rfl trivial (fun h1 => ?_) (fun h1 => ?_) | refine ats_cond rfl trivial (fun h1 => ?_) (fun h1 => ?_)
    · refine ats_skip ?_
      (repeat refine ats_seq ?_); refine ats_block ?_
      (repeat refine ats_seq ?_); refine ats_go (fix0 hcx) fun K hK => ?_; simp only [go_sem, seval]; (repeat refine And.intro (by first | omega | (intro hq; first | omega | (simp at hq <;> omega) | (simp_all <;> omega))) ?_); refine hK _ ?_; clear hK K
      (repeat refine ats_seq ?_); refine ats_go (fix0 hcx) fun K hK => ?_; simp only [go_sem, seval]
      first | refine YR_intro (fun _ => acall_free rfl rfl (containsF2_ok (a.getD i []) 58 [.cptr [.int (a.getD 0 []).length] 0] (rowBad (a.getD 0 []).length) rfl (fun r => isFamily1_ok r _))) ?_ | refine YR_intro (acall_free rfl rfl (containsF2_ok (a.getD i []) 58 [.cptr [.int (a.getD 0 []).length] 0] (rowBad (a.getD 0 []).length) rfl (fun r => isFamily1_ok r _))) ?_
      simp only [go_sem, seval]
      refine hK _ ?_; clear hK K
      (repeat refine ats_seq ?_); first | refine ats_ifn (p := _) rfl trivial (fun h2 => ?_) (fun h2 => ?_) | refine ats_ifp (p := _) rfl trivial (fun h2 => ?_) (fun h2 => ?_) | refine ats_cond rfl trivial (fun h2 => ?_) (fun h2 => ?_)
      · (repeat refine ats_seq ?_); refine ats_go (fix0 hcx) fun K hK => ?_; simp only [go_sem, seval]; refine hK _ ?_; clear hK K
        refine ats_ret (finB rfl ?_)
        refine (bd_false fun hf => ?_).symm
        have hm := matOk_iff.1 (hf.2.2.2.2 i (by omega))
        rw [hm.2, hm.1] at h2
        simp at h2
      · simp only [Bool.or_eq_false_iff, Bool.not_eq_false', decide_eq_true_eq, Int.natCast_inj] at h2
        have hm := matOk_iff.2 h2
        refine ats_skip ?_
        (repeat refine ats_seq ?_); refine ats_go (fix0 hcx) fun K hK => ?_; simp only [go_sem, seval]; (repeat refine And.intro (by first | omega | (intro hq; first | omega | (simp at hq <;> omega) | (simp_all <;> omega))) ?_); refine hK _ ?_; clear hK K
        refine ⟨i + 1, ⟨by omega, fun a ha => by rcases Nat.lt_succ_iff_lt_or_eq.1 ha with h | rfl; exact Hi a h; exact hm⟩, by omega, .inl ⟨?_, rfl⟩⟩; simp only [SlotsLe, St.get, slotGet, Nat.reduceEqDiff, ↓reduceIte, AV.int.injEq, AV.bool.injEq, AV.l1.injEq, AV.l2.injEq, AV.l3.injEq, true_and, and_true]; omega
    · refine ats_exit (lq_x ?_)
      (repeat refine ats_seq ?_); refine ats_go (fix0 hcx) fun K hK => ?_; simp only [go_sem, seval]; refine hK _ ?_; clear hK K
      refine ats_ret (finB rfl ?_)
      by_cases hc : 1 ≤ (a.getD 0 []).length ∧ (a.getD 0 []).length ≤ 16
      · rw [bd_true ⟨by omega, by omega, hc.1, hc.2, fun i hi => Hi i (by omega)⟩]
        simp only [Bool.and_eq_true, decide_eq_true_eq]; omega
      · rw [bd_false fun h => hc ⟨h.2.2.1, h.2.2.2.1⟩]
        simp only [Bool.and_eq_false_iff, decide_eq_false_iff_not]; omega
end Go.Proofs.Ytbddekioaigbhaa

namespace Go.Proofs.Ytbddekioaigbhaa
open Go Go.Aw Go.Pl

set_option maxHeartbeats 2000000 in
theorem actionFault_ok (t a : List (List (List Int))) (hc : Cube t) (hn : faultF t = none) (hf : Fam t a) (hP : ∀ i j, i < t.length → j < t.length → (sumM t a i j = prodM (a.getD i []) (a.getD j []) (a.getD 0 []).length ↔ ProdOk t a i j)) : FreshCall Try.prog 37 [.agg [.l3 t], .agg [.l3 a]] (optA (actF t a)) := by
  have h16 := hc.2.1
  have h1 := hc.1
  have hm1 := hf.2.2.1
  have hm16 := hf.2.2.2.1
  have hat := hf.1
  have hd := faultF_dual hn
  have hdl := ds_length t
  have hz := zeros_ok (a.getD 0 []).length (a.getD 0 []).length (by omega) (by omega)
  rw [zeros_matF] at hz
  refine FreshCall.intro (n := 134) (rs := [.tmp 4]) Try.call37 Try.func37 rfl rfl rfl (by simp only [List.length_cons, List.length_nil]; omega) (fun cx hcx => ats_of ?_); simp only [argSlots, Nat.zero_add, Nat.reduceAdd]
  (repeat refine ats_seq ?_); refine ats_go (by first | exact fix0 hcx | exact fix1 hcx rfl) fun K hK => ?_; simp only [go_sem, seval]; refine hK _ ?_; clear hK K
  (repeat refine ats_seq ?_); refine ats_go (by first | exact fix0 hcx | exact fix1 hcx rfl) fun K hK => ?_; simp only [go_sem, seval]; (repeat refine And.intro (by first | omega | (intro hq; first | omega | (simp at hq <;> omega) | (simp_all <;> omega))) ?_); refine hK _ ?_; clear hK K
  (repeat refine ats_seq ?_); refine ats_pick (fix0 hcx) mixed (by kernel_rfl) fun K hK => ?_; simp only [go_sem, seval]
  (repeat refine And.intro (by first | omega | (intro hq; first | omega | (simp at hq <;> omega) | (simp_all <;> omega))) ?_)
  first | refine fcall_fresh rfl (unitMatrix_ok (a.getD 0 []).length (by omega)) ?_ | refine YR_intro (acall_fresh rfl (unitMatrix_ok (a.getD 0 []).length (by omega))) ?_
  simp only [go_sem, seval]
  first | refine fcall_data (equalRows_ok _ _) rfl ?_ | refine YR_intro (acall_data (equalRows_ok _ _) rfl) ?_
  simp only [go_sem, seval]
  refine hK _ ?_; clear hK K
  (repeat refine ats_seq ?_); first | refine ats_ifn (p := _) rfl trivial (fun hA => ?_) (fun hA => ?_) | refine ats_ifp (p := _) rfl trivial (fun hA => ?_) (fun hA => ?_) | refine ats_cond rfl trivial (fun hA => ?_) (fun hA => ?_)
  · (repeat refine ats_seq ?_); refine ats_go (by first | exact fix0 hcx | exact fix1 hcx rfl) fun K hK => ?_; simp only [go_sem, seval]; refine hK _ ?_; clear hK K
    have e : actF t a = some [0] := by simp only [actF, actA, if_neg hA, orE]
    exact ats_ret (ownV (is := [2]) rfl ⟨rfl, trivial⟩ (by rw [e]; rfl) (by simp))
  · have eA : actA a = none := if_pos hA
    refine ats_skip ?_
    (repeat refine ats_seq ?_); refine ats_go (by first | exact fix0 hcx | exact fix1 hcx rfl) fun K hK => ?_; simp only [go_sem, seval]; refine hK _ ?_; clear hK K
    (repeat refine ats_seq ?_); refine ats_loop (fun i : Nat => ⟨[(2, .bptr 0 0), (3, .bptr 1 0), (5, .int (a.getD 0 []).length), (34, .l3 a), (35, .int a.length), (36, .int i)], [(0, .bx [.l3 t]), (1, .bx [.l3 a])]⟩) (fun i => i ≤ a.length ∧ ∀ b, b < i → first t.length (actG t a b) = none) (fun i => a.length - i) 0 ⟨Nat.zero_le _, fun a h => absurd h (Nat.not_lt_zero a)⟩ (by refine And.intro ?_ rfl; simp only [SlotsLe, St.get, slotGet, Nat.reduceEqDiff, ↓reduceIte, AV.int.injEq, AV.bool.injEq, AV.l1.injEq, AV.l2.injEq, AV.l3.injEq, true_and, and_true]; rfl) (fun i hi => ?_); obtain ⟨hi, Hi⟩ := hi
    (repeat refine ats_seq ?_); refine ats_go (by first | exact fix0 hcx | exact fix1 hcx rfl) fun K hK => ?_; simp only [go_sem, seval]; refine hK _ ?_; clear hK K
    (repeat refine ats_seq ?_); first | refine ats_ifn (p := _) rfl trivial (fun hli => ?_) (fun hli => ?_) | refine ats_ifp (p := _) rfl trivial (fun hli => ?_) (fun hli => ?_) | refine ats_cond rfl trivial (fun hli => ?_) (fun hli => ?_)
    · refine ats_skip ?_
      (repeat refine ats_seq ?_); refine ats_block ?_
      (repeat refine ats_seq ?_); refine ats_go (by first | exact fix0 hcx | exact fix1 hcx rfl) fun K hK => ?_; simp only [go_sem, seval]; (repeat refine And.intro (by first | omega | (intro hq; first | omega | (simp at hq <;> omega) | (simp_all <;> omega))) ?_); refine hK _ ?_; clear hK K
      (repeat refine ats_seq ?_); refine ats_go (by first | exact fix0 hcx | exact fix1 hcx rfl) fun K hK => ?_; simp only [go_sem, seval]; refine hK _ ?_; clear hK K
      (repeat refine ats_seq ?_); refine ats_loop (fun j : Nat => ⟨[(2, .bptr 0 0), (3, .bptr 1 0), (5, .int (a.getD 0 []).length), (34, .l3 a), (35, .int a.length), (36, .int i), (6, .int i), (7, .l2 (a.getD i [])), (42, .l3 a), (43, .int a.length), (44, .int j)], [(0, .bx [.l3 t]), (1, .bx [.l3 a])]⟩) (fun j => j ≤ a.length ∧ ∀ b, b < j → actG t a i b = none) (fun j => a.length - j) 0 ⟨Nat.zero_le _, fun a h => absurd h (Nat.not_lt_zero a)⟩ (by refine And.intro ?_ rfl; simp only [SlotsLe, St.get, slotGet, Nat.reduceEqDiff, ↓reduceIte, AV.int.injEq, AV.bool.injEq, AV.l1.injEq, AV.l2.injEq, AV.l3.injEq, true_and, and_true]; rfl) (fun j hj => ?_); obtain ⟨hj, Hj⟩ := hj
      (repeat refine ats_seq ?_); refine ats_go (by first | exact fix0 hcx | exact fix1 hcx rfl) fun K hK => ?_; simp only [go_sem, seval]; refine hK _ ?_; clear hK K
      (repeat refine ats_seq ?_); first | refine ats_ifn (p := _) rfl trivial (fun hlj => ?_) (fun hlj => ?_) | refine ats_ifp (p := _) rfl trivial (fun hlj => ?_) (fun hlj => ?_) | refine ats_cond rfl trivial (fun hlj => ?_) (fun hlj => ?_)
      · have mti := hc.mat (show i < t.length by omega)
        have rij := hc.row (show i < t.length by omega) (show j < t.length by omega)
        refine ats_skip ?_
        (repeat refine ats_seq ?_); refine ats_block ?_
        (repeat refine ats_seq ?_); refine ats_go (by first | exact fix0 hcx | exact fix1 hcx rfl) fun K hK => ?_; simp only [go_sem, seval]; (repeat refine And.intro (by first | omega | (intro hq; first | omega | (simp at hq <;> omega) | (simp_all <;> omega))) ?_); refine hK _ ?_; clear hK K
        (repeat refine ats_seq ?_); refine ats_go (by first | exact fix0 hcx | exact fix1 hcx rfl) fun K hK => ?_; simp only [go_sem, seval]
        refine fcall_own rfl (hz) rfl ?_; simp only [go_sem, seval]
        refine hK _ ?_; clear hK K
        (repeat refine ats_seq ?_); refine ats_go (by first | exact fix0 hcx | exact fix1 hcx rfl) fun K hK => ?_; simp only [go_sem, seval]
        simp only [mti, rij]
        (repeat refine And.intro (by first | omega | (intro hq; first | omega | (simp at hq <;> omega) | (simp_all <;> omega))) ?_)
        refine hK _ ?_; clear hK K
        have hac : ∀ k x y p q, acF t a i j k x y p q = sumTo (prR t a i j p q) k + (if p < x ∨ (p = x ∧ q < y) then prR t a i j p q k else 0) := fun _ _ _ _ _ => rfl
        (repeat refine ats_seq ?_); refine ats_loop (fun k : Nat => ⟨[(2, .bptr 0 0), (3, .bptr 1 0), (5, .int (a.getD 0 []).length), (34, .l3 a), (35, .int a.length), (36, .int i), (6, .int i), (7, .l2 (a.getD i [])), (42, .l3 a), (43, .int a.length), (44, .int j), (8, .int j), (9, .l2 (a.getD j [])), (10, .ref 2 []), (59, .l1 ((t.getD i []).getD j [])), (60, .int t.length), (61, .int k)], [(2, .t2 (matF (a.getD 0 []).length (a.getD 0 []).length (acF t a i j k 0 0))), (0, .bx [.l3 t]), (1, .bx [.l3 a])]⟩) (fun k => k ≤ t.length) (fun k => t.length - k) 0 (Nat.zero_le _) (by
          refine And.intro ?_ (by
            simp only [List.cons_append, List.nil_append]
            rw [show matF (a.getD 0 []).length (a.getD 0 []).length (acF t a i j 0 0 0) = matF (a.getD 0 []).length (a.getD 0 []).length (fun _ _ => 0) from matF_congr fun x _ y _ => by rw [hac, if_neg (by omega)]; simp [sumTo]])
          simp only [SlotsLe, St.get, slotGet, Nat.reduceEqDiff, ↓reduceIte, true_and, and_true, AV.int.injEq]
          rfl) (fun k hk => ?_)
        (repeat refine ats_seq ?_); refine ats_go (by first | exact fix0 hcx | exact fix1 hcx rfl) fun K hK => ?_; simp only [go_sem, seval]; refine hK _ ?_; clear hK K
        (repeat refine ats_seq ?_); first | refine ats_ifn (p := _) rfl trivial (fun hlk => ?_) (fun hlk => ?_) | refine ats_ifp (p := _) rfl trivial (fun hlk => ?_) (fun hlk => ?_) | refine ats_cond rfl trivial (fun hlk => ?_) (fun hlk => ?_)
        · have mk := hf.mat (show k < a.length by omega)
          refine ats_skip ?_
          (repeat refine ats_seq ?_); refine ats_block ?_
          (repeat refine ats_seq ?_); refine ats_go (by first | exact fix0 hcx | exact fix1 hcx rfl) fun K hK => ?_; simp only [go_sem, seval]; (repeat refine And.intro (by first | omega | (intro hq; first | omega | (simp at hq <;> omega) | (simp_all <;> omega))) ?_); refine hK _ ?_; clear hK K
          (repeat refine ats_seq ?_); refine ats_go (by first | exact fix0 hcx | exact fix1 hcx rfl) fun K hK => ?_; simp only [go_sem, seval]; (repeat refine And.intro (by first | omega | (intro hq; first | omega | (simp at hq <;> omega) | (simp_all <;> omega))) ?_); refine hK _ ?_; clear hK K
          simp only [mk]
          (repeat refine ats_seq ?_); refine ats_loop (fun x : Nat => ⟨[(2, .bptr 0 0), (3, .bptr 1 0), (5, .int (a.getD 0 []).length), (34, .l3 a), (35, .int a.length), (36, .int i), (6, .int i), (7, .l2 (a.getD i [])), (42, .l3 a), (43, .int a.length), (44, .int j), (8, .int j), (9, .l2 (a.getD j [])), (10, .ref 2 []), (59, .l1 ((t.getD i []).getD j [])), (60, .int t.length), (61, .int k), (11, .int k), (12, .int (((t.getD i []).getD j []).getD k 0)), (70, .l2 (a.getD k [])), (71, .int (a.getD 0 []).length), (72, .int x)], [(2, .t2 (matF (a.getD 0 []).length (a.getD 0 []).length (acF t a i j k x 0))), (0, .bx [.l3 t]), (1, .bx [.l3 a])]⟩) (fun x => x ≤ (a.getD 0 []).length) (fun x => (a.getD 0 []).length - x) 0 (Nat.zero_le _) (by
            refine And.intro ?_ rfl
            simp only [SlotsLe, St.get, slotGet, Nat.reduceEqDiff, ↓reduceIte, true_and, and_true, AV.int.injEq]
            rfl) (fun x hx => ?_)
          (repeat refine ats_seq ?_); refine ats_go (by first | exact fix0 hcx | exact fix1 hcx rfl) fun K hK => ?_; simp only [go_sem, seval]; refine hK _ ?_; clear hK K
          (repeat refine ats_seq ?_); first | refine ats_ifn (p := _) rfl trivial (fun hlx => ?_) (fun hlx => ?_) | refine ats_ifp (p := _) rfl trivial (fun hlx => ?_) (fun hlx => ?_) | refine ats_cond rfl trivial (fun hlx => ?_) (fun hlx => ?_)
          · have rkx := hf.row (show k < a.length by omega) (show x < (a.getD 0 []).length by omega)
            refine ats_skip ?_
            (repeat refine ats_seq ?_); refine ats_block ?_
            (repeat refine ats_seq ?_); refine ats_go (by first | exact fix0 hcx | exact fix1 hcx rfl) fun K hK => ?_; simp only [go_sem, seval]; (repeat refine And.intro (by first | omega | (intro hq; first | omega | (simp at hq <;> omega) | (simp_all <;> omega))) ?_); refine hK _ ?_; clear hK K
            (repeat refine ats_seq ?_); refine ats_go (by first | exact fix0 hcx | exact fix1 hcx rfl) fun K hK => ?_; simp only [go_sem, seval]; refine hK _ ?_; clear hK K
            simp only [rkx]
            (repeat refine ats_seq ?_); refine ats_loop (fun y : Nat => ⟨[(2, .bptr 0 0), (3, .bptr 1 0), (5, .int (a.getD 0 []).length), (34, .l3 a), (35, .int a.length), (36, .int i), (6, .int i), (7, .l2 (a.getD i [])), (42, .l3 a), (43, .int a.length), (44, .int j), (8, .int j), (9, .l2 (a.getD j [])), (10, .ref 2 []), (59, .l1 ((t.getD i []).getD j [])), (60, .int t.length), (61, .int k), (11, .int k), (12, .int (((t.getD i []).getD j []).getD k 0)), (70, .l2 (a.getD k [])), (71, .int (a.getD 0 []).length), (72, .int x), (13, .int x), (77, .l1 ((a.getD k []).getD x [])), (78, .int (a.getD 0 []).length), (79, .int y)], [(2, .t2 (matF (a.getD 0 []).length (a.getD 0 []).length (acF t a i j k x y))), (0, .bx [.l3 t]), (1, .bx [.l3 a])]⟩) (fun y => y ≤ (a.getD 0 []).length) (fun y => (a.getD 0 []).length - y) 0 (Nat.zero_le _) (by
              refine And.intro ?_ rfl
              simp only [SlotsLe, St.get, slotGet, Nat.reduceEqDiff, ↓reduceIte, true_and, and_true, AV.int.injEq]
              rfl) (fun y hy => ?_)
            (repeat refine ats_seq ?_); refine ats_go (by first | exact fix0 hcx | exact fix1 hcx rfl) fun K hK => ?_; simp only [go_sem, seval]; refine hK _ ?_; clear hK K
            (repeat refine ats_seq ?_); first | refine ats_ifn (p := _) rfl trivial (fun hly => ?_) (fun hly => ?_) | refine ats_ifp (p := _) rfl trivial (fun hly => ?_) (fun hly => ?_) | refine ats_cond rfl trivial (fun hly => ?_) (fun hly => ?_)
            · have hg := matF_get (r := (a.getD 0 []).length) (c := (a.getD 0 []).length) (f := acF t a i j k x y) (show x < (a.getD 0 []).length by omega)
              have hg2 := rowF_get (c := (a.getD 0 []).length) (f := acF t a i j k x y x) (show y < (a.getD 0 []).length by omega)
              have bd := prR_bd hc hf (i := i) (j := j) (x := x) (y := y) (by omega) (by omega) (by omega) (by omega)
              have s1 := sumTo_le (n := k) (fun z hz => bd z (by omega))
              have b1 := bd k (by omega)
              have hv : acF t a i j k x y x y = sumTo (prR t a i j x y) k := by rw [hac, if_neg (by omega)]; omega
              have hstep : (matF (a.getD 0 []).length (a.getD 0 []).length (acF t a i j k x y)).set x ((rowF (a.getD 0 []).length (acF t a i j k x y x)).set y (sumTo (prR t a i j x y) k + ((t.getD i []).getD j []).getD k 0 * ((a.getD k []).getD x []).getD y 0)) = matF (a.getD 0 []).length (a.getD 0 []).length (acF t a i j k x (y + 1)) := by
                rw [← hg, matF_set (show x < (a.getD 0 []).length by omega)]
                refine matF_congr fun p hp q hq => ?_
                by_cases h1 : p = x ∧ q = y
                · obtain ⟨rfl, rfl⟩ := h1
                  rw [if_pos ⟨rfl, rfl⟩, hac, if_pos (by omega)]; rfl
                · rw [if_neg h1, hac, hac]
                  by_cases h2 : p < x ∨ (p = x ∧ q < y)
                  · rw [if_pos h2, if_pos (by omega)]
                  · rw [if_neg h2, if_neg (by omega)]
              simp only [prR, e3] at b1
              refine ats_skip ?_
              (repeat refine ats_seq ?_); refine ats_block ?_
              (repeat refine ats_seq ?_); refine ats_go (by first | exact fix0 hcx | exact fix1 hcx rfl) fun K hK => ?_; simp only [go_sem, seval]; (repeat refine And.intro (by first | omega | (intro hq; first | omega | (simp at hq <;> omega) | (simp_all <;> omega))) ?_); refine hK _ ?_; clear hK K
              (repeat refine ats_seq ?_); refine ats_go (by first | exact fix0 hcx | exact fix1 hcx rfl) fun K hK => ?_; simp only [go_sem, seval]
              simp only [matF_length, hg, rowF_length, hg2, hv]
              (repeat refine And.intro (by first | omega | (intro hq; first | omega | (simp at hq <;> omega) | (simp_all <;> omega))) ?_)
              refine hK _ ?_; clear hK K
              (repeat refine ats_seq ?_); refine ats_go (by first | exact fix0 hcx | exact fix1 hcx rfl) fun K hK => ?_; simp only [go_sem, seval]; (repeat refine And.intro (by first | omega | (intro hq; first | omega | (simp at hq <;> omega) | (simp_all <;> omega))) ?_); refine hK _ ?_; clear hK K
              refine ⟨y + 1,  by omega, by omega, .inl ⟨by simp only [SlotsLe, St.get, slotGet, Nat.reduceEqDiff, ↓reduceIte, AV.int.injEq, AV.bool.injEq, AV.l1.injEq, AV.l2.injEq, AV.l3.injEq, true_and, and_true]; omega,  by rw [hstep]⟩⟩
            · have ey : y = (a.getD 0 []).length := by omega
              have e : matF (a.getD 0 []).length (a.getD 0 []).length (acF t a i j k (x + 1) 0) = matF (a.getD 0 []).length (a.getD 0 []).length (acF t a i j k x y) := matF_congr fun p hp q hq => by
                rw [hac, hac]
                by_cases h2 : p < x ∨ (p = x ∧ q < y)
                · rw [if_pos h2, if_pos (by omega)]
                · rw [if_neg h2, if_neg (by omega)]
              refine ats_exit (lq_x (ats_nil (bq_n ?_)))
              (repeat refine ats_seq ?_); refine ats_go (by first | exact fix0 hcx | exact fix1 hcx rfl) fun K hK => ?_; simp only [go_sem, seval]; (repeat refine And.intro (by first | omega | (intro hq; first | omega | (simp at hq <;> omega) | (simp_all <;> omega))) ?_); refine hK _ ?_; clear hK K
              refine ⟨x + 1,  by omega, by omega, .inl ⟨by simp only [SlotsLe, St.get, slotGet, Nat.reduceEqDiff, ↓reduceIte, AV.int.injEq, AV.bool.injEq, AV.l1.injEq, AV.l2.injEq, AV.l3.injEq, true_and, and_true]; omega,  by rw [e]⟩⟩
          · have ex : x = (a.getD 0 []).length := by omega
            have e : matF (a.getD 0 []).length (a.getD 0 []).length (acF t a i j (k + 1) 0 0) = matF (a.getD 0 []).length (a.getD 0 []).length (acF t a i j k x 0) := matF_congr fun p hp q hq => by
              rw [hac, hac, if_neg (by omega), if_pos (.inl (by omega))]; simp only [sumTo]; omega
            refine ats_exit (lq_x (ats_nil (bq_n ?_)))
            (repeat refine ats_seq ?_); refine ats_go (by first | exact fix0 hcx | exact fix1 hcx rfl) fun K hK => ?_; simp only [go_sem, seval]; (repeat refine And.intro (by first | omega | (intro hq; first | omega | (simp at hq <;> omega) | (simp_all <;> omega))) ?_); refine hK _ ?_; clear hK K
            refine ⟨k + 1,  by omega, by omega, .inl ⟨by simp only [SlotsLe, St.get, slotGet, Nat.reduceEqDiff, ↓reduceIte, AV.int.injEq, AV.bool.injEq, AV.l1.injEq, AV.l2.injEq, AV.l3.injEq, true_and, and_true]; omega,  by rw [e]⟩⟩
        · have ek : k = t.length := by omega
          have e : matF (a.getD 0 []).length (a.getD 0 []).length (acF t a i j k 0 0) = sumM t a i j := matF_congr fun p hp q hq => by
            rw [hac, if_neg (by omega), ek]; omega
          rw [e]
          have mka := hf.2.2.2.2 i (by omega)
          have mkb := hf.2.2.2.2 j (by omega)
          have hPij := hP i j (by omega) (by omega)
          refine ats_exit (lq_x ?_)
          (repeat refine ats_seq ?_); refine ats_go (by first | exact fix0 hcx | exact fix1 hcx rfl) fun K hK => ?_; simp only [go_sem, seval]
          first | refine fcall_fresh rfl (whole_ok (a.getD i []) (a.getD j []) (a.getD 0 []).length hm1 hm16 mka mkb) ?_ | refine YR_intro (acall_fresh rfl (whole_ok (a.getD i []) (a.getD j []) (a.getD 0 []).length hm1 hm16 mka mkb)) ?_
          simp only [go_sem, seval]
          first | refine fcall_free rfl rfl (equalRows_ok _ _) ?_ | refine YR_intro (acall_free rfl rfl (equalRows_ok _ _)) ?_
          simp only [go_sem, seval]
          refine hK _ ?_; clear hK K
          (repeat refine ats_seq ?_); first | refine ats_ifn (p := _) rfl trivial (fun h2 => ?_) (fun h2 => ?_) | refine ats_ifp (p := _) rfl trivial (fun h2 => ?_) (fun h2 => ?_) | refine ats_cond rfl trivial (fun h2 => ?_) (fun h2 => ?_)
          · have h2 := bd_false (fun h => h2 (hPij.2 h))
            (repeat refine ats_seq ?_); refine ats_go (by first | exact fix0 hcx | exact fix1 hcx rfl) fun K hK => ?_; simp only [go_sem, seval]; refine hK _ ?_; clear hK K
            have e1 : (first t.length fun i => first t.length (actG t a i)) = some [1, (i : Int), (j : Int)] := first_some (by omega) Hi (first_some (by omega) Hj (if_neg (by rw [h2]; decide)))
            have e : actF t a = some [1, (i : Int), (j : Int)] := by simp only [actF, eA, orE, e1]
            exact ats_ret (ownV (is := [3]) rfl ⟨rfl, trivial⟩ (by rw [e]; rfl) (by simp))
          · have h2 := bd_true (hPij.1 h2)
            refine ats_skip ?_
            (repeat refine ats_seq ?_); refine ats_go (by first | exact fix0 hcx | exact fix1 hcx rfl) fun K hK => ?_; simp only [go_sem, seval]; (repeat refine And.intro (by first | omega | (intro hq; first | omega | (simp at hq <;> omega) | (simp_all <;> omega))) ?_); refine hK _ ?_; clear hK K
            refine ⟨j + 1, ⟨by omega, fun b hb => by rcases Nat.lt_succ_iff_lt_or_eq.1 hb with h | rfl; exact Hj b h; exact if_pos h2⟩, by omega, .inr ⟨[2], by simp only [killL, List.map_cons, List.map_nil, killA, killAs, qOf, rmT, killH, killT, List.filter_cons, List.filter_nil, List.contains_cons, List.contains_nil, SlotsLe, St.get, slotGet, Nat.reduceEqDiff, Nat.reduceBEq, Bool.or_false, Bool.or_true, Bool.false_and, Bool.not_true, Bool.not_false, Bool.false_eq_true, ↓reduceIte, if_true, if_false, AV.int.injEq, AV.bool.injEq, AV.l1.injEq, AV.l2.injEq, AV.l3.injEq, true_and, and_true]; omega, by simp only [killL, List.map_cons, List.map_nil, killA, killAs, qOf, rmT, killH, killT, List.filter_cons, List.filter_nil, List.contains_cons, List.contains_nil, SlotsLe, St.get, slotGet, Nat.reduceEqDiff, Nat.reduceBEq, Bool.or_false, Bool.or_true, Bool.false_and, Bool.not_true, Bool.not_false, Bool.false_eq_true, ↓reduceIte, if_true, if_false, AV.int.injEq, AV.bool.injEq, AV.l1.injEq, AV.l2.injEq, AV.l3.injEq, true_and, and_true]; skip⟩⟩
      · refine ats_exit (lq_x (ats_nil (bq_n ?_)))
        (repeat refine ats_seq ?_); refine ats_go (by first | exact fix0 hcx | exact fix1 hcx rfl) fun K hK => ?_; simp only [go_sem, seval]; (repeat refine And.intro (by first | omega | (intro hq; first | omega | (simp at hq <;> omega) | (simp_all <;> omega))) ?_); refine hK _ ?_; clear hK K
        refine ⟨i + 1, ⟨by omega, fun a ha => by rcases Nat.lt_succ_iff_lt_or_eq.1 ha with h | rfl; exact Hi a h; exact first_none (fun k hk => Hj k (by omega))⟩, by omega, .inl ⟨?_, rfl⟩⟩; simp only [SlotsLe, St.get, slotGet, Nat.reduceEqDiff, ↓reduceIte, AV.int.injEq, AV.bool.injEq, AV.l1.injEq, AV.l2.injEq, AV.l3.injEq, true_and, and_true]; omega
    · have eG : (first t.length fun i => first t.length (actG t a i)) = none := first_none (fun i hi => Hi i (by omega))
      clear Hi
      refine ats_exit (lq_x ?_)
      (repeat refine ats_seq ?_); refine ats_go (by first | exact fix0 hcx | exact fix1 hcx rfl) fun K hK => ?_; simp only [go_sem, seval]
      first | refine fcall_fresh rfl (duals_ok t hc) ?_ | refine YR_intro (acall_fresh rfl (duals_ok t hc)) ?_
      simp only [go_sem, seval]
      simp only [hdl]
      refine hK _ ?_; clear hK K
      (repeat refine ats_seq ?_); refine ats_loop (fun i : Nat => ⟨[(3, .bptr 1 0), (111, .l1 (ds t)), (112, .int t.length), (113, .int i)], [(0, .bx [.l3 t]), (1, .bx [.l3 a])]⟩) (fun i => i ≤ t.length ∧ ∀ b, b < i → actH t a b = none) (fun i => t.length - i) 0 ⟨Nat.zero_le _, fun a h => absurd h (Nat.not_lt_zero a)⟩ (by refine And.intro ?_ rfl; simp only [SlotsLe, St.get, slotGet, Nat.reduceEqDiff, ↓reduceIte, AV.int.injEq, AV.bool.injEq, AV.l1.injEq, AV.l2.injEq, AV.l3.injEq, true_and, and_true]; rfl) (fun i hi => ?_); obtain ⟨hi, Hi⟩ := hi
      (repeat refine ats_seq ?_); refine ats_go (by first | exact fix0 hcx | exact fix1 hcx rfl) fun K hK => ?_; simp only [go_sem, seval]; refine hK _ ?_; clear hK K
      (repeat refine ats_seq ?_); first | refine ats_ifn (p := _) rfl trivial (fun hli => ?_) (fun hli => ?_) | refine ats_ifp (p := _) rfl trivial (fun hli => ?_) (fun hli => ?_) | refine ats_cond rfl trivial (fun hli => ?_) (fun hli => ?_)
      · have gi := ds_get (show i < t.length by omega)
        have di := dual_ok hd (show i < t.length by omega)
        have mi := hf.mat (show i < a.length by omega)
        have r0 := hf.row (show i < a.length by omega) (show 0 < (a.getD 0 []).length by omega)
        have hrow : ∀ j, j < (a.getD i []).length → ((a.getD i []).getD j []).length = ((a.getD i []).getD 0 []).length := fun j hj => by
          rw [r0, hf.row (show i < a.length by omega) (show j < (a.getD 0 []).length by omega)]
        refine ats_skip ?_
        (repeat refine ats_seq ?_); refine ats_block ?_
        (repeat refine ats_seq ?_); refine ats_go (by first | exact fix0 hcx | exact fix1 hcx rfl) fun K hK => ?_; simp only [go_sem, seval]
        simp only [gi]
        (repeat refine And.intro (by first | omega | (intro hq; first | omega | (simp at hq <;> omega) | (simp_all <;> omega))) ?_)
        refine hK _ ?_; clear hK K
        (repeat refine ats_seq ?_); refine ats_pick (fix0 hcx) mixed (by kernel_rfl) fun K hK => ?_; simp only [go_sem, seval]
        (repeat refine And.intro (by first | omega | (intro hq; first | omega | (simp at hq <;> omega) | (simp_all <;> omega))) ?_)
        first | refine fcall_fresh rfl (transpose_ok (a.getD i []) (by omega) (by omega) (by rw [r0]; exact hm16) hrow) ?_ | refine YR_intro (acall_fresh rfl (transpose_ok (a.getD i []) (by omega) (by omega) (by rw [r0]; exact hm16) hrow)) ?_
        simp only [go_sem, seval]
        first | refine fcall_data (equalRows_ok _ _) rfl ?_ | refine YR_intro (acall_data (equalRows_ok _ _) rfl) ?_
        simp only [go_sem, seval]
        refine hK _ ?_; clear hK K
        (repeat refine ats_seq ?_); first | refine ats_ifn (p := _) rfl trivial (fun h2 => ?_) (fun h2 => ?_) | refine ats_ifp (p := _) rfl trivial (fun h2 => ?_) (fun h2 => ?_) | refine ats_cond rfl trivial (fun h2 => ?_) (fun h2 => ?_)
        · (repeat refine ats_seq ?_); refine ats_go (by first | exact fix0 hcx | exact fix1 hcx rfl) fun K hK => ?_; simp only [go_sem, seval]; refine hK _ ?_; clear hK K
          have e1 : first t.length (actH t a) = some [2, (i : Int)] := first_some (by omega) Hi (if_neg h2)
          have e : actF t a = some [2, (i : Int)] := by simp only [actF, eA, orE, eG, e1]
          exact ats_ret (ownV (is := [2]) rfl ⟨rfl, trivial⟩ (by rw [e]; rfl) (by simp))
        · refine ats_skip ?_
          (repeat refine ats_seq ?_); refine ats_go (by first | exact fix0 hcx | exact fix1 hcx rfl) fun K hK => ?_; simp only [go_sem, seval]; (repeat refine And.intro (by first | omega | (intro hq; first | omega | (simp at hq <;> omega) | (simp_all <;> omega))) ?_); refine hK _ ?_; clear hK K
          refine ⟨i + 1, ⟨by omega, fun a ha => by rcases Nat.lt_succ_iff_lt_or_eq.1 ha with h | rfl; exact Hi a h; exact if_pos h2⟩, by omega, .inl ⟨?_, rfl⟩⟩; simp only [SlotsLe, St.get, slotGet, Nat.reduceEqDiff, ↓reduceIte, AV.int.injEq, AV.bool.injEq, AV.l1.injEq, AV.l2.injEq, AV.l3.injEq, true_and, and_true]; omega
      · have eH : first t.length (actH t a) = none := first_none (fun i hi => Hi i (by omega))
        have e : actF t a = none := by simp only [actF, eA, orE, eG, eH]
        refine ats_exit (lq_x ?_)
        (repeat refine ats_seq ?_); refine ats_go (by first | exact fix0 hcx | exact fix1 hcx rfl) fun K hK => ?_; simp only [go_sem, seval]; refine hK _ ?_; clear hK K
        exact ats_ret (ownV (is := []) rfl ⟨rfl, trivial⟩ (by rw [e]; rfl) (by simp))
end Go.Proofs.Ytbddekioaigbhaa

namespace Go.Proofs.Ytbddekioaigbhaa
open Go Go.Aw Go.Pl

end Go.Proofs.Ytbddekioaigbhaa
