import Derived.Test.YtjpdkdepbkmebaaGreatWx2
import Derived.Test.YtjpdkdepbkmebaaGreatPl1
import Derived.Test.YtjpdkdepbkmebaaGreatWx3
set_option linter.unusedSimpArgs false
set_option linter.unusedVariables false
namespace Go.Proofs.YtjpdkdepbkmebaaGreat
open Go Go.Aw Go.Pl
theorem sliceEqual_ok (xs ys : List Int) : PureCall Tryz.prog 70 [.l1 xs, .l1 ys] (.bool (decide (xs = ys))) := by
 refine PureCall.intro (n := 26) (rs := [.tmp 4]) Tryz.call70 Tryz.func70 rfl rfl rfl (by simp only [List.length_cons, List.length_nil]; omega) (fun cx hcx => ats_of ?_); simp only [argSlots, Nat.zero_add, Nat.reduceAdd]
 refine gA ?_
 refine ats_know 0 fun h0 => ?_; simp only [St.get, slotGet, Nat.reduceEqDiff, ↓reduceIte, if_true, fact, facts] at h0
 have hlen := h0.1
 refine gA ?_
 refine gI (fun hc => ?_) fun hc => ?_
 ·refine gA ?_
  refine ats_ret (finB rfl ?_)
  simp only [Bool.false_eq, decide_eq_false_iff_not]
  exact fun e => hc (by rw [e])
 ·refine ats_skip ?_
  refine gA ?_
  (repeat refine ats_seq ?_); refine ats_loop (fun k : Nat => ⟨[(0, .l1 xs), (1, .l1 ys), (12, .int xs.length), (13, .int k)], []⟩) (fun k => k ≤ xs.length ∧ xs.take k = ys.take k) (fun k => xs.length - k) 0 ⟨Nat.zero_le _, rfl⟩ (by
   refine And.intro ?_ rfl; simp only [leS, Nat.reduceEqDiff, ↓reduceIte, true_and, and_true]
   rfl) (fun k hk => ?_)
  refine gA ?_
  refine gI (fun h1 => ?_) fun h1 => ?_
  ·refine ats_skip ?_
   (repeat refine ats_seq ?_); refine ats_block ?_
   refine gA ?_
   (repeat refine ats_seq ?_); refine ats_pick (fix0 hcx) mixed (by kernel_rfl) fun K hK => ?_; simp only [go_sem, seval]; (repeat refine aI (hb := ?_)); refine hK _ ?_; clear hK K
   refine gI (fun h2 => ?_) fun h2 => ?_
   ·refine gA ?_
    refine ats_ret (finB rfl ?_)
    simp only [Bool.false_eq, decide_eq_false_iff_not]
    exact ne_of_getD h2
   ·refine ats_skip ?_
    refine gB ?_
    refine ⟨k + 1,  ⟨by omega, take_succ_eq (by omega) (by omega) hk.2 h2⟩, by omega, .inl ⟨?_, rfl⟩⟩; simp only [leS, Nat.reduceEqDiff, ↓reduceIte, true_and, and_true]
    omega
  ·refine ats_exit (lq_x ?_)
   refine gA ?_
   refine ats_ret (finB rfl ?_)
   have h := hk.2
   rw [List.take_of_length_le (by omega), List.take_of_length_le (by omega)] at h
   simp only [h, decide_true]
theorem equalFunc_ok (xs ys : List (List Int)) : PureCall Tryz.prog 69 [.l2 xs, .l2 ys, .fn 70 []] (.bool (decide (xs = ys))) := by
 refine PureCall.intro (n := 32) (rs := [.tmp 6]) Tryz.call69 Tryz.func69 rfl rfl rfl (by simp only [List.length_cons, List.length_nil]; omega) (fun cx hcx => ats_of ?_); simp only [argSlots, Nat.zero_add, Nat.reduceAdd]
 refine gA ?_
 refine ats_know 0 fun h0 => ?_; simp only [St.get, slotGet, Nat.reduceEqDiff, ↓reduceIte, if_true, fact, facts] at h0
 have hlen := h0.1
 refine gA ?_
 refine gI (fun hc => ?_) fun hc => ?_
 ·refine gA ?_
  refine ats_ret (finB rfl ?_)
  simp only [Bool.false_eq, decide_eq_false_iff_not]
  exact fun e => hc (by rw [e])
 ·refine ats_skip ?_
  refine gA ?_
  (repeat refine ats_seq ?_); refine ats_loop (fun k : Nat => ⟨[(0, .l2 xs), (1, .l2 ys), (2, .fn 70 []), (15, .l2 xs), (16, .int xs.length), (17, .int k)], []⟩) (fun k => k ≤ xs.length ∧ xs.take k = ys.take k) (fun k => xs.length - k) 0 ⟨Nat.zero_le _, rfl⟩ (by
   refine And.intro ?_ rfl; simp only [leS, Nat.reduceEqDiff, ↓reduceIte, true_and, and_true]
   rfl) (fun k hk => ?_)
  refine gA ?_
  refine gI (fun h1 => ?_) fun h1 => ?_
  ·refine ats_skip ?_
   (repeat refine ats_seq ?_); refine ats_block ?_
   refine gB ?_
   refine gB ?_
   refine gC fun K hK => ?_
   first | refine fcall_data (sliceEqual_ok _ _) rfl ?_ | refine YR_intro (acall_data (sliceEqual_ok _ _) rfl) ?_
   simp only [go_sem, seval]
   refine hK _ ?_; clear hK K
   refine gI (fun h2 => ?_) fun h2 => ?_
   ·refine gA ?_
    refine ats_ret (finB rfl ?_)
    simp only [Bool.false_eq, decide_eq_false_iff_not]
    exact ne_of_getD h2
   ·refine ats_skip ?_
    refine gB ?_
    refine ⟨k + 1,  ⟨by omega, take_succ_eq (by omega) (by omega) hk.2 h2⟩, by omega, .inl ⟨?_, rfl⟩⟩; simp only [leS, Nat.reduceEqDiff, ↓reduceIte, true_and, and_true]
    omega
  ·refine ats_exit (lq_x ?_)
   refine gA ?_
   refine ats_ret (finB rfl ?_)
   have h := hk.2
   rw [List.take_of_length_le (by omega), List.take_of_length_le (by omega)] at h
   simp only [h, decide_true]
theorem equalRows_ok (xs ys : List (List Int)) : PureCall Tryz.prog 43 [.l2 xs, .l2 ys] (.bool (decide (xs = ys))) := by
 refine PureCall.intro (n := 8) (rs := [.tmp 4]) Tryz.call43 Tryz.func43 rfl rfl rfl (by simp only [List.length_cons, List.length_nil]; omega) (fun cx hcx => ats_of ?_); simp only [argSlots, Nat.zero_add, Nat.reduceAdd]
 refine gA ?_
 refine gC fun K hK => ?_
 first | refine fcall_data (equalFunc_ok xs ys) rfl ?_ | refine YR_intro (acall_data (equalFunc_ok xs ys) rfl) ?_
 simp only [go_sem, seval]
 refine hK _ ?_; clear hK K
 refine ats_ret (finB rfl ?_)
 rfl
theorem zeros_ok (r c : Nat) (hr : r ≤ 1048576) (hc : c ≤ 1048576) : FreshCall Tryz.prog 25 [.int r, .int c] (.l2 (List.replicate r (List.replicate c 0))) := by
 refine FreshCall.intro (n := 17) (rs := [.tmp 4]) Tryz.call25 Tryz.func25 rfl rfl rfl (by simp only [List.length_cons, List.length_nil]; omega) (fun cx hcx => ats_of ?_); simp only [argSlots, Nat.zero_add, Nat.reduceAdd]
 refine gA ?_
 refine gA ?_
 refine gA ?_
 (repeat refine ats_seq ?_); refine ats_loop (fun i : Nat => ⟨[(1, .int c), (5, .ref 0 []), (7, .int r), (8, .int i)], [(0, .t2 (List.replicate i (List.replicate c 0)))]⟩) (fun i => i ≤ r) (fun i => r - i) 0 (Nat.zero_le _) (by
  refine And.intro ?_ rfl
  simp only [SlotsLe, St.get, slotGet, Nat.reduceEqDiff, ↓reduceIte, true_and, and_true, AV.int.injEq]
  rfl) (fun i hi => ?_)
 have hl : (List.replicate i (List.replicate c (0 : Int))).length = i := List.length_replicate
 refine gA ?_
 refine gI (fun hli => ?_) fun hli => ?_
 ·refine ats_skip ?_
  (repeat refine ats_seq ?_); refine ats_block ?_
  refine gC fun K hK => ?_
  simp only [hl]
  (repeat refine aI (hb := ?_))
  refine hK _ ?_; clear hK K
  refine gB ?_
  refine ⟨i + 1,  by omega, by omega, .inl ⟨by simp only [leS, Nat.reduceEqDiff, ↓reduceIte, true_and, and_true]; omega,  by simp only [List.replicate_succ']⟩⟩
 ·obtain rfl : i = r := by omega
  refine ats_exit (lq_x ?_)
  refine gA ?_
  exact ats_ret (ownV (is := [0]) rfl ⟨rfl, trivial⟩ rfl (by simp))
end Go.Proofs.YtjpdkdepbkmebaaGreat
namespace Go.Proofs.YtjpdkdepbkmebaaGreat
open Go Go.Aw Go.Pl
def trF (a : List (List Int)) (i k : Nat) (p q : Nat) : Int := if q < i ∨ (q = i ∧ p < k) then e2 a q p else 0
theorem transpose_ok (a : List (List Int)) (h0 : 0 < a.length) (h1 : a.length ≤ 16) (hm : (a.getD 0 []).length ≤ 16) (hr : ∀ i, i < a.length → (a.getD i []).length = (a.getD 0 []).length) : FreshCall Tryz.prog 71 [.l2 a] (.l2 (turnM a)) := by
 have hz := zeros_ok (a.getD 0 []).length a.length (by omega) (by omega)
 rw [zeros_matF] at hz
 refine FreshCall.intro (n := 39) (rs := [.tmp 2]) Tryz.call71 Tryz.func71 rfl rfl rfl (by simp only [List.length_cons, List.length_nil]; omega) (fun cx hcx => ats_of ?_); simp only [argSlots, Nat.zero_add, Nat.reduceAdd]
 refine gA ?_
 refine gC fun K hK => ?_
 (repeat refine aI (hb := ?_))
 refine fcall_own rfl (hz) rfl ?_; simp only [go_sem, seval]
 refine hK _ ?_; clear hK K
 refine gA ?_
 (repeat refine ats_seq ?_); refine ats_loop (fun i : Nat => ⟨[(3, .ref 0 []), (15, .l2 a), (16, .int a.length), (17, .int i)], [(0, .t2 (matF (a.getD 0 []).length a.length (trF a i 0)))]⟩) (fun i => i ≤ a.length) (fun i => a.length - i) 0 (Nat.zero_le _) (by
  refine And.intro ?_ (by
   simp only [List.cons_append, List.nil_append]
   rw [show matF (a.getD 0 []).length a.length (trF a 0 0) = matF (a.getD 0 []).length a.length (fun _ _ => 0) from matF_congr fun x _ y _ => if_neg (by omega)])
  simp only [SlotsLe, St.get, slotGet, Nat.reduceEqDiff, ↓reduceIte, true_and, and_true, AV.int.injEq]
  rfl) (fun i hi => ?_)
 refine gA ?_
 refine gI (fun hli => ?_) fun hli => ?_
 ·have hri := hr i (by omega)
  refine ats_skip ?_
  (repeat refine ats_seq ?_); refine ats_block ?_
  refine gB ?_
  refine gA ?_
  (repeat refine ats_seq ?_); refine ats_loop (fun k : Nat => ⟨[(3, .ref 0 []), (15, .l2 a), (16, .int a.length), (17, .int i), (4, .int i), (22, .l1 (a.getD i [])), (23, .int (a.getD i []).length), (24, .int k)], [(0, .t2 (matF (a.getD 0 []).length a.length (trF a i k)))]⟩) (fun k => k ≤ (a.getD i []).length) (fun k => (a.getD i []).length - k) 0 (Nat.zero_le _) (by
   refine And.intro ?_ rfl
   simp only [SlotsLe, St.get, slotGet, Nat.reduceEqDiff, ↓reduceIte, true_and, and_true, AV.int.injEq]
   rfl) (fun k hk => ?_)
  refine gA ?_
  refine gI (fun hlk => ?_) fun hlk => ?_
  ·have hg := matF_get (r := (a.getD 0 []).length) (c := a.length) (f := trF a i k) (show k < (a.getD 0 []).length by omega)
   have hstep : (matF (a.getD 0 []).length a.length (trF a i k)).set k ((rowF a.length (trF a i k k)).set i ((a.getD i []).getD k 0)) = matF (a.getD 0 []).length a.length (trF a i (k + 1)) := by
    rw [← hg, matF_set (show k < (a.getD 0 []).length by omega)]
    refine matF_congr fun x hx y hy => ?_
    unfold trF
    by_cases h1 : x = k ∧ y = i
    ·rw [if_pos h1, if_pos (.inr ⟨h1.2, by omega⟩), h1.1, h1.2]
    ·rw [if_neg h1]
     by_cases h3 : y < i ∨ (y = i ∧ x < k)
     ·rw [if_pos h3, if_pos (by omega)]
     ·rw [if_neg h3, if_neg (by omega)]
   refine ats_skip ?_
   (repeat refine ats_seq ?_); refine ats_block ?_
   refine gB ?_
   refine gC fun K hK => ?_
   simp only [matF_length, hg, rowF_length]
   (repeat refine aI (hb := ?_))
   refine hK _ ?_; clear hK K
   refine gB ?_
   refine ⟨k + 1,  by omega, by omega, .inl ⟨by simp only [leS, Nat.reduceEqDiff, ↓reduceIte, true_and, and_true]; omega,  by rw [hstep]⟩⟩
  ·refine ats_exit (lq_x (ats_nil (bq_n ?_)))
   refine gB ?_
   refine ⟨i + 1,  by omega, by omega, .inl ⟨by simp only [leS, Nat.reduceEqDiff, ↓reduceIte, true_and, and_true]; omega,  by rw [show matF (a.getD 0 []).length a.length (trF a (i + 1) 0) = matF (a.getD 0 []).length a.length (trF a i k) from matF_congr fun x hx y hy => by unfold trF; by_cases h3 : y < i ∨ (y = i ∧ x < k); rw [if_pos h3, if_pos (by omega)]; rw [if_neg h3, if_neg (by omega)]]⟩⟩
 ·obtain rfl : i = a.length := by omega
  have e : matF (a.getD 0 []).length a.length (trF a a.length 0) = turnM a := by
   rw [turnM_matF]
   exact matF_congr fun x hx y hy => if_pos (.inl hy)
  refine ats_exit (lq_x ?_)
  refine gA ?_
  rw [e]
  exact ats_ret (ownV (is := [0]) rfl ⟨rfl, trivial⟩ rfl (by simp))
end Go.Proofs.YtjpdkdepbkmebaaGreat
namespace Go.Proofs.YtjpdkdepbkmebaaGreat
open Go Go.Aw Go.Pl
end Go.Proofs.YtjpdkdepbkmebaaGreat
namespace Go.Proofs.YtjpdkdepbkmebaaGreat
open Go Go.Aw Go.Pl
end Go.Proofs.YtjpdkdepbkmebaaGreat
namespace Go.Proofs.YtjpdkdepbkmebaaGreat
open Go Go.Aw Go.Pl
end Go.Proofs.YtjpdkdepbkmebaaGreat
