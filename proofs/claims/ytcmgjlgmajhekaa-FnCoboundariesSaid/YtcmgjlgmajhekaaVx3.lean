import Derived.Test.YtcmgjlgmajhekaaVx2
set_option linter.unusedSimpArgs false
set_option linter.unusedVariables false
namespace Go.Proofs.Ytcmgjlgmajhekaa
open Go Go.Aw Go.Pl
theorem idxV_ok (xs : List (List Int)) (f : Nat) (caps : List AV) (p : List Int → Bool) (hd : areData caps = true) (hf : ∀ i, i < xs.length → PureCall Try.prog f (.l1 (xs.getD i []) :: caps) (.bool (p (xs.getD i [])))) (j : Nat) (hj : j ≤ xs.length) (h0 : ∀ i, i < j → p (xs.getD i []) = false) (h1 : j < xs.length → p (xs.getD j []) = true) : PureCall Try.prog 66 [.l2 xs, .fn f caps] (.int (if j < xs.length then (j : Int) else -1)) := by
 refine PureCall.intro (n := 19) (rs := [.tmp 4]) Try.call66 Try.func66 rfl rfl rfl (by simp only [List.length_cons, List.length_nil]; omega) (fun cx hcx => ats_of ?_); simp only [argSlots, Nat.zero_add, Nat.reduceAdd]
 refine gA ?_
 refine ats_know 0 fun hw => ?_; simp only [St.get, slotGet, Nat.reduceEqDiff, ↓reduceIte, if_true, fact, facts] at hw
 have hlen := hw.1
 refine gA ?_
 (repeat refine ats_seq ?_); refine ats_loop (fun k : Nat => ⟨[(0, .l2 xs), (1, .fn f caps), (7, .int xs.length), (8, .int k)], []⟩) (fun k => k ≤ j) (fun k => j - k) 0 (Nat.zero_le _) (by refine And.intro ?_ rfl; simp only [leS, Nat.reduceEqDiff, ↓reduceIte, true_and, and_true]; repeat' (first | rfl | with_reducible refine And.intro ?_ ?_ | omega)) (fun k hk => ?_)
 refine gA ?_
 refine gI (fun h2 => ?_) fun h2 => ?_
 ·have hf1 := hf k (by omega)
  by_cases e : k = j
  ·subst e
   rw [h1 (by omega)] at hf1
   refine ats_skip ?_
   (repeat refine ats_seq ?_); refine ats_block ?_
   refine gA ?_
   refine gC fun K hK => ?_
   (repeat refine aI (hb := ?_))
   refine fcall_data hf1 (by simp only [areData, Aw.isData, hd, Bool.and_true]) ?_
   simp only [go_sem, seval]
   refine hK _ ?_; clear hK K
   (repeat refine ats_seq ?_); refine ats_yes rfl trivial ?_
   refine gA ?_
   refine ats_ret (finI rfl ?_)
   rw [if_pos (by omega)]
  ·rw [h0 k (by omega)] at hf1
   refine ats_skip ?_
   (repeat refine ats_seq ?_); refine ats_block ?_
   refine gA ?_
   refine gC fun K hK => ?_
   (repeat refine aI (hb := ?_))
   refine fcall_data hf1 (by simp only [areData, Aw.isData, hd, Bool.and_true]) ?_
   simp only [go_sem, seval]
   refine hK _ ?_; clear hK K
   (repeat refine ats_seq ?_); refine ats_no rfl trivial ?_
   refine ats_skip ?_
   refine gB ?_
   refine ⟨k + 1,  by omega, by omega, .inl ⟨by simp only [leS, Nat.reduceEqDiff, ↓reduceIte, true_and, and_true]; omega,  rfl⟩⟩
 ·refine ats_exit (lq_x ?_)
  refine gA ?_
  refine ats_ret (finI rfl ?_)
  rw [if_neg (by omega)]
end Go.Proofs.Ytcmgjlgmajhekaa
namespace Go.Proofs.Ytcmgjlgmajhekaa
open Go Go.Aw Go.Pl
end Go.Proofs.Ytcmgjlgmajhekaa
