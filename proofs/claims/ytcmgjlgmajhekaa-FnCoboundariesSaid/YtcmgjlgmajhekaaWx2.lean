import Derived.Test.YtcmgjlgmajhekaaWx1
import Derived.Test.YtcmgjlgmajhekaaPl1
set_option linter.unusedSimpArgs false
set_option linter.unusedVariables false
namespace Go.Proofs.Ytcmgjlgmajhekaa
open Go Go.Aw Go.Pl
theorem l01In_ok (n a b : Int) : PureCall Try.prog 30 [.int n, .int a, .int b] (.bool (decide (a ≤ n) && decide (n ≤ b))) := by
 refine PureCall.intro (n := 15) (rs := [.tmp 6]) Try.call30 Try.func30 rfl rfl rfl (by simp only [List.length_cons, List.length_nil]; omega) (fun cx hcx => ats_of ?_); simp only [argSlots, Nat.zero_add, Nat.reduceAdd]
 refine gA ?_
 refine gA ?_
 refine ats_ret (finB rfl ?_)
 rfl
end Go.Proofs.Ytcmgjlgmajhekaa
namespace Go.Proofs.Ytcmgjlgmajhekaa
open Go Go.Aw Go.Pl
theorem within_ok (n a b : Int) : PureCall Try.prog 63 [.int n, .int a, .int b] (.bool (decide (a ≤ n) && decide (n ≤ b))) := by
 refine PureCall.intro (n := 15) (rs := [.tmp 6]) Try.call63 Try.func63 rfl rfl rfl (by simp only [List.length_cons, List.length_nil]; omega) (fun cx hcx => ats_of ?_); simp only [argSlots, Nat.zero_add, Nat.reduceAdd]
 refine gA ?_
 refine gA ?_
 refine ats_ret (finB rfl ?_)
 rfl
theorem indexF1_ok (xs : List Int) (f : Nat) (caps : List AV) (p : Int → Bool) (hd : areData caps = true) (hf : ∀ x, PureCall Try.prog f (.int x :: caps) (.bool (p x))) : PureCall Try.prog 91 [.l1 xs, .fn f caps] (.int (fidx p xs)) := by
 refine PureCall.intro (n := 19) (rs := [.tmp 4]) Try.call91 Try.func91 rfl rfl rfl (by simp only [List.length_cons, List.length_nil]; omega) (fun cx hcx => ats_of ?_); simp only [argSlots, Nat.zero_add, Nat.reduceAdd]
 refine gA ?_
 refine ats_know 0 fun h0 => ?_; simp only [St.get, slotGet, Nat.reduceEqDiff, ↓reduceIte, if_true, fact, facts] at h0
 have hlen := h0.1
 refine gA ?_
 (repeat refine ats_seq ?_); refine ats_loop (fun k : Nat => ⟨[(0, .l1 xs), (1, .fn f caps), (7, .int xs.length), (8, .int k)], []⟩) (fun k => k ≤ xs.length ∧ ∀ i, i < k → p (xs.getD i 0) = false) (fun k => xs.length - k) 0 ⟨Nat.zero_le _, fun a h => absurd h (Nat.not_lt_zero a)⟩ (by
  refine And.intro ?_ rfl; simp only [leS, Nat.reduceEqDiff, ↓reduceIte, true_and, and_true]
  rfl) (fun k hk => ?_)
 obtain ⟨hk, hK'⟩ := hk
 refine gA ?_
 refine gI (fun h1 => ?_) fun h1 => ?_
 ·refine ats_skip ?_
  (repeat refine ats_seq ?_); refine ats_block ?_
  refine gA ?_
  refine gC fun K hK => ?_
  (repeat refine aI (hb := ?_))
  refine fcall_data (hf _) (by simp only [areData, isData, hd, Bool.and_true]) ?_
  simp only [go_sem, seval]
  refine hK _ ?_; clear hK K
  refine gI (fun h2 => ?_) fun h2 => ?_
  ·refine gA ?_
   refine ats_ret (finI rfl ?_)
   exact (fidx_some (d := 0) (by omega) hK' h2).symm
  ·refine ats_skip ?_
   refine gB ?_
   refine ⟨k + 1,  ⟨by omega, fun a ha => by rcases Nat.lt_succ_iff_lt_or_eq.1 ha with h | rfl; exact hK' a h; exact h2⟩, by omega, .inl ⟨?_, rfl⟩⟩; simp only [leS, Nat.reduceEqDiff, ↓reduceIte, true_and, and_true]
   omega
 ·refine ats_exit (lq_x ?_)
  refine gA ?_
  refine ats_ret (finI rfl ?_)
  exact (fidx_none (d := 0) (fun i hi => hK' i (by omega))).symm
theorem indexF2_ok (xs : List (List Int)) (f : Nat) (caps : List AV) (p : List Int → Bool) (hd : areData caps = true) (hf : ∀ x, PureCall Try.prog f (.l1 x :: caps) (.bool (p x))) : PureCall Try.prog 66 [.l2 xs, .fn f caps] (.int (fidx p xs)) := by
 refine PureCall.intro (n := 19) (rs := [.tmp 4]) Try.call66 Try.func66 rfl rfl rfl (by simp only [List.length_cons, List.length_nil]; omega) (fun cx hcx => ats_of ?_); simp only [argSlots, Nat.zero_add, Nat.reduceAdd]
 refine gA ?_
 refine ats_know 0 fun h0 => ?_; simp only [St.get, slotGet, Nat.reduceEqDiff, ↓reduceIte, if_true, fact, facts] at h0
 have hlen := h0.1
 refine gA ?_
 (repeat refine ats_seq ?_); refine ats_loop (fun k : Nat => ⟨[(0, .l2 xs), (1, .fn f caps), (7, .int xs.length), (8, .int k)], []⟩) (fun k => k ≤ xs.length ∧ ∀ i, i < k → p (xs.getD i []) = false) (fun k => xs.length - k) 0 ⟨Nat.zero_le _, fun a h => absurd h (Nat.not_lt_zero a)⟩ (by
  refine And.intro ?_ rfl; simp only [leS, Nat.reduceEqDiff, ↓reduceIte, true_and, and_true]
  rfl) (fun k hk => ?_)
 obtain ⟨hk, hK'⟩ := hk
 refine gA ?_
 refine gI (fun h1 => ?_) fun h1 => ?_
 ·refine ats_skip ?_
  (repeat refine ats_seq ?_); refine ats_block ?_
  refine gA ?_
  refine gC fun K hK => ?_
  (repeat refine aI (hb := ?_))
  refine fcall_data (hf _) (by simp only [areData, isData, hd, Bool.and_true]) ?_
  simp only [go_sem, seval]
  refine hK _ ?_; clear hK K
  refine gI (fun h2 => ?_) fun h2 => ?_
  ·refine gA ?_
   refine ats_ret (finI rfl ?_)
   exact (fidx_some (d := []) (by omega) hK' h2).symm
  ·refine ats_skip ?_
   refine gB ?_
   refine ⟨k + 1,  ⟨by omega, fun a ha => by rcases Nat.lt_succ_iff_lt_or_eq.1 ha with h | rfl; exact hK' a h; exact h2⟩, by omega, .inl ⟨?_, rfl⟩⟩; simp only [leS, Nat.reduceEqDiff, ↓reduceIte, true_and, and_true]
   omega
 ·refine ats_exit (lq_x ?_)
  refine gA ?_
  refine ats_ret (finI rfl ?_)
  exact (fidx_none (d := []) (fun i hi => hK' i (by omega))).symm
theorem containsF1_ok (xs : List Int) (f : Nat) (caps : List AV) (p : Int → Bool) (hd : areData caps = true) (hf : ∀ x, PureCall Try.prog f (.int x :: caps) (.bool (p x))) : PureCall Try.prog 88 [.l1 xs, .fn f caps] (.bool (xs.any p)) := by
 refine PureCall.intro (n := 9) (rs := [.tmp 4]) Try.call88 Try.func88 rfl rfl rfl (by simp only [List.length_cons, List.length_nil]; omega) (fun cx hcx => ats_of ?_); simp only [argSlots, Nat.zero_add, Nat.reduceAdd]
 refine gA ?_
 refine gC fun K hK => ?_
 refine fcall_data (indexF1_ok xs f caps p hd hf) (by simp only [areData, isData, hd, Bool.and_true]) ?_
 simp only [go_sem, seval]
 refine hK _ ?_; clear hK K
 refine ats_ret (finB rfl ?_)
 exact fidx_any
theorem containsF2_ok (xs : List (List Int)) (f : Nat) (caps : List AV) (p : List Int → Bool) (hd : areData caps = true) (hf : ∀ x, PureCall Try.prog f (.l1 x :: caps) (.bool (p x))) : PureCall Try.prog 80 [.l2 xs, .fn f caps] (.bool (xs.any p)) := by
 refine PureCall.intro (n := 9) (rs := [.tmp 4]) Try.call80 Try.func80 rfl rfl rfl (by simp only [List.length_cons, List.length_nil]; omega) (fun cx hcx => ats_of ?_); simp only [argSlots, Nat.zero_add, Nat.reduceAdd]
 refine gA ?_
 refine gC fun K hK => ?_
 refine fcall_data (indexF2_ok xs f caps p hd hf) (by simp only [areData, isData, hd, Bool.and_true]) ?_
 simp only [go_sem, seval]
 refine hK _ ?_; clear hK K
 refine ats_ret (finB rfl ?_)
 exact fidx_any
theorem allWithin1_ok (a b n : Int) : PureCall Try.prog 89 [.int n, .cptr [.int a] 0, .cptr [.int b] 0] (.bool (!(decide (a ≤ n) && decide (n ≤ b)))) := by
 refine PureCall.intro (n := 10) (rs := [.tmp 4]) Try.call89 Try.func89 rfl rfl rfl (by simp only [List.length_cons, List.length_nil]; omega) (fun cx hcx => ats_of ?_); simp only [argSlots, Nat.zero_add, Nat.reduceAdd]
 refine gA ?_
 refine gC fun K hK => ?_
 first | refine fcall_data (within_ok _ _ _) rfl ?_ | refine YR_intro (acall_data (within_ok _ _ _) rfl) ?_
 simp only [go_sem, seval]
 refine hK _ ?_; clear hK K
 refine ats_ret (finB rfl ?_)
 rfl
theorem allWithin_ok (xs : List Int) (a b : Int) : PureCall Try.prog 82 [.l1 xs, .int a, .int b] (.bool (!(xs.any fun n => !(decide (a ≤ n) && decide (n ≤ b))))) := by
 refine PureCall.intro (n := 11) (rs := [.tmp 6]) Try.call82 Try.func82 rfl rfl rfl (by simp only [List.length_cons, List.length_nil]; omega) (fun cx hcx => ats_of ?_); simp only [argSlots, Nat.zero_add, Nat.reduceAdd]
 refine gA ?_
 refine gC fun K hK => ?_
 first | refine fcall_free rfl rfl (containsF1_ok xs 89 [.cptr [.int a] 0, .cptr [.int b] 0] (fun n => !(decide (a ≤ n) && decide (n ≤ b))) rfl (fun n => allWithin1_ok a b n)) ?_ | refine YR_intro (acall_free rfl rfl (containsF1_ok xs 89 [.cptr [.int a] 0, .cptr [.int b] 0] (fun n => !(decide (a ≤ n) && decide (n ≤ b))) rfl (fun n => allWithin1_ok a b n))) ?_
 simp only [go_sem, seval]
 refine hK _ ?_; clear hK K
 refine ats_ret (finB rfl ?_)
 rfl
end Go.Proofs.Ytcmgjlgmajhekaa
namespace Go.Proofs.Ytcmgjlgmajhekaa
open Go Go.Aw Go.Pl
end Go.Proofs.Ytcmgjlgmajhekaa
namespace Go.Proofs.Ytcmgjlgmajhekaa
open Go Go.Aw Go.Pl
end Go.Proofs.Ytcmgjlgmajhekaa
namespace Go.Proofs.Ytcmgjlgmajhekaa
open Go Go.Aw Go.Pl
end Go.Proofs.Ytcmgjlgmajhekaa
namespace Go.Proofs.Ytcmgjlgmajhekaa
open Go Go.Aw Go.Pl
end Go.Proofs.Ytcmgjlgmajhekaa
