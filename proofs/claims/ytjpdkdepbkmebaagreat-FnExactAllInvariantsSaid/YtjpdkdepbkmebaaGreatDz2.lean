import Derived.Test.YtjpdkdepbkmebaaGreatDx1
import Derived.Test.YtjpdkdepbkmebaaGreatDk
import Derived.Test.YtjpdkdepbkmebaaGreatHd
set_option linter.unusedSimpArgs false
set_option linter.unusedVariables false
namespace Go.Proofs.YtjpdkdepbkmebaaGreat
open Go Go.Aw Go.Pl
attribute [go_sem] Tryz.underlying68
end Go.Proofs.YtjpdkdepbkmebaaGreat
namespace Go.Proofs.YtjpdkdepbkmebaaGreat
open Go Go.Aw Go.Pl
theorem l01Own_ok (xs : List Int) (hl : xs.length ≤ 1099511627776) : FreshCall Tryz.prog 55 [.l1 xs] (.l1 xs) := by
 refine FreshCall.intro (n := 6) (rs := [.tmp 2]) Tryz.call55 Tryz.func55 rfl rfl rfl (by simp only [List.length_cons, List.length_nil]; omega) (fun cx hcx => ats_of ?_); simp only [argSlots, Nat.zero_add, Nat.reduceAdd]
 refine gA ?_
 refine gC fun K hK => ?_
 (repeat refine aI (hb := ?_))
 refine hK _ ?_; clear hK K
 exact ats_ret (ownV (is := [0]) rfl ⟨rfl, trivial⟩ rfl (by simp))
theorem markData_ok (s : List (List Int)) (t : List Int) (k : Int) (h0 : 0 ≤ k) (h1 : k + (totD s t : Nat) ≤ 9223372036854775807) : TurnCall Tryz.prog 10 [.agg [.ref 0 [], .ref 1 []], .int k] [(0, .t2 s), (1, .t1 t)] [(0, .t2 (mrk2 s k)), (1, .t1 (mrk1 t (k + (tot2 s : Nat))))] (.int (k + (totD s t : Nat))) := by
 have e : (totD s t : Nat) = tot2 s + t.length := rfl
 have e2 : k + (tot2 s : Nat) + (t.length : Nat) = k + (totD s t : Nat) := by rw [e]; omega
 refine TurnCall.intro (n := 14) (rs := [.tmp 4]) Tryz.call10 Tryz.func10 rfl rfl rfl (by simp only [List.length_cons, List.length_nil]; omega) rfl (by simp [Aw.ids]) rfl rfl rfl (fun cx hcx => ats_of ?_); simp only [argSlots, Nat.zero_add, Nat.reduceAdd]
 refine gA ?_
 refine gC fun K hK => ?_
 refine fcall_turn (fun i => i) (markInt64SS_ok s k h0 (by omega)) rfl rfl rfl (by simp [Aw.ids]) (by simp [find]) ?_; simp only [Aw.ids, renT, List.map_cons, List.map_nil]; simp only [go_sem, seval]
 refine hK _ ?_; clear hK K
 refine gC fun K hK => ?_
 refine fcall_turn (fun _ => 1) (markInt64S_ok t (k + (tot2 s : Nat)) (by omega) (by omega)) rfl rfl rfl (by simp [Aw.ids]) (by simp [find]) ?_; simp only [Aw.ids, renT, List.map_cons, List.map_nil]; simp only [go_sem, seval]
 simp only [e2]
 refine hK _ ?_; clear hK K
 refine gA ?_
 exact ats_ret ⟨.inr rfl, ⟨trivial, rfl⟩, rfl, by simp [find]⟩
end Go.Proofs.YtjpdkdepbkmebaaGreat
namespace Go.Proofs.YtjpdkdepbkmebaaGreat
open Go Go.Aw Go.Pl
end Go.Proofs.YtjpdkdepbkmebaaGreat
