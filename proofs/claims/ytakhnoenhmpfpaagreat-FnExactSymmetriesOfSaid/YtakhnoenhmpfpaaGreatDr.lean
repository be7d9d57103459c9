import Derived.Test.YtakhnoenhmpfpaaGreatDq
import Derived.Test.YtakhnoenhmpfpaaGreatDk
import Derived.Test.YtakhnoenhmpfpaaGreatHd
set_option linter.unusedSimpArgs false
set_option linter.unusedVariables false
namespace Go.Proofs.YtakhnoenhmpfpaaGreat
open Go Go.Aw Go.Pl
theorem l01Own_ok (xs : List Int) (hl : xs.length ≤ 1099511627776) : FreshCall Tryz.prog 42 [.l1 xs] (.l1 xs) := by
  refine FreshCall.intro (n := 6) (rs := [.tmp 2]) Tryz.call42 Tryz.func42 rfl rfl rfl (by simp only [List.length_cons, List.length_nil]; omega) (fun cx hcx => ats_of ?_); simp only [argSlots, Nat.zero_add, Nat.reduceAdd]
  (repeat refine ats_seq ?_); refine ats_go (by first | exact fix0 hcx | exact fix1 hcx rfl) fun K hK => ?_; simp only [go_sem, seval]; refine hK _ ?_; clear hK K
  (repeat refine ats_seq ?_); refine ats_go (by first | exact fix0 hcx | exact fix1 hcx rfl) fun K hK => ?_; simp only [go_sem, seval]
  (repeat refine And.intro (by first | omega | (intro hq; first | omega | (simp at hq <;> omega) | (simp_all <;> omega))) ?_)
  refine hK _ ?_; clear hK K
  exact ats_ret (ownV (is := [0]) rfl ⟨rfl, trivial⟩ rfl (by simp))
theorem clone_ok (xs : List Int) (h1 : 0 < xs.length) (hl : xs.length ≤ 1099511627776) : FreshCall Tryz.prog 31 [.l1 xs] (.l1 xs) := by
  refine FreshCall.intro (n := 8) (rs := [.tmp 2]) Tryz.call31 Tryz.func31 rfl rfl rfl (by simp only [List.length_cons, List.length_nil]; omega) (fun cx hcx => ats_of ?_); simp only [argSlots, Nat.zero_add, Nat.reduceAdd]
  (repeat refine ats_seq ?_); refine ats_go (fix0 hcx) fun K hK => ?_; simp only [go_sem, seval]; refine hK _ ?_; clear hK K
  (repeat refine ats_seq ?_); refine ats_go (fix0 hcx) fun K hK => ?_; simp only [go_sem, seval]; (repeat refine And.intro (by first | omega | (intro hq; first | omega | (simp at hq <;> omega) | (simp_all <;> omega))) ?_); refine hK _ ?_; clear hK K
  (repeat refine ats_seq ?_); refine ats_no rfl trivial ?_
  refine ats_skip ?_
  (repeat refine ats_seq ?_); refine ats_go (fix0 hcx) fun K hK => ?_; simp only [go_sem, seval]
  (repeat refine And.intro (by first | omega | (intro hq; first | omega | (simp at hq <;> omega) | (simp_all <;> omega))) ?_)
  refine hK _ ?_; clear hK K
  exact ats_ret (ownV (is := [0]) rfl ⟨rfl, trivial⟩ rfl (by simp))
noncomputable def dimA (s : List (List Int)) (t : List Int) : AV := if isData s t then .tup [.l1 (s.getD 0 []), .int 0] else .tup [.nil, .int 1]
noncomputable def conA (s : List (List Int)) (t : List Int) : AV := if isData s t then .tup [.l1 (cL s t.length), .int 0] else .tup [.nil, .int 1]
theorem markData_ok (s : List (List Int)) (t : List Int) (k : Int) (h0 : 0 ≤ k) (h1 : k + (totD s t : Nat) ≤ 9223372036854775807) : TurnCall Tryz.prog 10 [.agg [.ref 0 [], .ref 1 []], .int k] [(0, .t2 s), (1, .t1 t)] [(0, .t2 (mrk2 s k)), (1, .t1 (mrk1 t (k + (tot2 s : Nat))))] (.int (k + (totD s t : Nat))) := by
  have e : (totD s t : Nat) = tot2 s + t.length := rfl
  have e2 : k + (tot2 s : Nat) + (t.length : Nat) = k + (totD s t : Nat) := by rw [e]; omega
  refine TurnCall.intro (n := 14) (rs := [.tmp 4]) Tryz.call10 Tryz.func10 rfl rfl rfl (by simp only [List.length_cons, List.length_nil]; omega) rfl (by simp [Aw.ids]) rfl rfl rfl (fun cx hcx => ats_of ?_); simp only [argSlots, Nat.zero_add, Nat.reduceAdd]
  (repeat refine ats_seq ?_); refine ats_go (by first | exact fix0 hcx | exact fix1 hcx rfl) fun K hK => ?_; simp only [go_sem, seval]; refine hK _ ?_; clear hK K
  (repeat refine ats_seq ?_); refine ats_go (by first | exact fix0 hcx | exact fix1 hcx rfl) fun K hK => ?_; simp only [go_sem, seval]
  refine fcall_turn (fun i => i) (markInt64SS_ok s k h0 (by omega)) rfl rfl rfl (by simp [Aw.ids]) (by simp [find]) ?_; simp only [Aw.ids, renT, List.map_cons, List.map_nil]; simp only [go_sem, seval]
  refine hK _ ?_; clear hK K
  (repeat refine ats_seq ?_); refine ats_go (by first | exact fix0 hcx | exact fix1 hcx rfl) fun K hK => ?_; simp only [go_sem, seval]
  refine fcall_turn (fun _ => 1) (markInt64S_ok t (k + (tot2 s : Nat)) (by omega) (by omega)) rfl rfl rfl (by simp [Aw.ids]) (by simp [find]) ?_; simp only [Aw.ids, renT, List.map_cons, List.map_nil]; simp only [go_sem, seval]
  simp only [e2]
  refine hK _ ?_; clear hK K
  (repeat refine ats_seq ?_); refine ats_go (by first | exact fix0 hcx | exact fix1 hcx rfl) fun K hK => ?_; simp only [go_sem, seval]; refine hK _ ?_; clear hK K
  exact ats_ret ⟨.inr rfl, ⟨trivial, rfl⟩, rfl, by simp [find]⟩
end Go.Proofs.YtakhnoenhmpfpaaGreat
