import Derived.Test.YtphokmkmpelnfaaDq
import Derived.Test.YtphokmkmpelnfaaDk
import Derived.Test.YtphokmkmpelnfaaHd
set_option linter.unusedSimpArgs false
set_option linter.unusedVariables false
namespace Go.Proofs.Ytphokmkmpelnfaa
open Go Go.Aw Go.Pl

noncomputable def dimA (s : List (List Int)) (t : List Int) : AV := if isData s t then .tup [.l1 (s.getD 0 []), .int 0] else .tup [.nil, .int 1]
theorem dimA_shape (s : List (List Int)) (t : List Int) : ∃ (u : Option (List Int)) (c : Int), dimA s t = .tup [optA u, .int c] ∧ ∀ v, u = some v → v.length ≤ 1048576 := by
  unfold dimA
  cases h : isData s t with
  | false => exact ⟨none, 1, rfl, fun _ h => by cases h⟩
  | true =>
    have hs := (isData_some h).1
    have h1 := hs.1
    have h16 := hs.2.1
    have r0 := hs.2.2.1.row (show 0 < t.length by omega)
    exact ⟨some (s.getD 0 []), 0, rfl, fun v hv => by cases hv; omega⟩
noncomputable def conA (s : List (List Int)) (t : List Int) : AV := if isData s t then .tup [.l1 (cL s t.length), .int 0] else .tup [.nil, .int 1]
theorem conA_shape (s : List (List Int)) (t : List Int) : ∃ (u : Option (List Int)) (c : Int), conA s t = .tup [optA u, .int c] ∧ ∀ v, u = some v → v.length ≤ 1048576 := by
  unfold conA
  cases h : isData s t with
  | false => exact ⟨none, 1, rfl, fun _ h => by cases h⟩
  | true =>
    have hs := (isData_some h).1
    have h16 := hs.2.1
    have lc := cL_length (s := s) t.length
    exact ⟨some (cL s t.length), 0, rfl, fun v hv => by cases hv; omega⟩
theorem markData_ok (s : List (List Int)) (t : List Int) (k : Int) (h0 : 0 ≤ k) (h1 : k + (totD s t : Nat) ≤ 9223372036854775807) : TurnCall Try.prog 15 [.agg [.ref 0 [], .ref 1 []], .int k] [(0, .t2 s), (1, .t1 t)] [(0, .t2 (mrk2 s k)), (1, .t1 (mrk1 t (k + (tot2 s : Nat))))] (.int (k + (totD s t : Nat))) := by
  have e : (totD s t : Nat) = tot2 s + t.length := rfl
  have e2 : k + (tot2 s : Nat) + (t.length : Nat) = k + (totD s t : Nat) := by rw [e]; omega
  refine TurnCall.intro (n := 14) (rs := [.tmp 4]) Try.call15 Try.func15 rfl rfl rfl (by simp only [List.length_cons, List.length_nil]; omega) rfl (by simp [Aw.ids]) rfl rfl rfl (fun cx hcx => ats_of ?_); simp only [argSlots, Nat.zero_add, Nat.reduceAdd]
  (repeat refine ats_seq ?_); refine ats_go (by first | exact fix0 hcx | exact fix1 hcx rfl) fun K hK => ?_; simp only [go_sem, seval]; refine hK _ ?_; clear hK K
  (repeat refine ats_seq ?_); refine ats_go (by first | exact fix0 hcx | exact fix1 hcx rfl) fun K hK => ?_; simp only [go_sem, seval]
  refine fcall_turn (fun i => i) (markInt64SS_ok s k h0 (by omega)) rfl rfl rfl (by simp [Aw.ids]) (by simp [find]) ?_; simp only [Aw.ids, renT, List.map_cons, List.map_nil]; simp only [go_sem, seval]
  refine hK _ ?_; clear hK K
  (repeat refine ats_seq ?_); refine ats_go (by first | exact fix0 hcx | exact fix1 hcx rfl) fun K hK => ?_; simp only [go_sem, seval]
  refine fcall_turn (fun _ => 1) (markInt64S_ok t (k + (tot2 s : Nat)) (by omega) (by omega)) rfl rfl rfl (by simp [Aw.ids]) (by simp [find]) ?_; simp only [Aw.ids, renT, List.map_cons, List.map_nil]; simp only [go_sem, seval]
  simp only [e2]
  refine hK _ ?_; clear hK K
  (repeat refine ats_seq ?_); refine ats_go (by first | exact fix0 hcx | exact fix1 hcx rfl) fun K hK => ?_; simp only [go_sem, seval]; refine hK _ ?_; clear hK K
  exact ats_ret ⟨.inr rfl, ⟨trivial, rfl⟩, rfl, by simp [find]⟩
theorem heldData_ok (s : List (List Int)) (t : List Int) (k : Int) (h0 : 0 ≤ k) (h1 : k + (totD s t : Nat) ≤ 9223372036854775807) : PureCall Try.prog 25 [.agg [.l2 (mrk2 s k), .l1 (mrk1 t (k + (tot2 s : Nat)))], .int k] (.int (k + (totD s t : Nat))) := by
  have e : (totD s t : Nat) = tot2 s + t.length := rfl
  have e2 : k + (tot2 s : Nat) + (t.length : Nat) = k + (totD s t : Nat) := by rw [e]; omega
  have hh := heldInt64S_ok t.length (k + (tot2 s : Nat)) (by omega) (by omega)
  rw [e2] at hh
  refine PureCall.intro (n := 18) (rs := [.tmp 4]) Try.call25 Try.func25 rfl rfl rfl (by simp only [List.length_cons, List.length_nil]; omega) (fun cx hcx => ats_of ?_); simp only [argSlots, Nat.zero_add, Nat.reduceAdd]
  (repeat refine ats_seq ?_); refine ats_go (by first | exact fix0 hcx | exact fix1 hcx rfl) fun K hK => ?_; simp only [go_sem, seval]; refine hK _ ?_; clear hK K
  (repeat refine ats_seq ?_); refine ats_go (by first | exact fix0 hcx | exact fix1 hcx rfl) fun K hK => ?_; simp only [go_sem, seval]
  first | refine fcall_free rfl rfl (heldInt64SS_ok s k h0 (by omega)) ?_ | refine YR_intro (acall_free rfl rfl (heldInt64SS_ok s k h0 (by omega))) ?_
  simp only [go_sem, seval]
  refine hK _ ?_; clear hK K
  (repeat refine ats_seq ?_); refine ats_go (by first | exact fix0 hcx | exact fix1 hcx rfl) fun K hK => ?_; simp only [go_sem, seval]; refine hK _ ?_; clear hK K
  (repeat refine ats_seq ?_); first | refine ats_ifn (p := _) rfl trivial (fun hc => ?_) (fun hc => ?_) | refine ats_ifp (p := _) rfl trivial (fun hc => ?_) (fun hc => ?_) | refine ats_cond rfl trivial (fun hc => ?_) (fun hc => ?_)
  · omega
  · refine ats_skip ?_
    (repeat refine ats_seq ?_); refine ats_go (by first | exact fix0 hcx | exact fix1 hcx rfl) fun K hK => ?_; simp only [go_sem, seval]
    first | refine fcall_free rfl rfl (hh) ?_ | refine YR_intro (acall_free rfl rfl (hh)) ?_
    simp only [go_sem, seval]
    refine hK _ ?_; clear hK K
    (repeat refine ats_seq ?_); refine ats_go (by first | exact fix0 hcx | exact fix1 hcx rfl) fun K hK => ?_; simp only [go_sem, seval]; refine hK _ ?_; clear hK K
    (repeat refine ats_seq ?_); first | refine ats_ifn (p := _) rfl trivial (fun hd => ?_) (fun hd => ?_) | refine ats_ifp (p := _) rfl trivial (fun hd => ?_) (fun hd => ?_) | refine ats_cond rfl trivial (fun hd => ?_) (fun hd => ?_)
    · omega
    · refine ats_skip ?_
      (repeat refine ats_seq ?_); refine ats_go (by first | exact fix0 hcx | exact fix1 hcx rfl) fun K hK => ?_; simp only [go_sem, seval]; refine hK _ ?_; clear hK K
      refine ats_ret (finI rfl ?_)
      rfl
end Go.Proofs.Ytphokmkmpelnfaa
