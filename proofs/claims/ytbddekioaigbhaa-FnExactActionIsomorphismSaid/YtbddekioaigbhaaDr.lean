import Derived.Test.YtbddekioaigbhaaDq
import Derived.Test.YtbddekioaigbhaaDk
import Derived.Test.YtbddekioaigbhaaHd
set_option linter.unusedSimpArgs false
set_option linter.unusedVariables false
namespace Go.Proofs.Ytbddekioaigbhaa
open Go Go.Aw Go.Pl

theorem l01Own_ok (xs : List Int) (hl : xs.length ≤ 1099511627776) : FreshCall Try.prog 52 [.l1 xs] (.l1 xs) := by
  refine FreshCall.intro (n := 6) (rs := [.tmp 2]) Try.call52 Try.func52 rfl rfl rfl (by simp only [List.length_cons, List.length_nil]; omega) (fun cx hcx => ats_of ?_); simp only [argSlots, Nat.zero_add, Nat.reduceAdd]
  (repeat refine ats_seq ?_); refine ats_go (by first | exact fix0 hcx | exact fix1 hcx rfl) fun K hK => ?_; simp only [go_sem, seval]; refine hK _ ?_; clear hK K
  (repeat refine ats_seq ?_); refine ats_go (by first | exact fix0 hcx | exact fix1 hcx rfl) fun K hK => ?_; simp only [go_sem, seval]
  (repeat refine And.intro (by first | omega | (intro hq; first | omega | (simp at hq <;> omega) | (simp_all <;> omega))) ?_)
  refine hK _ ?_; clear hK K
  exact ats_ret (ownV (is := [0]) rfl ⟨rfl, trivial⟩ rfl (by simp))
noncomputable def dimA (s : List (List Int)) (t : List Int) : AV := if isData s t then .tup [.l1 (s.getD 0 []), .int 0] else .tup [.nil, .int 1]
theorem dimA_shape (s : List (List Int)) (t : List Int) : ∃ (u : Option (List Int)) (c : Int), dimA s t = .tup [optA u, .int c] ∧ ∀ v, u = some v → v.length ≤ 1048576 := by
  unfold dimA
  cases h : isData s t with
  | false => exact ⟨none, 1, rfl, fun _ h => by cases h⟩
  | true =>
    have hs := (isData_some h).1
    have h1 := hs.1
    have h16 := hs.2.1
    have r0 := hs.2.2.1.row (show 0 < t.length by omega)
    exact ⟨some (s.getD 0 []), 0, rfl, fun v hv => by cases hv; omega⟩
noncomputable def conA (s : List (List Int)) (t : List Int) : AV := if isData s t then .tup [.l1 (cL s t.length), .int 0] else .tup [.nil, .int 1]
theorem conA_shape (s : List (List Int)) (t : List Int) : ∃ (u : Option (List Int)) (c : Int), conA s t = .tup [optA u, .int c] ∧ ∀ v, u = some v → v.length ≤ 1048576 := by
  unfold conA
  cases h : isData s t with
  | false => exact ⟨none, 1, rfl, fun _ h => by cases h⟩
  | true =>
    have hs := (isData_some h).1
    have h16 := hs.2.1
    have lc := cL_length (s := s) t.length
    exact ⟨some (cL s t.length), 0, rfl, fun v hv => by cases hv; omega⟩
end Go.Proofs.Ytbddekioaigbhaa
