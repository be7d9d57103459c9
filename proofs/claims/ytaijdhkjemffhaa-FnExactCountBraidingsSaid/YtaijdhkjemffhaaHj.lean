import Derived.Test.YtaijdhkjemffhaaPlBb
import Derived.Test.YtaijdhkjemffhaaHi
import Derived.Test.YtaijdhkjemffhaaLib6
import Derived.Test.YtaijdhkjemffhaaWx4
set_option linter.unusedSimpArgs false
set_option linter.unusedVariables false
namespace Go.Proofs.Ytaijdhkjemffhaa
open Go Go.Aw Go.Pl
theorem bOwn_ok (xs : List Int) (hl : xs.length ≤ 1099511627776) : FreshCall Try.prog 44 [.l1 xs] (.l1 xs) := by
  refine FreshCall.intro (n := 6) (rs := [.tmp 2]) Try.call44 Try.func44 rfl rfl rfl (by simp only [List.length_cons, List.length_nil]; omega) (fun cx hcx => ats_of ?_); simp only [argSlots, Nat.zero_add, Nat.reduceAdd]
  (repeat refine ats_seq ?_); refine ats_go (by first | exact fix0 hcx | exact fix1 hcx rfl) fun K hK => ?_; simp only [go_sem, seval]; refine hK _ ?_; clear hK K
  (repeat refine ats_seq ?_); refine ats_go (by first | exact fix0 hcx | exact fix1 hcx rfl) fun K hK => ?_; simp only [go_sem, seval]
  (repeat refine And.intro (by first | omega | (intro hq; first | omega | (simp at hq <;> omega) | (simp_all <;> omega))) ?_)
  refine hK _ ?_; clear hK K
  exact ats_ret (ownV (is := [0]) rfl ⟨rfl, trivial⟩ rfl (by simp))
end Go.Proofs.Ytaijdhkjemffhaa
