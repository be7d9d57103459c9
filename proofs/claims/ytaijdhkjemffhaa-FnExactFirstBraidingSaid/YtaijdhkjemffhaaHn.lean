import Derived.Test.YtaijdhkjemffhaaHj
set_option linter.unusedSimpArgs false
set_option linter.unusedVariables false
namespace Go.Proofs.Ytaijdhkjemffhaa
open Go Go.Aw Go.Pl
theorem restN_ok (o : List Int) (m : Int) (n : Int) (h1 : 1 ≤ m) (h2 : m ≤ 1000) : PureCall Try.prog 74 [.agg [.l1 o, .int m, .nil], .int n] (.int (n % m)) := by
  have a1 : -m < n.tmod m := by
    have := Int.tmod_lt_of_pos (-n) (show 0 < m by omega)
    rw [Int.neg_tmod] at this
    omega
  have a2 := Int.tmod_lt_of_pos n (show 0 < m by omega)
  have a3 := rest_eq (n := n) h1
  have a4 := Int.emod_nonneg n (show m ≠ 0 by omega)
  have a5 := Int.emod_lt_of_pos n (show 0 < m by omega)
  refine PureCall.intro (n := 15) (rs := [.tmp 4]) Try.call74 Try.func74 rfl rfl rfl (by simp only [List.length_cons, List.length_nil]; omega) (fun cx hcx => ats_of ?_); simp only [argSlots, Nat.zero_add, Nat.reduceAdd]
  (repeat refine ats_seq ?_); refine ats_go (fix0 hcx) fun K hK => ?_; simp only [go_sem, seval]; refine hK _ ?_; clear hK K
  (repeat refine ats_seq ?_); refine ats_pick (fix0 hcx) mixed (by kernel_rfl) fun K hK => ?_; simp only [go_sem, seval]
  simp only [a3]
  (repeat refine And.intro (by first | omega | (intro hq; first | omega | (simp at hq <;> omega) | (simp_all <;> omega))) ?_)
  refine hK _ ?_; clear hK K
  refine ats_ret (finI rfl ?_)
  rfl
end Go.Proofs.Ytaijdhkjemffhaa
