import Derived.Test.YtcmgjlgmajhekaaHy2
set_option linter.unusedSimpArgs false
set_option linter.unusedVariables false
namespace Go.Proofs.Ytcmgjlgmajhekaa
open Go Go.Aw Go.Pl
attribute [local go_sem] pl_fin pl_stop pl_one pl_alt PK_ap pickO List.getElem?_toArray List.getElem?_cons_zero List.getElem?_cons_succ
end Go.Proofs.Ytcmgjlgmajhekaa
namespace Go.Proofs.Ytcmgjlgmajhekaa
open Go Go.Aw Go.Pl
end Go.Proofs.Ytcmgjlgmajhekaa
namespace Go.Proofs.Ytcmgjlgmajhekaa
open Go Go.Aw Go.Pl
theorem restN_ok (o : List Int) (m : Int) (n : Int) (h1 : 1 ≤ m) (h2 : m ≤ 1000) : PureCall Try.prog 36 [.agg [.l1 o, .int m, .nil], .int n] (.int (n % m)) := by
 have a1 : -m < n.tmod m := by
  have := Int.tmod_lt_of_pos (-n) (show 0 < m by omega)
  rw [Int.neg_tmod] at this
  omega
 have a2 := Int.tmod_lt_of_pos n (show 0 < m by omega)
 have a3 := rest_eq (n := n) h1
 have a4 := Int.emod_nonneg n (show m ≠ 0 by omega)
 have a5 := Int.emod_lt_of_pos n (show 0 < m by omega)
 refine PureCall.intro (n := 15) (rs := [.tmp 4]) Try.call36 Try.func36 rfl rfl rfl (by simp only [List.length_cons, List.length_nil]; omega) (fun cx hcx => ats_of ?_); simp only [argSlots, Nat.zero_add, Nat.reduceAdd]
 refine gA ?_
 (repeat refine ats_seq ?_); refine ats_pick (fix0 hcx) mixed (by kernel_rfl) fun K hK => ?_; simp only [go_sem, seval]
 simp only [a3]
 (repeat refine aI (hb := ?_))
 refine hK _ ?_; clear hK K
 refine ats_ret (finI rfl ?_)
 rfl
end Go.Proofs.Ytcmgjlgmajhekaa
