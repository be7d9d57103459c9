import Derived.Test.YthhjcdnfflcikaaGreatDx1
import Derived.Test.YthhjcdnfflcikaaGreatDk
import Derived.Test.YthhjcdnfflcikaaGreatHd
set_option linter.unusedSimpArgs false
set_option linter.unusedVariables false
namespace Go.Proofs.YthhjcdnfflcikaaGreat
open Go Go.Aw Go.Pl
attribute [go_sem] Tryz.underlying60
end Go.Proofs.YthhjcdnfflcikaaGreat
namespace Go.Proofs.YthhjcdnfflcikaaGreat
open Go Go.Aw Go.Pl
theorem l01Own_ok (xs : List Int) (hl : xs.length ≤ 1099511627776) : FreshCall Tryz.prog 49 [.l1 xs] (.l1 xs) := by
 refine FreshCall.intro (n := 6) (rs := [.tmp 2]) Tryz.call49 Tryz.func49 rfl rfl rfl (by simp only [List.length_cons, List.length_nil]; omega) (fun cx hcx => ats_of ?_); simp only [argSlots, Nat.zero_add, Nat.reduceAdd]
 refine gA ?_
 refine gC fun K hK => ?_
 (repeat refine aI (hb := ?_))
 refine hK _ ?_; clear hK K
 exact ats_ret (ownV (is := [0]) rfl ⟨rfl, trivial⟩ rfl (by simp))
theorem clone_ok (xs : List Int) (h1 : 0 < xs.length) (hl : xs.length ≤ 1099511627776) : FreshCall Tryz.prog 31 [.l1 xs] (.l1 xs) := by
 refine FreshCall.intro (n := 8) (rs := [.tmp 2]) Tryz.call31 Tryz.func31 rfl rfl rfl (by simp only [List.length_cons, List.length_nil]; omega) (fun cx hcx => ats_of ?_); simp only [argSlots, Nat.zero_add, Nat.reduceAdd]
 refine gA ?_
 refine gB ?_
 (repeat refine ats_seq ?_); refine ats_no rfl trivial ?_
 refine ats_skip ?_
 refine gC fun K hK => ?_
 (repeat refine aI (hb := ?_))
 refine hK _ ?_; clear hK K
 exact ats_ret (ownV (is := [0]) rfl ⟨rfl, trivial⟩ rfl (by simp))
end Go.Proofs.YthhjcdnfflcikaaGreat
namespace Go.Proofs.YthhjcdnfflcikaaGreat
open Go Go.Aw Go.Pl
end Go.Proofs.YthhjcdnfflcikaaGreat
