import Derived.Test.YtmjcbgpbhlheoaaDoorPl3
import Derived.Test.YtmjcbgpbhlheoaaDoorLib6
import Derived.Test.YtmjcbgpbhlheoaaDoorWz1
import Derived.Test.YtmjcbgpbhlheoaaDoorDz2
set_option linter.unusedSimpArgs false
set_option linter.unusedVariables false
namespace Go.Proofs.YtmjcbgpbhlheoaaDoor
open Go Go.Aw Go.Pl
theorem u64_and : ∀ m : Nat, m < 17 → andK .u64 (m : Int) 4294967295 = m := by decide
theorem u64_and1 : andK .u64 1 4294967295 = 1 := by decide
theorem u64_shr : ∀ m : Nat, m < 17 → (m : Int).fdiv (2 ^ min (32 : Int).toNat (IntKind.bits .u64)) = 0 := by decide
theorem mul64_ok (m : Nat) (hm : m ≤ 16) : PureCall Tryd.prog 85 [.ik .u64 1, .ik .u64 m] (.tup [.ik .u64 0, .ik .u64 m]) := by
 refine PureCall.intro (n := 51) (rs := [.tmp 4, .tmp 5]) Tryd.call85 Tryd.func85 rfl rfl rfl (by simp only [List.length_cons, List.length_nil]; omega) (fun cx hcx => ats_of ?_); simp only [argSlots, Nat.zero_add, Nat.reduceAdd]
 have c1 := u64_and m (by omega)
 have c2 := u64_shr m (by omega)
 have c3 : (m : Int) % 18446744073709551616 = m := by omega
 have c4 := u64_shr 1 (by omega)
 have c5 := u64_shr 0 (by omega)
 simp only [go_sem, seval] at c2
 simp only [go_sem, seval] at c4
 simp only [go_sem, seval] at c5
 refine gC fun K hK => ?_
 try simp only [Int.one_mul, Int.zero_mul, Int.zero_add, Int.add_zero, u64_and1, c1, c2, c3, c4, c5]
 (repeat refine aI (hb := ?_))
 refine hK _ ?_; clear hK K
 refine gC fun K hK => ?_
 try simp only [Int.one_mul, Int.zero_mul, Int.zero_add, Int.add_zero, u64_and1, c1, c2, c3, c4, c5]
 (repeat refine aI (hb := ?_))
 refine hK _ ?_; clear hK K
 refine gC fun K hK => ?_
 try simp only [Int.one_mul, Int.zero_mul, Int.zero_add, Int.add_zero, u64_and1, c1, c2, c3, c4, c5]
 (repeat refine aI (hb := ?_))
 refine hK _ ?_; clear hK K
 refine gC fun K hK => ?_
 try simp only [Int.one_mul, Int.zero_mul, Int.zero_add, Int.add_zero, u64_and1, c1, c2, c3, c4, c5]
 (repeat refine aI (hb := ?_))
 refine hK _ ?_; clear hK K
 refine gC fun K hK => ?_
 try simp only [Int.one_mul, Int.zero_mul, Int.zero_add, Int.add_zero, u64_and1, c1, c2, c3, c4, c5]
 (repeat refine aI (hb := ?_))
 refine hK _ ?_; clear hK K
 refine gC fun K hK => ?_
 try simp only [Int.one_mul, Int.zero_mul, Int.zero_add, Int.add_zero, u64_and1, c1, c2, c3, c4, c5]
 (repeat refine aI (hb := ?_))
 refine hK _ ?_; clear hK K
 refine gC fun K hK => ?_
 try simp only [Int.one_mul, Int.zero_mul, Int.zero_add, Int.add_zero, u64_and1, c1, c2, c3, c4, c5]
 (repeat refine aI (hb := ?_))
 refine hK _ ?_; clear hK K
 refine gC fun K hK => ?_
 try simp only [Int.one_mul, Int.zero_mul, Int.zero_add, Int.add_zero, u64_and1, c1, c2, c3, c4, c5]
 (repeat refine aI (hb := ?_))
 refine hK _ ?_; clear hK K
 refine gC fun K hK => ?_
 try simp only [Int.one_mul, Int.zero_mul, Int.zero_add, Int.add_zero, u64_and1, c1, c2, c3, c4, c5]
 (repeat refine aI (hb := ?_))
 refine hK _ ?_; clear hK K
 refine gC fun K hK => ?_
 try simp only [Int.one_mul, Int.zero_mul, Int.zero_add, Int.add_zero, u64_and1, c1, c2, c3, c4, c5]
 (repeat refine aI (hb := ?_))
 refine hK _ ?_; clear hK K
 refine gC fun K hK => ?_
 try simp only [Int.one_mul, Int.zero_mul, Int.zero_add, Int.add_zero, u64_and1, c1, c2, c3, c4, c5]
 (repeat refine aI (hb := ?_))
 refine hK _ ?_; clear hK K
 refine gC fun K hK => ?_
 try simp only [Int.one_mul, Int.zero_mul, Int.zero_add, Int.add_zero, u64_and1, c1, c2, c3, c4, c5]
 (repeat refine aI (hb := ?_))
 refine hK _ ?_; clear hK K
 exact ats_ret (fin2 trivial trivial rfl)
theorem mul_ok (m : Nat) (hm : m ≤ 16) : PureCall Tryd.prog 77 [.ik .u64 1, .ik .u64 m] (.tup [.ik .u64 0, .ik .u64 m]) := by
 have h := mul64_ok m hm
 refine PureCall.intro (n := 30) (rs := [.tmp 4, .tmp 5]) Tryd.call77 Tryd.func77 rfl rfl rfl (by simp only [List.length_cons, List.length_nil]; omega) (fun cx hcx => ats_of ?_); simp only [argSlots, Nat.zero_add, Nat.reduceAdd]
 refine gB ?_
 (repeat refine ats_seq ?_)
 (repeat refine ats_seq ?_); refine ats_no rfl trivial ?_
 refine ats_skip ?_
 refine gC fun K hK => ?_
 first | refine fcall_data (h) rfl ?_ | refine YR_intro (acall_data (h) rfl) ?_
 simp only [go_sem, seval]
 (repeat refine aI (hb := ?_))
 refine hK _ ?_; clear hK K
 refine gB ?_
 exact ats_ret (fin2 trivial trivial rfl)
def mx (xs : List Int) : Nat → Int
 | 0 => xs.getD 0 0
 | k + 1 => max (mx xs k) (xs.getD (k + 1) 0)
end Go.Proofs.YtmjcbgpbhlheoaaDoor
namespace Go.Proofs.YtmjcbgpbhlheoaaDoor
open Go Go.Aw Go.Pl
end Go.Proofs.YtmjcbgpbhlheoaaDoor
namespace Go.Proofs.YtmjcbgpbhlheoaaDoor
open Go Go.Aw Go.Pl
end Go.Proofs.YtmjcbgpbhlheoaaDoor
namespace Go.Proofs.YtmjcbgpbhlheoaaDoor
open Go Go.Aw Go.Pl
end Go.Proofs.YtmjcbgpbhlheoaaDoor
