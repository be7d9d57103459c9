import Derived.Test.YtmjcbgpbhlheoaaDoorLib7
import Derived.Test.YtmjcbgpbhlheoaaDoorTy
import Derived.Test.YtmjcbgpbhlheoaaDoorRows
import Derived.Shelf.Spec.TrailingZeros
import Derived.Test.YtmjcbgpbhlheoaaDoorQd1
import Derived.Test.YtmjcbgpbhlheoaaDoorWx2
import Derived.Test.YtmjcbgpbhlheoaaDoorWx3
import Derived.Test.YtmjcbgpbhlheoaaDoorWz1
import Derived.Test.YtmjcbgpbhlheoaaDoorQd2
set_option linter.unusedSimpArgs false
set_option linter.unusedVariables false
namespace Go.Proofs.YtmjcbgpbhlheoaaDoor
open Go Go.Aw Go.RowKit
theorem tz_zero (w : World) : Calls Tryd.prog 62 #[.int .u64 0] w fun e w' => e = .returned (.int .i64 64) ∧ w' = w := by
 go_enter Tryd.func62, Tryd.ntmps62
 go_wp2
 go_ret
 exact ⟨rfl, rfl⟩
set_option maxHeartbeats 1000000 in
theorem tz_core (x k idx : Nat) (w : World) (hx0 : ((x : Int) == 0) = false)
  (key : bits BinOp.and IntKind.u64 (x : Int) (-(x : Int) % 18446744073709551616) * 285870213051353865 % 18446744073709551616 / 288230376151711744 = (idx : Int))
  (hi : idx < 64) (hk : k < 64) (hcell : w.cell? ⟨0, idx, none⟩ = some (.int .u8 k)) :
  Calls Tryd.prog 62 #[.int .u64 x] w fun e w' => e = .returned (.int .i64 k) ∧ w' = w := by
 go_enter Tryd.func62, Tryd.ntmps62
 go_wp2_with (simp only [key])
 go_ret
 exact ⟨rfl, rfl⟩
theorem tz_tab {w : World} (h : GlobOk w) (i : Nat) (hi : i < 64) : w.cell? ⟨0, i, none⟩ = some (.int .u8 ((Lib.deBruijn64tab.getD i 0 : Nat) : Int)) := by
 have _seat := (62 : Nat)
 refine (h (0, (Lib.deBruijn64tab.map fun n : Nat => Value.int .u8 (n : Int))) (by unfold glC Lib.deBruijn64tab; exact List.mem_singleton.2 rfl)).2 i _ ?_
 rw [List.getElem?_map, List.getElem?_eq_getElem (show i < Lib.deBruijn64tab.length from hi), List.getD_eq_getElem?_getD, List.getElem?_eq_getElem (show i < Lib.deBruijn64tab.length from hi)]
 rfl
theorem tz_ok (x : Nat) (hx : x < 18446744073709551616) : PureCall Tryd.prog 62 [.ik .u64 x] (.int (Lib.ctz 64 x : Nat)) := by
 refine ⟨Tryd.call62, fun vs w S hS hd => ?_⟩
 match vs, hd with
 | [v], hd =>
  obtain rfl : v = .int .u64 x := by have := hd.1; simpa only [Rd, rep] using this
  have key : Calls Tryd.prog 62 #[.int .u64 x] w fun e w' => e = .returned (.int .i64 (Lib.ctz 64 x)) ∧ w' = w := by
   by_cases hx0 : x = 0
   ·subst hx0
    exact tz_zero w
   ·obtain ⟨hlow, hk⟩ := Lib.lowest_bit 64 x hx0 hx
    obtain ⟨hi, htab⟩ := Lib.deBruijn64_at _ hk
    have hcell := tz_tab hS.2 _ hi
    rw [htab] at hcell
    have hky := tz64_key x _ hx hx0 hlow
    simp only [IntKind.wrap_u64] at hky
    exact tz_core x _ _ w (by simp; omega) hky hi hk hcell
  refine key.mono ?_
  rintro e w' ⟨rfl, rfl⟩
  refine ⟨_, rfl, Below.refl _ _, ?_⟩
  simp only [Rd, rep]
  refine ⟨trivial, ?_⟩
  have : Lib.ctz 64 x ≤ 64 := by
   by_cases hx0 : x = 0
   ·subst hx0; decide
   ·have := (Lib.lowest_bit 64 x hx0 hx).2
    omega
  unfold InR
  omega
end Go.Proofs.YtmjcbgpbhlheoaaDoor
namespace Go.Proofs.YtmjcbgpbhlheoaaDoor
open Go Go.Aw Go.Pl
end Go.Proofs.YtmjcbgpbhlheoaaDoor
namespace Go.Proofs.YtmjcbgpbhlheoaaDoor
open Go Go.Aw Go.Pl
end Go.Proofs.YtmjcbgpbhlheoaaDoor
namespace Go.Proofs.YtmjcbgpbhlheoaaDoor
open Go Go.Aw Go.Pl
end Go.Proofs.YtmjcbgpbhlheoaaDoor
