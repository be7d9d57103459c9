import Derived.Test.YtlngnhbochmcoaaPl3
import Derived.Test.YtlngnhbochmcoaaKp1
set_option linter.unusedSimpArgs false
set_option linter.unusedVariables false
namespace Go.Pl
open Go.Aw
def aX7 (a b c i j k : Nat) : Prop := a < i ∨ (a = i ∧ (b < j ∨ (b = j ∧ c < k)))
instance (a b c i j k : Nat) : Decidable (aX7 a b c i j k) := by unfold aX7; infer_instance
end Go.Pl
namespace Go.Pl
open Go.Aw
section
variable {t : List (List (List Int))} {x y : List Int} {X Y : Int}
end
end Go.Pl
namespace Go.Pl
open Go.Aw
section
variable {t : Cu}
theorem at0 (h : RingP t) {i j : Nat} (hi : i < t.length) (hj : j < t.length) : e3 t i j 0 = if (j : Int) = dual t i then 1 else 0 := by
 have d := h.dual i hi
 have d2 := h.dual j hj
 have h0 := h.cube.1
 have a : e3 t i j 0 = e3 t 0 (dual t j).toNat i := h.turn2 i hi j hj 0 (by omega)
 rw [a, h.left _ (by omega) i hi]
 unfold dl
 by_cases e : (j : Int) = dual t i
 ·rw [if_pos e]
  have : dual t j = i := by
   have := h.invo i hi
   rw [← e] at this
   simpa using this
  rw [if_pos (by rw [this]; simp)]
 ·rw [if_neg e, if_neg ?_]
  intro h2
  apply e
  have h3 := h.invo j hj
  have h4 : (dual t j).toNat = i := by omega
  rw [h4] at h3
  exact h3.symm
end
end Go.Pl
