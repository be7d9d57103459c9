import Derived.Test.YtmjcbgpbhlheoaaPl3
import Derived.Test.YtmjcbgpbhlheoaaPl5
import Derived.Test.YtmjcbgpbhlheoaaKp1
import Derived.Test.YtmjcbgpbhlheoaaPl2
set_option linter.unusedSimpArgs false
set_option linter.unusedVariables false
namespace Go.Pl
open Go.Aw
def cubG (n : Nat) (f : Nat → Nat → Nat → Int) : List (List (List Int)) := (List.range n).map fun u => matF n n (f u)
theorem cubG_length {n : Nat} {f : Nat → Nat → Nat → Int} : (cubG n f).length = n := by simp [cubG]
theorem cubG_get {n : Nat} {f : Nat → Nat → Nat → Int} {i : Nat} (h : i < n) : (cubG n f).getD i [] = matF n n (f i) := by simp [cubG, List.getD, h]
theorem mat_of {n : Nat} {m : List (List Int)} (h : MatOk n m) : m = matF n n (e2 m) := by
 refine ext_getD (d := []) (by rw [matF_length]; exact h.1) (fun i hi => ?_)
 rw [h.1] at hi
 rw [matF_get hi]
 refine ext_getD (d := 0) (by rw [rowF_length]; exact h.row hi) (fun j hj => ?_)
 rw [h.row hi] at hj
 rw [rowF_get hj]
theorem cub_of {t : List (List (List Int))} (h : Cube t) : t = cubG t.length (fun i j k => e3 t i j k) := by
 refine ext_getD (d := []) cubG_length.symm (fun i hi => ?_)
 rw [cubG_get hi]
 exact mat_of (h.2.2 i hi)
theorem cubG_Sh {n : Nat} {f : Nat → Nat → Nat → Int} : Sh n n (cubG n f) :=
 ⟨cubG_length, fun m hm => by
  simp only [cubG, List.mem_map, List.mem_range] at hm
  obtain ⟨k, _, rfl⟩ := hm
  exact matF_Sh⟩
theorem Cube.sh {t : List (List (List Int))} (h : Cube t) : Sh t.length t.length t := by
 have h2 := cubG_Sh (n := t.length) (f := fun i j k => e3 t i j k)
 rwa [← cub_of h] at h2
def befor (a b c i j k : Nat) : Prop := a < i ∨ (a = i ∧ (b < j ∨ (b = j ∧ c < k)))
instance (a b c i j k : Nat) : Decidable (befor a b c i j k) := by unfold befor; infer_instance
end Go.Pl
namespace Go.Pl
open Go.Aw
section
variable {t : List (List (List Int))} {x y : List Int} {X Y : Int}
end
end Go.Pl
namespace Go.Pl
open Go.Aw
section
variable {t : Cu}
theorem at0 (h : RingP t) {i j : Nat} (hi : i < t.length) (hj : j < t.length) : e3 t i j 0 = if (j : Int) = dual t i then 1 else 0 := by
 have d := h.dual i hi
 have d2 := h.dual j hj
 have h0 := h.cube.1
 have a : e3 t i j 0 = e3 t 0 (dual t j).toNat i := h.turn2 i hi j hj 0 (by omega)
 rw [a, h.left _ (by omega) i hi]
 unfold dl
 by_cases e : (j : Int) = dual t i
 ·rw [if_pos e]
  have : dual t j = i := by
   have := h.invo i hi
   rw [← e] at this
   simpa using this
  rw [if_pos (by rw [this]; simp)]
 ·rw [if_neg e, if_neg ?_]
  intro h2
  apply e
  have h3 := h.invo j hj
  have h4 : (dual t j).toNat = i := by omega
  rw [h4] at h3
  exact h3.symm
end
end Go.Pl
