/-
  Sums over surfaces. Of no program.
-/
import Derived.Test.YtafkbnicffieeaaPlK
set_option linter.unusedSimpArgs false
set_option linter.unusedVariables false
namespace Go.Pl
open Go.Aw

def labB (n : Nat) (cs : List Int) : Bool := !(cs.any fun x => !(decide (0 ≤ x) && decide (x ≤ (n : Int) - 1))) && decide (cs.length ≤ 8)
theorem any_rng {n : Nat} {cs : List Int} : (!(cs.any fun x => !(decide (0 ≤ x) && decide (x ≤ (n : Int) - 1)))) = true ↔ ∀ i, i < cs.length → 0 ≤ cs.getD i 0 ∧ cs.getD i 0 < n := by
  have h : (∀ x ∈ cs, 0 ≤ x ∧ x < (n : Int)) ↔ ∀ i, i < cs.length → 0 ≤ cs.getD i 0 ∧ cs.getD i 0 < n := all_getD
  rw [← h]
  simp only [Bool.not_eq_true', List.any_eq_false, Bool.not_eq_true, Bool.not_eq_false', Bool.not_eq_false, Bool.and_eq_true, decide_eq_true_eq]
  constructor
  · intro h x hx; have := h x hx; omega
  · intro h x hx; have := h x hx; omega
theorem labB_iff {n : Nat} {cs : List Int} : labB n cs = true ↔ (∀ i, i < cs.length → 0 ≤ cs.getD i 0 ∧ cs.getD i 0 < n) ∧ cs.length ≤ 8 := by
  unfold labB
  rw [Bool.and_eq_true, any_rng, decide_eq_true_eq]
def pr (s : List (List Int)) (cs : List Int) (x : Int) (l : Nat) : Nat → Int
  | 0 => x
  | i + 1 => pr s cs x l i * e2 s (cs.getD i 0).toNat l % 55441
theorem pr_InP {s : List (List Int)} {cs : List Int} {x : Int} {l : Nat} (h : InP x) : ∀ i, InP (pr s cs x l i)
  | 0 => h
  | _ + 1 => inP_md _
theorem pr_mul {s : List (List Int)} {cs : List Int} {w x : Int} {l : Nat} : ∀ i, pr s cs (w * x % 55441) l i = w * pr s cs x l i % 55441
  | 0 => rfl
  | i + 1 => by
    show pr s cs (w * x % 55441) l i * _ % 55441 = w * (pr s cs x l i * _ % 55441) % 55441
    rw [pr_mul i, mul_md, md_mul, Int.mul_assoc]
def suE (g : Int) (cs : List Int) : Int := 2 - 2 * g - cs.length
def suT (s : List (List Int)) (g : Int) (cs : List Int) (l i : Nat) : Int := pr s cs (rs (e2 s 0 l) (suE g cs)) l i
def suW (s : List (List Int)) (n : Nat) (g : Int) : Int := rs (wholeD s n) (g - 1)
def suT' (s : List (List Int)) (n : Nat) (g : Int) (cs : List Int) (l i : Nat) : Int := pr s cs (suW s n g * rs (e2 s 0 l) (suE g cs) % 55441) l i
theorem su_eq (s : List (List Int)) (n : Nat) (g : Int) (cs : List Int) : sumTo (fun l => suT s g cs l cs.length) n % 55441 * suW s n g % 55441 = sumTo (fun l => suT' s n g cs l cs.length) n % 55441 := by
  rw [mul_md, ← sum_mul]
  refine sum_cg fun l hl => ?_
  unfold suT' suT
  rw [pr_mul, emd, Int.mul_comm]
noncomputable def suA (s : List (List Int)) (t : List Int) (g : Int) (cs : List Int) : Int × Int := if isData s t then (if (decide (0 ≤ g) && decide (g ≤ 20)) && labB t.length cs then (sumTo (fun l => suT' s t.length g cs l cs.length) t.length % 55441, 0) else (0, 2)) else (0, 1)
end Go.Pl
