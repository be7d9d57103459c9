import Derived.Test.YtikbecmheibggaaGreatPlK
set_option linter.unusedSimpArgs false
set_option linter.unusedVariables false
namespace Go.Pl
open Go.Aw
def labB (n : Nat) (cs : List Int) : Bool := !(cs.any fun x => !(decide (0 ≤ x) && decide (x ≤ (n : Int) - 1))) && decide (cs.length ≤ 8)
def pr (s : List (List Int)) (cs : List Int) (x : Int) (l : Nat) : Nat → Int
  | 0 => x
  | i + 1 => pr s cs x l i * e2 s (cs.getD i 0).toNat l % 55441
def suE (g : Int) (cs : List Int) : Int := 2 - 2 * g - cs.length
def suT (s : List (List Int)) (g : Int) (cs : List Int) (l i : Nat) : Int := pr s cs (rs (e2 s 0 l) (suE g cs)) l i
def suW (s : List (List Int)) (n : Nat) (g : Int) : Int := rs (wholeD s n) (g - 1)
def suT' (s : List (List Int)) (n : Nat) (g : Int) (cs : List Int) (l i : Nat) : Int := pr s cs (suW s n g * rs (e2 s 0 l) (suE g cs) % 55441) l i
noncomputable def suA (s : List (List Int)) (t : List Int) (g : Int) (cs : List Int) : Int × Int := if isData s t then (if (decide (0 ≤ g) && decide (g ≤ 20)) && labB t.length cs then (sumTo (fun l => suT' s t.length g cs l cs.length) t.length % 55441, 0) else (0, 2)) else (0, 1)
def rngB (a b : Int) (cs : List Int) : Bool := !(cs.any fun x => !(decide (a ≤ x) && decide (x ≤ b)))
theorem rngB_iff {a b : Int} {cs : List Int} : rngB a b cs = true ↔ ∀ i, i < cs.length → a ≤ cs.getD i 0 ∧ cs.getD i 0 ≤ b := by
  have h : (∀ x ∈ cs, a ≤ x ∧ x ≤ b) ↔ ∀ i, i < cs.length → a ≤ cs.getD i 0 ∧ cs.getD i 0 ≤ b := all_getD
  rw [← h]
  unfold rngB
  simp only [Bool.not_eq_true', List.any_eq_false, Bool.not_eq_true, Bool.not_eq_false', Bool.not_eq_false, Bool.and_eq_true, decide_eq_true_eq]
def updR (f : Nat → Int) (r : List Int) (n j : Nat) : List Int := rowF n (fun k => if k < j then f k else r.getD k 0)
def avL (a : List (List Int)) (v : List Int) (n : Nat) : List Int := rowF n fun i => dotP (a.getD i []) v n
def lnF (r t : List Int) (a : Int) (k : Nat) : Int := r.getD k 0 * rs (t.getD k 0) a % 55441
def lnR (s : List (List Int)) (t ws : List Int) : Nat → List Int
  | 0 => s.getD 0 []
  | i + 1 => avL s (rowF t.length (lnF (lnR s t ws i) t (ws.getD i 0))) t.length
theorem dotP_InP (x y : List Int) (n : Nat) : InP (dotP x y n) := inP_md _
def lnOk (ws : List Int) : Bool := decide (ws.length ≤ 16) && rngB (-1000) 1000 ws
noncomputable def lnA (s : List (List Int)) (t ws : List Int) : Int × Int := if isData s t then (if lnOk ws then ((lnR s t ws ws.length).getD 0 0, 0) else (0, 2)) else (0, 1)
theorem dotP_comm (x y : List Int) (n : Nat) : dotP x y n = dotP y x n := by
  unfold dotP
  congr 1
  exact sum_congr fun i _ => by unfold dotG; rw [Int.mul_comm]
def LagP (s : List (List Int)) (t v : List Int) : Prop := v.length = t.length ∧ v.getD 0 0 = 1 ∧ (∀ i, i < t.length → (0 ≤ v.getD i 0 ∧ v.getD i 0 ≤ 1000) ∧ (v.getD i 0 ≠ 0 → t.getD i 0 = 1)) ∧ (∀ i, i < t.length → dotP (s.getD i []) v t.length = dotP (s.getD 0 []) v t.length * v.getD i 0 % 55441) ∧ dotP (s.getD 0 []) v t.length * dotP (s.getD 0 []) v t.length % 55441 = wholeD s t.length
noncomputable def lagA (s : List (List Int)) (t v : List Int) : Bool × Int := if isData s t then (bd (LagP s t v), 0) else (false, 1)
def InvP (s : List (List Int)) (t : List Int) (m : List (List Int)) : Prop := MatOk t.length m ∧ e2 m 0 0 = 1 ∧ (∀ i, i < t.length → ∀ j, j < t.length → e2 m i j ≠ 0 → t.getD i 0 = t.getD j 0) ∧ mulM s m t.length = mulM m s t.length
noncomputable def ivA (s : List (List Int)) (t : List Int) (m : List (List Int)) : Bool × Int := if isData s t then (bd (InvP s t m), 0) else (false, 1)
def dS (f : Nat → Nat → Int) (n j l : Nat) : Int := sumTo (fun j => sumTo (f j) n) j + sumTo (f j) l
def gI (s : List (List Int)) (t c : List Int) (a : Nat) (k : Int) (j l : Nat) : Int := numV s t.length c j l a * e2 s 0 j % 55441 * e2 s 0 l % 55441 * rs (t.getD j 0 * inv (t.getD l 0) % 55441) k
def hI (s : List (List Int)) (t c : List Int) (a : Nat) (k : Int) (j l : Nat) : Int := numV s t.length c j l a * (e2 s 0 j * e2 s 0 l % 55441 * rs (t.getD j 0 * inv (t.getD l 0) % 55441) k % 55441) % 55441
def kOk (k : Int) : Bool := decide (-1000 ≤ k) && decide (k ≤ 1000)
def outM (v w : List Int) (n : Nat) : List (List Int) := matF n n (fun i j => v.getD i 0 * w.getD j 0)
theorem LagP.le {s : List (List Int)} {t v : List Int} (h : LagP s t v) : ∀ i, i < t.length → 0 ≤ v.getD i 0 ∧ v.getD i 0 ≤ 1000 := fun i hi => (h.2.2.1 i hi).1
end Go.Pl
