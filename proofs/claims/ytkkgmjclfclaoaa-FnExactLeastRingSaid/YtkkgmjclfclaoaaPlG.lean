import Derived.Test.YtkkgmjclfclaoaaPl1
set_option linter.unusedSimpArgs false
set_option linter.unusedVariables false
namespace Go.Pl
open Go.Aw
def InP (x : Int) : Prop := 0 ≤ x ∧ x ≤ 55440
def pwL (out a : Int) (k : Nat) : Int := if k = 0 then out else pwL (if k % 2 = 1 then out * a % 55441 else out) (a * a % 55441) (k / 2)
termination_by k
decreasing_by omega
def pw (a : Int) (k : Nat) : Int := pwL 1 a k
def inv (a : Int) : Int := pw a 55439
def MatP (n : Nat) (a : List (List Int)) : Prop := a.length = n ∧ ∀ i, i < n → (a.getD i []).length = n ∧ ∀ j, j < n → InP (e2 a i j)
theorem MatP.row {n : Nat} {a : List (List Int)} (h : MatP n a) {i : Nat} (hi : i < n) : (a.getD i []).length = n := (h.2 i hi).1
def pG (a b : List (List Int)) (i j k : Nat) : Int := e2 a i k * e2 b k j
def mulM (a b : List (List Int)) (n : Nat) : List (List Int) := matF n n (fun i j => sumTo (pG a b i j) n % 55441)
def Shape (s : List (List Int)) (t : List Int) : Prop := 1 ≤ t.length ∧ t.length ≤ 16 ∧ MatP t.length s ∧ ∀ i, i < t.length → InP (t.getD i 0)
def wG (s : List (List Int)) (i : Nat) : Int := e2 s 0 i * e2 s 0 i
def wholeD (s : List (List Int)) (n : Nat) : Int := sumTo (wG s) n % 55441
def StartP (s : List (List Int)) (t : List Int) : Prop := (∀ i, i < t.length → ∀ j, j < t.length → e2 s i j = e2 s j i) ∧ e2 s 0 0 = 1 ∧ t.getD 0 0 = 1 ∧ (∀ i, i < t.length → e2 s 0 i ≠ 0) ∧ ∀ i, i < t.length → t.getD i 0 ≠ 0
def sqD (s : List (List Int)) (n : Nat) : List (List Int) := mulM s s n
def cI (s : List (List Int)) (n i : Nat) : Int := fidx (fun x => !decide (x = 0)) ((sqD s n).getD i [])
def Good (s : List (List Int)) (n i : Nat) : Prop := 0 ≤ cI s n i ∧ e2 (sqD s n) i (cI s n i).toNat = wholeD s n ∧ ∀ k, k < n → k ≠ (cI s n i).toNat → e2 (sqD s n) i k = 0
def StepOk (s : List (List Int)) (t : List Int) (i : Nat) : Prop := Good s t.length i ∧ (∀ j, j < i → cI s t.length j ≠ cI s t.length i) ∧ t.getD (cI s t.length i).toNat 0 = t.getD i 0 ∧ (i = 0 ↔ cI s t.length i = 0)
def cL (s : List (List Int)) (n : Nat) : List Int := (List.range n).map (cI s n)
noncomputable def cj (s : List (List Int)) (t : List Int) : Option (List Int) := @ite _ (∀ i, i < t.length → StepOk s t i) (Classical.propDecidable _) (some (cL s t.length)) none
def gG (s : List (List Int)) (t : List Int) (i : Nat) : Int := e2 s 0 i * e2 s 0 i % 55441 * t.getD i 0
def gaussD (s : List (List Int)) (t : List Int) (n : Nat) : Int := sumTo (gG s t) n % 55441
def uD (s : List (List Int)) (t : List Int) (n : Nat) : List (List Int) := matF n n (fun i j => e2 s i j * t.getD j 0 % 55441)
def cubeD (s : List (List Int)) (t : List Int) (n : Nat) : List (List Int) := mulM (mulM (uD s t n) (uD s t n) n) (uD s t n) n
def TurnP (s : List (List Int)) (t : List Int) : Prop := ∀ i, i < t.length → ∀ j, j < t.length → e2 (cubeD s t t.length) i j = gaussD s t t.length * e2 (sqD s t.length) i j % 55441
def cubF (n : Nat) (f : Nat → Nat → Nat → Int) : List (List (List Int)) := (List.range n).map fun i => matF n n (f i)
def nG (s : List (List Int)) (n : Nat) (c : List Int) (i j k l : Nat) : Int := e2 s i l * e2 s j l * inv (e2 s 0 l) * e2 s (c.getD k 0).toNat l
def numD (s : List (List Int)) (n : Nat) (c : List Int) : List (List (List Int)) := cubF n (fun i j k => sumTo (nG s n c i j k) n * inv (wholeD s n) % 55441)
noncomputable def dF (s : List (List Int)) (t : List Int) : Int :=
  if bd (StartP s t) = true then (if wholeD s t.length = 0 then 1 else match cj s t with
    | none => 2
    | some c => if bd (TurnP s t) = true then (if isRing (numD s t.length c) = true then -1 else 4) else 3) else 0
noncomputable def isData (s : List (List Int)) (t : List Int) : Bool := bd (Shape s t ∧ dF s t = -1)
end Go.Pl
