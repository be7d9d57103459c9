import Derived.Test.YtfnokakbdehlgaaDoorPl2
set_option linter.unusedSimpArgs false
set_option linter.unusedVariables false
namespace Go.Pl
open Go.Aw
def labB (n : Nat) (cs : List Int) : Bool := !(cs.any fun x => !(decide (0 ≤ x) && decide (x ≤ (n : Int) - 1))) && decide (cs.length ≤ 8)
def pr (s : List (List Int)) (cs : List Int) (x : Int) (l : Nat) : Nat → Int
 | 0 => x
 | i + 1 => pr s cs x l i * e2 s (cs.getD i 0).toNat l % 55441
def suE (g : Int) (cs : List Int) : Int := 2 - 2 * g - cs.length
def suT (s : List (List Int)) (g : Int) (cs : List Int) (l i : Nat) : Int := pr s cs (rs (e2 s 0 l) (suE g cs)) l i
def suW (s : List (List Int)) (n : Nat) (g : Int) : Int := rs (wholeD s n) (g - 1)
def suT' (s : List (List Int)) (n : Nat) (g : Int) (cs : List Int) (l i : Nat) : Int := pr s cs (suW s n g * rs (e2 s 0 l) (suE g cs) % 55441) l i
noncomputable def suA (s : List (List Int)) (t : List Int) (g : Int) (cs : List Int) : Int × Int := if isData s t then (if (decide (0 ≤ g) && decide (g ≤ 20)) && labB t.length cs then (sumTo (fun l => suT' s t.length g cs l cs.length) t.length % 55441, 0) else (0, 2)) else (0, 1)
def rngB (a b : Int) (cs : List Int) : Bool := !(cs.any fun x => !(decide (a ≤ x) && decide (x ≤ b)))
def updR (f : Nat → Int) (r : List Int) (n j : Nat) : List Int := rowF n (fun k => if k < j then f k else r.getD k 0)
def avL (a : List (List Int)) (v : List Int) (n : Nat) : List Int := rowF n fun i => dotP (a.getD i []) v n
def lnF (r t : List Int) (a : Int) (k : Nat) : Int := r.getD k 0 * rs (t.getD k 0) a % 55441
def lnR (s : List (List Int)) (t ws : List Int) : Nat → List Int
 | 0 => s.getD 0 []
 | i + 1 => avL s (rowF t.length (lnF (lnR s t ws i) t (ws.getD i 0))) t.length
def lnOk (ws : List Int) : Bool := decide (ws.length ≤ 16) && rngB (-1000) 1000 ws
noncomputable def lnA (s : List (List Int)) (t ws : List Int) : Int × Int := if isData s t then (if lnOk ws then ((lnR s t ws ws.length).getD 0 0, 0) else (0, 2)) else (0, 1)
def LagP (s : List (List Int)) (t v : List Int) : Prop := v.length = t.length ∧ v.getD 0 0 = 1 ∧ (∀ i, i < t.length → (0 ≤ v.getD i 0 ∧ v.getD i 0 ≤ 1000) ∧ (v.getD i 0 ≠ 0 → t.getD i 0 = 1)) ∧ (∀ i, i < t.length → dotP (s.getD i []) v t.length = dotP (s.getD 0 []) v t.length * v.getD i 0 % 55441) ∧ dotP (s.getD 0 []) v t.length * dotP (s.getD 0 []) v t.length % 55441 = wholeD s t.length
noncomputable def lagA (s : List (List Int)) (t v : List Int) : Bool × Int := if isData s t then (bd (LagP s t v), 0) else (false, 1)
def InvP (s : List (List Int)) (t : List Int) (m : List (List Int)) : Prop := MatOk t.length m ∧ e2 m 0 0 = 1 ∧ (∀ i, i < t.length → ∀ j, j < t.length → e2 m i j ≠ 0 → t.getD i 0 = t.getD j 0) ∧ mulM s m t.length = mulM m s t.length
noncomputable def ivA (s : List (List Int)) (t : List Int) (m : List (List Int)) : Bool × Int := if isData s t then (bd (InvP s t m), 0) else (false, 1)
def dS (f : Nat → Nat → Int) (n j l : Nat) : Int := sumTo (fun j => sumTo (f j) n) j + sumTo (f j) l
def gI (s : List (List Int)) (t c : List Int) (a : Nat) (k : Int) (j l : Nat) : Int := numV s t.length c j l a * e2 s 0 j % 55441 * e2 s 0 l % 55441 * rs (t.getD j 0 * inv (t.getD l 0) % 55441) k
def hI (s : List (List Int)) (t c : List Int) (a : Nat) (k : Int) (j l : Nat) : Int := numV s t.length c j l a * (e2 s 0 j * e2 s 0 l % 55441 * rs (t.getD j 0 * inv (t.getD l 0) % 55441) k % 55441) % 55441
def kOk (k : Int) : Bool := decide (-1000 ≤ k) && decide (k ≤ 1000)
def outM (v w : List Int) (n : Nat) : List (List Int) := matF n n (fun i j => v.getD i 0 * w.getD j 0)
theorem LagP.le {s : List (List Int)} {t v : List Int} (h : LagP s t v) : ∀ i, i < t.length → 0 ≤ v.getD i 0 ∧ v.getD i 0 ≤ 1000 := fun i hi => (h.2.2.1 i hi).1
end Go.Pl
namespace Go.Pl
open Go.Aw
def CommP (t : List (List (List Int))) : Prop := ∀ i, i < t.length → ∀ j, j < t.length → (t.getD i []).getD j [] = (t.getD j []).getD i []
def oppR (t : List (List (List Int))) (i j : Nat) : List (List Int) := (List.range j).map fun j => (t.getD j []).getD i []
def oppL (t : List (List (List Int))) (i : Nat) : List (List (List Int)) := (List.range i).map fun i => oppR t i t.length
def ListP (t : List (List (List Int))) (x : List Int) : Prop := x.length = t.length ∧ numsB x = true
def MulP (t : List (List (List Int))) (x : List Int) : Prop := ∀ i, i < t.length → ∀ j, j < t.length → dotP ((t.getD i []).getD j []) x t.length = x.getD i 0 * x.getD j 0 % 55441
def CharP (t : List (List (List Int))) (x : List Int) : Prop := MulP t x ∧ x.getD 0 0 = 1
noncomputable def codeA (t : List (List (List Int))) : Int := if isRing t = true then (if bd (CommP t) = true then 0 else 5) else 1
noncomputable def charC (t : List (List (List Int))) (x : List Int) : Int := if codeA t = 0 then (if bd (ListP t x ∧ CharP t x) = true then 0 else 2) else codeA t
def tnL (t : List (List (List Int))) (x : List Int) : List Int := (ds t).map fun k => x.getD k.toNat 0
def pairN (t : List (List (List Int))) (x : List Int) : Int := dotP x (tnL t x) t.length
def idL (t : List (List (List Int))) (x : List Int) : List Int := (tnL t x).map fun v => v * inv (pairN t x) % 55441
noncomputable def idemA (t : List (List (List Int))) (x : List Int) : AV := if charC t x = 0 then (if pairN t x = 0 then .tup [.nil, .int 5] else .tup [.l1 (idL t x), .int 0]) else .tup [.nil, .int (charC t x)]
end Go.Pl
