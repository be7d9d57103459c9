import Derived.Test.YtikbecmheibggaaGreatPlL
import Derived.Test.YtikbecmheibggaaGreatPlF
set_option linter.unusedSimpArgs false
set_option linter.unusedVariables false
namespace Go.Pl
open Go.Aw
theorem ext_getD {α : Type} {d : α} {xs ys : List α} (hl : xs.length = ys.length) (h : ∀ i, i < xs.length → xs.getD i d = ys.getD i d) : xs = ys := by
  apply List.ext_getElem hl
  intro i h1 h2
  have := h i h1
  simpa [List.getD, List.getElem?_eq_getElem h1, List.getElem?_eq_getElem h2] using this
def CommP (t : List (List (List Int))) : Prop := ∀ i, i < t.length → ∀ j, j < t.length → (t.getD i []).getD j [] = (t.getD j []).getD i []
def oppR (t : List (List (List Int))) (i j : Nat) : List (List Int) := (List.range j).map fun j => (t.getD j []).getD i []
def oppL (t : List (List (List Int))) (i : Nat) : List (List (List Int)) := (List.range i).map fun i => oppR t i t.length
def ListP (t : List (List (List Int))) (x : List Int) : Prop := x.length = t.length ∧ numsB x = true
def MulP (t : List (List (List Int))) (x : List Int) : Prop := ∀ i, i < t.length → ∀ j, j < t.length → dotP ((t.getD i []).getD j []) x t.length = x.getD i 0 * x.getD j 0 % 55441
def CharP (t : List (List (List Int))) (x : List Int) : Prop := MulP t x ∧ x.getD 0 0 = 1
theorem ListP.inP {t : List (List (List Int))} {x : List Int} (h : ListP t x) : ∀ i, i < t.length → InP (x.getD i 0) := fun i hi => numsB_iff.1 h.2 i (by rw [h.1]; exact hi)
noncomputable def codeA (t : List (List (List Int))) : Int := if isRing t = true then (if bd (CommP t) = true then 0 else 5) else 1
noncomputable def charC (t : List (List (List Int))) (x : List Int) : Int := if codeA t = 0 then (if bd (ListP t x ∧ CharP t x) = true then 0 else 2) else codeA t
def tnL (t : List (List (List Int))) (x : List Int) : List Int := (ds t).map fun k => x.getD k.toNat 0
def pairN (t : List (List (List Int))) (x : List Int) : Int := dotP x (tnL t x) t.length
def idL (t : List (List (List Int))) (x : List Int) : List Int := (tnL t x).map fun v => v * inv (pairN t x) % 55441
noncomputable def idemA (t : List (List (List Int))) (x : List Int) : AV := if charC t x = 0 then (if pairN t x = 0 then .tup [.nil, .int 5] else .tup [.l1 (idL t x), .int 0]) else .tup [.nil, .int (charC t x)]
end Go.Pl
