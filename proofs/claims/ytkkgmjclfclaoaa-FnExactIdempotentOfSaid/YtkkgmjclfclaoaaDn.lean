import Derived.Test.YtkkgmjclfclaoaaDm
set_option linter.unusedSimpArgs false
set_option linter.unusedVariables false
namespace Go.Proofs.Ytkkgmjclfclaoaa
open Go Go.Aw Go.Pl

def inC (t : List Int) (a : Int) : Bool := decide (0 ≤ a) && decide (a ≤ (t.length : Int) - 1)
noncomputable def chg (s : List (List Int)) (t : List Int) (a : Int) : Int := if isData s t then (if inC t a then 0 else 2) else 1
theorem inC_true {t : List Int} {a : Int} (h : inC t a = true) : 0 ≤ a ∧ a < t.length := by
  simp only [inC, Bool.and_eq_true, decide_eq_true_eq] at h
  omega
noncomputable def gsA (s : List (List Int)) (t : List Int) (g : Int) : Int × Int := if isData s t then (if g = 1 then (gaussD s t t.length, 0) else if g = -1 then (gaussD s (ivF t) t.length, 0) else (0, 2)) else (0, 1)
end Go.Proofs.Ytkkgmjclfclaoaa
