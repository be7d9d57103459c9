import Derived.Test.YtkkgmjclfclaoaaDl
set_option linter.unusedSimpArgs false
set_option linter.unusedVariables false
namespace Go.Proofs.Ytkkgmjclfclaoaa
open Go Go.Aw Go.Pl

theorem inv_one {x : Int} (h : InP x) : 1 * inv x % 55441 = inv x := by
  have h1 := inv_InP h
  unfold InP at h1
  rw [Int.one_mul]
  omega

noncomputable def centA (s : List (List Int)) (t : List Int) : Int × Int := if isData s t then (gaussD s t t.length * inv (gaussD s (ivF t) t.length) % 55441, 0) else (0, 1)
end Go.Proofs.Ytkkgmjclfclaoaa
