import Derived.Test.YtkkgmjclfclaoaaDj
import Derived.Test.YtkkgmjclfclaoaaDf
set_option linter.unusedSimpArgs false
set_option linter.unusedVariables false
namespace Go.Proofs.Ytkkgmjclfclaoaa
open Go Go.Aw Go.Pl

noncomputable def faultQ (s : List (List Int)) (t : List Int) : Int × Int := if bd (Shape s t) then (if dF s t < 0 then (0, 4) else (dF s t, 0)) else (0, 1)
noncomputable def wholeA (s : List (List Int)) (t : List Int) : Int × Int := if isData s t then (wholeD s t.length, 0) else (0, 1)
end Go.Proofs.Ytkkgmjclfclaoaa
