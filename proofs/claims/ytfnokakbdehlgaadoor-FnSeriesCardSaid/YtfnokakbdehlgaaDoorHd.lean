import Derived.Test.YtfnokakbdehlgaaDoorWx1
set_option linter.unusedSimpArgs false
set_option linter.unusedVariables false
namespace Go.Proofs.YtfnokakbdehlgaaDoor
open Go Go.Aw Go.Pl
structure AvLe (a b : AV) : Prop where
 rep : ∀ m v, rep m a v → rep m b v
 own : ∀ w fp v, ownR w fp a v → ownR w fp b v
structure AvsLe (a b : List AV) : Prop where
 rep : ∀ m v, reps m a v → reps m b v
 own : ∀ w fp v, ownRs w fp a v → ownRs w fp b v
def optT : Option (List (List (List Int))) → AV
 | none => .nil
 | some u => .l3 u
def optM : Option (List (List Int)) → AV
 | none => .nil
 | some u => .l2 u
def optD : Option (List (List Int) × List Int) → AV
 | none => .agg [.nil, .nil]
 | some u => .agg [.l2 u.1, .l1 u.2]
end Go.Proofs.YtfnokakbdehlgaaDoor
