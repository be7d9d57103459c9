import Derived.Test.YtakhnoenhmpfpaaGj
import Derived.Test.YtakhnoenhmpfpaaHd
set_option linter.unusedSimpArgs false
set_option linter.unusedVariables false
namespace Go.Proofs.Ytakhnoenhmpfpaa
open Go Go.Aw Go.Pl
noncomputable def syE (s : List (List Int)) (t : List Int) : List (List Int) := extX t.length s t s t (t.length - 1) [0]
noncomputable def syA (s : List (List Int)) (t : List Int) : AV := if isData s t then (if (syE s t).length ≤ 1000 then .tup [.l2 (syE s t), .int 0] else .tup [.nil, .int 3]) else .tup [.nil, .int 1]
end Go.Proofs.Ytakhnoenhmpfpaa
