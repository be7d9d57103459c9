import Derived.Test.YtakhnoenhmpfpaaGreatGm
import Derived.Test.YtakhnoenhmpfpaaGreatHd
set_option linter.unusedSimpArgs false
set_option linter.unusedVariables false
namespace Go.Proofs.YtakhnoenhmpfpaaGreat
open Go Go.Aw Go.Pl
noncomputable def diF (s : List (List Int)) (t : List Int) (s' : List (List Int)) (t' : List Int) : Option (List Int) := if t.length = t'.length then (extX t.length s t s' t' (t.length - 1) [0]).head? else none
noncomputable def diA (s : List (List Int)) (t : List Int) (s' : List (List Int)) (t' : List Int) : AV := if isData s t && isData s' t' then (match diF s t s' t' with
  | some q => .tup [.l1 q, .int 0]
  | none => .tup [.nil, .int 4]) else .tup [.nil, .int 1]
end Go.Proofs.YtakhnoenhmpfpaaGreat
