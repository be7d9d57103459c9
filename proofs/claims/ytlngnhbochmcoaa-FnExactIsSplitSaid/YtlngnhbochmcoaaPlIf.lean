import Derived.Test.YtlngnhbochmcoaaPlIe
set_option linter.unusedSimpArgs false
set_option linter.unusedVariables false
namespace Go.Pl
open Go.Aw
end Go.Pl
