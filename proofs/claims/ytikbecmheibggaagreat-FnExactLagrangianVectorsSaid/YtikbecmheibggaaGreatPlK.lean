import Derived.Test.YtikbecmheibggaaGreatPlJ
set_option linter.unusedSimpArgs false
set_option linter.unusedVariables false
namespace Go.Pl
open Go.Aw
def rs (a k : Int) : Int := if k < 0 then pw (inv a) (-k).toNat else pw a k.toNat
end Go.Pl
