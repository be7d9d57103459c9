import Derived.Test.YtmjcbgpbhlheoaaDoorDz1
set_option linter.unusedSimpArgs false
set_option linter.unusedVariables false
namespace Go.Proofs.YtmjcbgpbhlheoaaDoor
open Go Go.Aw Go.Pl
end Go.Proofs.YtmjcbgpbhlheoaaDoor
namespace Go.Proofs.YtmjcbgpbhlheoaaDoor
open Go Go.Aw Go.Pl
end Go.Proofs.YtmjcbgpbhlheoaaDoor
namespace Go.Proofs.YtmjcbgpbhlheoaaDoor
open Go Go.Aw Go.Pl
end Go.Proofs.YtmjcbgpbhlheoaaDoor
namespace Go.Proofs.YtmjcbgpbhlheoaaDoor
open Go Go.Aw Go.Pl
end Go.Proofs.YtmjcbgpbhlheoaaDoor
