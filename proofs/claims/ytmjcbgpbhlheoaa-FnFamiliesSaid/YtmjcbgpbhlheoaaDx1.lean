import Derived.Test.YtmjcbgpbhlheoaaDz1
set_option linter.unusedSimpArgs false
set_option linter.unusedVariables false
namespace Go.Proofs.Ytmjcbgpbhlheoaa
open Go Go.Aw Go.Pl
end Go.Proofs.Ytmjcbgpbhlheoaa
namespace Go.Proofs.Ytmjcbgpbhlheoaa
open Go Go.Aw Go.Pl
end Go.Proofs.Ytmjcbgpbhlheoaa
namespace Go.Proofs.Ytmjcbgpbhlheoaa
open Go Go.Aw Go.Pl
end Go.Proofs.Ytmjcbgpbhlheoaa
namespace Go.Proofs.Ytmjcbgpbhlheoaa
open Go Go.Aw Go.Pl
end Go.Proofs.Ytmjcbgpbhlheoaa
