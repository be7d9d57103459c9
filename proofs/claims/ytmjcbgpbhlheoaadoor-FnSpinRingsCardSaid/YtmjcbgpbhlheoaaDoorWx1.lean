import Derived.Test.YtmjcbgpbhlheoaaDoorTy
import Derived.Test.YtmjcbgpbhlheoaaDoorLib3
import Derived.Test.YtmjcbgpbhlheoaaDoorPl1
set_option linter.unusedSimpArgs false
set_option linter.unusedVariables false
namespace Go.Proofs.YtmjcbgpbhlheoaaDoor
open Go Go.Aw
theorem mixed : Tryd.prog.follows .mixedOrders = true := by kernel_rfl
end Go.Proofs.YtmjcbgpbhlheoaaDoor
namespace Go.Proofs.YtmjcbgpbhlheoaaDoor
open Go Go.Aw Go.Pl
end Go.Proofs.YtmjcbgpbhlheoaaDoor
namespace Go.Proofs.YtmjcbgpbhlheoaaDoor
open Go Go.Aw Go.Pl
end Go.Proofs.YtmjcbgpbhlheoaaDoor
namespace Go.Proofs.YtmjcbgpbhlheoaaDoor
open Go Go.Aw Go.Pl
end Go.Proofs.YtmjcbgpbhlheoaaDoor
namespace Go.Proofs.YtmjcbgpbhlheoaaDoor
open Go Go.Aw Go.Pl
end Go.Proofs.YtmjcbgpbhlheoaaDoor
namespace Go.Proofs.YtmjcbgpbhlheoaaDoor
open Go Go.Aw Go.Pl
theorem own_nil {w : World} {fp : List Nat} {v : Value} (h : ownR w fp .nil v) : ownR w fp (.l1 []) v := by
 simp only [ownR] at h ⊢
 exact ⟨.inl ⟨h.2, rfl, h.1⟩, by simp⟩
theorem fresh_nil {P : Program} {f : FuncId} {ds : List AV} {c : Int} (h : FreshCall P f ds (.tup [.nil, .int c])) : FreshCall P f ds (.tup [.l1 [], .int c]) :=
 ⟨h.enter, fun vs w S hS hd => (h.runs vs w S hS hd).mono fun e w' ⟨v, fp, h1, h2, h3, h4, h5⟩ => ⟨v, fp, h1, h2, by
  simp only [ownR] at h3 ⊢
  obtain ⟨us, hu, hr⟩ := h3
  refine ⟨us, hu, ?_⟩
  simp only [ownRs] at hr ⊢
  obtain ⟨u, us', f1, g, e1, e2, e3, e4⟩ := hr
  exact ⟨u, us', f1, g, e1, e2, own_nil e3, e4⟩, h4, h5⟩⟩
end Go.Proofs.YtmjcbgpbhlheoaaDoor
