import Derived.Test.YtjcfefgbieeheaaDoorWx1
set_option linter.unusedSimpArgs false
set_option linter.unusedVariables false
namespace Go.Proofs.YtjcfefgbieeheaaDoor
open Go Go.Aw Go.Pl
theorem rep_nil2 {m : Mem} {v : Value} (h : rep m .nil v) : rep m (.l2 []) v := by
 simp only [rep] at h ⊢
 exact ⟨[], .inl ⟨⟨none, h⟩, rfl⟩, trivial⟩
structure AvLe (a b : AV) : Prop where
 rep : ∀ m v, rep m a v → rep m b v
 own : ∀ w fp v, ownR w fp a v → ownR w fp b v
theorem avLe_nil2 : AvLe .nil (.l2 []) := ⟨fun _ _ h => rep_nil2 h, fun w fp v h => by
 simp only [ownR] at h ⊢
 exact ⟨[], [], [], .inl ⟨h.2, rfl, rfl⟩, trivial, by simp [h.1]⟩⟩
structure AvsLe (a b : List AV) : Prop where
 rep : ∀ m v, reps m a v → reps m b v
 own : ∀ w fp v, ownRs w fp a v → ownRs w fp b v
theorem avsLe_rfl (a : List AV) : AvsLe a a := ⟨fun _ _ h => h, fun _ _ _ h => h⟩
theorem avsLe_cons {a b : AV} {xs ys : List AV} (h : AvLe a b) (hs : AvsLe xs ys) : AvsLe (a :: xs) (b :: ys) := by
 constructor
 ·intro m v hv
  simp only [reps] at hv ⊢
  obtain ⟨u, us', e, h1, h2⟩ := hv
  exact ⟨u, us', e, h.rep _ _ h1, hs.rep _ _ h2⟩
 ·intro w fp v hv
  simp only [ownRs] at hv ⊢
  obtain ⟨u, us', f, g, e1, e2, h1, h2⟩ := hv
  exact ⟨u, us', f, g, e1, e2, h.own _ _ _ h1, hs.own _ _ _ h2⟩
theorem avLe_tup {a b : List AV} (h : AvsLe a b) : AvLe (.tup a) (.tup b) := by
 constructor
 ·intro m v hv
  simp only [Aw.rep] at hv ⊢
  obtain ⟨us, e, h1⟩ := hv
  exact ⟨us, e, h.rep _ _ h1⟩
 ·intro w fp v hv
  simp only [ownR] at hv ⊢
  obtain ⟨us, e, h1⟩ := hv
  exact ⟨us, e, h.own _ _ _ h1⟩
theorem fresh_le {P : Program} {f : FuncId} {ds : List AV} {a b : AV} (h : FreshCall P f ds a) (l : AvLe a b) : FreshCall P f ds b :=
 ⟨h.enter, fun vs w S hS hd => (h.runs vs w S hS hd).mono fun e w' ⟨v, fp, h1, h2, h3, h4, h5⟩ => ⟨v, fp, h1, h2, l.own _ _ _ h3, h4, h5⟩⟩
def optM : Option (List (List Int)) → AV
 | none => .nil
 | some u => .l2 u
end Go.Proofs.YtjcfefgbieeheaaDoor
