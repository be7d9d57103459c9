import Derived.Test.YtkdadpdmnmjikaaWx1
set_option linter.unusedSimpArgs false
set_option linter.unusedVariables false
namespace Go.Proofs.Ytkdadpdmnmjikaa
open Go Go.Aw Go.Pl
theorem rep_nil2 {m : Mem} {v : Value} (h : rep m .nil v) : rep m (.l2 []) v := by
 simp only [rep] at h ⊢
 exact ⟨[], .inl ⟨⟨none, h⟩, rfl⟩, trivial⟩
theorem rep_nil3 {m : Mem} {v : Value} (h : rep m .nil v) : rep m (.l3 []) v := by
 simp only [rep] at h ⊢
 exact ⟨[], .inl ⟨⟨none, h⟩, rfl⟩, trivial⟩
structure AvLe (a b : AV) : Prop where
 rep : ∀ m v, rep m a v → rep m b v
 own : ∀ w fp v, ownR w fp a v → ownR w fp b v
theorem avLe_nil1 : AvLe .nil (.l1 []) := ⟨fun _ _ h => rep_nil h, fun _ _ _ h => own_nil h⟩
theorem avLe_nil2 : AvLe .nil (.l2 []) := ⟨fun _ _ h => rep_nil2 h, fun w fp v h => by
 simp only [ownR] at h ⊢
 exact ⟨[], [], [], .inl ⟨h.2, rfl, rfl⟩, trivial, by simp [h.1]⟩⟩
theorem avLe_nil3 : AvLe .nil (.l3 []) := ⟨fun _ _ h => rep_nil3 h, fun w fp v h => by
 simp only [ownR] at h ⊢
 exact ⟨[], [], [], .inl ⟨h.2, rfl, rfl⟩, trivial, by simp [h.1]⟩⟩
structure AvsLe (a b : List AV) : Prop where
 rep : ∀ m v, reps m a v → reps m b v
 own : ∀ w fp v, ownRs w fp a v → ownRs w fp b v
theorem avsLe_rfl (a : List AV) : AvsLe a a := ⟨fun _ _ h => h, fun _ _ _ h => h⟩
theorem avsLe_cons {a b : AV} {xs ys : List AV} (h : AvLe a b) (hs : AvsLe xs ys) : AvsLe (a :: xs) (b :: ys) := by
 constructor
 ·intro m v hv
  simp only [reps] at hv ⊢
  obtain ⟨u, us', e, h1, h2⟩ := hv
  exact ⟨u, us', e, h.rep _ _ h1, hs.rep _ _ h2⟩
 ·intro w fp v hv
  simp only [ownRs] at hv ⊢
  obtain ⟨u, us', f, g, e1, e2, h1, h2⟩ := hv
  exact ⟨u, us', f, g, e1, e2, h.own _ _ _ h1, hs.own _ _ _ h2⟩
theorem avLe_agg {a b : List AV} (h : AvsLe a b) : AvLe (.agg a) (.agg b) := by
 constructor
 ·intro m v hv
  simp only [Aw.rep] at hv ⊢
  obtain ⟨us, e, h1⟩ := hv
  exact ⟨us, e, h.rep _ _ h1⟩
 ·intro w fp v hv
  simp only [ownR] at hv ⊢
  obtain ⟨us, e, h1⟩ := hv
  exact ⟨us, e, h.own _ _ _ h1⟩
theorem avLe_tup {a b : List AV} (h : AvsLe a b) : AvLe (.tup a) (.tup b) := by
 constructor
 ·intro m v hv
  simp only [Aw.rep] at hv ⊢
  obtain ⟨us, e, h1⟩ := hv
  exact ⟨us, e, h.rep _ _ h1⟩
 ·intro w fp v hv
  simp only [ownR] at hv ⊢
  obtain ⟨us, e, h1⟩ := hv
  exact ⟨us, e, h.own _ _ _ h1⟩
theorem pure_le {P : Program} {f : FuncId} {ds : List AV} {a b : AV} (h : PureCall P f ds a) (l : AvLe a b) : PureCall P f ds b :=
 ⟨h.enter, fun vs w S hS hd => (h.runs vs w S hS hd).mono fun e w' ⟨v, h1, h2, h3⟩ => ⟨v, h1, h2, by
  unfold Rd at h3 ⊢
  exact l.rep _ _ h3⟩⟩
end Go.Proofs.Ytkdadpdmnmjikaa
