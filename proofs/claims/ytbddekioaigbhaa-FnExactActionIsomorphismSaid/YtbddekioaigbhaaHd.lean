import Derived.Test.YtbddekioaigbhaaWx1
set_option linter.unusedSimpArgs false
set_option linter.unusedVariables false
namespace Go.Proofs.Ytbddekioaigbhaa
open Go Go.Aw Go.Pl

theorem marks_getD {α : Type} {f : α → Int → α} {n : α → Nat} {d : α} {k : Int} {xs : List α} {i : Nat} (h : i < xs.length) : (marks f n k xs).getD i d = f (xs.getD i d) (k + tot n (xs.take i)) := by
  rw [List.getD, marks_get (d := d) h]; rfl
theorem rep_nil2 {m : Mem} {v : Value} (h : rep m .nil v) : rep m (.l2 []) v := by
  simp only [rep] at h ⊢
  exact ⟨[], .inl ⟨⟨none, h⟩, rfl⟩, trivial⟩
theorem rep_nil3 {m : Mem} {v : Value} (h : rep m .nil v) : rep m (.l3 []) v := by
  simp only [rep] at h ⊢
  exact ⟨[], .inl ⟨⟨none, h⟩, rfl⟩, trivial⟩
/-- 'b' stands for no more than 'a'. -/
structure AvLe (a b : AV) : Prop where
  rep : ∀ m v, rep m a v → rep m b v
  own : ∀ w fp v, ownR w fp a v → ownR w fp b v
theorem avLe_rfl (a : AV) : AvLe a a := ⟨fun _ _ h => h, fun _ _ _ h => h⟩
theorem avLe_nil1 : AvLe .nil (.l1 []) := ⟨fun _ _ h => rep_nil h, fun _ _ _ h => own_nil h⟩
theorem avLe_nil2 : AvLe .nil (.l2 []) := ⟨fun _ _ h => rep_nil2 h, fun w fp v h => by
  simp only [ownR] at h ⊢
  exact ⟨[], [], [], .inl ⟨h.2, rfl, rfl⟩, trivial, by simp [h.1]⟩⟩
theorem avLe_nil3 : AvLe .nil (.l3 []) := ⟨fun _ _ h => rep_nil3 h, fun w fp v h => by
  simp only [ownR] at h ⊢
  exact ⟨[], [], [], .inl ⟨h.2, rfl, rfl⟩, trivial, by simp [h.1]⟩⟩
structure AvsLe (a b : List AV) : Prop where
  rep : ∀ m v, reps m a v → reps m b v
  own : ∀ w fp v, ownRs w fp a v → ownRs w fp b v
theorem avsLe_rfl (a : List AV) : AvsLe a a := ⟨fun _ _ h => h, fun _ _ _ h => h⟩
theorem avsLe_cons {a b : AV} {xs ys : List AV} (h : AvLe a b) (hs : AvsLe xs ys) : AvsLe (a :: xs) (b :: ys) := by
  constructor
  · intro m v hv
    simp only [reps] at hv ⊢
    obtain ⟨u, us', e, h1, h2⟩ := hv
    exact ⟨u, us', e, h.rep _ _ h1, hs.rep _ _ h2⟩
  · intro w fp v hv
    simp only [ownRs] at hv ⊢
    obtain ⟨u, us', f, g, e1, e2, h1, h2⟩ := hv
    exact ⟨u, us', f, g, e1, e2, h.own _ _ _ h1, hs.own _ _ _ h2⟩
theorem avLe_agg {a b : List AV} (h : AvsLe a b) : AvLe (.agg a) (.agg b) := by
  constructor
  · intro m v hv
    simp only [Aw.rep] at hv ⊢
    obtain ⟨us, e, h1⟩ := hv
    exact ⟨us, e, h.rep _ _ h1⟩
  · intro w fp v hv
    simp only [ownR] at hv ⊢
    obtain ⟨us, e, h1⟩ := hv
    exact ⟨us, e, h.own _ _ _ h1⟩
theorem avLe_tup {a b : List AV} (h : AvsLe a b) : AvLe (.tup a) (.tup b) := by
  constructor
  · intro m v hv
    simp only [Aw.rep] at hv ⊢
    obtain ⟨us, e, h1⟩ := hv
    exact ⟨us, e, h.rep _ _ h1⟩
  · intro w fp v hv
    simp only [ownR] at hv ⊢
    obtain ⟨us, e, h1⟩ := hv
    exact ⟨us, e, h.own _ _ _ h1⟩
theorem pure_le {P : Program} {f : FuncId} {ds : List AV} {a b : AV} (h : PureCall P f ds a) (l : AvLe a b) : PureCall P f ds b :=
  ⟨h.enter, fun vs w S hS hd => (h.runs vs w S hS hd).mono fun e w' ⟨v, h1, h2, h3⟩ => ⟨v, h1, h2, by
    unfold Rd at h3 ⊢
    exact l.rep _ _ h3⟩⟩
theorem fresh_le {P : Program} {f : FuncId} {ds : List AV} {a b : AV} (h : FreshCall P f ds a) (l : AvLe a b) : FreshCall P f ds b :=
  ⟨h.enter, fun vs w S hS hd => (h.runs vs w S hS hd).mono fun e w' ⟨v, fp, h1, h2, h3, h4, h5⟩ => ⟨v, fp, h1, h2, l.own _ _ _ h3, h4, h5⟩⟩
def optT : Option (List (List (List Int))) → AV
  | none => .nil
  | some u => .l3 u
def optM : Option (List (List Int)) → AV
  | none => .nil
  | some u => .l2 u
def optD : Option (List (List Int) × List Int) → AV
  | none => .agg [.nil, .nil]
  | some u => .agg [.l2 u.1, .l1 u.2]
/-- What both return, a table in a struct or none and a code, as a table and a code. -/
theorem tabRes {P : Program} {f g : FuncId} {ds : List AV} {r : AV} (hs : PureCall P f ds r) (hi : FreshCall P g ds r) (h : ∃ (u : Option (List (List (List Int)))) (c : Int), r = .tup [.agg [optT u], .int c] ∧ ∀ v, u = some v → tot3 v ≤ 1048576) :
    ∃ u c, PureCall P f ds (.tup [.agg [.l3 u], .int c]) ∧ FreshCall P g ds (.tup [.agg [.l3 u], .int c]) ∧ tot3 u ≤ 1048576 := by
  obtain ⟨u, c, rfl, hu⟩ := h
  cases u with
  | none =>
    have l : AvLe (.tup [.agg [optT none], .int c]) (.tup [.agg [.l3 []], .int c]) := avLe_tup (avsLe_cons (avLe_agg (avsLe_cons avLe_nil3 (avsLe_rfl _))) (avsLe_rfl _))
    exact ⟨[], c, pure_le hs l, fresh_le hi l, by simp [tot3, tot]⟩
  | some u => exact ⟨u, c, hs, hi, hu u rfl⟩
theorem matRes {P : Program} {f g : FuncId} {ds : List AV} {r : AV} (hs : PureCall P f ds r) (hi : FreshCall P g ds r) (h : ∃ (u : Option (List (List Int))) (c : Int), r = .tup [optM u, .int c] ∧ ∀ v, u = some v → tot2 v ≤ 1048576) :
    ∃ u c, PureCall P f ds (.tup [.l2 u, .int c]) ∧ FreshCall P g ds (.tup [.l2 u, .int c]) ∧ tot2 u ≤ 1048576 := by
  obtain ⟨u, c, rfl, hu⟩ := h
  cases u with
  | none =>
    have l : AvLe (.tup [optM none, .int c]) (.tup [.l2 [], .int c]) := avLe_tup (avsLe_cons avLe_nil2 (avsLe_rfl _))
    exact ⟨[], c, pure_le hs l, fresh_le hi l, by simp [tot2, tot]⟩
  | some u => exact ⟨u, c, hs, hi, hu u rfl⟩
theorem datRes {P : Program} {f g : FuncId} {ds : List AV} {r : AV} (hs : PureCall P f ds r) (hi : FreshCall P g ds r) (h : ∃ (u : Option (List (List Int) × List Int)) (c : Int), r = .tup [optD u, .int c] ∧ ∀ v, u = some v → tot2 v.1 + v.2.length ≤ 1048576) :
    ∃ uS uT c, PureCall P f ds (.tup [.agg [.l2 uS, .l1 uT], .int c]) ∧ FreshCall P g ds (.tup [.agg [.l2 uS, .l1 uT], .int c]) ∧ tot2 uS + uT.length ≤ 1048576 := by
  obtain ⟨u, c, rfl, hu⟩ := h
  cases u with
  | none =>
    have l : AvLe (.tup [optD none, .int c]) (.tup [.agg [.l2 [], .l1 []], .int c]) := avLe_tup (avsLe_cons (avLe_agg (avsLe_cons avLe_nil2 (avsLe_cons avLe_nil1 (avsLe_rfl _)))) (avsLe_rfl _))
    exact ⟨[], [], c, pure_le hs l, fresh_le hi l, by simp [tot2, tot]⟩
  | some u => exact ⟨u.1, u.2, c, hs, hi, hu u rfl⟩
end Go.Proofs.Ytbddekioaigbhaa
