/-
  From the row's reading of the arguments to lists, and from a memory that has only grown to the row's outcome. Of no program.
-/
import Derived.Test.YtomfedhhfcelkaaAwC
import Derived.ChangeSame
import Derived.WideKeyArgs
import Derived.Deep.Slices
import Derived.OpenShut
import Derived.ProofKit
set_option linter.unusedSimpArgs false
set_option linter.unusedVariables false
namespace Go.Aw
open Go.ChangeShapes Go.WideShapes Go.RowKit Go.Deep

section
variable {H : Type} {enc : TypeId × Value → H} {P : Program} {w : World} {held : Bool}

theorem slC_of {a : Addr} {len cap : Nat} {V : Nat → Value} (hl : len ≤ cap) (hm : cap ≤ maxLen) (hx : ∀ i, i < cap → w.cell? (a.add i) = some (V i)) :
    SlC w (lower w) ((List.range len).map V) (.slice (some a) len cap) := by
  by_cases hc : cap = 0
  · subst hc
    obtain rfl : len = 0 := by omega
    exact .inl ⟨⟨some a, rfl⟩, rfl⟩
  · have h0 := hx 0 (by omega)
    have hs : a.spot = none := by
      simp only [Addr.add, if_true, World.cell?] at h0
      split at h0
      · split at h0
        · cases h0
        · rename_i hn; simpa using hn
      · cases h0
    obtain ⟨b, off, s⟩ := a
    simp only at hs
    subst hs
    have hadd : ∀ i, Addr.add ⟨b, off, none⟩ i = ⟨b, off + i, none⟩ := fun i => by
      unfold Addr.add
      split
      · simp_all
      · rfl
    have hb : b < w.heap.size := cell_lt (by rw [hadd] at h0; exact h0)
    refine .inr ⟨b, off, cap, by simp, by simpa using hl, hm, hb, fun i u hu => ?_⟩
    have hi : i < len := by
      have := (List.getElem?_eq_some_iff.1 hu).1
      simpa using this
    simp only [List.getElem?_map, List.getElem?_range hi, Option.map_some, Option.some.injEq] at hu
    subst hu
    rw [← hadd]
    exact hx i (by omega)

theorem all2_range {α β : Type} {R : α → β → Prop} {V : Nat → β} : ∀ {n : Nat}, (∀ i, i < n → ∃ x, R x (V i)) → ∃ xs : List α, All2 R xs ((List.range n).map V)
  | 0, _ => ⟨[], trivial⟩
  | n + 1, h => by
    obtain ⟨xs, hxs⟩ := all2_range (n := n) (fun i hi => h i (by omega))
    obtain ⟨x, hx⟩ := h n (by omega)
    refine ⟨xs ++ [x], ?_⟩
    rw [List.range_succ, List.map_append]
    exact hxs.append ⟨hx, trivial⟩

theorem rdSl {α : Type} {R : α → Value → Prop} {t e : TypeId} {n : Nat} {v : Value} {x : DataW H × List MemPlace} (ht : P.underlying t = some (.slice e)) (hc : P.cellsOf e = 1)
    (each : ∀ (m : Nat) (u : Value) (y : DataW H × List MemPlace), DataW.trod enc P w 0 (fun _ => true) held m e [u] = some y → ∃ a, R a u)
    (h : DataW.trod enc P w 0 (fun _ => true) held n t [v] = some x) : ∃ (xs : List α) (us : List Value), SlC w (lower w) us v ∧ All2 R xs us := by
  rcases open_slice1 ht hc h with ⟨h1, _⟩ | ⟨a, len, cap, m, n', V, D, Pl, h1, _, hl, hm, hmm, _, hx⟩
  · cases h1
    exact ⟨[], [], .inl ⟨⟨none, rfl⟩, rfl⟩, trivial⟩
  · obtain rfl := List.singleton_inj.1 h1
    have hx : ∀ i, i < cap → w.cell? (a.add i) = some (V i) ∧ DataW.trod enc P w 0 (fun _ => true) held n' e [V i] = some (D i, Pl i) := fun i hi => hx i (by simpa [hmm] using hi)
    obtain ⟨xs, hxs⟩ := all2_range (n := len) (V := V) (fun i hi => each _ _ _ (hx i (by omega)).2)
    exact ⟨xs, _, slC_of hl hm (fun i hi => (hx i hi).1), hxs⟩

theorem inR_of {n : Int} (h : (Lit.int .i64 n).wf = true) : InR n := by
  simpa [Lit.wf, IntKind.min, IntKind.max, IntKind.signed, IntKind.bits, InR] using h

theorem rd1 {t e : TypeId} (ht : P.underlying t = some (.slice e)) (he : P.underlying e = some (.int .i64)) (hc : P.cellsOf e = 1) (n : Nat) (v : Value) (x : DataW H × List MemPlace)
    (h : DataW.trod enc P w 0 (fun _ => true) held n t [v] = some x) : ∃ xs, L1 w (lower w) xs v := by
  obtain ⟨xs, us, h1, h2⟩ := rdSl (R := fun (z : Int) u => u = .int .i64 z ∧ InR z) ht hc (fun m u y hy => by
    obtain ⟨z, hz, _, hw⟩ := DataW.trod_int he hy
    exact ⟨z, List.singleton_inj.1 hz, inR_of hw⟩) h
  have hu : us = ints xs := by
    clear h1
    revert us
    induction xs with
    | nil => intro us h2; cases us with
      | nil => rfl
      | cons _ _ => exact h2.elim
    | cons z zs ih => intro us h2; cases us with
      | nil => exact h2.elim
      | cons u us => rw [h2.1.1, ih us h2.2]; rfl
  have hr : ∀ z ∈ xs, InR z := fun z hz => by
    obtain ⟨i, hi⟩ := List.getElem?_of_mem hz
    obtain ⟨u, _, hu⟩ := h2.get i z hi
    exact hu.2
  exact ⟨xs, hu ▸ h1, hr⟩
theorem rd2 {t e f : TypeId} (ht : P.underlying t = some (.slice e)) (hc : P.cellsOf e = 1) (he : P.underlying e = some (.slice f)) (hf : P.underlying f = some (.int .i64)) (hcf : P.cellsOf f = 1) (n : Nat) (v : Value) (x : DataW H × List MemPlace)
    (h : DataW.trod enc P w 0 (fun _ => true) held n t [v] = some x) : ∃ xs, L2 w (lower w) xs v :=
  let ⟨xs, us, h1, h2⟩ := rdSl (R := L1 w (lower w)) ht hc (rd1 he hf hcf) h
  ⟨xs, us, h1, h2⟩
theorem rd3 {t e f g : TypeId} (ht : P.underlying t = some (.slice e)) (hc : P.cellsOf e = 1) (he : P.underlying e = some (.slice f)) (hcf : P.cellsOf f = 1) (hf : P.underlying f = some (.slice g)) (hg : P.underlying g = some (.int .i64)) (hcg : P.cellsOf g = 1) (n : Nat) (v : Value) (x : DataW H × List MemPlace)
    (h : DataW.trod enc P w 0 (fun _ => true) held n t [v] = some x) : ∃ xs, L3 w (lower w) xs v :=
  let ⟨xs, us, h1, h2⟩ := rdSl (R := L2 w (lower w)) ht hc (rd2 he hcf hf hg hcg) h
  ⟨xs, us, h1, h2⟩

theorem rdStruct {t : TypeId} {fs : Array Field} {base : Nat} {v : Value} {d : DataW H} {p : List MemPlace} (ht : P.underlying t = some (.struct fs)) (hv : Value.okWide P w .any base t v) (h : DataW.Trod enc P w 0 (fun _ => true) held t v d p) :
    ∃ us : List Value, v = .agg us.toArray ∧ us.length = P.cellsOf t ∧ ∃ n, ∀ (i : Nat) (f : Field), fs[i]? = some f → ∃ y, DataW.trod enc P w 0 (fun _ => true) held n f.type ((us.drop f.offset).take (P.cellsOf f.type)) = some y := by
  simp only [Value.okWide, ht] at hv
  obtain ⟨cs, rfl, hs, _⟩ := hv
  obtain ⟨fuel, h⟩ := h
  obtain ⟨xs, n, _, _, hl, hlen, hf⟩ := DataW.trod_struct ht h
  refine ⟨cs.toList, by simp, by simpa using hs, n, fun i f hif => ?_⟩
  have hi : i < fs.size := by
    have := (Array.getElem?_eq_some_iff.1 hif).1
    exact this
  have := hf i f hif
  rw [List.getElem?_eq_getElem (by omega)] at this
  exact ⟨_, this⟩

theorem rdStruct1 {t : TypeId} {f0 : Field} {base : Nat} {v : Value} {d : DataW H} {p : List MemPlace} (ht : P.underlying t = some (.struct #[f0])) (h0 : f0.offset = 0) (hc : P.cellsOf f0.type = 1) (hct : P.cellsOf t = 1) (hv : Value.okWide P w .any base t v) (h : DataW.Trod enc P w 0 (fun _ => true) held t v d p) :
    ∃ u n y, v = .agg #[u] ∧ DataW.trod enc P w 0 (fun _ => true) held n f0.type [u] = some y := by
  obtain ⟨us, rfl, hl, n, hf⟩ := rdStruct ht hv h
  rw [hct] at hl
  match us, hl with
  | [u], _ =>
    obtain ⟨y, hy⟩ := hf 0 f0 rfl
    rw [h0, hc] at hy
    exact ⟨u, n, y, rfl, hy⟩
theorem rdAgg3 {u : Value} {xs : List (List (List Int))} (h : L3 w (lower w) xs u) : Rd w (lower w) (.agg [.l3 xs]) (.agg #[u]) := by
  simp only [Rd, rep]
  exact ⟨[u], rfl, by simp only [reps, rep]; exact ⟨u, [], rfl, h, rfl⟩⟩

/-! ### Arguments of one cell -/
theorem rdOne {t : TypeId} {v : Value} {d : DataW H} {p : List MemPlace} (h : DataW.Trod enc P w 0 (fun _ => true) held t v d p) (hv : v.cells.toList = [v]) : ∃ n y, DataW.trod enc P w 0 (fun _ => true) held n t [v] = some y := by
  obtain ⟨n, h⟩ := h
  rw [hv] at h
  exact ⟨n, _, h⟩
theorem cells_of_slice {t e : TypeId} {base : Nat} {v : Value} (ht : P.underlying t = some (.slice e)) (hv : Value.okWide P w .any base t v) : v.cells.toList = [v] := by
  simp only [Value.okWide, ht, Cell.okWide, Cell.ok] at hv
  split at hv <;> first | rfl | (exfalso; simp_all; done) | skip
  all_goals first | exact hv.elim | skip

/-! ### The row's outcome -/
theorem trodAll_stays (hl : laidOutB P = true) {W W' : World} {sp' : Nat → Bool} : ∀ {ts : List TypeId} {vs : List Value} {ds : List (DataW H)} {ps : List MemPlace},
    ts.all (fun t => P.readableRec t && decide (t < P.types.size)) = true → DataW.TrodAll enc P W 0 (fun _ => true) true ts vs ds ps → (∀ p ∈ ps, W.sameAt W' p) → (∀ p ∈ ps, sp' p.block = true) → DataW.TrodAll enc P W' 0 sp' true ts vs ds ps
  | [], _, _, _, _, h, _, _ => by
    obtain ⟨rfl, rfl, rfl⟩ := trodAll_nil h
    exact rfl
  | t :: ts, _, _, _, hr, h, hs, hp => by
    obtain ⟨v, vs, d, ds, p, q, rfl, rfl, rfl, h1, h2⟩ := trodAll_cons h
    simp only [List.all_cons, Bool.and_eq_true, decide_eq_true_eq] at hr
    exact ⟨p, q, Go.WideElems.Trod_stays hl hr.1.1 hr.1.2 h1 (fun x hx => hs x (by simp [hx])) (fun x hx => hp x (by simp [hx])), trodAll_stays hl hr.2 h2 (fun x hx => hs x (by simp [hx])) (fun x hx => hp x (by simp [hx])), rfl⟩

theorem keptBut_ext {W W' : World} (e : Ext W W') (may : MemPlace → Prop) : W.keptBut W' may := by
  refine ⟨e.os, e.output, fun i hi => ?_⟩
  rw [e.block i hi]
  cases h : W.heap[i]? with
  | none => trivial
  | some o => cases o <;> simp

theorem frozen_ext {W W' : World} (e : Ext W W') {b off : Nat} (hb : b < W.heap.size) : W'.frozen? ⟨b, off, none⟩ = W.frozen? ⟨b, off, none⟩ := by
  simp only [World.frozen?, e.block b hb]

theorem law_post {f : Func} {s : ChangeSpec} {apart fresh handsOn again : Bool} {W W' : World} {args : Array Value} {ds gs : List (DataW H)} {before : List MemPlace} {tb : TypeId}
    (hl : laidOutB P = true) (hsv : s.vars = []) (hr : f.resultTypes = #[tb]) (htb : P.underlying tb = some .bool) (hp : f.params.toList.all (fun t => P.readableRec t && decide (t < P.types.size)) = true)
    (hW : DataW.Whole enc P f.params.toList s.vars apart W args.toList ds gs before)
    (hres : (s.fn H (ds ++ gs)).results = [.lit (.bool true)]) (hargs : (s.fn H (ds ++ gs)).args = ds) (hvars : (s.fn H (ds ++ gs)).vars = []) (e : Ext W W') :
    s.post enc P f apart fresh handsOn again W args (.bool true) W' := by
  have hlt := hW.lt
  have hW0 := hW
  obtain ⟨p, q, hA, hV, hpq, hfz, hnd⟩ := hW
  rw [hsv] at hV
  obtain ⟨rfl, rfl⟩ := trodVars_none hV
  rw [List.append_nil] at hpq
  subst hpq
  have hsame : ∀ x ∈ before, W.sameAt W' x := fun x hx => by
    have hb := hlt x hx
    cases x with
    | cell b off => simp only [World.sameAt]; exact cell_of_heap (e.block b hb) _ _
    | map b => simp only [World.sameAt]; exact e.block b hb
  have ha : ∀ sp : Nat → Bool, (∀ x ∈ before, sp x.block = true) → DataW.TrodAll enc P W' 0 sp true f.params.toList args.toList ds before := fun sp hsp => trodAll_stays hl hp hA hsame hsp
  have hb : ∀ (b : Nat) (sp : Nat → Bool) (hd : Bool), DataW.TrodAll enc P W' b sp hd f.resultTypes.toList ((Value.bool true).resultList f.resultTypes.size) [.lit (.bool true)] [] := fun b sp hd => by
    rw [hr]
    exact trodAll_cons_mk (shut_bool htb _) trodAll_mk0
  refine ⟨ds, [], before, [], before, [], hW0, ?_, ?_, ?_, keptBut_ext e _, fun _ => ⟨?_, [.lit (.bool true)] ++ ds, [], before, ⟨before, [], trodAll_append (ha _ (fun _ _ => rfl)) (hb _ _ _), ?_, by simp, ?_, hnd⟩, fun x hx _ => hx⟩⟩
  · rw [hres]; exact hb _ _ _
  · rw [hargs]; exact ha _ (fun x hx => by simpa using hlt x hx)
  · rw [hvars, hsv]; exact rfl
  · exact ok_one hr rfl (okWide_bool_mk htb _)
  · rw [hsv]; exact rfl
  · intro b off hx
    have h1 := hlt _ hx
    simp only [MemPlace.block] at h1
    rw [frozen_ext e h1]
    exact hfz b off hx
end
end Go.Aw
