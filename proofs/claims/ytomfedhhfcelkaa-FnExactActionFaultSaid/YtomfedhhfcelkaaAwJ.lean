/-
  Stores into what is owned. Of no program.
-/
import Derived.Test.YtomfedhhfcelkaaAwI
set_option linter.unusedSimpArgs false
set_option linter.unusedVariables false
namespace Go.Aw
open Go.RowKit

theorem All3.of_get {α β γ : Type} {R : α → β → γ → Prop} : ∀ {as : List α} {bs : List β} {cs : List γ}, as.length = bs.length → bs.length = cs.length →
    (∀ (i : Nat) a b c, as[i]? = some a → bs[i]? = some b → cs[i]? = some c → R a b c) → All3 R as bs cs
  | [], [], [], _, _, _ => trivial
  | a :: as, b :: bs, c :: cs, h1, h2, h => ⟨h 0 a b c rfl rfl rfl, All3.of_get (by simpa using h1) (by simpa using h2) (fun i x y z hx hy hz => h (i + 1) x y z (by simpa using hx) (by simpa using hy) (by simpa using hz))⟩
  | [], _ :: _, _, h, _, _ => by simp at h
  | _ :: _, [], _, h, _, _ => by simp at h
  | [], [], _ :: _, _, h, _ => by simp at h
  | _ :: _, _ :: _, [], _, h, _ => by simp at h
theorem All3.at {α β γ : Type} {R : α → β → γ → Prop} {as : List α} {bs : List β} {cs : List γ} (h : All3 R as bs cs) {i : Nat} {a : α} {b : β} {c : γ} (ha : as[i]? = some a) (hb : bs[i]? = some b) (hc : cs[i]? = some c) : R a b c := by
  obtain ⟨a', c', ha', hc', hr⟩ := h.get i b hb
  rw [ha] at ha'; rw [hc] at hc'; cases ha'; cases hc'; exact hr

theorem flatten_disj {l : List (List Nat)} (h : l.flatten.Nodup) {i j : Nat} {a b : List Nat} (hi : l[i]? = some a) (hj : l[j]? = some b) (hne : i ≠ j) {x : Nat} (ha : x ∈ a) (hb : x ∈ b) : False := by
  induction l generalizing i j with
  | nil => simp at hi
  | cons c l ih =>
    rw [List.flatten_cons, List.nodup_append] at h
    match i, j with
    | 0, 0 => exact hne rfl
    | 0, j + 1 =>
      simp at hi hj; subst hi
      exact h.2.2 x ha x (List.mem_flatten.2 ⟨b, List.mem_of_getElem? hj, hb⟩) rfl
    | i + 1, 0 =>
      simp at hi hj; subst hj
      exact h.2.2 x hb x (List.mem_flatten.2 ⟨a, List.mem_of_getElem? hi, ha⟩) rfl
    | i + 1, j + 1 => exact ih h.2.1 (by simpa using hi) (by simpa using hj) (by omega)
theorem flatten_part {l : List (List Nat)} (h : l.flatten.Nodup) {i : Nat} {a : List Nat} (hi : l[i]? = some a) : a.Nodup := by
  induction l generalizing i with
  | nil => simp at hi
  | cons c l ih =>
    rw [List.flatten_cons, List.nodup_append] at h
    match i with
    | 0 => simp at hi; subst hi; exact h.1
    | i + 1 => exact ih h.2.1 (by simpa using hi)
theorem mem_flatten_set {l : List (List Nat)} {i x : Nat} {g : List Nat} (h : x ∈ (l.set i g).flatten) : x ∈ g ∨ x ∈ l.flatten := by
  obtain ⟨a, ha, hx⟩ := List.mem_flatten.1 h
  rcases List.mem_or_eq_of_mem_set ha with h | h
  · exact .inr (List.mem_flatten.2 ⟨a, h, hx⟩)
  · subst h; exact .inl hx
theorem nodup_flatten_set {g : List Nat} (hg : g.Nodup) : ∀ {l : List (List Nat)} {i : Nat}, l.flatten.Nodup → (∀ x ∈ g, x ∉ l.flatten) → (l.set i g).flatten.Nodup
  | [], _, _, _ => by simp
  | c :: l, 0, h, hd => by
    rw [List.flatten_cons, List.nodup_append] at h
    simp only [List.set_cons_zero, List.flatten_cons, List.nodup_append]
    exact ⟨hg, h.2.1, fun a ha b hb e => by subst e; exact hd a ha (by simp only [List.flatten_cons, List.mem_append]; exact .inr hb)⟩
  | c :: l, i + 1, h, hd => by
    rw [List.flatten_cons, List.nodup_append] at h
    simp only [List.set_cons_succ, List.flatten_cons, List.nodup_append]
    refine ⟨h.1, nodup_flatten_set hg h.2.1 (fun x hx hxl => hd x hx (by simp only [List.flatten_cons, List.mem_append]; exact .inr hxl)), fun a ha b hb e => ?_⟩
    subst e
    rcases mem_flatten_set hb with hb | hb
    · exact hd a hb (by simp only [List.flatten_cons, List.mem_append]; exact .inl ha)
    · exact h.2.2 a ha a hb rfl

section
variable {P : Program} {cx : Cx} {H : List (Nat × Tree)} {w w' : World} {ι : Nat → Value} {F : Nat → List Nat}

theorem store_run {t : TypeId} (h1 : P.cellsOf t = 1) {u x : Value} (hu : u.oneCell' = true) {b o : Nat} (hc : w.cell? ⟨b, o, none⟩ = some x) (hf : w.frozen? ⟨b, o, none⟩ = false) :
    (Instr.storeAt t (.pointer (some ⟨b, o, none⟩)) u).run P w = .ok () (w.setCell ⟨b, o, none⟩ u) := by
  have hs := cells_info (P := P) (e := t) (n := 0) h1 w
  have hcs : u.cells = #[u] := by cases u <;> first | rfl | simp [Value.oneCell'] at hu
  have ha : (⟨b, o, none⟩ : Addr).add 0 = ⟨b, o, none⟩ := by rw [add_cell]; simp
  simp [Instr.storeAt, Instr.sureAddr, storeVar, hs, hcs, storeCells, ha, run_store P w _ u _ hu, hc, hf]

theorem setCell_turned (w : World) (b o : Nat) (u : Value) : Turned w (w.setCell ⟨b, o, none⟩ u) [b] :=
  ⟨rfl, rfl, rfl, by simp, fun k _ hk => Below.heap_setCell _ _ _ _ (by simpa using hk)⟩

/-- A store into a slice of one's own. -/
theorem OwnSl.set {fp : List Nat} {us : List Value} {b off n cap : Nat} (h : OwnSl w fp us (.slice (some ⟨b, off, none⟩) n cap)) {i : Nat} (u : Value) :
    OwnSl (w.setCell ⟨b, off + i, none⟩ u) fp (us.set i u) (.slice (some ⟨b, off, none⟩) n cap) := by
  rcases h with ⟨h1, _⟩ | ⟨b', off', cap', c, E, h1, h2, h3, h4, h5, h6, h7⟩
  · cases h1
  · cases h1
    refine .inr ⟨b, off, cap, c.setIfInBounds (off + i) u, E, by simp, h2, heap_setCell_same w b (off + i) c E u h3, by simpa using h4, by simpa using h5, h6, fun j x hx => ?_⟩
    rw [List.getElem?_set] at hx
    split at hx
    · rename_i hij; subst hij
      split at hx
      · rename_i hl; cases hx
        rw [Array.getElem?_setIfInBounds]
        simp only [if_true]
        rw [if_pos (by omega)]
      · cases hx
    · rename_i hij
      rw [Array.getElem?_setIfInBounds, if_neg (by omega)]
      exact h7 j x hx

theorem OwnSl.at {fp : List Nat} {us : List Value} {b off n cap : Nat} (h : OwnSl w fp us (.slice (some ⟨b, off, none⟩) n cap)) :
    fp = [b] ∧ n = us.length ∧ (∀ i, i < n → ∃ x, us[i]? = some x ∧ w.cell? ⟨b, off + i, none⟩ = some x) ∧ ∀ o, w.frozen? ⟨b, o, none⟩ = false := by
  rcases h with ⟨h1, _⟩ | ⟨b', off', cap', c, E, h1, h2, h3, h4, h5, h6, h7⟩
  · cases h1
  · cases h1
    refine ⟨h2, rfl, fun i hi => ⟨us[i], by simp [hi], ?_⟩, fun o => by simp [World.frozen?, h3]⟩
    have := h7 i us[i] (by simp [hi])
    simp [World.cell?, h3, this]

def ON {α : Type} (R : World → List Nat → α → Value → Prop) (w : World) (fp : List Nat) (as : List α) (v : Value) : Prop :=
  ∃ us f0 fs, OwnSl w f0 us v ∧ All3 (R w) fs as us ∧ fp = f0 ++ fs.flatten

/-- A turn within element 'r', at one block of its own: all else stays. -/
theorem on_inner {α : Type} {R : World → List Nat → α → Value → Prop} (frame : ∀ {w w' fp a v}, (∀ b ∈ fp, w'.heap[b]? = w.heap[b]?) → R w fp a v → R w' fp a v) {fp : List Nat} {as : List α} {v x : Value} {r b : Nat} {d a' : α}
    (h : ON R w fp as v) (hn : fp.Nodup) (hrow : pathV w v [r] = some x) (hsame : ∀ k, k ≠ b → w'.heap[k]? = w.heap[k]?)
    (hin : ∀ f, f.Nodup → R w f (as.getD r d) x → b ∈ f ∧ R w' f a' x) :
    b ∈ fp ∧ ON R w' fp (as.set r a') v ∧ ∀ j u, pathV w v [j] = some u → pathV w' v [j] = some u := by
  obtain ⟨us, f0, fs, h1, h2, rfl⟩ := h
  obtain ⟨y, hy, hp⟩ := h1.row hrow
  simp only [pathV, Option.some.injEq] at hp; subst hp
  have hl : r < as.length := by rw [h2.length.2]; exact (List.getElem?_eq_some_iff.1 hy).1
  obtain ⟨f, c, hf, hc, hr⟩ := h2.get r _ (getD_some (d := d) hl)
  rw [hy] at hc; cases hc
  rw [List.nodup_append] at hn
  obtain ⟨hbf, hr'⟩ := hin f (flatten_part hn.2.1 hf) hr
  have hbfs : b ∈ fs.flatten := List.mem_flatten.2 ⟨f, List.mem_of_getElem? hf, hbf⟩
  have h0 : ∀ k ∈ f0, w'.heap[k]? = w.heap[k]? := fun k hk => hsame k (fun e => by subst e; exact hn.2.2 k hk k hbfs rfl)
  refine ⟨by simp only [List.mem_append]; exact .inr hbfs, ⟨us, f0, fs, h1.heap h0, ?_, rfl⟩, fun j u hj => ?_⟩
  · refine All3.of_get (by rw [List.length_set]; exact h2.length.1) (by rw [List.length_set]; exact h2.length.2) (fun i g a u hg ha hu => ?_)
    rw [List.getElem?_set] at ha
    split at ha
    · rename_i hir; subst hir
      rw [hf] at hg; rw [hy] at hu; cases hg; cases hu
      cases ha
      exact hr'
    · rename_i hir
      refine frame (fun k hk => hsame k (fun e => ?_)) (h2.at hg ha hu)
      subst e
      exact flatten_disj hn.2.1 hg hf (fun e => hir e.symm) hk hbf
  · obtain ⟨b', off, n, cap, x', rfl, hi, hc', hx'⟩ := pathV_cons_inv hj
    have hfp := h1.at.1
    rw [pathV_cons hi (by rw [cell_of_heap (h0 b' (by simp [hfp]))]; exact hc')]
    simpa [pathV] using hx'

/-- A row put into element 'i' of a row of rows: what was there is let go. -/
theorem on_row {α : Type} {R : World → List Nat → α → Value → Prop} (frame : ∀ {w w' fp a v}, (∀ b ∈ fp, w'.heap[b]? = w.heap[b]?) → R w fp a v → R w' fp a v) {fp g : List Nat} {as : List α} {u : Value} {i b off n cap : Nat} {a' : α}
    (h : ON R w fp as (.slice (some ⟨b, off, none⟩) n cap)) (hn : fp.Nodup) (hg : g.Nodup) (hd : ∀ x ∈ g, x ∉ fp) (hu : R w g a' u) :
    b ∈ fp ∧ ∃ fp', ON R (w.setCell ⟨b, off + i, none⟩ u) fp' (as.set i a') (.slice (some ⟨b, off, none⟩) n cap) ∧ fp'.Nodup ∧ ∀ x ∈ fp', x ∈ fp ∨ x ∈ g := by
  obtain ⟨us, f0, fs, h1, h2, rfl⟩ := h
  have h0 := h1.at.1
  rw [List.nodup_append] at hn
  have hbf : b ∉ fs.flatten := fun hb => hn.2.2 b (by simp [h0]) b hb rfl
  have hbg : b ∉ g := fun hb => hd b hb (by simp [h0])
  have hs : ∀ k, k ≠ b → (w.setCell ⟨b, off + i, none⟩ u).heap[k]? = w.heap[k]? := fun k hk => Below.heap_setCell _ _ _ _ (by simpa using hk)
  refine ⟨by simp [h0], f0 ++ (fs.set i g).flatten, ⟨us.set i u, f0, fs.set i g, h1.set u, ?_, rfl⟩, ?_, fun x hx => ?_⟩
  · refine All3.set i (h2.mono fun f hf _ _ hr => frame (fun k hk => hs k (fun e => hbf (e ▸ List.mem_flatten.2 ⟨f, hf, hk⟩))) hr) (frame (fun k hk => hs k (fun e => hbg (e ▸ hk))) hu)
  · rw [List.nodup_append]
    refine ⟨hn.1, nodup_flatten_set hg hn.2.1 (fun x hx hxl => hd x hx (by simp only [List.mem_append]; exact .inr hxl)), fun a ha c hc e => ?_⟩
    subst e
    rcases mem_flatten_set hc with hc | hc
    · exact hd a hc (by simp only [List.mem_append]; exact .inl ha)
    · exact hn.2.2 a ha a hc rfl
  · rcases List.mem_append.1 hx with hx | hx
    · exact .inl (by simp only [List.mem_append]; exact .inl hx)
    · rcases mem_flatten_set hx with hx | hx
      · exact .inr hx
      · exact .inl (by simp only [List.mem_append]; exact .inr hx)

theorem O1.set {fp : List Nat} {xs : List Int} {b off n cap : Nat} (h : O1 w fp xs (.slice (some ⟨b, off, none⟩) n cap)) (i : Nat) {k : Int} (hk : InR k) :
    b ∈ fp ∧ O1 (w.setCell ⟨b, off + i, none⟩ (.int .i64 k)) fp (xs.set i k) (.slice (some ⟨b, off, none⟩) n cap) := by
  have h0 := h.1.at.1
  refine ⟨by simp [h0], ?_, fun x hx => ?_⟩
  · have := h.1.set (i := i) (.int .i64 k)
    simpa [ints, List.map_set] using this
  · rcases List.mem_or_eq_of_mem_set hx with hx | hx
    · exact h.2 x hx
    · subst hx; exact hk

end
end Go.Aw
