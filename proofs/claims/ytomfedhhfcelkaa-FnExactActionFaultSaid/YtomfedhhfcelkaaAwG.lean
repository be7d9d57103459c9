/-
  The runs of the operations that make or turn memory, for elements of one cell. Of no program.
-/
import Derived.Test.YtomfedhhfcelkaaAwF
import Derived.Great.BuildSlice
set_option linter.unusedSimpArgs false
set_option linter.unusedVariables false
namespace Go.Aw
open Go.RowKit

section
variable {P : Program} {w : World}

/-- What 'append' leaves: the row grown in its place, or in a new block. -/
structure Turned (w w' : World) (fp : List Nat) : Prop where
  os : w'.os = w.os
  tape : w'.tape = w.tape
  output : w'.output = w.output
  size : w.heap.size ≤ w'.heap.size
  block : ∀ k, k < w.heap.size → k ∉ fp → w'.heap[k]? = w.heap[k]?

theorem Turned.refl (w : World) (fp : List Nat) : Turned w w fp := ⟨rfl, rfl, rfl, Nat.le_refl _, fun _ _ _ => rfl⟩
theorem Ext.turned {w' : World} (h : Ext w w') (fp : List Nat) : Turned w w' fp := ⟨h.os, h.tape, h.output, h.size, fun k hk _ => h.block k hk⟩

theorem Keep.turned {cx : Cx} {w' : World} {fp : List Nat} (h : Keep cx w) (hb : cx.B0 ≤ w.heap.size) (ht : Turned w w' fp) (hm : ∀ b ∈ fp, cx.B0 ≤ b ∨ cx.A0 b) : Keep cx w' :=
  ⟨ht.os.trans h.os, ht.tape.trans h.tape, ht.output.trans h.output, Nat.le_trans h.size ht.size, fun k hk hA => by
    rw [ht.block k (by omega) (fun hf => by rcases hm k hf with h | h; omega; exact hA h)]
    exact h.block k hk hA⟩

theorem zc_size (z : Array Value) (n : Nat) : (Builtin.zeroCells z n).size = n * z.size := by simp [Builtin.zeroCells]

theorem slC_some {S : Nat → Prop} {us : List Value} {v : Value} (h : SlC w S us v) (hne : us ≠ []) : ∃ b off cap, v = .slice (some ⟨b, off, none⟩) us.length cap ∧ ∀ i u, us[i]? = some u → w.cell? ((⟨b, off, none⟩ : Addr).add i) = some u := by
  rcases h with ⟨_, h⟩ | ⟨b, off, cap, h1, _, _, _, h5⟩
  · exact absurd h hne
  · exact ⟨b, off, cap, h1, fun i u hu => by rw [add_cell]; exact h5 i u hu⟩

/-- The first cells of a slice that is read. -/
theorem first_run {S : Nat → Prop} {us : List Value} {v : Value} (h : SlC w S us v) : (Builtin.firstCells 1 us.length v).run P w = .ok us.toArray w := by
  rcases h with ⟨⟨a, rfl⟩, rfl⟩ | ⟨b, off, cap, rfl, _, _, _, h5⟩
  · cases a with
    | none => exact run_firstCells_none w 1 _ _ _
    | some a => exact run_firstCells_some w 1 0 a 0 0 [] (by simp) (fun j v hv => by simp at hv)
  · exact run_firstCells_some w 1 us.length ⟨b, off, none⟩ us.length cap us (by simp) (fun j v hv => by rw [add_cell]; exact h5 j v hv)

theorem append_run {t e : TypeId} {i : TypeInfo} {z : Value} (ht : P.underlying t = some (.slice e)) (hi : P.info? e = some i) (hz : i.zero = some z) (h1 : i.size = 1) (hzs : z.cells.size = 1) (hby : i.bytes ≤ 64)
    {fp : List Nat} {us news : List Value} {v x : Value} {S : Nat → Prop} (ho : OwnSl w fp us v) (hx : SlC w S news x) (hone : ∀ u ∈ news, u.oneCell' = true)
    (hlen : us.length + news.length ≤ 1099511627776) (hfpl : ∀ b ∈ fp, b < w.heap.size) (ty : TypeId) :
    ∃ v' w' fp', (Builtin.append_ #[t, t] ty #[v, x]).run P w = .ok v' w' ∧ OwnSl w' fp' (us ++ news) v' ∧ Turned w w' fp ∧ fp'.Nodup ∧ (∀ b ∈ fp', b < w'.heap.size ∧ (b ∈ fp ∨ w.heap.size ≤ b)) := by
  obtain ⟨na, nn, nc, rfl, hnn⟩ := slC_size hx
  subst hnn
  obtain ⟨va, vn, vc, hv, hvn⟩ := len_size ho
  subst hvn
  have hcap := (hv ▸ ho).cap
  have hbytes : (us.length + news.length) * i.bytes ≤ 140737488355328 := Nat.le_trans (Nat.mul_le_mul hlen hby) (by decide)
  have hfx := fun (w' : World) (he : ∀ S us v, SlC w S us v → SlC w' S us v) => first_run (P := P) (he S news _ hx)
  by_cases hroom : us.length + news.length ≤ vc
  · -- there is room
    rcases ho with ⟨h1', h2, h3⟩ | ⟨b, off, cap, c, E, h1', h2, h3, h4, h5, h6, h7⟩
    · subst h2; subst h3
      rw [hv] at h1'; cases h1'
      have hnil : news = [] := List.eq_nil_of_length_eq_zero (by simpa using hroom)
      subst hnil
      refine ⟨.slice none 0 0, w, [], ?_, .inl ⟨rfl, rfl, rfl⟩, Turned.refl _ _, List.nodup_nil, by simp⟩
      subst hv
      have := hfx w (fun _ _ _ h => h)
      simp only [List.length_nil] at this
      simp [Builtin.append_, run_underlying ht, sizeOf, typeInfo, hi, h1, Builtin.lenOf, this]
    · rw [hv] at h1'; cases h1'
      have hf := hfx w (fun _ _ _ h => h)
      have hst := run_storeCells_at P b (off + us.length) E news 0 c w h3 (by omega) hone
      simp only [Nat.add_zero] at hst
      subst hv
      refine ⟨.slice (some ⟨b, off, none⟩) (us.length + news.length) vc, w.setRow b (c.toList.take (off + us.length) ++ news ++ c.toList.drop (off + us.length + news.length)).toArray, [b], ?_, ?_, ?_, by simp, ?_⟩
      · simp [Builtin.append_, run_underlying ht, sizeOf, typeInfo, hi, h1, Builtin.lenOf, hroom, hf, add_cell, hst]
      · refine .inr ⟨b, off, vc, _, E, by simp, rfl, setRow_heap w b c _ E _ h3, ?_, by simpa using hroom, h6, fun i u hu => ?_⟩
        · simp only [List.size_toArray, List.length_append, List.length_take, List.length_drop, Array.length_toList]; omega
        · simp only [List.getElem?_toArray]
          rw [List.getElem?_append] at hu
          have htl : (c.toList.take (off + us.length)).length = off + us.length := by simp [List.length_take]; omega
          split at hu
          · rename_i hlt
            have := h7 i u hu
            rw [List.append_assoc, List.getElem?_append_left (by rw [htl]; omega), List.getElem?_take, if_pos (by omega)]
            simpa using this
          · rename_i hge
            have hl2 := (List.getElem?_eq_some_iff.1 hu).1
            rw [List.append_assoc, List.getElem?_append_right (by rw [htl]; omega), htl, List.getElem?_append_left (by omega)]
            rw [← hu]; congr 1; omega
      · refine ⟨rfl, rfl, rfl, by simp, fun k _ hk => setRow_other w b k _ (fun e => hk (by simp [h2, e]))⟩
      · intro k hk
        simp only [List.mem_singleton] at hk
        subst hk
        exact ⟨by simpa using hfpl k (by simp [h2]), .inl (by simp [h2])⟩
  · -- it grows
    have hn : ¬ (us.length + news.length ≤ vc) := hroom
    have h63' : ¬ (9223372036854775807 < ((us.length : Int) + (news.length : Int))) := by omega
    have h48 := growslice_fits (need := us.length + news.length) (old := vc) (bytes := i.bytes) (by omega) hbytes
    have h48' : ¬ (281474976710656 < Builtin.nextslicecap (us.length + news.length) vc * i.bytes) := by omega
    have hdrew : ∀ S us v, SlC w S us v → SlC w.drew S us v := fun S us v h => by
      rcases h with h | ⟨b, off, cap, k1, k2, k3, k4, k5⟩
      · exact .inl h
      · exact .inr ⟨b, off, cap, k1, k2, k3, k4, fun i u hu => by simpa using k5 i u hu⟩
    have hf := hfx w.drew hdrew
    have hfo := first_run (P := P) (hdrew _ _ _ (ho.slC (S := fun _ => True) (fun _ _ => trivial)))
    subst hv
    have hge := grownCap_ge w (us.length + news.length) vc e
    have hml := grownCap_le_maxLen w (us.length + news.length) vc e (by simp only [maxLen]; omega)
    refine ⟨.slice (some ⟨w.heap.size, 0, none⟩) (us.length + news.length) (grownCap w (us.length + news.length) vc e),
      w.drew.alloc (.cells (us.toArray ++ news.toArray ++ Builtin.zeroCells z.cells (grownCap w (us.length + news.length) vc e - (us.length + news.length))) e), [w.heap.size], ?_, ?_, ?_, by simp, ?_⟩
    · simp [Builtin.append_, run_underlying ht, sizeOf, typeInfo, zeroValue, hi, hz, h1, Builtin.lenOf, hn, h63', h48', Question.forced, hf, hfo, newRow, grownCap]
      rw [← List.append_toArray, ← Array.append_assoc]
    · refine .inr ⟨w.heap.size, 0, _, _, e, by simp, rfl, heap_alloc_new w.drew _, ?_, by simpa using hge, hml, fun i u hu => ?_⟩
      · simp only [Array.size_append, List.size_toArray, zc_size, hzs]; omega
      · have hl := (List.getElem?_eq_some_iff.1 hu).1
        rw [Nat.zero_add, Array.getElem?_append_left (by simpa using hl)]
        simpa using hu
    · refine ⟨rfl, rfl, rfl, by simp, fun k hk _ => Below.heap_alloc w.drew _ k hk⟩
    · intro k hk
      simp only [List.mem_singleton] at hk
      subst hk
      exact ⟨by simp, .inr (Nat.le_refl _)⟩

/-- A slice literal of one-cell elements, every place told. -/
theorem build_run {t e : TypeId} {i : TypeInfo} {z : Value} (ht : P.underlying t = some (.slice e)) (hi : P.info? e = some i) (hz : i.zero = some z) (h1 : i.size = 1)
    (us : List Value) (hone : ∀ u ∈ us, u.oneCell' = true) (hlen : us.length ≤ 16777216) :
    (Instr.buildSlice t us.length ((us.zipIdx 0).map fun x => (x.2, x.1)).toArray).run P w = .ok (.slice (some ⟨w.heap.size, 0, none⟩) us.length us.length) (w.alloc (.cells us.toArray e)) := by
  have hcell : ∀ u : Value, u.oneCell' = true → u.cells = #[u] := fun u hu => by cases u <;> first | rfl | simp [Value.oneCell'] at hu
  by_cases h0 : us = []
  · subst h0
    have h0 : Array.range 0 = #[] := by simp
    simp [Instr.buildSlice, run_underlying ht, sizeOf, typeInfo, hi, newRow, Instr.fill, h0]
  · have hpos : us.length ≠ 0 := fun e => h0 (List.eq_nil_of_length_eq_zero e)
    obtain ⟨r, hr1, hr2, hr3⟩ := Great.fill_dense (s := 1) (by omega) us 0 ((Array.range (us.length * 1)).map (z.cells[· % z.cells.size]!)) (fun v hv => by rw [hcell v (hone v hv)]; rfl) (by simp)
    have hru : r = us.toArray := by
      apply Array.ext
      · rw [hr2]; simp
      · intro k hk1 hk2
        have := hr3 k
        simp only [Nat.zero_le, Nat.zero_add, Nat.mul_one, true_and, Nat.div_one, Nat.sub_zero, Nat.mod_one] at this
        have hk : k < us.length := by simpa using hk2
        rw [if_pos hk] at this
        have hs : us[k]? = some us[k] := by simp [hk]
        rw [hs] at this
        simp only [Option.bind_some, hcell _ (hone _ (List.getElem_mem hk))] at this
        simp at this
        have h2 := Array.getElem?_eq_getElem hk1
        rw [this] at h2
        simpa using h2.symm
    rw [hru] at hr1
    exact run_buildSlice w t e us.length _ us.toArray i z ht hi hz (by rw [h1]; omega) (by rw [h1]; omega) (by rw [h1]; simpa using hr1)

/-- 'make' of one-cell elements, as long as it can hold. -/
theorem make_run {t e : TypeId} {i : TypeInfo} {z : Value} (ht : P.underlying t = some (.slice e)) (hi : P.info? e = some i) (hz : i.zero = some z) (h1 : i.size = 1) (hzc : z.cells = #[z]) (hby : i.bytes ≤ 64)
    {n : Int} (h0 : 0 ≤ n) (hn : n ≤ 1099511627776) :
    (Instr.makeSlice t (.int .i64 n) (.int .i64 n)).run P w = .ok (.slice (some ⟨w.heap.size, 0, none⟩) n.toNat n.toNat) (w.alloc (.cells (List.replicate n.toNat z).toArray e)) := by
  have hb : (i.bytes : Int) * n ≤ 281474976710656 := by
    have : (i.bytes : Int) * n ≤ 64 * 1099511627776 := Int.mul_le_mul (by omega) hn h0 (by decide)
    omega
  rw [run_make w t e i z ht hi hz .i64 .i64 n n h0 (Int.le_refl _) hb (by omega)]
  congr 3
  rw [h1, hzc]
  apply Array.ext
  · simp [madeCells]
  · intro k hk1 hk2
    simp [madeCells, Nat.mod_one]

end
end Go.Aw
