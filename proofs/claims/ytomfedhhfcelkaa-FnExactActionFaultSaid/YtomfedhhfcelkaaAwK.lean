/-
  Stores, abstractly ('AStore'), and their soundness. Of no program.
-/
import Derived.Test.YtomfedhhfcelkaaAwJ
set_option linter.unusedSimpArgs false
set_option linter.unusedVariables false
namespace Go.Aw
open Go.RowKit

def AStore (P : Program) (H : List (Nat × Tree)) (t : TypeId) (p v : AV) (K : List Nat → List Nat → List (Nat × Tree) → Prop) : Prop :=
  match tkOf P t, p with
  | .st _ sz, .bptr id off => match v, find H id with
    | .agg vs', some (.bx vs) => off = 0 ∧ vs'.length = sz ∧ vs.length = sz ∧ P.cellsOf t = sz ∧ vs'.all (oneA H) = true ∧ 0 < sz ∧ K [] [] (putT H id (.bx vs'))
    | _, _ => False
  | .st .., _ => False
  | .other, _ => False
  | _, .bptr id off => match find H id with
    | some (.bx vs) => oneA H v = true ∧ P.cellsOf t = 1 ∧ off < vs.length ∧ K [] [] (putT H id (.bx (vs.set off v)))
    | _ => False
  | _, .eref id path i => P.cellsOf t = 1 ∧ match find H id, path, v with
    | some (.t1 xs), [], .int k => K [] [] (putT H id (.t1 (xs.set i k)))
    | some (.t2 xss), [r], .int k => K [] [] (putT H id (.t2 (xss.set r ((xss.getD r []).set i k))))
    | some (.t3 x), [r, s], .int k => K [] [] (putT H id (.t3 (x.set r ((x.getD r []).set s (((x.getD r []).getD s []).set i k)))))
    | some (.t2 xss), [], .ref rid [] => match find H rid with
      | some (.t1 ys) => K [rid] [id] (putT (killH (qOf [rid] [id]) (rmT [rid] H)) id (.t2 (xss.set i ys)))
      | _ => False
    | some (.t3 x), [], .ref rid [] => match find H rid with
      | some (.t2 ys) => K [rid] [id] (putT (killH (qOf [rid] [id]) (rmT [rid] H)) id (.t3 (x.set i ys)))
      | _ => False
    | some (.t3 x), [r], .ref rid [] => match find H rid with
      | some (.t1 ys) => K [rid] [id] (putT (killH (qOf [rid] [id]) (rmT [rid] H)) id (.t3 (x.set r ((x.getD r []).set i ys))))
      | _ => False
    | some (.r2 xss), [], v => match isL1 v with
      | some ys => K [] [] (putT H id (.r2 (xss.set i ys)))
      | none => False
    | some (.r3 x), [], v => match isL2 v with
      | some ys => K [] [] (putT H id (.r3 (x.set i ys)))
      | none => False
    | some (.lv vs), [], v => oneA H v = true ∧ K [] [] (putT H id (.lv (vs.set i v)))
    | _, _, _ => False
  | _, _ => False

def LeftS (cx : Cx) (H : List (Nat × Tree)) (w : World) (ι : Nat → Value) (F : Nat → List Nat) (w' : World) (K : List Nat → List Nat → List (Nat × Tree) → Prop) : Prop :=
  ∃ all subs H' ι' F', K all subs H' ∧ Owns cx H' w' ι' F' ∧ ∀ av x, rep (mem cx w H ι F) av x → rep (mem cx w' H' ι' F') (killA (qOf all subs) av) x

section
variable {P : Program} {cx : Cx} {H : List (Nat × Tree)} {w w' : World} {ι : Nat → Value} {F : Nat → List Nat}

theorem foot_part {id : Nat} {t : Tree} (ho : Owns cx H w ι F) (hf : find H id = some t) : (F id).Nodup := by
  have : ∀ {H : List (Nat × Tree)}, (foot H F).Nodup → (id, t) ∈ H → (F id).Nodup := by
    intro H
    induction H with
    | nil => intro _ h; cases h
    | cons x r ih =>
      intro hn h
      rw [foot_cons, List.nodup_append] at hn
      rcases List.mem_cons.1 h with e | h
      · subst e; exact hn.1
      · exact ih hn.2.1 h
  exact this ho.nodup (find_mem hf)
theorem foot_disj {i j : Nat} {t t' : Tree} (ho : Owns cx H w ι F) (hi : find H i = some t) (hj : find H j = some t') (hne : i ≠ j) {x : Nat} (h1 : x ∈ F i) (h2 : x ∈ F j) : False := by
  have : ∀ {H : List (Nat × Tree)}, (foot H F).Nodup → (i, t) ∈ H → (j, t') ∈ H → False := by
    intro H
    induction H with
    | nil => intro _ h; cases h
    | cons y r ih =>
      intro hn e1 e2
      rw [foot_cons, List.nodup_append] at hn
      rcases List.mem_cons.1 e1 with f1 | f1 <;> rcases List.mem_cons.1 e2 with f2 | f2
      · subst f1; cases f2; exact hne rfl
      · subst f1; exact hn.2.2 x h1 x (mem_foot.2 ⟨(j, t'), f2, h2⟩) rfl
      · subst f2; exact hn.2.2 x h2 x (mem_foot.2 ⟨(i, t), f1, h1⟩) rfl
      · exact ih hn.2.1 f1 f2
  exact this ho.nodup (find_mem hi) (find_mem hj)

theorem Owns.same (ho : Owns cx H w ι F) {id : Nat} {t t' : Tree} (hf : find H id = some t) {b : Nat} (hb : b ∈ F id) (hw : Turned w w' [b]) {fp' : List Nat} {all subs : List Nat} (_ : id ∉ all)
    (hfp : fp'.Nodup) (hfpm : ∀ x ∈ fp', x ∈ F id ∨ ∃ r ∈ all, r ∈ Aw.ids H ∧ x ∈ F r)
    (hlive : ∀ p, livePath (some t) p = true → (id ∈ subs → p = []) → livePath (some t') p = true ∧ ∀ u, pathV w (ι id) p = some u → pathV w' (ι id) p = some u)
    (ht : ∀ m : Mem, m.w = w' → (∀ av x, rep (mem cx w H ι F) av x → rep m (killA (qOf all subs) av) x) → treeRep m fp' t' (ι id))
    {K : List Nat → List Nat → List (Nat × Tree) → Prop} (hK : K all subs (putT (killH (qOf all subs) (rmT all H)) id t')) : LeftS cx H w ι F w' K := by
  have hid : id ∈ Aw.ids H := List.mem_map.2 ⟨_, find_mem hf, rfl⟩
  have hbm := ho.mine b (mem_foot.2 ⟨_, find_mem hf, hb⟩)
  have key := ho.put (w' := w') all id t' (ι id) fp' (qOf all subs) (ho.keep.turned ho.old hw (fun x hx => by simp only [List.mem_singleton] at hx; subst hx; exact hbm.2)) hw.size
    (fun x hx hno => hw.block x hx (fun he => by simp only [List.mem_singleton] at he; subst he; exact hno id (.inl rfl) hid hb))
    hfp
    (fun x hx => by
      rcases hfpm x hx with h | ⟨r, hr, hri, h⟩
      · exact ⟨Nat.lt_of_lt_of_le (ho.mine x (mem_foot.2 ⟨_, find_mem hf, h⟩)).1 hw.size, .inl ⟨id, .inl rfl, hid, h⟩⟩
      · obtain ⟨p, hp, rfl⟩ := List.mem_map.1 hri
        exact ⟨Nat.lt_of_lt_of_le (ho.mine x (mem_foot.2 ⟨p, hp, h⟩)).1 hw.size, .inl ⟨p.1, .inr hr, hri, h⟩⟩)
    (fun r hr p => by simp [qOf, hr])
    (fun p hq hl => by
      rw [hf] at hl
      simp only [qOf, Bool.or_eq_false_iff, Bool.and_eq_false_iff] at hq
      obtain ⟨h1, h2⟩ := hlive p hl (fun hs => by
        rcases hq.2 with h | h
        · simp [hs] at h
        · simpa using h)
      exact ⟨h1, rfl, h2⟩)
    (fun hr => ht _ rfl hr)
  exact ⟨all, subs, _, _, _, hK, key.1, key.2⟩

theorem eref_at (ho : Owns cx H w ι F) {id i : Nat} {path : List Nat} {u : Value} {n : Nat} {f : Nat → AV} (he : elemsT H id path = some (n, f)) (hr : rep (mem cx w H ι F) (.eref id path i) u) :
    ∃ b off n' cap, pathV w (ι id) path = some (.slice (some ⟨b, off, none⟩) n' cap) ∧ i < n' ∧ u = .pointer (some ⟨b, off + i, none⟩) ∧ (∃ x, w.cell? ⟨b, off + i, none⟩ = some x) ∧ w.frozen? ⟨b, off + i, none⟩ = false := by
  simp only [rep] at hr
  obtain ⟨_, b, off, n', cap, h1, h2, h3⟩ := hr
  obtain ⟨us, fp, k1, _⟩ := elemsT_rep ho he h1
  obtain ⟨_, _, k2, k3⟩ := k1.at
  obtain ⟨x, _, hx⟩ := k2 i h2
  exact ⟨b, off, n', cap, h1, h2, h3, ⟨x, hx⟩, k3 _⟩

theorem store_left (ho : Owns cx H w ι F) {t : TypeId} {p v : AV} {up uv : Value} {K : List Nat → List Nat → List (Nat × Tree) → Prop} (h : AStore P H t p v K) (hp : rep (mem cx w H ι F) p up) (hv : rep (mem cx w H ι F) v uv) :
    ∃ w', (Instr.storeAt t up uv).run P w = .ok () w' ∧ LeftS cx H w ι F w' K := by
  have bxat : ∀ {id off : Nat} {vs : List AV}, rep (mem cx w H ι F) (.bptr id off) up → find H id = some (.bx vs) →
      ∃ b us E, ι id = .pointer (some ⟨b, 0, none⟩) ∧ up = .pointer (some ⟨b, off, none⟩) ∧ F id = [b] ∧ w.heap[b]? = some (.cells (List.toArray us) E (0, 0)) ∧ reps (mem cx w H ι F) vs us := by
    intro id off vs hr hf
    simp only [rep] at hr
    obtain ⟨_, b, h2, h3⟩ := hr
    have ht := ho.trees _ (find_mem hf)
    simp only [treeRep] at ht
    obtain ⟨b', us, E, k1, k2, k3, k4⟩ := ht
    simp only [mem] at h2 k1 k3
    have hb := k1
    rw [h2] at k1; cases k1
    exact ⟨b, us, E, hb, h3, k2, k3, k4⟩
  unfold AStore at h
  generalize hk : tkOf P t = k at h
  split at h <;> first | exact h.elim | skip
  · -- a struct into its box
    rename_i fs sz id off
    split at h <;> first | exact h.elim | skip
    rename_i vs' vs hf
    obtain ⟨rfl, h1, h2, hsz, hone, hpos, hK⟩ := h
    obtain ⟨b, us, E, hι, rfl, hF, hh, hus⟩ := bxat hp hf
    simp only [rep] at hv
    obtain ⟨us', rfl, hus'⟩ := hv
    have hl : us.length = sz := by rw [reps_all2] at hus; rw [← hus.length, h2]
    have hl' : us'.length = sz := by rw [reps_all2] at hus'; rw [← hus'.length, h1]
    have hones : ∀ u ∈ us', u.oneCell' = true := by
      have : ∀ {vs : List AV} {us : List Value}, vs.all (oneA H) = true → reps (mem cx w H ι F) vs us → ∀ u ∈ us, u.oneCell' = true := by
        intro vs
        induction vs with
        | nil => intro us _ h u hu; simp only [reps] at h; subst h; simp at hu
        | cons v vs ih =>
          intro us hall h u hu
          simp only [List.all_cons, Bool.and_eq_true] at hall
          simp only [reps] at h
          obtain ⟨y, ys, rfl, hy, hys⟩ := h
          rcases List.mem_cons.1 hu with rfl | hu
          · exact rep_one ho hall.1 hy
          · exact ih hall.2 hys u hu
      exact this hone hus'
    obtain ⟨n, hn⟩ : ∃ n, sz = n + 1 := ⟨sz - 1, by omega⟩
    have hs := cells_info (P := P) (e := t) (n := n) (by omega) w
    have hst := run_storeCells_at P b 0 E us' 0 us.toArray w hh (by simp; omega) hones
    have hw : (us.toArray.toList.take (0 + 0) ++ us' ++ us.toArray.toList.drop (0 + 0 + us'.length)).toArray = us'.toArray := by
      simp only [Nat.add_zero, Nat.zero_add, List.take_zero, List.nil_append]
      rw [List.drop_eq_nil_of_le (by omega)]
      simp
    rw [hw] at hst
    refine ⟨w.setRow b us'.toArray, ?_, ?_⟩
    · simp [Instr.storeAt, Instr.sureAddr, storeVar, hs, Value.cells, hl', hn, hst]
    · refine ho.same (t' := .bx vs') hf (b := b) (by simp [hF]) (⟨rfl, rfl, rfl, by simp, fun k _ hk => setRow_other w b k us'.toArray (by simpa using hk)⟩ : Turned w (w.setRow b us'.toArray) [b]) (fp' := F id) (all := []) (subs := []) (by simp) (foot_part ho hf) (fun x hx => .inl hx)
        (fun p hl _ => by
          cases p with
          | nil => exact ⟨rfl, fun u hu => by simpa [pathV] using hu⟩
          | cons _ _ => simp [livePath] at hl)
        (fun m hm hr => ?_) (by rw [rmT_no, killH_no]; exact hK)
      simp only [treeRep]
      refine ⟨b, us', E, hι, hF, by rw [hm]; exact setRow_heap w b _ _ E _ hh, reps_mono (fun av x h => by have := hr av x h; rwa [killA_no] at this) hus'⟩
  all_goals (have htone : (tkOf P t).one = true := by rw [hk]; cases k <;> first | rfl | simp_all)
  · -- one cell of a box
    rename_i id off _ _
    split at h <;> first | exact h.elim | skip
    rename_i vs hf
    obtain ⟨hone, h1, h2, hK⟩ := h
    obtain ⟨b, us, E, hι, rfl, hF, hh, hus⟩ := bxat hp hf
    have huv := rep_one ho hone hv
    have hl : us.length = vs.length := by rw [reps_all2] at hus; exact hus.length.symm
    refine ⟨_, store_run h1 huv (x := us[off]'(by omega)) (by simp [World.cell?, hh, hl, h2]) (by simp [World.frozen?, hh]), ?_⟩
    refine ho.same (t' := .bx (vs.set off v)) hf (b := b) (by simp [hF]) (setCell_turned w b off uv) (fp' := F id) (all := []) (subs := []) (by simp) (foot_part ho hf) (fun x hx => .inl hx)
      (fun p hl _ => by
        cases p with
        | nil => exact ⟨rfl, fun u hu => by simpa [pathV] using hu⟩
        | cons _ _ => simp [livePath] at hl)
      (fun m hm hr => ?_) (by rw [rmT_no, killH_no]; exact hK)
    simp only [treeRep]
    have hr' : ∀ av x, rep (mem cx w H ι F) av x → rep m av x := fun av x h => by have := hr av x h; rwa [killA_no] at this
    refine ⟨b, us.set off uv, E, hι, hF, ?_, ?_⟩
    · rw [hm, heap_setCell_same w b off _ E uv hh]
      simp
    · have h3 := reps_mono hr' hus
      rw [reps_all2] at h3 ⊢
      exact h3.set off (hr' _ _ hv)
  · -- an element of a slice
    rename_i id path i _ _
    obtain ⟨h1, h⟩ := h
    have leaf : ∀ {t0 t' : Tree} {x k : Int} {n : Nat} {f : Nat → AV}, find H id = some t0 → elemsT H id path = some (n, f) → uv = .int .i64 k →
        K [] [] (putT H id t') →
        (∀ b off n' cap, pathV w (ι id) path = some (.slice (some ⟨b, off, none⟩) n' cap) → i < n' → b ∈ F id ∧
          (∀ p, livePath (some t0) p = true → livePath (some t') p = true ∧ ∀ u, pathV w (ι id) p = some u → pathV (w.setCell ⟨b, off + i, none⟩ (.int .i64 k)) (ι id) p = some u) ∧
          ∀ m : Mem, m.w = w.setCell ⟨b, off + i, none⟩ (.int .i64 k) → treeRep m (F id) t' (ι id)) →
        ∃ w', (Instr.storeAt t up uv).run P w = .ok () w' ∧ LeftS cx H w ι F w' K := by
      intro t0 t' _ k n f hf he hk' hK hh
      subst hk'
      obtain ⟨b, off, n', cap, e1, e2, rfl, ⟨x, e3⟩, e4⟩ := eref_at ho he hp
      obtain ⟨k1, k2, k3⟩ := hh b off n' cap e1 e2
      exact ⟨_, store_run h1 rfl e3 e4, ho.same hf k1 (setCell_turned w b (off + i) _) (all := []) (subs := []) (by simp) (foot_part ho hf) (fun x hx => .inl hx) (fun p hl _ => k2 p hl) (fun m hm _ => k3 m hm) (by rw [rmT_no, killH_no]; exact hK)⟩
    have only : ∀ {t0 t' : Tree} {w' : World}, (∀ p, livePath (some t0) p = true → p = []) → livePath (some t') [] = true → ∀ p, livePath (some t0) p = true → livePath (some t') p = true ∧ ∀ u, pathV w (ι id) p = some u → pathV w' (ι id) p = some u := by
      intro t0 t' w' h0 h1 p hp
      have := h0 p hp
      subst this
      exact ⟨h1, fun u hu => by simpa [pathV] using hu⟩
    have hcell : ∀ (b o : Nat) (u : Value) (k : Nat), k ≠ b → (w.setCell ⟨b, o, none⟩ u).heap[k]? = w.heap[k]? := fun b o u k hk => Below.heap_setCell _ _ _ _ (by simpa using hk)
    have row : ∀ {t0 t' : Tree} {rid n : Nat} {tr : Tree} {f : Nat → AV}, find H id = some t0 → elemsT H id path = some (n, f) → v = .ref rid [] → find H rid = some tr → rid ≠ id → (ι rid).oneCell' = true →
        K [rid] [id] (putT (killH (qOf [rid] [id]) (rmT [rid] H)) id t') → livePath (some t') [] = true →
        (∀ b off n' cap, pathV w (ι id) path = some (.slice (some ⟨b, off, none⟩) n' cap) → i < n' → b ∈ F id ∧
          ∃ fp', fp'.Nodup ∧ (∀ x ∈ fp', x ∈ F id ∨ x ∈ F rid) ∧ ∀ m : Mem, m.w = w.setCell ⟨b, off + i, none⟩ (ι rid) → treeRep m fp' t' (ι id)) →
        ∃ w', (Instr.storeAt t up uv).run P w = .ok () w' ∧ LeftS cx H w ι F w' K := by
      intro t0 t' rid n tr f hf he hvr hfr hne hone hK hlt hh
      subst hvr
      simp only [rep, mem] at hv
      have huv : uv = ι rid := by have := hv.2; simp only [pathV, Option.some.injEq] at this; exact this.symm
      subst huv
      obtain ⟨b, off, n', cap, e1, e2, rfl, ⟨x, e3⟩, e4⟩ := eref_at ho he hp
      obtain ⟨k1, fp', k2, k3, k4⟩ := hh b off n' cap e1 e2
      refine ⟨_, store_run h1 hone e3 e4, ho.same hf k1 (setCell_turned w b (off + i) _) (all := [rid]) (subs := [id]) (by simpa using fun e => hne e.symm) k2
        (fun x hx => orMap (k3 x hx) (fun h => h) (fun h => ⟨rid, by simp, List.mem_map.2 ⟨_, find_mem hfr, rfl⟩, h⟩)) (fun p _ hs => ?_) (fun m hm _ => k4 m hm) hK⟩
      have := hs (by simp)
      subst this
      exact ⟨hlt, fun u hu => by simpa [pathV] using hu⟩
    split at h <;> first | exact h.elim | skip
    · -- t1
      rename_i xs k hf
      simp only [rep] at hv
      obtain ⟨rfl, hkr⟩ := hv
      have ht := ho.trees _ (find_mem hf)
      simp only [treeRep, mem] at ht
      refine leaf (x := 0) (n := xs.length) (f := fun i => .int (xs.getD i 0)) hf (by simp [elemsT, hf]) rfl h (fun b off n' cap e1 e2 => ?_)
      simp only [pathV, Option.some.injEq] at e1
      rw [e1] at ht
      obtain ⟨k1, k2⟩ := ht.set i hkr
      exact ⟨k1, only (fun p hp => by cases p <;> first | rfl | simp [livePath] at hp) rfl, fun m hm => by simp only [treeRep]; rw [hm, e1]; exact k2⟩
    · -- t2, an integer
      rename_i xss r k hf
      simp only [rep] at hv
      obtain ⟨rfl, hkr⟩ := hv
      have ht : ON O1 w (F id) xss (ι id) := by have := ho.trees _ (find_mem hf); simp only [treeRep, mem] at this; exact this
      refine leaf (x := 0) (n := (xss.getD r []).length) (f := fun j => .int ((xss.getD r []).getD j 0)) hf (by simp [elemsT, hf]) rfl h (fun b off n' cap e1 e2 => ?_)
      obtain ⟨k1, k2, k3⟩ := on_inner (R := O1) (w' := w.setCell ⟨b, off + i, none⟩ (.int .i64 k)) (d := []) (a' := (xss.getD r []).set i k) (fun h h' => O1.heap h h') ht (foot_part ho hf) e1 (fun q hq => hcell b _ _ q hq) (fun f _ hr => O1.set hr i hkr)
      refine ⟨k1, fun p hp => ?_, fun m hm => by simp only [treeRep]; rw [hm]; exact k2⟩
      match p, hp with
      | [], _ => exact ⟨rfl, fun u hu => by simpa [pathV] using hu⟩
      | [j], _ => exact ⟨rfl, fun u hu => k3 j u hu⟩
      | _ :: _ :: _, hp => simp [livePath] at hp
    · -- t3, an integer
      rename_i x r s k hf
      simp only [rep] at hv
      obtain ⟨rfl, hkr⟩ := hv
      have ht : ON O2 w (F id) x (ι id) := by have := ho.trees _ (find_mem hf); simp only [treeRep, mem] at this; exact this
      refine leaf (x := 0) (n := ((x.getD r []).getD s []).length) (f := fun j => .int (((x.getD r []).getD s []).getD j 0)) hf (by simp [elemsT, hf]) rfl h (fun b off n' cap e1 e2 => ?_)
      obtain ⟨br, offr, nr, capr, xr, hroot, hri, hrc, hrx⟩ := pathV_cons_inv e1
      have hrow : pathV w (ι id) [r] = some xr := by rw [hroot, pathV_cons hri hrc]; simp [pathV]
      have inner : ∀ f, f.Nodup → O2 w f (x.getD r []) xr → b ∈ f ∧ O2 (w.setCell ⟨b, off + i, none⟩ (.int .i64 k)) f ((x.getD r []).set s (((x.getD r []).getD s []).set i k)) xr ∧ ∀ j u, pathV w xr [j] = some u → pathV (w.setCell ⟨b, off + i, none⟩ (.int .i64 k)) xr [j] = some u := by
        intro f hfn hr
        exact on_inner (R := O1) (w' := w.setCell ⟨b, off + i, none⟩ (.int .i64 k)) (d := []) (a' := ((x.getD r []).getD s []).set i k) (fun h h' => O1.heap h h') (show ON O1 w f (x.getD r []) xr from hr) hfn hrx (fun q hq => hcell b _ _ q hq) (fun f _ hr => O1.set hr i hkr)
      obtain ⟨k1, k2, k3⟩ := on_inner (R := O2) (w' := w.setCell ⟨b, off + i, none⟩ (.int .i64 k)) (d := []) (a' := (x.getD r []).set s (((x.getD r []).getD s []).set i k)) (fun h h' => O2.heap h h') ht (foot_part ho hf) hrow (fun q hq => hcell b _ _ q hq) (fun f hfn hr => ⟨(inner f hfn hr).1, (inner f hfn hr).2.1⟩)
      refine ⟨k1, fun p hp => ?_, fun m hm => by simp only [treeRep]; rw [hm]; exact k2⟩
      match p, hp with
      | [], _ => exact ⟨rfl, fun u hu => by simpa [pathV] using hu⟩
      | [j], _ => exact ⟨rfl, fun u hu => k3 j u hu⟩
      | [j, l], _ =>
        refine ⟨rfl, fun u hu => ?_⟩
        obtain ⟨bj, offj, nj, capj, xj, hroot', hji, hjc, hjx⟩ := pathV_cons_inv hu
        have hj1 : pathV w (ι id) [j] = some xj := by rw [hroot', pathV_cons hji hjc]; simp [pathV]
        have hj2 := k3 j xj hj1
        obtain ⟨bj', offj', nj', capj', xj', hroot'', hji', hjc', hjx'⟩ := pathV_cons_inv hj2
        rw [hroot''] at hroot'; cases hroot'
        simp only [pathV, Option.some.injEq] at hjx'; subst hjx'
        rw [hroot'', pathV_cons hji hjc']
        -- the matrix row 'j': the same one, or another one's blocks
        obtain ⟨us, f0, fs, h1', h2', h3'⟩ := ht
        obtain ⟨y, hy, hyp⟩ := h1'.row hj1
        simp only [pathV, Option.some.injEq] at hyp; subst hyp
        have hl : j < x.length := by rw [h2'.length.2]; exact (List.getElem?_eq_some_iff.1 hy).1
        obtain ⟨f, c, hff, hc, hr⟩ := h2'.get j _ (getD_some (d := []) hl)
        rw [hy] at hc; cases hc
        have hn := foot_part ho hf
        rw [h3', List.nodup_append] at hn
        by_cases hjr : j = r
        · subst hjr
          rw [hrow] at hj1; cases hj1
          exact (inner f (flatten_part hn.2.1 hff) hr).2.2 l u hjx
        · obtain ⟨us2, g0, gs, q1, q2, q3⟩ := hr
          obtain ⟨b2, off2, n2, cap2, x2, rfl, hi2, hc2, hx2⟩ := pathV_cons_inv hjx
          have hg0 := q1.at.1
          have hbne : b2 ≠ b := by
            intro e
            subst e
            obtain ⟨y', hy', hyp'⟩ := h1'.row hrow
            simp only [pathV, Option.some.injEq] at hyp'; subst hyp'
            have hl' : r < x.length := by rw [h2'.length.2]; exact (List.getElem?_eq_some_iff.1 hy').1
            obtain ⟨f', c', hff', hc', hr'⟩ := h2'.get r _ (getD_some (d := []) hl')
            rw [hy'] at hc'; cases hc'
            exact flatten_disj hn.2.1 hff hff' hjr (by rw [q3, hg0]; simp) (inner f' (flatten_part hn.2.1 hff') hr').1
          rw [pathV_cons hi2 (by rw [cell_of_heap (hcell b _ _ b2 hbne)]; exact hc2)]
          simpa [pathV] using hx2
      | _ :: _ :: _ :: _, hp => simp [livePath] at hp
    · -- t2, a row
      rename_i xss rid hf
      split at h <;> first | exact h.elim | skip
      rename_i ys hfr
      have hne : rid ≠ id := fun e => by subst e; rw [hf] at hfr; cases hfr
      have ht : ON O1 w (F id) xss (ι id) := by have := ho.trees _ (find_mem hf); simp only [treeRep, mem] at this; exact this
      have htr : O1 w (F rid) ys (ι rid) := by have := ho.trees _ (find_mem hfr); simpa only [treeRep, mem] using this
      refine row (n := xss.length) (f := fun i => .ref id [i]) hf (by simp [elemsT, hf]) rfl hfr hne (ownSl_one htr.1) h rfl (fun b off n' cap e1 e2 => ?_)
      simp only [pathV, Option.some.injEq] at e1
      rw [e1] at ht ⊢
      obtain ⟨k1, fp', k2, k3, k4⟩ := on_row (R := O1) (i := i) (fun h h' => O1.heap h h') ht (foot_part ho hf) (foot_part ho hfr) (fun x h1 h2 => foot_disj ho hfr hf hne h1 h2) htr
      exact ⟨k1, fp', k3, k4, fun m hm => by simp only [treeRep]; rw [hm]; exact k2⟩
    · -- t3, a matrix
      rename_i x rid hf
      split at h <;> first | exact h.elim | skip
      rename_i ys hfr
      have hne : rid ≠ id := fun e => by subst e; rw [hf] at hfr; cases hfr
      have ht : ON O2 w (F id) x (ι id) := by have := ho.trees _ (find_mem hf); simp only [treeRep, mem] at this; exact this
      have htr : O2 w (F rid) ys (ι rid) := by have := ho.trees _ (find_mem hfr); simpa only [treeRep, mem] using this
      have hone : (ι rid).oneCell' = true := by obtain ⟨_, _, _, k, _⟩ := htr; exact ownSl_one k
      refine row (n := x.length) (f := fun i => .ref id [i]) hf (by simp [elemsT, hf]) rfl hfr hne hone h rfl (fun b off n' cap e1 e2 => ?_)
      simp only [pathV, Option.some.injEq] at e1
      rw [e1] at ht ⊢
      obtain ⟨k1, fp', k2, k3, k4⟩ := on_row (R := O2) (i := i) (fun h h' => O2.heap h h') ht (foot_part ho hf) (foot_part ho hfr) (fun x h1 h2 => foot_disj ho hfr hf hne h1 h2) htr
      exact ⟨k1, fp', k3, k4, fun m hm => by simp only [treeRep]; rw [hm]; exact k2⟩
    · -- t3, a row of a matrix
      rename_i x r rid hf
      split at h <;> first | exact h.elim | skip
      rename_i ys hfr
      have hne : rid ≠ id := fun e => by subst e; rw [hf] at hfr; cases hfr
      have ht : ON O2 w (F id) x (ι id) := by have := ho.trees _ (find_mem hf); simp only [treeRep, mem] at this; exact this
      have htr : O1 w (F rid) ys (ι rid) := by have := ho.trees _ (find_mem hfr); simpa only [treeRep, mem] using this
      refine row (n := (x.getD r []).length) (f := fun j => .ref id [r, j]) hf (by simp [elemsT, hf]) rfl hfr hne (ownSl_one htr.1) h rfl (fun b off n' cap e1 e2 => ?_)
      obtain ⟨us, f0, fs, h1', h2', h3'⟩ := ht
      obtain ⟨y, hy, hyp⟩ := h1'.row e1
      simp only [pathV, Option.some.injEq] at hyp; subst hyp
      have hl : r < x.length := by rw [h2'.length.2]; exact (List.getElem?_eq_some_iff.1 hy).1
      obtain ⟨f, c, hff, hc, hr⟩ := h2'.get r _ (getD_some (d := []) hl)
      rw [hy] at hc; cases hc
      have hn := foot_part ho hf
      rw [h3', List.nodup_append] at hn
      have hfsub : ∀ z ∈ f, z ∈ F id := fun z hz => by rw [h3']; simp only [List.mem_append]; exact .inr (List.mem_flatten.2 ⟨f, List.mem_of_getElem? hff, hz⟩)
      obtain ⟨k1, fp', k2, k3, k4⟩ := on_row (R := O1) (i := i) (fun h h' => O1.heap h h') (show ON O1 w f (x.getD r []) _ from hr) (flatten_part hn.2.1 hff) (foot_part ho hfr) (fun z h1 h2 => foot_disj ho hfr hf hne h1 (hfsub z h2)) htr
      have hbfs : b ∈ fs.flatten := List.mem_flatten.2 ⟨f, List.mem_of_getElem? hff, k1⟩
      refine ⟨hfsub b k1, f0 ++ (fs.set r fp').flatten, ?_, fun z hz => ?_, fun m hm => ?_⟩
      · rw [List.nodup_append]
        have hdis : ∀ z ∈ fp', z ∉ (fs.set r []).flatten := by
          intro z hz hzf
          obtain ⟨a, ha, hza⟩ := List.mem_flatten.1 hzf
          obtain ⟨j, hj⟩ := List.getElem?_of_mem ha
          rw [List.getElem?_set] at hj
          by_cases hjr : r = j
          · rw [if_pos hjr] at hj
            split at hj
            · cases hj; simp at hza
            · cases hj
          · rw [if_neg hjr] at hj
            rcases k4 z hz with hz' | hz'
            · exact flatten_disj hn.2.1 hj hff (fun e => hjr e.symm) hza hz'
            · exact foot_disj ho hfr hf hne hz' (by rw [h3']; simp only [List.mem_append]; exact .inr (List.mem_flatten.2 ⟨a, List.mem_of_getElem? hj, hza⟩))
        have hset : (fs.set r fp') = ((fs.set r []).set r fp') := by rw [List.set_set]
        have hn0 : (fs.set r []).flatten.Nodup := nodup_flatten_set List.nodup_nil hn.2.1 (by simp)
        refine ⟨hn.1, by rw [hset]; exact nodup_flatten_set k3 hn0 hdis, fun z hz z' hz' e => ?_⟩
        subst e
        rcases mem_flatten_set hz' with hz' | hz'
        · rcases k4 z hz' with hz' | hz'
          · exact hn.2.2 z hz z (List.mem_flatten.2 ⟨f, List.mem_of_getElem? hff, hz'⟩) rfl
          · exact foot_disj ho hfr hf hne hz' (by rw [h3']; simp [hz])
        · exact hn.2.2 z hz z hz' rfl
      · rcases List.mem_append.1 hz with hz | hz
        · exact .inl (by rw [h3']; simp [hz])
        · rcases mem_flatten_set hz with hz | hz
          · exact orMap (k4 z hz) (hfsub z) (fun h => h)
          · exact .inl (by rw [h3']; simp only [List.mem_append]; exact .inr hz)
      · simp only [treeRep]
        rw [hm]
        refine ⟨us, f0, fs.set r fp', h1'.heap (fun q hq => hcell b _ _ q (fun e => by subst e; exact hn.2.2 q hq q hbfs rfl)), ?_, rfl⟩
        refine All3.of_get (by rw [List.length_set, List.length_set]; exact h2'.length.1) (by rw [List.length_set]; exact h2'.length.2) (fun j g a u hg ha hu => ?_)
        rw [List.getElem?_set] at hg ha
        by_cases hjr : r = j
        · subst hjr
          rw [if_pos rfl] at hg ha
          have hlf : r < fs.length := (List.getElem?_eq_some_iff.1 hff).1
          rw [if_pos hlf] at hg
          rw [if_pos hl] at ha
          cases hg; cases ha
          rw [hy] at hu; cases hu
          exact k2
        · rw [if_neg hjr] at hg ha
          refine O2.heap (w := w) (fun q hq => hcell b _ _ q (fun e => ?_)) (h2'.at hg ha hu)
          subst e
          exact flatten_disj hn.2.1 hg hff (fun e => hjr e.symm) hq k1
    · -- r2
      rename_i v' xss hf
      split at h <;> first | exact h.elim | skip
      rename_i ys hys
      have ht := ho.trees _ (find_mem hf)
      simp only [treeRep, mem] at ht
      obtain ⟨us, k1, k2⟩ := ht
      have hl1 := isL1_rep hys hv
      obtain ⟨b, off, n', cap, e1, e2, rfl, ⟨x, e3⟩, e4⟩ := eref_at ho (n := xss.length) (f := fun i => .l1 (xss.getD i [])) (by simp [elemsT, hf]) hp
      simp only [pathV, Option.some.injEq] at e1
      rw [e1] at k1
      have hF := k1.at.1
      refine ⟨_, store_run h1 (slC_one hl1.1) e3 e4, ho.same (t' := .r2 (xss.set i ys)) hf (by simp [hF]) (setCell_turned w b (off + i) _) (fp' := F id) (all := []) (subs := []) (by simp) (foot_part ho hf) (fun x hx => .inl hx)
        (fun p hl _ => only (fun p hp => by cases p <;> first | rfl | simp [livePath] at hp) rfl p hl) (fun m hm hr => ?_) (by rw [rmT_no, killH_no]; exact h)⟩
      have hr' : ∀ av x, rep (mem cx w H ι F) av x → rep m av x := fun av x h => by have := hr av x h; rwa [killA_no] at this
      simp only [treeRep]
      rw [e1, hm]
      refine ⟨us.set i uv, k1.set (i := i) uv, All2.set i (k2.mono fun a c hac => ?_) ?_⟩
      · have := hr' (.l1 a) c (by simp only [rep]; exact hac)
        simp only [rep] at this; rw [hm] at this; exact this
      · have := isL1_rep hys (hr' _ _ hv); rw [hm] at this; exact this
    · -- r3
      rename_i v' xss hf
      split at h <;> first | exact h.elim | skip
      rename_i ys hys
      have ht := ho.trees _ (find_mem hf)
      simp only [treeRep, mem] at ht
      obtain ⟨us, k1, k2⟩ := ht
      have hl1 := isL2_rep hys hv
      obtain ⟨b, off, n', cap, e1, e2, rfl, ⟨x, e3⟩, e4⟩ := eref_at ho (n := xss.length) (f := fun i => .l2 (xss.getD i [])) (by simp [elemsT, hf]) hp
      simp only [pathV, Option.some.injEq] at e1
      rw [e1] at k1
      have hF := k1.at.1
      refine ⟨_, store_run h1 (by obtain ⟨_, k, _⟩ := hl1; exact slC_one k) e3 e4, ho.same (t' := .r3 (xss.set i ys)) hf (by simp [hF]) (setCell_turned w b (off + i) _) (fp' := F id) (all := []) (subs := []) (by simp) (foot_part ho hf) (fun x hx => .inl hx)
        (fun p hl _ => only (fun p hp => by cases p <;> first | rfl | simp [livePath] at hp) rfl p hl) (fun m hm hr => ?_) (by rw [rmT_no, killH_no]; exact h)⟩
      have hr' : ∀ av x, rep (mem cx w H ι F) av x → rep m av x := fun av x h => by have := hr av x h; rwa [killA_no] at this
      simp only [treeRep]
      rw [e1, hm]
      refine ⟨us.set i uv, k1.set (i := i) uv, All2.set i (k2.mono fun a c hac => ?_) ?_⟩
      · have := hr' (.l2 a) c (by simp only [rep]; exact hac)
        simp only [rep] at this; rw [hm] at this; exact this
      · have := isL2_rep hys (hr' _ _ hv); rw [hm] at this; exact this
    · -- any values
      rename_i v' x1 x2 x3 vs hf
      obtain ⟨hone, hK⟩ := h
      have ht := ho.trees _ (find_mem hf)
      simp only [treeRep, mem] at ht
      obtain ⟨us, k1, k2⟩ := ht
      obtain ⟨b, off, n', cap, e1, e2, rfl, ⟨x, e3⟩, e4⟩ := eref_at ho (n := vs.length) (f := fun i => vs.getD i .junk) (by simp [elemsT, hf]) hp
      simp only [pathV, Option.some.injEq] at e1
      rw [e1] at k1
      have hF := k1.at.1
      refine ⟨_, store_run h1 (rep_one ho hone hv) e3 e4, ho.same (t' := .lv (vs.set i v')) hf (by simp [hF]) (setCell_turned w b (off + i) _) (fp' := F id) (all := []) (subs := []) (by simp) (foot_part ho hf) (fun x hx => .inl hx)
        (fun p hl _ => only (fun p hp => by cases p <;> first | rfl | simp [livePath] at hp) rfl p hl) (fun m hm hr => ?_) (by rw [rmT_no, killH_no]; exact hK)⟩
      have hr' : ∀ av x, rep (mem cx w H ι F) av x → rep m av x := fun av x h => by have := hr av x h; rwa [killA_no] at this
      simp only [treeRep]
      rw [e1, hm]
      refine ⟨us.set i uv, k1.set (i := i) uv, ?_⟩
      have h3 := reps_mono hr' k2
      rw [reps_all2] at h3 ⊢
      exact h3.set i (hr' _ _ hv)

end
end Go.Aw
