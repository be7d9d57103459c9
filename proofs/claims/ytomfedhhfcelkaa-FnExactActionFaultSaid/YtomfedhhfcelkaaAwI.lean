/-
  The operations that make memory, abstractly: their soundness. Of no program.
-/
import Derived.Test.YtomfedhhfcelkaaAwH
set_option linter.unusedSimpArgs false
set_option linter.unusedVariables false
namespace Go.Aw
open Go.RowKit

def inOrder : Nat → List (Nat × Operand) → Bool
  | _, [] => true
  | k, (i, _) :: r => i == k && inOrder (k + 1) r
theorem inOrder_map (f : Operand → Value) : ∀ (l : List (Nat × Operand)) (k : Nat), inOrder k l = true → (l.map fun p => (p.1, f p.2)) = ((l.map fun p => f p.2).zipIdx k).map fun x => (x.2, x.1)
  | [], _, _ => rfl
  | (i, x) :: r, k, h => by
    simp only [inOrder, Bool.and_eq_true, beq_iff_eq] at h
    simp only [List.map_cons, List.zipIdx_cons, h.1]
    rw [inOrder_map f r (k + 1) h.2]

theorem all2_one {R : AV → Value → Prop} (hR : ∀ a u, R a u → u.oneCell' = true) : ∀ {vs : List AV} {us : List Value}, All2 R vs us → ∀ u ∈ us, u.oneCell' = true
  | [], [], _, u, hu => by simp at hu
  | _ :: _, _ :: _, h, u, hu => by
    rcases List.mem_cons.1 hu with rfl | hu
    · exact hR _ _ h.1
    · exact all2_one hR h.2 u hu
  | [], _ :: _, h, _, _ => h.elim
  | _ :: _, [], h, _, _ => h.elim

section
variable {P : Program} {cx : Cx} {H : List (Nat × Tree)} {w : World} {ι : Nat → Value} {F : Nat → List Nat}

theorem slC_one {S : Nat → Prop} {us : List Value} {u : Value} (h : SlC w S us u) : u.oneCell' = true := by
  rcases h with ⟨⟨_, rfl⟩, _⟩ | ⟨_, _, _, rfl, _⟩ <;> rfl
theorem ownSl_one {fp : List Nat} {us : List Value} {u : Value} (h : OwnSl w fp us u) : u.oneCell' = true := slC_one (h.slC (S := fun _ => True) (fun _ _ => trivial))

theorem allInt_one {vs : List AV} {xs : List Int} {us : List Value} {m : Mem} (h : allSome isInt vs = some xs) (hr : All2 (rep m) vs us) : us = ints xs ∧ ∀ x ∈ xs, InR x := by
  refine all2_eq_ints (allSome_all2 (f := isInt) (R := rep m) (fun a b c hab hr => ?_) h hr)
  unfold isInt at hab
  split at hab <;> first | (cases hab; done) | skip
  cases hab
  simpa only [rep] using hr

theorem ints_one (xs : List Int) : ∀ u ∈ ints xs, u.oneCell' = true := by
  intro u hu
  simp only [ints, List.mem_map] at hu
  obtain ⟨x, _, rfl⟩ := hu
  rfl

theorem isL1_rep {m : Mem} {a : AV} {b : List Int} {u : Value} (h : isL1 a = some b) (hr : rep m a u) : L1 m.w m.S b u := by
  unfold isL1 at h
  split at h <;> first | (cases h; done) | skip
  · cases h; simpa only [rep] using hr
  · cases h; simp only [rep] at hr; subst hr; exact ⟨.inl ⟨⟨_, rfl⟩, rfl⟩, by simp⟩
theorem isL2_rep {m : Mem} {a : AV} {b : List (List Int)} {u : Value} (h : isL2 a = some b) (hr : rep m a u) : L2 m.w m.S b u := by
  unfold isL2 at h
  split at h <;> first | (cases h; done) | skip
  · cases h; simpa only [rep] using hr
  · cases h; simp only [rep] at hr; subst hr; exact ⟨[], .inl ⟨⟨_, rfl⟩, rfl⟩, trivial⟩

theorem all2_one' {α : Type} {R : α → Value → Prop} (hR : ∀ a u, R a u → u.oneCell' = true) : ∀ {vs : List α} {us : List Value}, All2 R vs us → ∀ u ∈ us, u.oneCell' = true
  | [], [], _, u, hu => by simp at hu
  | _ :: _, _ :: _, h, u, hu => by
    rcases List.mem_cons.1 hu with rfl | hu
    · exact hR _ _ h.1
    · exact all2_one' hR h.2 u hu
  | [], _ :: _, h, _, _ => h.elim
  | _ :: _, [], h, _, _ => h.elim

theorem build_left (ho : Owns cx H w ι F) {t e : TypeId} (hk : tkOf P t = .sl e) (he : okElem P e = true) {vs : List AV} {us : List Value} (hr : reps (mem cx w H ι F) vs us) (hlen : us.length ≤ 16777216)
    {K : AV → List Nat → List Nat → List (Nat × Tree) → Prop} (h : ABuild P H e vs K) :
    ∃ u w', (Instr.buildSlice t us.length ((us.zipIdx 0).map fun x => (x.2, x.1)).toArray).run P w = .ok u w' ∧ Left cx H w ι F u w' K := by
  obtain ⟨i, z, hi, h1, hby, hz, hzo, hzc⟩ := okElem_info he
  have hml : us.length ≤ maxLen := by simp only [maxLen]; omega
  rw [reps_all2] at hr
  have run : (∀ u ∈ us, u.oneCell' = true) → (Instr.buildSlice t us.length ((us.zipIdx 0).map fun x => (x.2, x.1)).toArray).run P w = .ok (.slice (some ⟨w.heap.size, 0, none⟩) us.length us.length) (w.alloc (.cells us.toArray e)) :=
    fun hone => build_run (tk_sl hk).1 hi hz h1 us hone hlen
  have fresh : (∀ u ∈ us, u.oneCell' = true) → ∀ (t' : Tree), K (.ref (newId H) []) [] [] (putT H (newId H) t') →
      (∀ m : Mem, m.w = w.alloc (.cells us.toArray e) → (∀ av x, rep (mem cx w H ι F) av x → rep m av x) → treeRep m [w.heap.size] t' (.slice (some ⟨w.heap.size, 0, none⟩) us.length us.length)) →
      ∃ u w', (Instr.buildSlice t us.length ((us.zipIdx 0).map fun x => (x.2, x.1)).toArray).run P w = .ok u w' ∧ Left cx H w ι F u w' K := by
    intro hone t' hK ht
    exact ⟨_, _, run hone, ho.new t' _ us.toArray e ht hK (fun m hd hv => by simp only [rep]; exact ⟨hd, by rw [hv]; simp [pathV]⟩)⟩
  have take : ∀ (id : Nat) (tr tr' : Tree) (u : Value), find H id = some tr → us = [u] → u = ι id → u.oneCell' = true →
      K (.ref (newId H) []) [id] [] (putT (killH (qOf [id] []) (rmT [id] H)) (newId H) tr') →
      (∀ m : Mem, m.w = w.alloc (.cells us.toArray e) → treeRep m ([w.heap.size] ++ F id) tr' (.slice (some ⟨w.heap.size, 0, none⟩) us.length us.length)) →
      ∃ u w', (Instr.buildSlice t us.length ((us.zipIdx 0).map fun x => (x.2, x.1)).toArray).run P w = .ok u w' ∧ Left cx H w ι F u w' K := by
    intro id tr tr' u hf hus hu hone hK ht
    have hext : Ext w (w.alloc (.cells us.toArray e)) := (Below.refl _ _).alloc (Nat.le_refl _) _
    have hmem : (id, tr) ∈ H := find_mem hf
    have hid : id ∈ ids H := List.mem_map.2 ⟨_, hmem, rfl⟩
    have hne : newId H ≠ id := fun e => newId_not H (e ▸ hid)
    have hFid : ∀ b ∈ F id, b < w.heap.size := fun b hb => (ho.mine b (mem_foot.2 ⟨_, hmem, hb⟩)).1
    have hFn : (F id).Nodup := by
      have h0 := ho.nodup
      have : ∀ {H : List (Nat × Tree)}, (foot H F).Nodup → (id, tr) ∈ H → (F id).Nodup := by
        intro H
        induction H with
        | nil => intro _ h; cases h
        | cons x r ih =>
          intro hn h
          rw [foot_cons, List.nodup_append] at hn
          rcases List.mem_cons.1 h with e | h
          · subst e; exact hn.1
          · exact ih hn.2.1 h
      exact this h0 hmem
    have key := ho.put (w' := w.alloc (.cells us.toArray e)) [id] (newId H) tr' (.slice (some ⟨w.heap.size, 0, none⟩) us.length us.length) ([w.heap.size] ++ F id) (qOf [id] []) (ho.keep.ext ho.old hext) hext.size
      (fun b hb _ => hext.block b hb)
      (by
        rw [List.singleton_append, List.nodup_cons]
        exact ⟨fun h => by have := hFid _ h; omega, hFn⟩)
      (fun b hb => by
        rcases List.mem_append.1 hb with hb | hb
        · simp only [List.mem_singleton] at hb; subst hb; exact ⟨by simp, .inr (Nat.le_refl _)⟩
        · exact ⟨by have := hFid _ hb; simp; omega, .inl ⟨id, .inr (by simp), hid, hb⟩⟩)
      (fun r hr p => by simp only [List.mem_singleton] at hr; subst hr; simp [qOf])
      (fun p _ hl => by rw [find_new] at hl; simp [livePath] at hl)
      (fun _ => ht _ rfl)
    refine ⟨_, _, run (by rw [hus]; simpa using hone), .ref (newId H) [], [id], [], _, _, _, hK, key.1, ?_, key.2⟩
    simp only [rep, mem, find_put_self, updF, if_true]
    exact ⟨by cases tr' <;> rfl, by simp [pathV]⟩
  unfold ABuild at h
  split at h
  · have hu : us = [] := List.eq_nil_of_length_eq_zero (by rw [← hr.length]; rfl)
    subst hu
    split at h
    · exact fresh (by simp) _ h (fun m hm _ => ⟨new_own [] e (by simp [maxLen]) _ hm, by simp⟩)
    · exact fresh (by simp) _ h (fun m hm _ => ⟨[], [w.heap.size], [], new_own [] e (by simp [maxLen]) _ hm, trivial, by simp⟩)
    · exact fresh (by simp) _ h (fun m hm _ => ⟨[], [w.heap.size], [], new_own [] e (by simp [maxLen]) _ hm, trivial, by simp⟩)
    · exact fresh (by simp) _ h (fun m hm _ => ⟨[], new_own [] e (by simp [maxLen]) _ hm, by simp [reps]⟩)
  · rename_i id
    cases us with
    | nil => exact hr.elim
    | cons u us =>
      cases us with
      | cons _ _ => exact hr.2.elim
      | nil =>
        have hru := hr.1
        simp only [rep, mem] at hru
        have hu : u = ι id := by have := hru.2; simp only [pathV, Option.some.injEq] at this; exact this.symm
        have hFid : ∀ {tr : Tree}, find H id = some tr → ∀ b ∈ F id, b < w.heap.size := fun hf b hb => (ho.mine b (mem_foot.2 ⟨_, find_mem hf, hb⟩)).1
        split at h
        · rename_i xs hf
          have ht := ho.trees _ (find_mem hf)
          simp only [treeRep, mem] at ht
          refine take id _ _ u hf rfl hu (by rw [hu]; exact ownSl_one ht.1) h (fun m hm => ?_)
          simp only [treeRep]
          refine ⟨[u], [w.heap.size], [F id], new_own [u] e (by simp [maxLen]) _ hm, ⟨?_, trivial⟩, by simp⟩
          rw [hu]
          refine O1.heap (w := w) (fun b hb => ?_) ht
          rw [hm]
          exact ((Below.refl _ _).alloc (Nat.le_refl _) _ : Ext w _).block b (hFid hf b hb)
        · rename_i xs hf
          have ht := ho.trees _ (find_mem hf)
          simp only [treeRep, mem] at ht
          have hone : (ι id).oneCell' = true := by obtain ⟨_, _, _, k, _⟩ := ht; exact ownSl_one k
          refine take id _ _ u hf rfl hu (by rw [hu]; exact hone) h (fun m hm => ?_)
          simp only [treeRep]
          refine ⟨[u], [w.heap.size], [F id], new_own [u] e (by simp [maxLen]) _ hm, ⟨?_, trivial⟩, by simp⟩
          rw [hu]
          refine O2.heap (w := w) (fun b hb => ?_) ht
          rw [hm]
          exact ((Below.refl _ _).alloc (Nat.le_refl _) _ : Ext w _).block b (hFid hf b hb)
        · exact h.elim
  · split at h
    · rename_i xs hxs
      obtain ⟨rfl, hin⟩ := allInt_one hxs hr
      exact fresh (ints_one xs) _ h (fun m hm _ => ⟨new_own _ e hml _ hm, hin⟩)
    · split at h
      · rename_i xs hxs
        have h2 := allSome_all2 (f := isL1) (R := rep (mem cx w H ι F)) (R' := L1 w (imm cx w H F)) (fun a b c hab hr => isL1_rep hab hr) hxs hr
        refine fresh (all2_one' (fun _ _ hl => slC_one hl.1) h2) _ h (fun m hm hmr => ⟨us, new_own us e hml _ hm, ?_⟩)
        exact allSome_all2 (f := isL1) (R := rep m) (fun a b c hab hr => isL1_rep hab hr) hxs (hr.mono hmr)
      · split at h
        · rename_i xs hxs
          have h2 := allSome_all2 (f := isL2) (R := rep (mem cx w H ι F)) (R' := L2 w (imm cx w H F)) (fun a b c hab hr => isL2_rep hab hr) hxs hr
          refine fresh (all2_one' (fun _ _ hl => by obtain ⟨_, k, _⟩ := hl; exact slC_one k) h2) _ h (fun m hm hmr => ⟨us, new_own us e hml _ hm, ?_⟩)
          exact allSome_all2 (f := isL2) (R := rep m) (fun a b c hab hr => isL2_rep hab hr) hxs (hr.mono hmr)
        · obtain ⟨hall, hK⟩ := h
          have hone : ∀ {vs : List AV} {us : List Value}, vs.all (oneA H) = true → All2 (rep (mem cx w H ι F)) vs us → ∀ u ∈ us, u.oneCell' = true := by
            intro vs
            induction vs with
            | nil => intro us _ h u hu; cases us with | nil => simp at hu | cons _ _ => exact h.elim
            | cons v vs ih =>
              intro us hall h u hu
              simp only [List.all_cons, Bool.and_eq_true] at hall
              cases us with
              | nil => exact h.elim
              | cons u' us =>
                rcases List.mem_cons.1 hu with rfl | hu
                · exact rep_one ho hall.1 h.1
                · exact ih hall.2 h.2 u hu
          refine fresh (hone hall hr) _ hK (fun m hm hmr => ⟨us, new_own us e hml _ hm, ?_⟩)
          rw [reps_all2]
          exact hr.mono hmr

theorem make_left (ho : Owns cx H w ι F) {t e : TypeId} (hk : tkOf P t = .sl e) (he : okElem P e = true) (hz0 : zeroAVs P e = (match elemKind P e with | 1 => some [.int 0] | 2 => some [.nil] | 3 => some [.nil] | _ => zeroAVs P e)) {n : Int}
    {K : AV → List Nat → List Nat → List (Nat × Tree) → Prop} (h : AMake P H e n K) :
    ∃ u w', (Instr.makeSlice t (.int .i64 n) (.int .i64 n)).run P w = .ok u w' ∧ Left cx H w ι F u w' K := by
  obtain ⟨i, z, hi, h1, hby, hz, hzo, hzc⟩ := okElem_info he
  obtain ⟨h0, hn, h⟩ := h
  have run := make_run (P := P) (w := w) (tk_sl hk).1 hi hz h1 hzc hby h0 hn
  have hml : (List.replicate n.toNat z).length ≤ maxLen := by simp [maxLen]; omega
  have hl : (List.replicate n.toNat z).length = n.toNat := by simp
  have fresh : ∀ (t' : Tree), K (.ref (newId H) []) [] [] (putT H (newId H) t') →
      (∀ m : Mem, m.w = w.alloc (.cells (List.replicate n.toNat z).toArray e) → treeRep m [w.heap.size] t' (.slice (some ⟨w.heap.size, 0, none⟩) (List.replicate n.toNat z).length (List.replicate n.toNat z).length)) →
      ∃ u w', (Instr.makeSlice t (.int .i64 n) (.int .i64 n)).run P w = .ok u w' ∧ Left cx H w ι F u w' K := by
    intro t' hK ht
    refine ⟨_, _, run, ho.new t' _ _ e (fun m hm _ => ?_) hK (fun m hd hv => by simp only [rep]; exact ⟨hd, by rw [hv]; simp [pathV]⟩)⟩
    have := ht m hm
    rwa [hl] at this
  have hzz : zeroAVs P e = some [ofV z] := by simp [zeroAVs, hi, hz, hzc]
  rw [hzz] at hz0
  split at h
  · rename_i hek
    rw [hek] at hz0
    simp only [Option.some.injEq, List.cons.injEq, and_true] at hz0
    have hzi : z = .int .i64 0 := by
      have := ofV_rep (mem cx w H ι F) z
      rw [hz0] at this
      simp only [rep] at this
      exact this.1
    subst hzi
    refine fresh _ h (fun m hm => ?_)
    have := new_own (List.replicate n.toNat (.int .i64 0)) e hml _ hm
    refine ⟨by simpa [ints] using this, fun x hx => ?_⟩
    rw [List.eq_of_mem_replicate hx]; constructor <;> decide
  · rename_i hek
    rw [hek] at hz0
    simp only [Option.some.injEq, List.cons.injEq, and_true] at hz0
    have hzi : z = .slice none 0 0 := by
      have := ofV_rep (mem cx w H ι F) z
      rw [hz0] at this
      simpa only [rep] using this
    subst hzi
    refine fresh _ h (fun m hm => ⟨_, [w.heap.size], List.replicate n.toNat [], new_own (List.replicate n.toNat (.slice none 0 0)) e hml _ hm, ?_, by simp⟩)
    generalize n.toNat = k
    induction k with
    | zero => trivial
    | succ k ih => exact ⟨⟨.inl ⟨rfl, rfl, rfl⟩, by simp⟩, ih⟩
  · rename_i hek
    rw [hek] at hz0
    simp only [Option.some.injEq, List.cons.injEq, and_true] at hz0
    have hzi : z = .slice none 0 0 := by
      have := ofV_rep (mem cx w H ι F) z
      rw [hz0] at this
      simpa only [rep] using this
    subst hzi
    refine fresh _ h (fun m hm => ⟨_, [w.heap.size], List.replicate n.toNat [], new_own (List.replicate n.toNat (.slice none 0 0)) e hml _ hm, ?_, by simp⟩)
    generalize n.toNat = k
    induction k with
    | zero => trivial
    | succ k ih => exact ⟨⟨[], [], [], .inl ⟨rfl, rfl, rfl⟩, trivial, rfl⟩, ih⟩
  · split at h
    · rename_i za hza
      rw [hzz] at hza
      simp only [Option.some.injEq, List.cons.injEq, and_true] at hza
      subst hza
      refine fresh _ h (fun m hm => ⟨_, new_own (List.replicate n.toNat z) e hml _ hm, ?_⟩)
      rw [reps_all2]
      generalize n.toNat = k
      induction k with
      | zero => trivial
      | succ k ih => exact ⟨ofV_rep m z, ih⟩
    · exact h.elim

end
end Go.Aw
