/-
  From a walk of a function's body to its contract. Of no program.
-/
import Derived.Test.YtomfedhhfcelkaaAwO
set_option linter.unusedSimpArgs false
set_option linter.unusedVariables false
namespace Go.Aw
open Go.RowKit

def resA (P : Program) (st : St) (rv : ResultVar) (v : AV) : Prop :=
  match rv with
  | .tmp t => okG true (st.get t) ∧ v = strip (st.get t)
  | .cell a t => ALoad P st.H t (st.get a) v

/-- What a function hands back, as its state at the end has it. -/
def resL (P : Program) (st : St) (rs : List ResultVar) (v : AV) : Prop :=
  match rs with
  | [] => v = .tup []
  | [a] => resA P st a v
  | [a, b] => ∃ x y, resA P st a x ∧ resA P st b y ∧ v = .tup [x, y]
  | [a, b, c] => ∃ x y z, resA P st a x ∧ resA P st b y ∧ resA P st c z ∧ v = .tup [x, y, z]
  | [a, b, c, d] => ∃ x y z u, resA P st a x ∧ resA P st b y ∧ resA P st c z ∧ resA P st d u ∧ v = .tup [x, y, z, u]
  | _ => False

def semR (tmps : Array Value) : ResultVar → Sem Value
  | .tmp t => pure (tmps.getD t undef)
  | .cell a t => do loadVar t (← asAddr (tmps.getD a undef))

section
variable {P : Program} {cx : Cx} {n : Nat}

theorem resA_sound {st : St} {tmps : Array Value} {w : World} {ι : Nat → Value} {F : Nat → List Nat} (ho : Owns cx st.H w ι F) (hr : ∀ k, rep (mem cx w st.H ι F) (st.get k) (tmps.getD k undef)) {rv : ResultVar} {v : AV} (h : resA P st rv v) :
    ∃ u, (semR tmps rv).run P w = .ok u w ∧ rep (mem cx w st.H ι F) v u := by
  cases rv with
  | tmp t =>
    obtain ⟨h1, rfl⟩ := h
    exact ⟨_, rfl, strip_rep rfl h1 (hr t)⟩
  | cell a t =>
    obtain ⟨u, h1, h2⟩ := aload_sound (P := P) ho h (hr a)
    refine ⟨u, ?_, h2⟩
    simp only [semR]
    simp only [Instr.loadAt] at h1
    generalize tmps.getD a undef = x at h1
    cases x with
    | pointer p =>
      cases p with
      | some p => simpa [asAddr, Instr.sureAddr] using h1
      | none => simp [Instr.sureAddr] at h1
    | _ => simp [Instr.sureAddr] at h1

theorem results_run {fn : Func} {rs : List ResultVar} (hrs : fn.results = rs.toArray) {st : St} {tmps : Array Value} {w : World} {ι : Nat → Value} {F : Nat → List Nat} (ho : Owns cx st.H w ι F) (hr : ∀ k, rep (mem cx w st.H ι F) (st.get k) (tmps.getD k undef))
    {v : AV} (h : resL P st rs v) : ∃ u, (results fn tmps).run P w = .ok u w ∧ rep (mem cx w st.H ι F) v u := by
  have hres : results fn tmps = (do let vs ← rs.toArray.mapM (semR tmps); pure (if h : vs.size = 1 then vs[0] else .tuple vs)) := by
    unfold results
    rw [hrs]
    rfl
  rw [hres]
  unfold resL at h
  split at h <;> first | exact h.elim | skip
  · subst h
    exact ⟨.tuple #[], by simp, by simp only [rep]; exact ⟨[], rfl, by simp [reps]⟩⟩
  · rename_i a
    obtain ⟨u, h1, h2⟩ := resA_sound (P := P) ho hr h
    exact ⟨u, by simp [h1], h2⟩
  · rename_i a b
    obtain ⟨x, y, h1, h2, rfl⟩ := h
    obtain ⟨u, k1, k2⟩ := resA_sound (P := P) ho hr h1
    obtain ⟨u', j1, j2⟩ := resA_sound (P := P) ho hr h2
    exact ⟨.tuple #[u, u'], by simp [k1, j1], by simp only [rep]; exact ⟨[u, u'], rfl, by rw [reps_all2]; exact ⟨k2, j2, trivial⟩⟩⟩
  · rename_i a b c
    obtain ⟨x, y, z, h1, h2, h3, rfl⟩ := h
    obtain ⟨u, k1, k2⟩ := resA_sound (P := P) ho hr h1
    obtain ⟨u', j1, j2⟩ := resA_sound (P := P) ho hr h2
    obtain ⟨u'', i1, i2⟩ := resA_sound (P := P) ho hr h3
    exact ⟨.tuple #[u, u', u''], by simp [k1, j1, i1], by simp only [rep]; exact ⟨[u, u', u''], rfl, by rw [reps_all2]; exact ⟨k2, j2, i2, trivial⟩⟩⟩
  · rename_i a b c d
    obtain ⟨x, y, z, q, h1, h2, h3, h4, rfl⟩ := h
    obtain ⟨u, k1, k2⟩ := resA_sound (P := P) ho hr h1
    obtain ⟨u', j1, j2⟩ := resA_sound (P := P) ho hr h2
    obtain ⟨u'', i1, i2⟩ := resA_sound (P := P) ho hr h3
    obtain ⟨u3, l1, l2⟩ := resA_sound (P := P) ho hr h4
    exact ⟨.tuple #[u, u', u'', u3], by simp [k1, j1, i1, l1], by simp only [rep]; exact ⟨[u, u', u'', u3], rfl, by rw [reps_all2]; exact ⟨k2, j2, i2, l2, trivial⟩⟩⟩

/-- The slots at the beginning. -/
def argSlots : Nat → List AV → List (Nat × AV)
  | _, [] => []
  | k, a :: as => (k, a) :: argSlots (k + 1) as

theorem argSlots_get {m : Mem} : ∀ {ds : List AV} {vs : List Value} (j : Nat), All2 (rep m) ds vs → ∀ k, rep m (slotGet (argSlots j ds) k) (if k < j then undef else (vs[k - j]?).getD undef)
  | [], _, j, _, k => by simp only [argSlots, slotGet, rep]
  | d :: ds, v :: vs, j, h, k => by
    simp only [argSlots, slotGet]
    split
    · rename_i hj; subst hj
      simp only [Nat.lt_irrefl, if_false, Nat.sub_self]
      exact h.1
    · rename_i hj
      have ih := argSlots_get (j + 1) h.2 k
      by_cases hk : k < j
      · rw [if_pos (by omega)] at ih; rw [if_pos hk]; exact ih
      · rw [if_neg (by omega)] at ih
        rw [if_neg hk]
        have e : k - j = (k - (j + 1)) + 1 := by omega
        rw [e, List.getElem?_cons_succ]
        exact ih
  | _ :: _, [], _, h, _ => h.elim

def startCx (S : Nat → Prop) (w : World) : Cx := ⟨w.heap.size, fun _ => False, S, w, 0, fun _ => undef⟩

theorem start_sim {S : Nat → Prop} {w : World} (hS : ∀ b, S b → b < w.heap.size) {ds : List AV} {vs : List Value} (h : All2 (Rd w S) ds vs) (hl : ds.length ≤ n) :
    SimF (startCx S w) n (St.mk (argSlots 0 ds) []).get [] (vs.toArray ++ Array.replicate (n - vs.toArray.size) undef) w := by
  have hlen := h.length
  refine ⟨⟨by simp; omega, fun j hj => absurd hj (Nat.not_lt_zero _)⟩, fun _ => undef, fun _ => [], ⟨⟨rfl, rfl, rfl, Nat.le_refl _, fun _ _ _ => rfl⟩, by simp, by simp [foot], by simp [foot], by simp [ids], Nat.le_refl _⟩, fun k => ?_⟩
  have h1 : All2 (rep (mem (startCx S w) w [] (fun _ => undef) (fun _ => []))) ds vs := by
    refine h.mono fun d v hdv => ?_
    exact rep.le (m := ⟨w, S, fun _ => undef, fun _ _ => False⟩) (m' := mem (startCx S w) w [] (fun _ => undef) (fun _ => [])) ⟨fun b hb => ⟨⟨.inl hb, hS b hb, by simp [foot]⟩, rfl⟩, fun _ _ hd => hd.elim⟩ _ _ hdv
  have := argSlots_get 0 h1 k
  simp only [Nat.not_lt_zero, if_false, Nat.sub_zero] at this
  show rep _ (slotGet (argSlots 0 ds) k) _
  have e : (vs.toArray ++ Array.replicate (n - vs.toArray.size) undef).getD k undef = (vs[k]?).getD undef := by
    rw [Array.getD_eq_getD_getElem?]
    by_cases hk : k < vs.length
    · rw [Array.getElem?_append_left (by simpa using hk)]; simp
    · rw [Array.getElem?_append_right (by simpa using hk)]
      rw [List.getElem?_eq_none (by omega)]
      simp only [Array.getElem?_replicate]
      split <;> rfl
  rw [e]
  exact this

theorem Keep.ext_of {S : Nat → Prop} {w w' : World} (h : Keep (startCx S w) w') : Ext w w' := ⟨h.os, h.tape, h.output, h.size, fun k hk => h.block k hk (fun h => h.elim)⟩

def Ends (e : Exit) : Prop := e = .normal ∨ e = .ret

/-- A function that writes to nothing that was there. -/
theorem PureCall.intro {f : FuncId} {fn : Func} {c : Code} {rs : List ResultVar} {ds : List AV} {r : AV} (hcall : ∀ args w, (callFunc f args).run P w = .ok (.enter f args) w) (hf : P.funcs[f]? = some fn) (hb : fn.body = some c)
    (hn : fn.ntmps = n) (hrs : fn.results = rs.toArray) (hl : ds.length ≤ n) (h : ∀ cx, cx.fix = 0 → AT P cx n c (fun e st => Ends e ∧ ∃ v, resL P st rs v ∧ view1 st.H v = some r) ⟨argSlots 0 ds, []⟩) : PureCall P f ds r := by
  refine ⟨hcall, fun vs w S hS hd => calls_of_wp hf hb ?_⟩
  rw [hn]
  refine wp_mono (h (startCx S w) rfl _ w (start_sim hS hd hl)) ?_
  rintro e a w' ⟨h1, st', ⟨he, v, hv, hvw⟩, hsz, ι, F, ho, hr⟩
  obtain ⟨u, k1, k2⟩ := results_run (P := P) hrs ho hr hv
  have k3 := view1_rep ho _ _ _ hvw k2
  have hfin : ∃ x, (results fn a.tmps).run P w' = .ok x w' ∧ ∃ v, Ending.returned x = .returned v ∧ Ext w w' ∧ Rd w' (fun b => S b ∨ (w.heap.size ≤ b ∧ b < w'.heap.size)) r v := by
    refine ⟨u, k1, u, rfl, ho.keep.ext_of, ?_⟩
    refine rep.le (m := ⟨w', allow (startCx S w) w', fun _ => undef, fun _ _ => False⟩) (m' := ⟨w', fun b => S b ∨ (w.heap.size ≤ b ∧ b < w'.heap.size), fun _ => undef, fun _ _ => False⟩) ⟨fun b hb => ⟨?_, rfl⟩, fun _ _ hd => hd.elim⟩ _ _ k3
    obtain ⟨hb1, hb2⟩ := hb
    rcases hb2 with hb2 | hb2 | hb2
    · exact .inl hb2
    · exact .inr ⟨hb2, hb1⟩
    · exact hb2.elim
  rcases he with rfl | rfl
  · exact ⟨h1, hfin⟩
  · exact ⟨h1, hfin⟩

/-! ### What a function hands back as its caller's own -/
mutual
def ownsA (H : List (Nat × Tree)) : AV → Option (AV × List Nat)
  | .ref id [] => match find H id with
    | some (.t1 xs) => some (.l1 xs, [id])
    | some (.t2 xs) => some (.l2 xs, [id])
    | some (.t3 xs) => some (.l3 xs, [id])
    | _ => none
  | .agg vs => (ownsAs H vs).map fun p => (.agg p.1, p.2)
  | .tup vs => (ownsAs H vs).map fun p => (.tup p.1, p.2)
  | .int n => some (.int n, [])
  | .bool b => some (.bool b, [])
  | .str s => some (.str s, [])
  | .nil => some (.nil, [])
  | _ => none
def ownsAs (H : List (Nat × Tree)) : List AV → Option (List AV × List Nat)
  | [] => some ([], [])
  | a :: as => match ownsA H a, ownsAs H as with
    | some (x, i), some (xs, is) => some (x :: xs, i ++ is)
    | _, _ => none
end

mutual
theorem ownsA_rep {H : List (Nat × Tree)} {w : World} {ι : Nat → Value} {F : Nat → List Nat} (ho : Owns cx H w ι F) : ∀ (av : AV) (d : AV) (is : List Nat) (u : Value), ownsA H av = some (d, is) → rep (mem cx w H ι F) av u →
    ownR w ((is.map F).flatten) d u ∧ ∀ i ∈ is, i ∈ Aw.ids H
  | .ref id p, d, is, u, h, hr => by
    cases p with
    | cons _ _ => simp [ownsA] at h
    | nil =>
      simp only [ownsA] at h
      split at h <;> first | (cases h; done) | skip
      all_goals (
        rename_i hf
        cases h
        obtain ⟨_, ht⟩ := ref_root ho hf hr
        simp only [treeRep, mem] at ht
        refine ⟨by simp only [ownR, List.map_cons, List.map_nil, List.flatten_cons, List.flatten_nil, List.append_nil]; exact ht, fun i hi => ?_⟩
        simp only [List.mem_singleton] at hi
        subst hi
        exact List.mem_map.2 ⟨_, find_mem hf, rfl⟩)
  | .agg vs, d, is, u, h, hr => by
    simp only [ownsA, Option.map_eq_some_iff] at h
    obtain ⟨⟨ds, js⟩, h1, h2⟩ := h
    cases h2
    simp only [rep] at hr
    obtain ⟨us, hu, hrs⟩ := hr
    obtain ⟨k1, k2⟩ := ownsAs_rep ho vs ds _ us h1 hrs
    exact ⟨by simp only [ownR]; exact ⟨us, hu, k1⟩, k2⟩
  | .tup vs, d, is, u, h, hr => by
    simp only [ownsA, Option.map_eq_some_iff] at h
    obtain ⟨⟨ds, js⟩, h1, h2⟩ := h
    cases h2
    simp only [rep] at hr
    obtain ⟨us, hu, hrs⟩ := hr
    obtain ⟨k1, k2⟩ := ownsAs_rep ho vs ds _ us h1 hrs
    exact ⟨by simp only [ownR]; exact ⟨us, hu, k1⟩, k2⟩
  | .int _, d, is, u, h, hr => by
    simp only [ownsA, Option.some.injEq, Prod.mk.injEq] at h
    obtain ⟨rfl, rfl⟩ := h
    simp only [rep] at hr
    exact ⟨by simp only [ownR]; exact ⟨rfl, hr⟩, by simp⟩
  | .bool _, d, is, u, h, hr => by
    simp only [ownsA, Option.some.injEq, Prod.mk.injEq] at h
    obtain ⟨rfl, rfl⟩ := h
    simp only [rep] at hr
    exact ⟨by simp only [ownR]; exact ⟨rfl, hr⟩, by simp⟩
  | .str _, d, is, u, h, hr => by
    simp only [ownsA, Option.some.injEq, Prod.mk.injEq] at h
    obtain ⟨rfl, rfl⟩ := h
    simp only [rep] at hr
    exact ⟨by simp only [ownR]; exact ⟨rfl, hr⟩, by simp⟩
  | .nil, d, is, u, h, hr => by
    simp only [ownsA, Option.some.injEq, Prod.mk.injEq] at h
    obtain ⟨rfl, rfl⟩ := h
    simp only [rep] at hr
    exact ⟨by simp only [ownR]; exact ⟨rfl, hr⟩, by simp⟩
  | .ik _ _, _, _, _, h, _ | .nilfn, _, _, _, h, _ | .l1 _, _, _, _, h, _ | .l2 _, _, _, _, h, _ | .l3 _, _, _, _, h, _ | .lv _, _, _, _, h, _ | .fn _ _, _, _, _, h, _ | .eptr _ _, _, _, _, h, _
  | .cptr _ _, _, _, _, h, _ | .sub _ _ _ _, _, _, _, h, _ | .eref _ _ _, _, _, _, h, _ | .bptr _ _, _, _, _, h, _ | .when _ _, _, _, _, h, _ | .junk, _, _, _, h, _ => by simp [ownsA] at h
theorem ownsAs_rep {H : List (Nat × Tree)} {w : World} {ι : Nat → Value} {F : Nat → List Nat} (ho : Owns cx H w ι F) : ∀ (vs : List AV) (ds : List AV) (is : List Nat) (us : List Value), ownsAs H vs = some (ds, is) → reps (mem cx w H ι F) vs us →
    ownRs w ((is.map F).flatten) ds us ∧ ∀ i ∈ is, i ∈ Aw.ids H
  | [], ds, is, us, h, hr => by
    simp only [ownsAs, Option.some.injEq, Prod.mk.injEq] at h
    obtain ⟨rfl, rfl⟩ := h
    simp only [reps] at hr
    exact ⟨by simp only [ownRs]; exact ⟨hr, rfl⟩, by simp⟩
  | a :: as, ds, is, us, h, hr => by
    simp only [ownsAs] at h
    split at h
    · rename_i x i xs js hx hxs
      cases h
      simp only [reps] at hr
      obtain ⟨u, us', rfl, h1, h2⟩ := hr
      obtain ⟨k1, k2⟩ := ownsA_rep ho a _ _ u hx h1
      obtain ⟨j1, j2⟩ := ownsAs_rep ho as _ _ us' hxs h2
      refine ⟨?_, fun q hq => ?_⟩
      · simp only [ownRs]
        exact ⟨u, us', _, _, rfl, by rw [List.map_append, List.flatten_append], k1, j1⟩
      · rcases List.mem_append.1 hq with hq | hq
        · exact k2 q hq
        · exact j2 q hq
    · cases h
end

theorem ids_nodup_foot {H : List (Nat × Tree)} {w : World} {ι : Nat → Value} {F : Nat → List Nat} (ho : Owns cx H w ι F) : ∀ {is : List Nat}, is.Nodup → (∀ i ∈ is, i ∈ Aw.ids H) → ((is.map F).flatten).Nodup
  | [], _, _ => by simp
  | i :: is, hn, hm => by
    rw [List.nodup_cons] at hn
    simp only [List.map_cons, List.flatten_cons, List.nodup_append]
    have find_id : ∀ j, j ∈ Aw.ids H → ∃ t, find H j = some t := fun j hj => by
      obtain ⟨p, hp, rfl⟩ := List.mem_map.1 hj
      exact ⟨_, find_of_mem ho.ids hp⟩
    obtain ⟨t, ht⟩ := find_id i (hm i (List.mem_cons_self ..))
    refine ⟨foot_part ho ht, ids_nodup_foot ho hn.2 (fun j hj => hm j (List.mem_cons_of_mem _ hj)), fun a ha b hb e => ?_⟩
    subst e
    obtain ⟨l, hl, hal⟩ := List.mem_flatten.1 hb
    obtain ⟨j, hj, rfl⟩ := List.mem_map.1 hl
    obtain ⟨t', ht'⟩ := find_id j (hm j (List.mem_cons_of_mem _ hj))
    exact foot_disj ho ht ht' (fun e => hn.1 (e ▸ hj)) ha hal

/-- A function whose results are its caller's own. -/
theorem FreshCall.intro {f : FuncId} {fn : Func} {c : Code} {rs : List ResultVar} {ds : List AV} {r : AV} (hcall : ∀ args w, (callFunc f args).run P w = .ok (.enter f args) w) (hf : P.funcs[f]? = some fn) (hb : fn.body = some c)
    (hn : fn.ntmps = n) (hrs : fn.results = rs.toArray) (hl : ds.length ≤ n) (h : ∀ cx, cx.fix = 0 → AT P cx n c (fun e st => Ends e ∧ ∃ v is, resL P st rs v ∧ ownsA st.H v = some (r, is) ∧ is.Nodup) ⟨argSlots 0 ds, []⟩) : FreshCall P f ds r := by
  refine ⟨hcall, fun vs w S hS hd => calls_of_wp hf hb ?_⟩
  rw [hn]
  refine wp_mono (h (startCx S w) rfl _ w (start_sim hS hd hl)) ?_
  rintro e a w' ⟨h1, st', ⟨he, v, is, hv, hvw, hnd⟩, hsz, ι, F, ho, hr⟩
  obtain ⟨u, k1, k2⟩ := results_run (P := P) hrs ho hr hv
  obtain ⟨k3, k4⟩ := ownsA_rep ho _ _ _ _ hvw k2
  have hfin : ∃ x, (results fn a.tmps).run P w' = .ok x w' ∧ ∃ v fp, Ending.returned x = .returned v ∧ Ext w w' ∧ ownR w' fp r v ∧ fp.Nodup ∧ ∀ b ∈ fp, w.heap.size ≤ b ∧ b < w'.heap.size := by
    refine ⟨u, k1, u, _, rfl, ho.keep.ext_of, k3, ids_nodup_foot ho hnd k4, fun b hb => ?_⟩
    obtain ⟨l, hl, hbl⟩ := List.mem_flatten.1 hb
    obtain ⟨i, hi, rfl⟩ := List.mem_map.1 hl
    obtain ⟨p, hp, rfl⟩ := List.mem_map.1 (k4 i hi)
    have := ho.mine b (mem_foot.2 ⟨p, hp, hbl⟩)
    refine ⟨?_, this.1⟩
    rcases this.2 with h | h
    · exact h
    · exact h.elim
  rcases he with rfl | rfl
  · exact ⟨h1, hfin⟩
  · exact ⟨h1, hfin⟩

end
end Go.Aw
