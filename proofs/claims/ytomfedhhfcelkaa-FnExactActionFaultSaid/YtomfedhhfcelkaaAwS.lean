/-
  What a call hands back as its caller's own is taken among what the caller owns. Of no program.
-/
import Derived.Test.YtomfedhhfcelkaaAwR
set_option linter.unusedSimpArgs false
set_option linter.unusedVariables false
namespace Go.Aw
open Go.RowKit

mutual
def thaw (k : Nat) : AV → Option (AV × List (Nat × Tree))
  | .l1 xs => some (.ref k [], [(k, .t1 xs)])
  | .l2 xs => some (.ref k [], [(k, .t2 xs)])
  | .l3 xs => some (.ref k [], [(k, .t3 xs)])
  | .agg vs => (thaws k vs).map fun p => (.agg p.1, p.2)
  | .tup vs => (thaws k vs).map fun p => (.tup p.1, p.2)
  | .int n => some (.int n, [])
  | .bool b => some (.bool b, [])
  | .str s => some (.str s, [])
  | .nil => some (.nil, [])
  | _ => none
def thaws (k : Nat) : List AV → Option (List AV × List (Nat × Tree))
  | [] => some ([], [])
  | a :: as => match thaw k a with
    | some (x, es) => match thaws (k + es.length) as with
      | some (xs, es') => some (x :: xs, es ++ es')
      | none => none
    | none => none
end

/-- What the new trees stand for. -/
structure Thawed (k : Nat) (w : World) (fp : List Nat) (es : List (Nat × Tree)) (G : Nat → List Nat) (J : Nat → Value) : Prop where
  fp : fp = foot es G
  lo : ∀ p ∈ es, k ≤ p.1 ∧ p.1 < k + es.length
  nd : (ids es).Nodup
  tr : ∀ p ∈ es, ∀ m : Mem, m.w = w → treeRep m (G p.1) p.2 (J p.1)
def Holds1 (m : Mem) (es : List (Nat × Tree)) (J : Nat → Value) : Prop := ∀ p ∈ es, m.D p.1 [] ∧ m.ι p.1 = J p.1

theorem foot_congr {es : List (Nat × Tree)} {G G' : Nat → List Nat} (h : ∀ p ∈ es, G p.1 = G' p.1) : foot es G = foot es G' := by
  unfold foot; congr 1; exact List.map_congr_left h
theorem foot_append (es es' : List (Nat × Tree)) (G : Nat → List Nat) : foot (es ++ es') G = foot es G ++ foot es' G := by simp [foot]
theorem ids_append (es es' : List (Nat × Tree)) : ids (es ++ es') = ids es ++ ids es' := by simp [ids]

mutual
theorem thaw_rep {w : World} : ∀ (d : AV) (k : Nat) (fp : List Nat) (v : Value) (av : AV) (es : List (Nat × Tree)), ownR w fp d v → thaw k d = some (av, es) →
    ∃ G J, Thawed k w fp es G J ∧ ∀ m : Mem, m.w = w → Holds1 m es J → rep m av v
  | .l1 xs, k, fp, v, av, es, h, ht => by
    simp only [thaw, Option.some.injEq, Prod.mk.injEq] at ht
    obtain ⟨rfl, rfl⟩ := ht
    simp only [ownR] at h
    refine ⟨fun _ => fp, fun _ => v, ⟨by simp [foot], by simp, by simp [ids], fun p hp m hm => ?_⟩, fun m hm hh => ?_⟩
    · simp only [List.mem_singleton] at hp; subst hp; simp only [treeRep]; rw [hm]; exact h
    · obtain ⟨h1, h2⟩ := hh _ (List.mem_singleton.2 rfl); simp only [rep, pathV]; exact ⟨h1, by rw [h2]⟩
  | .l2 xs, k, fp, v, av, es, h, ht => by
    simp only [thaw, Option.some.injEq, Prod.mk.injEq] at ht
    obtain ⟨rfl, rfl⟩ := ht
    simp only [ownR] at h
    refine ⟨fun _ => fp, fun _ => v, ⟨by simp [foot], by simp, by simp [ids], fun p hp m hm => ?_⟩, fun m hm hh => ?_⟩
    · simp only [List.mem_singleton] at hp; subst hp; simp only [treeRep]; rw [hm]; exact h
    · obtain ⟨h1, h2⟩ := hh _ (List.mem_singleton.2 rfl); simp only [rep, pathV]; exact ⟨h1, by rw [h2]⟩
  | .l3 xs, k, fp, v, av, es, h, ht => by
    simp only [thaw, Option.some.injEq, Prod.mk.injEq] at ht
    obtain ⟨rfl, rfl⟩ := ht
    simp only [ownR] at h
    refine ⟨fun _ => fp, fun _ => v, ⟨by simp [foot], by simp, by simp [ids], fun p hp m hm => ?_⟩, fun m hm hh => ?_⟩
    · simp only [List.mem_singleton] at hp; subst hp; simp only [treeRep]; rw [hm]; exact h
    · obtain ⟨h1, h2⟩ := hh _ (List.mem_singleton.2 rfl); simp only [rep, pathV]; exact ⟨h1, by rw [h2]⟩
  | .agg vs, k, fp, v, av, es, h, ht => by
    simp only [thaw, Option.map_eq_some_iff] at ht
    obtain ⟨⟨xs, es'⟩, h1, h2⟩ := ht
    cases h2
    simp only [ownR] at h
    obtain ⟨us, rfl, h3⟩ := h
    obtain ⟨G, J, h4, h5⟩ := thaws_rep vs k fp us xs _ h3 h1
    exact ⟨G, J, h4, fun m hm hh => by simp only [rep]; exact ⟨us, rfl, h5 m hm hh⟩⟩
  | .tup vs, k, fp, v, av, es, h, ht => by
    simp only [thaw, Option.map_eq_some_iff] at ht
    obtain ⟨⟨xs, es'⟩, h1, h2⟩ := ht
    cases h2
    simp only [ownR] at h
    obtain ⟨us, rfl, h3⟩ := h
    obtain ⟨G, J, h4, h5⟩ := thaws_rep vs k fp us xs _ h3 h1
    exact ⟨G, J, h4, fun m hm hh => by simp only [rep]; exact ⟨us, rfl, h5 m hm hh⟩⟩
  | .int n, k, fp, v, av, es, h, ht => by
    simp only [thaw, Option.some.injEq, Prod.mk.injEq] at ht
    obtain ⟨rfl, rfl⟩ := ht
    simp only [ownR] at h
    exact ⟨fun _ => [], fun _ => undef, ⟨by simp [foot, h.1], by simp, by simp [ids], by simp⟩, fun m _ _ => by simp only [rep]; exact h.2⟩
  | .bool n, k, fp, v, av, es, h, ht => by
    simp only [thaw, Option.some.injEq, Prod.mk.injEq] at ht
    obtain ⟨rfl, rfl⟩ := ht
    simp only [ownR] at h
    exact ⟨fun _ => [], fun _ => undef, ⟨by simp [foot, h.1], by simp, by simp [ids], by simp⟩, fun m _ _ => by simp only [rep]; exact h.2⟩
  | .str n, k, fp, v, av, es, h, ht => by
    simp only [thaw, Option.some.injEq, Prod.mk.injEq] at ht
    obtain ⟨rfl, rfl⟩ := ht
    simp only [ownR] at h
    exact ⟨fun _ => [], fun _ => undef, ⟨by simp [foot, h.1], by simp, by simp [ids], by simp⟩, fun m _ _ => by simp only [rep]; exact h.2⟩
  | .nil, k, fp, v, av, es, h, ht => by
    simp only [thaw, Option.some.injEq, Prod.mk.injEq] at ht
    obtain ⟨rfl, rfl⟩ := ht
    simp only [ownR] at h
    exact ⟨fun _ => [], fun _ => undef, ⟨by simp [foot, h.1], by simp, by simp [ids], by simp⟩, fun m _ _ => by simp only [rep]; exact h.2⟩
  | .ik _ _, _, _, _, _, _, _, ht | .nilfn, _, _, _, _, _, _, ht | .lv _, _, _, _, _, _, _, ht | .fn _ _, _, _, _, _, _, _, ht | .eptr _ _, _, _, _, _, _, _, ht | .cptr _ _, _, _, _, _, _, _, ht
  | .ref _ _, _, _, _, _, _, _, ht | .sub _ _ _ _, _, _, _, _, _, _, ht | .eref _ _ _, _, _, _, _, _, _, ht | .bptr _ _, _, _, _, _, _, _, ht | .when _ _, _, _, _, _, _, _, ht | .junk, _, _, _, _, _, _, ht => by simp [thaw] at ht
theorem thaws_rep {w : World} : ∀ (ds : List AV) (k : Nat) (fp : List Nat) (us : List Value) (vs : List AV) (es : List (Nat × Tree)), ownRs w fp ds us → thaws k ds = some (vs, es) →
    ∃ G J, Thawed k w fp es G J ∧ ∀ m : Mem, m.w = w → Holds1 m es J → reps m vs us
  | [], k, fp, us, vs, es, h, ht => by
    simp only [thaws, Option.some.injEq, Prod.mk.injEq] at ht
    obtain ⟨rfl, rfl⟩ := ht
    simp only [ownRs] at h
    exact ⟨fun _ => [], fun _ => undef, ⟨by simp [foot, h.2], by simp, by simp [ids], by simp⟩, fun m _ _ => by simp only [reps]; exact h.1⟩
  | a :: as, k, fp, us, vs, es, h, ht => by
    simp only [thaws] at ht
    split at ht
    · rename_i x e1 hx
      split at ht
      · rename_i xs e2 hxs
        cases ht
        simp only [ownRs] at h
        obtain ⟨u, us', f, g, rfl, rfl, h1, h2⟩ := h
        obtain ⟨G1, J1, t1, r1⟩ := thaw_rep a k f u x e1 h1 hx
        obtain ⟨G2, J2, t2, r2⟩ := thaws_rep as (k + e1.length) g us' xs e2 h2 hxs
        have in1 : ∀ p ∈ e1, p.1 < k + e1.length := fun p hp => (t1.lo p hp).2
        have in2 : ∀ p ∈ e2, ¬ p.1 < k + e1.length := fun p hp => Nat.not_lt.2 (t2.lo p hp).1
        refine ⟨fun i => if i < k + e1.length then G1 i else G2 i, fun i => if i < k + e1.length then J1 i else J2 i, ⟨?_, ?_, ?_, ?_⟩, ?_⟩
        · have q1 : foot e1 (fun i => if i < k + e1.length then G1 i else G2 i) = foot e1 G1 := foot_congr (fun p hp => by simp only [if_pos (in1 p hp)])
          have q2 : foot e2 (fun i => if i < k + e1.length then G1 i else G2 i) = foot e2 G2 := foot_congr (fun p hp => by simp only [if_neg (in2 p hp)])
          rw [foot_append, q1, q2, ← t1.fp, ← t2.fp]
        · intro p hp
          rw [List.length_append]
          rcases List.mem_append.1 hp with hp | hp
          · have := t1.lo p hp; omega
          · have := t2.lo p hp; omega
        · rw [ids_append, List.nodup_append]
          refine ⟨t1.nd, t2.nd, fun i hi j hj e => ?_⟩
          obtain ⟨p, hp, rfl⟩ := List.mem_map.1 hi
          obtain ⟨p', hp', rfl⟩ := List.mem_map.1 hj
          have := in1 p hp; have := in2 p' hp'; omega
        · intro p hp m hm
          rcases List.mem_append.1 hp with hp | hp
          · simp only [if_pos (in1 p hp)]; exact t1.tr p hp m hm
          · simp only [if_neg (in2 p hp)]; exact t2.tr p hp m hm
        · intro m hm hh
          simp only [reps]
          refine ⟨u, us', rfl, r1 m hm fun p hp => ?_, r2 m hm fun p hp => ?_⟩
          · have := hh p (List.mem_append.2 (.inl hp)); simpa only [if_pos (in1 p hp)] using this
          · have := hh p (List.mem_append.2 (.inr hp)); simpa only [if_neg (in2 p hp)] using this
      · cases ht
    · cases ht
end

section
variable {P : Program} {cx : Cx} {H : List (Nat × Tree)} {w w' : World} {ι : Nat → Value} {F : Nat → List Nat}

theorem find_append {es : List (Nat × Tree)} {k : Nat} : find (es ++ H) k = match find es k with | some t => some t | none => find H k := by
  induction es with
  | nil => rfl
  | cons p r ih =>
    obtain ⟨j, t⟩ := p
    simp only [List.cons_append, find]
    split
    · rfl
    · exact ih

/-- New trees beside the old ones. -/
theorem Owns.adds (ho : Owns cx H w ι F) (he : Ext w w') {es : List (Nat × Tree)} {fp : List Nat} {G : Nat → List Nat} {J : Nat → Value} (ht : Thawed (newId H) w' fp es G J) (hn : fp.Nodup) (hb : ∀ b ∈ fp, w.heap.size ≤ b ∧ b < w'.heap.size) :
    Owns cx (es ++ H) w' (fun i => if i < newId H then ι i else J i) (fun i => if i < newId H then F i else G i) ∧
    (∀ av v, rep (mem cx w H ι F) av v → rep (mem cx w' (es ++ H) (fun i => if i < newId H then ι i else J i) (fun i => if i < newId H then F i else G i)) av v) ∧
    Holds1 (mem cx w' (es ++ H) (fun i => if i < newId H then ι i else J i) (fun i => if i < newId H then F i else G i)) es J := by
  have hes : ∀ p ∈ es, ¬ p.1 < newId H := fun p hp => Nat.not_lt.2 (ht.lo p hp).1
  have hH : ∀ i, i ∈ Aw.ids H → i < newId H := fun i hi => newId_lt hi
  have hH' : ∀ p ∈ H, p.1 < newId H := fun p hp => hH _ (List.mem_map.2 ⟨p, hp, rfl⟩)
  have hf : foot (es ++ H) (fun i => if i < newId H then F i else G i) = fp ++ foot H F := by
    have q1 : foot es (fun i => if i < newId H then F i else G i) = foot es G := foot_congr (fun p hp => by simp only [if_neg (hes p hp)])
    have q2 : foot H (fun i => if i < newId H then F i else G i) = foot H F := foot_congr (fun p hp => by simp only [if_pos (hH' p hp)])
    rw [foot_append, q1, q2, ← ht.fp]
  have hfes : ∀ i, i < newId H → find es i = none := fun i hi => find_none.2 fun hm => by
    obtain ⟨p, hp, rfl⟩ := List.mem_map.1 hm
    exact hes p hp hi
  have hnd : (Aw.ids (es ++ H)).Nodup := by
    rw [ids_append, List.nodup_append]
    refine ⟨ht.nd, ho.ids, fun i hi j hj e => ?_⟩
    obtain ⟨p, hp, rfl⟩ := List.mem_map.1 hi
    subst e
    exact hes p hp (hH _ hj)
  have hle : (mem cx w H ι F).le (mem cx w' (es ++ H) (fun i => if i < newId H then ι i else J i) (fun i => if i < newId H then F i else G i)) := by
    refine ⟨fun b hi => ⟨⟨hi.1, Nat.lt_of_lt_of_le hi.2.1 he.size, fun hm => ?_⟩, he.block b hi.2.1⟩, fun i p hd => ?_⟩
    · rw [hf] at hm
      rcases List.mem_append.1 hm with hm | hm
      · exact absurd (hb b hm).1 (Nat.not_le.2 hi.2.1)
      · exact hi.2.2 hm
    · simp only [mem] at hd ⊢
      have hi : i < newId H := by
        cases hc : find H i with
        | none => rw [hc] at hd; simp [livePath] at hd
        | some t => exact hH i (List.mem_map.2 ⟨_, find_mem hc, rfl⟩)
      rw [find_append, hfes i hi, if_pos hi]
      exact ⟨hd, rfl, fun v hv => pathV_ext he hv⟩
  refine ⟨⟨ho.keep.ext ho.old he, fun p hp => ?_, ?_, fun b hbm => ?_, hnd, Nat.le_trans ho.old he.size⟩, fun av v h => rep.le hle _ _ h, fun p hp => ?_⟩
  · rcases List.mem_append.1 hp with hp | hp
    · simp only [if_neg (hes p hp)]; exact ht.tr p hp _ rfl
    · simp only [if_pos (hH' p hp)]
      exact (ho.trees p hp).le hle (fun b hbf => he.block b (ho.mine b (mem_foot.2 ⟨p, hp, hbf⟩)).1)
  · rw [hf, List.nodup_append]
    exact ⟨hn, ho.nodup, fun a ha c hc e => by have := (hb a ha).1; have := (ho.mine c hc).1; omega⟩
  · rw [hf] at hbm
    rcases List.mem_append.1 hbm with h | h
    · exact ⟨(hb b h).2, .inl (Nat.le_trans ho.old (hb b h).1)⟩
    · exact ⟨Nat.lt_of_lt_of_le (ho.mine b h).1 he.size, (ho.mine b h).2⟩
  · simp only [mem]
    refine ⟨?_, by rw [if_neg (hes p hp)]⟩
    rw [find_append, find_of_mem ht.nd hp]
    cases p.2 <;> rfl

end
end Go.Aw
