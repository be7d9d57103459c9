/-
  Calls that turn what their caller owns: contracts and soundness. Of no program.
-/
import Derived.Test.YtomfedhhfcelkaaAwS
set_option linter.unusedSimpArgs false
set_option linter.unusedVariables false
namespace Go.Aw
open Go.RowKit

def flatRep (w : World) (fp : List Nat) : Tree → Value → Prop
  | .t1 xs, v => O1 w fp xs v
  | .t2 xs, v => O2 w fp xs v
  | .t3 xs, v => O3 w fp xs v
  | _, _ => False
theorem flatRep.tree {w : World} {fp : List Nat} {t : Tree} {v : Value} (h : flatRep w fp t v) {m : Mem} (hm : m.w = w) : treeRep m fp t v := by
  subst hm
  cases t <;> simp only [flatRep] at h <;> simp only [treeRep] <;> exact h
def flatT : Tree → Bool
  | .t1 _ | .t2 _ | .t3 _ => true
  | _ => false
theorem flatT_rep {m : Mem} {fp : List Nat} {t : Tree} {v : Value} (hf : flatT t = true) (h : treeRep m fp t v) : flatRep m.w fp t v := by
  cases t <;> simp only [flatT] at hf <;> simp only [treeRep] at h <;> first | exact h | cases hf

section
variable {P : Program} {cx : Cx} {H : List (Nat × Tree)} {w w' : World} {ι : Nat → Value} {F : Nat → List Nat}

theorem mem_foot_ids {T : List (Nat × Tree)} {G : Nat → List Nat} {b : Nat} : b ∈ foot T G ↔ ∃ i ∈ Aw.ids T, b ∈ G i := by
  rw [mem_foot]
  constructor
  · rintro ⟨p, hp, hb⟩; exact ⟨p.1, List.mem_map.2 ⟨p, hp, rfl⟩, hb⟩
  · rintro ⟨i, hi, hb⟩
    obtain ⟨p, hp, rfl⟩ := List.mem_map.1 hi
    exact ⟨p, hp, hb⟩

/-- SOME TREES TURNED: 'T1' of 'H' become 'T1''; what was known of paths into them is forgotten. -/
theorem Owns.turn (ho : Owns cx H w ι F) {T T' : List (Nat × Tree)} (hids : Aw.ids T' = Aw.ids T) (hn : (Aw.ids T).Nodup) (hf : ∀ p ∈ T, find H p.1 = some p.2) (hw : Turned w w' (foot T F)) {G : Nat → List Nat}
    (h1 : ∀ p ∈ T', flatRep w' (G p.1) p.2 (ι p.1)) (h2 : (foot T' G).Nodup) (h3 : ∀ b ∈ foot T' G, b < w'.heap.size ∧ (b ∈ foot T F ∨ w.heap.size ≤ b)) :
    Owns cx (T' ++ killH (qOf [] (Aw.ids T)) (rmT (Aw.ids T) H)) w' ι (fun i => if (Aw.ids T).contains i then G i else F i) ∧
    ∀ av v, rep (mem cx w H ι F) av v → rep (mem cx w' (T' ++ killH (qOf [] (Aw.ids T)) (rmT (Aw.ids T) H)) ι (fun i => if (Aw.ids T).contains i then G i else F i)) (killA (qOf [] (Aw.ids T)) av) v := by
  have hsub : ∀ b, b ∈ foot T F → b ∈ foot H F := fun b hb => by
    obtain ⟨p, hp, hb⟩ := mem_foot.1 hb
    exact mem_foot.2 ⟨_, find_mem (hf p hp), hb⟩
  have hc : ∀ {i}, (Aw.ids T).contains i = true ↔ i ∈ Aw.ids T := fun {i} => by simp
  have hc' : ∀ {i}, i ∉ Aw.ids T → (Aw.ids T).contains i = false := fun {i} h => by simpa using h
  have hTin : ∀ p ∈ T', (Aw.ids T).contains p.1 = true := fun p hp => hc.2 (by rw [← hids]; exact List.mem_map.2 ⟨p, hp, rfl⟩)
  have hq1 : foot T' (fun i => if (Aw.ids T).contains i then G i else F i) = foot T' G := foot_congr (fun p hp => by simp only [hTin p hp, if_true])
  have hq2 : foot (killH (qOf [] (Aw.ids T)) (rmT (Aw.ids T) H)) (fun i => if (Aw.ids T).contains i then G i else F i) = foot (rmT (Aw.ids T) H) F := by
    rw [foot_killH]
    exact foot_congr (fun p hp => by rw [mem_rmT] at hp; simp only [hc' hp.2, Bool.false_eq_true, if_false])
  have hfoot : foot (T' ++ killH (qOf [] (Aw.ids T)) (rmT (Aw.ids T) H)) (fun i => if (Aw.ids T).contains i then G i else F i) = foot T' G ++ foot (rmT (Aw.ids T) H) F := by rw [foot_append, hq1, hq2]
  have hrm : ∀ b, b ∈ foot (rmT (Aw.ids T) H) F → b ∈ foot H F ∧ b ∉ foot T F := fun b hb => by
    obtain ⟨p, hp, hb⟩ := mem_foot.1 hb
    rw [mem_rmT] at hp
    refine ⟨mem_foot.2 ⟨p, hp.1, hb⟩, fun h => ?_⟩
    obtain ⟨p', hp', hb'⟩ := mem_foot.1 h
    exact foot_disj ho (find_of_mem ho.ids hp.1) (hf p' hp') (fun e => hp.2 (e ▸ List.mem_map.2 ⟨p', hp', rfl⟩)) hb hb'
  have hfind : ∀ i, i ∉ Aw.ids T → find (T' ++ killH (qOf [] (Aw.ids T)) (rmT (Aw.ids T) H)) i = (find H i).map (killT (qOf [] (Aw.ids T))) := fun i hi => by
    rw [find_append, find_none.2 (by rw [hids]; exact hi), find_killH, find_rmT, hc' hi]
    rfl
  have hother : ∀ p ∈ H, p.1 ∉ Aw.ids T → ∀ b ∈ F p.1, w'.heap[b]? = w.heap[b]? := fun p hp hi b hb =>
    hw.block b (ho.mine b (mem_foot.2 ⟨p, hp, hb⟩)).1 (hrm b (mem_foot.2 ⟨p, mem_rmT.2 ⟨hp, hi⟩, hb⟩)).2
  have hle : ((mem cx w H ι F).less (qOf [] (Aw.ids T))).le (mem cx w' (T' ++ killH (qOf [] (Aw.ids T)) (rmT (Aw.ids T) H)) ι (fun i => if (Aw.ids T).contains i then G i else F i)) := by
    refine ⟨fun b hb => ⟨⟨hb.1, Nat.lt_of_lt_of_le hb.2.1 hw.size, fun hm => ?_⟩, hw.block b hb.2.1 (fun h => hb.2.2 (hsub b h))⟩, fun i p hd => ?_⟩
    · rw [hfoot] at hm
      rcases List.mem_append.1 hm with hm | hm
      · rcases (h3 b hm).2 with h | h
        · exact hb.2.2 (hsub b h)
        · exact absurd h (Nat.not_le.2 hb.2.1)
      · exact hb.2.2 (hrm b hm).1
    · obtain ⟨hd, hqf⟩ := hd
      simp only [mem] at hd ⊢
      by_cases hi : i ∈ Aw.ids T
      · have hp : p = [] := by
          simp only [qOf, hc.2 hi, List.contains_nil, Bool.false_or, Bool.true_and] at hqf
          simpa using hqf
        subst hp
        refine ⟨?_, rfl, fun v hv => by simpa [pathV] using hv⟩
        have hi' : i ∈ Aw.ids T' := by rw [hids]; exact hi
        obtain ⟨p, hp, rfl⟩ := List.mem_map.1 hi'
        rw [find_append, find_of_mem (by rw [hids]; exact hn) hp]
        cases p.2 <;> rfl
      · rw [hfind i hi]
        refine ⟨by rw [livePath_kill]; exact hd, rfl, fun v hv => ?_⟩
        cases hcf : find H i with
        | none => rw [hcf] at hd; simp [livePath] at hd
        | some t => exact path_keep ho hd (hother _ (find_mem hcf) hi) hv
  have hnd : (Aw.ids (T' ++ killH (qOf [] (Aw.ids T)) (rmT (Aw.ids T) H))).Nodup := by
    rw [ids_append, ids_killH, List.nodup_append]
    refine ⟨by rw [hids]; exact hn, ids_rmT ho.ids, fun i hi j hj e => ?_⟩
    subst e
    rw [hids] at hi
    obtain ⟨p, hp, rfl⟩ := List.mem_map.1 hj
    exact (mem_rmT.1 hp).2 hi
  refine ⟨⟨ho.keep.turned ho.old hw (fun b hb => (ho.mine b (hsub b hb)).2), fun p hp => ?_, ?_, fun b hb => ?_, hnd, Nat.le_trans ho.old hw.size⟩, fun av v h => rep.le hle _ _ (rep_kill av v h)⟩
  · rcases List.mem_append.1 hp with hp | hp
    · simp only [hTin p hp, if_true]; exact (h1 p hp).tree rfl
    · simp only [killH, List.mem_map] at hp
      obtain ⟨p0, hp0, rfl⟩ := hp
      rw [mem_rmT] at hp0
      simp only [hc' hp0.2, Bool.false_eq_true, if_false]
      exact (treeRep_kill (ho.trees p0 hp0.1)).le hle (hother p0 hp0.1 hp0.2)
  · rw [hfoot, List.nodup_append]
    refine ⟨h2, ho.nodup.sublist (foot_rmT_sub _ F H), fun a ha c hcm e => ?_⟩
    subst e
    obtain ⟨k1, k2⟩ := hrm a hcm
    rcases (h3 a ha).2 with h | h
    · exact k2 h
    · exact absurd (ho.mine a k1).1 (Nat.not_lt.2 h)
  · rw [hfoot] at hb
    rcases List.mem_append.1 hb with h | h
    · refine ⟨(h3 b h).1, ?_⟩
      rcases (h3 b h).2 with k | k
      · exact (ho.mine b (hsub b k)).2
      · exact .inl (Nat.le_trans ho.old k)
    · exact ⟨Nat.lt_of_lt_of_le (ho.mine b (hrm b h).1).1 hw.size, (ho.mine b (hrm b h).1).2⟩

end

/-- A call that turns the trees it is handed ('T' to 'T''), and hands back what bears no address. -/
structure TurnCall (P : Program) (f : FuncId) (args : List AV) (T T' : List (Nat × Tree)) (r : AV) : Prop where
  enter : ∀ args w, (callFunc f args).run P w = .ok (.enter f args) w
  ids : Aw.ids T' = Aw.ids T
  free : memFree r = true
  runs : ∀ (us : List Value) (w : World) (ι : Nat → Value) (G : Nat → List Nat), (∀ p ∈ T, flatRep w (G p.1) p.2 (ι p.1)) → (foot T G).Nodup → (∀ b ∈ foot T G, b < w.heap.size) →
    reps ⟨w, fun _ => False, ι, fun id path => livePath (find T id) path = true⟩ args us →
    Calls P f us.toArray w fun e w' => ∃ v G', e = .returned v ∧ Turned w w' (foot T G) ∧ (∀ p ∈ T', flatRep w' (G' p.1) p.2 (ι p.1)) ∧ (foot T' G').Nodup ∧
      (∀ b ∈ foot T' G', b < w'.heap.size ∧ (b ∈ foot T G ∨ w.heap.size ≤ b)) ∧ rep ⟨w', fun _ => False, fun _ => undef, fun _ _ => False⟩ r v

/-! ### The caller's names for the trees -/
mutual
def ren (ρ : Nat → Nat) : AV → AV
  | .ref i p => .ref (ρ i) p
  | .agg vs => .agg (rens ρ vs)
  | .tup vs => .tup (rens ρ vs)
  | v => v
def rens (ρ : Nat → Nat) : List AV → List AV
  | [] => []
  | a :: as => ren ρ a :: rens ρ as
end
mutual
def plain (T : List (Nat × Tree)) : AV → Bool
  | .ref i [] => (find T i).isSome
  | .int _ | .bool _ | .str _ | .nil => true
  | .agg vs | .tup vs => plains T vs
  | _ => false
def plains (T : List (Nat × Tree)) : List AV → Bool
  | [] => true
  | a :: as => plain T a && plains T as
end
mutual
theorem ren_rep {T : List (Nat × Tree)} {ρ : Nat → Nat} {m : Mem} : ∀ (a : AV) (u : Value), plain T a = true → rep m (ren ρ a) u → rep ⟨m.w, fun _ => False, fun i => m.ι (ρ i), fun id path => livePath (find T id) path = true⟩ a u
  | .ref i [], u, hp, h => by
    simp only [ren, rep, pathV] at h ⊢
    simp only [plain] at hp
    obtain ⟨t, ht⟩ := Option.isSome_iff_exists.1 hp
    exact ⟨by rw [ht]; cases t <;> rfl, h.2⟩
  | .ref i (_ :: _), _, hp, _ => by simp [plain] at hp
  | .int _, u, _, h | .bool _, u, _, h | .str _, u, _, h | .nil, u, _, h => by simp only [ren, rep] at h ⊢; exact h
  | .agg vs, u, hp, h => by
    simp only [ren, rep] at h ⊢
    simp only [plain] at hp
    obtain ⟨us, h1, h2⟩ := h
    exact ⟨us, h1, rens_rep vs us hp h2⟩
  | .tup vs, u, hp, h => by
    simp only [ren, rep] at h ⊢
    simp only [plain] at hp
    obtain ⟨us, h1, h2⟩ := h
    exact ⟨us, h1, rens_rep vs us hp h2⟩
  | .ik _ _, _, hp, _ | .nilfn, _, hp, _ | .lv _, _, hp, _ | .fn _ _, _, hp, _ | .eptr _ _, _, hp, _ | .cptr _ _, _, hp, _
  | .sub _ _ _ _, _, hp, _ | .eref _ _ _, _, hp, _ | .bptr _ _, _, hp, _ | .when _ _, _, hp, _ | .junk, _, hp, _ | .l1 _, _, hp, _ | .l2 _, _, hp, _ | .l3 _, _, hp, _ => by simp [plain] at hp
theorem rens_rep {T : List (Nat × Tree)} {ρ : Nat → Nat} {m : Mem} : ∀ (as : List AV) (us : List Value), plains T as = true → reps m (rens ρ as) us → reps ⟨m.w, fun _ => False, fun i => m.ι (ρ i), fun id path => livePath (find T id) path = true⟩ as us
  | [], us, _, h => by simp only [rens, reps] at h ⊢; exact h
  | a :: as, us, hp, h => by
    simp only [rens, reps] at h ⊢
    simp only [plains, Bool.and_eq_true] at hp
    obtain ⟨u, us', h1, h2, h3⟩ := h
    exact ⟨u, us', h1, ren_rep a u hp.1 h2, rens_rep as us' hp.2 h3⟩
end

def renT (ρ : Nat → Nat) (T : List (Nat × Tree)) : List (Nat × Tree) := T.map fun p => (ρ p.1, p.2)
theorem ids_renT (ρ : Nat → Nat) (T : List (Nat × Tree)) : ids (renT ρ T) = (ids T).map ρ := by simp [ids, renT]
theorem foot_renT (ρ : Nat → Nat) (T : List (Nat × Tree)) (G : Nat → List Nat) : foot (renT ρ T) G = foot T (fun i => G (ρ i)) := by simp [foot, renT, Function.comp_def]

theorem inv_of {ρ : Nat → Nat} {α : Type} (d : α) (G' : Nat → α) : ∀ {l : List Nat}, (l.map ρ).Nodup → ∃ G : Nat → α, ∀ i ∈ l, G (ρ i) = G' i
  | [], _ => ⟨fun _ => d, by simp⟩
  | a :: l, h => by
    simp only [List.map_cons, List.nodup_cons] at h
    obtain ⟨G, hG⟩ := inv_of d G' h.2
    refine ⟨fun j => if j = ρ a then G' a else G j, fun i hi => ?_⟩
    rcases List.mem_cons.1 hi with rfl | hi
    · simp
    · have : ρ i ≠ ρ a := fun e => h.1 (e ▸ List.mem_map.2 ⟨i, hi, rfl⟩)
      simp only [if_neg this]
      exact hG i hi

section
variable {P : Program} {cx : Cx} {H : List (Nat × Tree)} {w w' : World} {ι : Nat → Value} {F : Nat → List Nat}

/-- The trees that a call turns, under the caller's names. -/
def TurnOf (P : Program) (H : List (Nat × Tree)) (f : FuncId) (args : List AV) (r : AV) (subs : List Nat) (H' : List (Nat × Tree)) : Prop :=
  ∃ (as : List AV) (T T' : List (Nat × Tree)) (ρ : Nat → Nat), rens ρ as = args ∧ TurnCall P f as T T' r ∧ plains T as = true ∧ (T.all fun p => flatT p.2) = true ∧ ((ids T).map ρ).Nodup ∧ (∀ p ∈ T, find H (ρ p.1) = some p.2) ∧
    subs = (ids T).map ρ ∧ H' = renT ρ T' ++ killH (qOf [] ((ids T).map ρ)) (rmT ((ids T).map ρ) H)

theorem turnOf_sound (ho : Owns cx H w ι F) {f : FuncId} {args : List AV} {r : AV} {subs : List Nat} {H' : List (Nat × Tree)} (h : TurnOf P H f args r subs H') {us : List Value} (hr : reps (mem cx w H ι F) args us) :
    (∀ args w, (callFunc f args).run P w = .ok (.enter f args) w) ∧ Calls P f us.toArray w fun e w' => ∃ u F', e = .returned u ∧ Owns cx H' w' ι F' ∧ rep (mem cx w' H' ι F') r u ∧ ∀ av v, rep (mem cx w H ι F) av v → rep (mem cx w' H' ι F') (killA (qOf [] subs) av) v := by
  obtain ⟨as, T, T', ρ, h1, h2, h3, h4, h5, h6, rfl, rfl⟩ := h
  subst h1
  have hin : ∀ p ∈ renT ρ T, find H p.1 = some p.2 := fun p hp => by
    obtain ⟨p0, hp0, rfl⟩ := List.mem_map.1 hp
    exact h6 p0 hp0
  have hnr : (Aw.ids (renT ρ T)).Nodup := by rw [ids_renT]; exact h5
  have hnd : (foot (renT ρ T) F).Nodup := by
    have : ∀ {l : List (Nat × Tree)}, (Aw.ids l).Nodup → (∀ p ∈ l, find H p.1 = some p.2) → (foot l F).Nodup := by
      intro l
      induction l with
      | nil => intro _ _; simp [foot]
      | cons p l ih =>
        intro hn hl
        simp only [Aw.ids, List.map_cons, List.nodup_cons] at hn
        rw [foot_cons, List.nodup_append]
        refine ⟨foot_part ho (hl p (List.mem_cons_self ..)), ih hn.2 (fun q hq => hl q (List.mem_cons_of_mem _ hq)), fun a ha c hc e => ?_⟩
        subst e
        obtain ⟨q, hq, hb⟩ := mem_foot.1 hc
        exact foot_disj ho (hl p (List.mem_cons_self ..)) (hl q (List.mem_cons_of_mem _ hq)) (fun e => hn.1 (e ▸ List.mem_map.2 ⟨q, hq, rfl⟩)) ha hb
    exact this hnr hin
  have hmine : ∀ b ∈ foot (renT ρ T) F, b ∈ foot H F := fun b hb => by
    obtain ⟨p, hp, hb⟩ := mem_foot.1 hb
    exact mem_foot.2 ⟨_, find_mem (hin p hp), hb⟩
  rw [foot_renT] at hnd hmine
  refine ⟨h2.enter, (h2.runs us w (fun i => ι (ρ i)) (fun i => F (ρ i)) (fun p hp => ?_) hnd (fun b hb => (ho.mine b (hmine b hb)).1) (rens_rep (m := mem cx w H ι F) as us h3 hr)).mono fun e w' ⟨v, G', k1, k2, k3, k4, k5, k6⟩ => ?_⟩
  · exact flatT_rep (m := mem cx w H ι F) ((List.all_eq_true.1 h4) p hp) (ho.trees _ (find_mem (h6 p hp)))
  · obtain ⟨G1, hG⟩ := inv_of [] G' (l := Aw.ids T) h5
    have hfe : foot (renT ρ T') G1 = foot T' G' := by
      rw [foot_renT]
      exact foot_congr (fun p hp => hG p.1 (by rw [← h2.ids]; exact List.mem_map.2 ⟨p, hp, rfl⟩))
    rw [← foot_renT ρ T F] at k2 k5
    have key := ho.turn (T := renT ρ T) (T' := renT ρ T') (by rw [ids_renT, ids_renT, h2.ids]) hnr hin k2 (G := G1) (fun p hp => ?_) (by rw [hfe]; exact k4) (by rw [hfe]; exact k5)
    · rw [ids_renT] at key
      exact ⟨v, _, k1, key.1, rep_memFree h2.free k6, key.2⟩
    · obtain ⟨p0, hp0, rfl⟩ := List.mem_map.1 hp
      simp only
      rw [hG p0.1 (by rw [← h2.ids]; exact List.mem_map.2 ⟨p0, hp0, rfl⟩)]
      exact k3 p0 hp0

end
end Go.Aw
