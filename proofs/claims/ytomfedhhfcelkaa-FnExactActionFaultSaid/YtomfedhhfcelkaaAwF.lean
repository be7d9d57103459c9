/-
  Turning what is owned: one object made anew or put in another's place. Of no program.
-/
import Derived.Test.YtomfedhhfcelkaaAwE
set_option linter.unusedSimpArgs false
set_option linter.unusedVariables false
namespace Go.Aw
open Go.RowKit

mutual
def killA (q : Nat → List Nat → Bool) : AV → AV
  | .ref id p => if q id p then .junk else .ref id p
  | .sub id p lo hi => if q id p then .junk else .sub id p lo hi
  | .eref id p i => if q id p then .junk else .eref id p i
  | .bptr id off => if q id [] then .junk else .bptr id off
  | .lv vs => .lv (killAs q vs)
  | .agg vs => .agg (killAs q vs)
  | .tup vs => .tup (killAs q vs)
  | .fn f vs => .fn f (killAs q vs)
  | .cptr vs off => .cptr (killAs q vs) off
  | .eptr av i => .eptr (killA q av) i
  | .when g v => .when g (killA q v)
  | x => x
def killAs (q : Nat → List Nat → Bool) : List AV → List AV
  | [] => []
  | a :: as => killA q a :: killAs q as
end

def killT (q : Nat → List Nat → Bool) : Tree → Tree
  | .lv vs => .lv (killAs q vs)
  | .bx vs => .bx (killAs q vs)
  | t => t

def Mem.less (m : Mem) (q : Nat → List Nat → Bool) : Mem := { m with D := fun i p => m.D i p ∧ q i p = false }

mutual
theorem rep_kill {m : Mem} {q : Nat → List Nat → Bool} : ∀ (av : AV) (v : Value), rep m av v → rep (m.less q) (killA q av) v
  | .int _, _, hr => by simpa only [rep, killA] using hr
  | .ik _ _, _, hr => by simpa only [rep, killA] using hr
  | .bool _, _, hr => by simpa only [rep, killA] using hr
  | .str _, _, hr => by simpa only [rep, killA] using hr
  | .nil, _, hr => by simpa only [rep, killA] using hr
  | .nilfn, _, hr => by simpa only [rep, killA] using hr
  | .l1 _, _, hr => by simp only [rep, killA] at hr ⊢; exact hr
  | .l2 _, _, hr => by simp only [rep, killA] at hr ⊢; exact hr
  | .l3 _, _, hr => by simp only [rep, killA] at hr ⊢; exact hr
  | .lv vs, _, hr => by
    simp only [rep, killA] at hr ⊢
    obtain ⟨us, h1, h2⟩ := hr
    exact ⟨us, h1, reps_kill vs us h2⟩
  | .agg vs, _, hr => by
    simp only [rep, killA] at hr ⊢
    obtain ⟨us, h1, h2⟩ := hr
    exact ⟨us, h1, reps_kill vs us h2⟩
  | .tup vs, _, hr => by
    simp only [rep, killA] at hr ⊢
    obtain ⟨us, h1, h2⟩ := hr
    exact ⟨us, h1, reps_kill vs us h2⟩
  | .fn _ vs, _, hr => by
    simp only [rep, killA] at hr ⊢
    obtain ⟨us, h1, h2⟩ := hr
    exact ⟨us, h1, reps_kill vs us h2⟩
  | .eptr av i, _, hr => by
    simp only [rep, killA] at hr ⊢
    obtain ⟨b, off, n, cap, h1, h2, h3⟩ := hr
    exact ⟨b, off, n, cap, rep_kill av _ h1, h2, h3⟩
  | .cptr vs off, _, hr => by
    simp only [rep, killA] at hr ⊢
    obtain ⟨b, us, h1, h2, h3, h4⟩ := hr
    exact ⟨b, us, h1, h2, h3, reps_kill vs us h4⟩
  | .when g x, _, hr => by
    simp only [rep, killA] at hr ⊢
    exact ⟨fun hg => rep_kill x _ (hr.1 hg), hr.2⟩
  | .junk, _, _ => by simp only [rep, killA]
  | .ref id p, _, hr => by
    simp only [killA]
    split
    · simp only [rep]
    · rename_i hq; simp only [rep] at hr ⊢; exact ⟨⟨hr.1, by simpa using hq⟩, hr.2⟩
  | .sub id p lo hi, _, hr => by
    simp only [killA]
    split
    · simp only [rep]
    · rename_i hq; simp only [rep] at hr ⊢; exact ⟨⟨hr.1, by simpa using hq⟩, hr.2⟩
  | .eref id p i, _, hr => by
    simp only [killA]
    split
    · simp only [rep]
    · rename_i hq; simp only [rep] at hr ⊢; exact ⟨⟨hr.1, by simpa using hq⟩, hr.2⟩
  | .bptr id off, _, hr => by
    simp only [killA]
    split
    · simp only [rep]
    · rename_i hq; simp only [rep] at hr ⊢; exact ⟨⟨hr.1, by simpa using hq⟩, hr.2⟩
theorem reps_kill {m : Mem} {q : Nat → List Nat → Bool} : ∀ (vs : List AV) (us : List Value), reps m vs us → reps (m.less q) (killAs q vs) us
  | [], _, hr => by simpa only [reps, killAs] using hr
  | a :: as, _, hr => by
    simp only [reps, killAs] at hr ⊢
    obtain ⟨u, us', h1, h2, h3⟩ := hr
    exact ⟨u, us', h1, rep_kill a u h2, reps_kill as us' h3⟩
end

theorem treeRep_kill {m : Mem} {q : Nat → List Nat → Bool} {fp : List Nat} : ∀ {t : Tree} {v : Value}, treeRep m fp t v → treeRep (m.less q) fp (killT q t) v
  | .t1 _, _, h => h
  | .t2 _, _, h => h
  | .t3 _, _, h => h
  | .r2 _, _, h => h
  | .r3 _, _, h => h
  | .lv vs, _, ⟨us, h1, h2⟩ => ⟨us, h1, reps_kill vs us h2⟩
  | .bx vs, _, ⟨b, us, E, h1, h2, h3, h4⟩ => ⟨b, us, E, h1, h2, h3, reps_kill vs us h4⟩

/-! ### Lists of objects -/
def putT : List (Nat × Tree) → Nat → Tree → List (Nat × Tree)
  | [], id, t => [(id, t)]
  | (k, x) :: r, id, t => if k = id then (id, t) :: r else (k, x) :: putT r id t
def rmT (R : List Nat) (H : List (Nat × Tree)) : List (Nat × Tree) := H.filter fun p => !R.contains p.1
def killH (q : Nat → List Nat → Bool) (H : List (Nat × Tree)) : List (Nat × Tree) := H.map fun p => (p.1, killT q p.2)

theorem find_none {id : Nat} : ∀ {H : List (Nat × Tree)}, find H id = none ↔ id ∉ ids H
  | [] => by simp [find, ids]
  | (k, t) :: r => by
    have ih := find_none (id := id) (H := r)
    simp only [find, ids, List.map_cons, List.mem_cons, not_or] at ih ⊢
    split
    · rename_i h; subst h; simp
    · rename_i h; rw [ih]; exact ⟨fun h' => ⟨fun e => h e.symm, h'⟩, fun h' => h'.2⟩
theorem find_of_mem {p : Nat × Tree} : ∀ {H : List (Nat × Tree)}, (ids H).Nodup → p ∈ H → find H p.1 = some p.2
  | [], _, h => by simp at h
  | (k, t) :: r, hn, h => by
    simp only [ids, List.map_cons, List.nodup_cons] at hn
    rcases List.mem_cons.1 h with rfl | h
    · simp [find]
    · have : k ≠ p.1 := fun e => hn.1 (e ▸ List.mem_map.2 ⟨p, h, rfl⟩)
      simp only [find, if_neg this]
      exact find_of_mem hn.2 h

theorem find_putT {id k : Nat} {t : Tree} : ∀ {H : List (Nat × Tree)}, find (putT H id t) k = if k = id then some t else find H k
  | [] => by
    simp only [putT, find]
    by_cases h : id = k
    · subst h; simp
    · rw [if_neg h, if_neg (fun e => h e.symm)]
  | (j, x) :: r => by
    simp only [putT]
    split
    · rename_i hj; subst hj
      simp only [find]
      by_cases h : j = k
      · subst h; simp
      · rw [if_neg h, if_neg (fun e => h e.symm), if_neg h]
    · rename_i hj
      simp only [find]
      by_cases h : j = k
      · subst h; rw [if_pos rfl, if_neg hj, if_pos rfl]
      · rw [if_neg h, if_neg h]; exact find_putT
theorem find_rmT {R : List Nat} {k : Nat} : ∀ {H : List (Nat × Tree)}, find (rmT R H) k = if R.contains k then none else find H k
  | [] => by simp [rmT, find]
  | (j, x) :: r => by
    have ih := find_rmT (R := R) (k := k) (H := r)
    simp only [rmT, List.filter_cons] at ih ⊢
    by_cases hj : R.contains j = true
    · simp only [hj, Bool.not_true, Bool.false_eq_true, if_false]
      rw [ih]
      by_cases h : j = k
      · subst h; simp only [hj, if_true]
      · simp only [find, if_neg h]
    · simp only [hj, Bool.not_false, if_true, find]
      by_cases h : j = k
      · subst h; simp only [if_true]; rw [if_neg hj]
      · rw [if_neg h, if_neg h]; exact ih
theorem find_killH {q : Nat → List Nat → Bool} {k : Nat} : ∀ {H : List (Nat × Tree)}, find (killH q H) k = (find H k).map (killT q)
  | [] => rfl
  | (j, x) :: r => by
    have ih := find_killH (q := q) (k := k) (H := r)
    simp only [killH, List.map_cons, find] at ih ⊢
    split
    · rfl
    · exact ih

theorem ids_putT_sub {id : Nat} {t : Tree} : ∀ {H : List (Nat × Tree)} {k : Nat}, k ∈ ids (putT H id t) → k = id ∨ k ∈ ids H
  | [], k, h => by simp [putT, ids] at h; exact .inl h
  | (j, x) :: r, k, h => by
    simp only [putT] at h
    split at h
    · rename_i hj
      simp only [ids, List.map_cons, List.mem_cons] at h ⊢
      rcases h with h | h
      · exact .inl h
      · exact .inr (.inr h)
    · simp only [ids, List.map_cons, List.mem_cons] at h ⊢
      rcases h with h | h
      · exact .inr (.inl h)
      · rcases ids_putT_sub (H := r) h with h | h
        · exact .inl h
        · exact .inr (.inr h)
theorem ids_putT {id : Nat} {t : Tree} : ∀ {H : List (Nat × Tree)}, (ids H).Nodup → (ids (putT H id t)).Nodup
  | [], _ => by simp [putT, ids]
  | (j, x) :: r, h => by
    simp only [ids, List.map_cons, List.nodup_cons] at h
    simp only [putT]
    split
    · rename_i hj; subst hj; simpa only [ids, List.map_cons, List.nodup_cons] using h
    · rename_i hj
      simp only [ids, List.map_cons, List.nodup_cons]
      refine ⟨fun hm => ?_, ids_putT h.2⟩
      rcases ids_putT_sub (H := r) hm with e | e
      · exact hj e
      · exact h.1 e

def updF {α : Type} (f : Nat → α) (id : Nat) (x : α) : Nat → α := fun k => if k = id then x else f k

theorem mem_putT {id : Nat} {t : Tree} {p : Nat × Tree} : ∀ {H : List (Nat × Tree)}, p ∈ putT H id t → p = (id, t) ∨ (p ∈ H ∧ p.1 ≠ id) ∨ (p ∈ H ∧ p.1 = id ∧ ¬ (ids H).Nodup)
  | [], h => by simp [putT] at h; exact .inl h
  | (j, x) :: r, h => by
    simp only [putT] at h
    split at h
    · rename_i hj; subst hj
      rcases List.mem_cons.1 h with h | h
      · exact .inl h
      · by_cases hp : p.1 = j
        · refine .inr (.inr ⟨List.mem_cons_of_mem _ h, hp, fun hn => ?_⟩)
          simp only [ids, List.map_cons, List.nodup_cons] at hn
          exact hn.1 (List.mem_map.2 ⟨p, h, hp⟩)
        · exact .inr (.inl ⟨List.mem_cons_of_mem _ h, hp⟩)
    · rename_i hj
      rcases List.mem_cons.1 h with h | h
      · subst h; exact .inr (.inl ⟨List.mem_cons_self .., hj⟩)
      · rcases mem_putT (H := r) h with h | ⟨h1, h2⟩ | ⟨h1, h2, h3⟩
        · exact .inl h
        · exact .inr (.inl ⟨List.mem_cons_of_mem _ h1, h2⟩)
        · refine .inr (.inr ⟨List.mem_cons_of_mem _ h1, h2, fun hn => h3 ?_⟩)
          simp only [ids, List.map_cons, List.nodup_cons] at hn
          exact hn.2

theorem foot_cons {p : Nat × Tree} {H : List (Nat × Tree)} {F : Nat → List Nat} : foot (p :: H) F = F p.1 ++ foot H F := by simp [foot]
theorem mem_foot {H : List (Nat × Tree)} {F : Nat → List Nat} {b : Nat} : b ∈ foot H F ↔ ∃ p ∈ H, b ∈ F p.1 := by
  simp only [foot, List.mem_flatten, List.mem_map]
  constructor
  · rintro ⟨l, ⟨p, hp, rfl⟩, hb⟩; exact ⟨p, hp, hb⟩
  · rintro ⟨p, hp, hb⟩; exact ⟨_, ⟨p, hp, rfl⟩, hb⟩
theorem foot_updF {H : List (Nat × Tree)} {F : Nat → List Nat} {id : Nat} {fp : List Nat} (h : id ∉ ids H) : foot H (updF F id fp) = foot H F := by
  unfold foot
  congr 1
  refine List.map_congr_left fun p hp => ?_
  have : p.1 ≠ id := fun e => h (e ▸ List.mem_map.2 ⟨p, hp, rfl⟩)
  simp [updF, this]

theorem mem_foot_put {H : List (Nat × Tree)} {F : Nat → List Nat} {id : Nat} {t : Tree} {fp : List Nat} {b : Nat} (hn : (ids H).Nodup) :
    b ∈ foot (putT H id t) (updF F id fp) → b ∈ fp ∨ ∃ p ∈ H, p.1 ≠ id ∧ b ∈ F p.1 := by
  intro h
  obtain ⟨p, hp, hb⟩ := mem_foot.1 h
  rcases mem_putT hp with rfl | ⟨h1, h2⟩ | ⟨_, _, h3⟩
  · simp only [updF, if_true] at hb; exact .inl hb
  · simp only [updF, if_neg h2] at hb; exact .inr ⟨p, h1, h2, hb⟩
  · exact absurd hn h3

theorem nodup_foot_put {F : Nat → List Nat} {id : Nat} {t : Tree} {fp : List Nat} (hfp : fp.Nodup) : ∀ {H : List (Nat × Tree)}, (ids H).Nodup → (foot H F).Nodup →
    (∀ b ∈ fp, ∀ p ∈ H, p.1 ≠ id → b ∉ F p.1) → (foot (putT H id t) (updF F id fp)).Nodup
  | [], _, _, _ => by simpa [putT, foot, updF] using hfp
  | (k, x) :: r, hn, hf, hd => by
    rw [foot_cons, List.nodup_append] at hf
    simp only [ids, List.map_cons, List.nodup_cons] at hn
    simp only [putT]
    split
    · rename_i hk; subst hk
      rw [foot_cons, foot_updF (by exact hn.1), List.nodup_append]
      refine ⟨by simpa [updF] using hfp, hf.2.1, fun a ha b hb e => ?_⟩
      subst e
      simp only [updF, if_true] at ha
      obtain ⟨p, hp, hb⟩ := mem_foot.1 hb
      exact hd a ha p (List.mem_cons_of_mem _ hp) (fun e => hn.1 (e ▸ List.mem_map.2 ⟨p, hp, rfl⟩)) hb
    · rename_i hk
      rw [foot_cons, List.nodup_append]
      refine ⟨by simpa [updF, hk] using hf.1, nodup_foot_put hfp hn.2 hf.2.1 (fun b hb p hp => hd b hb p (List.mem_cons_of_mem _ hp)), fun a ha b hb e => ?_⟩
      subst e
      simp only [updF, if_neg hk] at ha
      rcases mem_foot_put (t := t) hn.2 hb with hb | ⟨p, hp, _, hb⟩
      · exact hd a hb (k, x) (List.mem_cons_self ..) hk ha
      · exact hf.2.2 a ha a (mem_foot.2 ⟨p, hp, hb⟩) rfl

theorem mem_rmT {R : List Nat} {H : List (Nat × Tree)} {p : Nat × Tree} : p ∈ rmT R H ↔ p ∈ H ∧ p.1 ∉ R := by
  simp [rmT, List.mem_filter]
theorem foot_rmT_sub (R : List Nat) (F : Nat → List Nat) : ∀ (H : List (Nat × Tree)), (foot (rmT R H) F).Sublist (foot H F)
  | [] => by simp [rmT, foot]
  | (k, x) :: r => by
    simp only [rmT, List.filter_cons]
    split
    · rw [foot_cons, foot_cons]; exact (List.Sublist.refl _).append (foot_rmT_sub R F r)
    · rw [foot_cons]; exact (foot_rmT_sub R F r).trans (List.sublist_append_right _ _)
theorem ids_rmT {R : List Nat} {H : List (Nat × Tree)} (h : (ids H).Nodup) : (ids (rmT R H)).Nodup := by
  unfold ids rmT
  exact h.sublist ((List.filter_sublist).map _)
theorem ids_killH {q : Nat → List Nat → Bool} {H : List (Nat × Tree)} : ids (killH q H) = ids H := by simp [ids, killH]
theorem foot_killH {q : Nat → List Nat → Bool} {H : List (Nat × Tree)} {F : Nat → List Nat} : foot (killH q H) F = foot H F := by simp [foot, killH, Function.comp_def]
theorem livePath_kill {q : Nat → List Nat → Bool} {t : Option Tree} {p : List Nat} : livePath (t.map (killT q)) p = livePath t p := by
  cases t with
  | none => rfl
  | some t => cases t <;> cases p <;> simp [killT, livePath]

section
variable {cx : Cx} {H : List (Nat × Tree)} {w w' : World} {ι : Nat → Value} {F : Nat → List Nat}

theorem path_keep (ho : Owns cx H w ι F) {id : Nat} {p : List Nat} (hl : livePath (find H id) p = true) (hb : ∀ b ∈ F id, w'.heap[b]? = w.heap[b]?) {v : Value} (h : pathV w (ι id) p = some v) : pathV w' (ι id) p = some v := by
  match p, h with
  | [], h => simpa [pathV] using h
  | i :: p, h =>
    cases hf : find H id with
    | none => rw [hf] at hl; simp [livePath] at hl
    | some t =>
      rw [hf] at hl
      have ht := ho.trees _ (find_mem hf)
      simp only [mem] at ht
      obtain ⟨b, off, n, cap, x, hv, hi, hc, hx⟩ := pathV_cons_inv h
      match t, p, hl with
      | .t2 xss, [], _ =>
        simp only [treeRep] at ht
        obtain ⟨us, f0, fs, h1, h2, h3⟩ := ht
        rcases h1.cell with ⟨k1, _⟩ | ⟨b', off', cap', k1, k2, _⟩
        · rw [hv] at k1; cases k1
        · rw [hv] at k1; cases k1
          rw [hv, pathV_cons hi (by rw [cell_of_heap (hb b (by simp [h3, k2]))]; exact hc)]
          simpa [pathV] using hx
      | .t3 xss, [], _ =>
        simp only [treeRep] at ht
        obtain ⟨us, f0, fs, h1, h2, h3⟩ := ht
        rcases h1.cell with ⟨k1, _⟩ | ⟨b', off', cap', k1, k2, _⟩
        · rw [hv] at k1; cases k1
        · rw [hv] at k1; cases k1
          rw [hv, pathV_cons hi (by rw [cell_of_heap (hb b (by simp [h3, k2]))]; exact hc)]
          simpa [pathV] using hx
      | .t3 xss, [j], _ =>
        simp only [treeRep] at ht
        obtain ⟨us, f0, fs, h1, h2, h3⟩ := ht
        obtain ⟨y, hy, hp⟩ := h1.row h
        have hl : i < xss.length := by rw [h2.length.2]; exact (List.getElem?_eq_some_iff.1 hy).1
        obtain ⟨a, c, ha, hcc, hr⟩ := h2.get i _ (getD_some (d := []) hl)
        rw [hy] at hcc; cases hcc
        obtain ⟨us', g0, gs, j1, j2, j3⟩ := hr
        rcases h1.cell with ⟨k1, _⟩ | ⟨b', off', cap', k1, k2, _, _, k5⟩
        · rw [hv] at k1; cases k1
        · rw [hv] at k1; cases k1
          have hyx : y = x := by have := k5 i y hy; rw [hc] at this; cases this; rfl
          subst hyx
          rw [hv, pathV_cons hi (by rw [cell_of_heap (hb b (by simp [h3, k2]))]; exact hc)]
          obtain ⟨b2, off2, n2, cap2, x2, hv2, hi2, hc2, hx2⟩ := pathV_cons_inv hx
          rcases j1.cell with ⟨l1, _⟩ | ⟨b3, off3, cap3, l1, l2, _⟩
          · rw [hv2] at l1; cases l1
          · rw [hv2] at l1; cases l1
            rw [hv2, pathV_cons hi2 (by
              rw [cell_of_heap (hb b2 (by
                rw [h3]; simp only [List.mem_append, List.mem_flatten]
                exact .inr ⟨a, List.mem_of_getElem? ha, by simp [j3, l2]⟩))]
              exact hc2)]
            simpa [pathV] using hx2

/-- ONE OBJECT MADE, OR PUT IN ANOTHER's PLACE ('id'), some taken into it ('R'), some paths forgotten ('q'). -/
theorem Owns.put (ho : Owns cx H w ι F) (R : List Nat) (id : Nat) (t' : Tree) (v' : Value) (fp' : List Nat) (q : Nat → List Nat → Bool)
    (hk : Keep cx w') (hsz : w.heap.size ≤ w'.heap.size)
    (hblk : ∀ b, b < w.heap.size → (∀ r, (r = id ∨ r ∈ R) → r ∈ Aw.ids H → b ∉ F r) → w'.heap[b]? = w.heap[b]?)
    (hfp : fp'.Nodup) (hfpm : ∀ b ∈ fp', b < w'.heap.size ∧ ((∃ r, (r = id ∨ r ∈ R) ∧ r ∈ Aw.ids H ∧ b ∈ F r) ∨ w.heap.size ≤ b))
    (hq : ∀ r, r ∈ R → ∀ p, q r p = true)
    (hqid : ∀ p, q id p = false → livePath (find H id) p = true → livePath (some t') p = true ∧ v' = ι id ∧ ∀ u, pathV w (ι id) p = some u → pathV w' (ι id) p = some u)
    (ht : (∀ av v, rep (mem cx w H ι F) av v → rep (mem cx w' (putT (killH q (rmT R H)) id t') (updF ι id v') (updF F id fp')) (killA q av) v) →
      treeRep (mem cx w' (putT (killH q (rmT R H)) id t') (updF ι id v') (updF F id fp')) fp' t' v') :
    Owns cx (putT (killH q (rmT R H)) id t') w' (updF ι id v') (updF F id fp') ∧
    ∀ av v, rep (mem cx w H ι F) av v → rep (mem cx w' (putT (killH q (rmT R H)) id t') (updF ι id v') (updF F id fp')) (killA q av) v := by
  have hn0 : (Aw.ids (killH q (rmT R H))).Nodup := by rw [ids_killH]; exact ids_rmT ho.ids
  have hfoot : ∀ b, b ∈ foot (putT (killH q (rmT R H)) id t') (updF F id fp') → b ∈ fp' ∨ ∃ p ∈ H, p.1 ∉ R ∧ p.1 ≠ id ∧ b ∈ F p.1 := by
    intro b hb
    rcases mem_foot_put hn0 hb with h | ⟨p, hp, h1, h2⟩
    · exact .inl h
    · simp only [killH, List.mem_map] at hp
      obtain ⟨p0, hp0, rfl⟩ := hp
      rw [mem_rmT] at hp0
      exact .inr ⟨p0, hp0.1, hp0.2, h1, h2⟩
  have himm : ∀ b, imm cx w H F b → imm cx w' (putT (killH q (rmT R H)) id t') (updF F id fp') b ∧ w'.heap[b]? = w.heap[b]? := by
    intro b hb
    refine ⟨⟨hb.1, Nat.lt_of_lt_of_le hb.2.1 hsz, fun hf => ?_⟩, hblk b hb.2.1 fun r _ hri hbr => hb.2.2 ?_⟩
    · rcases hfoot b hf with h | ⟨p, hp, _, _, h⟩
      · rcases (hfpm b h).2 with ⟨r, _, hri, hbr⟩ | h
        · obtain ⟨p, hp, rfl⟩ := List.mem_map.1 hri
          exact hb.2.2 (mem_foot.2 ⟨p, hp, hbr⟩)
        · have := hb.2.1; omega
      · exact hb.2.2 (mem_foot.2 ⟨p, hp, h⟩)
    · obtain ⟨p, hp, rfl⟩ := List.mem_map.1 hri
      exact mem_foot.2 ⟨p, hp, hbr⟩
  have hother : ∀ p ∈ H, p.1 ∉ R → p.1 ≠ id → ∀ b ∈ F p.1, w'.heap[b]? = w.heap[b]? := by
    intro p hp hR hne b hb
    refine hblk b (ho.mine b (mem_foot.2 ⟨p, hp, hb⟩)).1 fun r hr hri hbr => ?_
    obtain ⟨p', hp', rfl⟩ := List.mem_map.1 hri
    have hne' : p.1 ≠ p'.1 := by
      rcases hr with h | h
      · rw [h]; exact hne
      · intro e; exact hR (e ▸ h)
    -- two objects share no block
    have : ∀ {H : List (Nat × Tree)}, (foot H F).Nodup → p ∈ H → p' ∈ H → p.1 ≠ p'.1 → b ∈ F p.1 → b ∈ F p'.1 → False := by
      intro H
      induction H with
      | nil => intro _ h; cases h
      | cons x r ih =>
        intro hn h1 h2 hne h3 h4
        rw [foot_cons, List.nodup_append] at hn
        rcases List.mem_cons.1 h1 with e1 | e1 <;> rcases List.mem_cons.1 h2 with e2 | e2
        · subst e1; exact hne (by rw [e2])
        · subst e1; exact hn.2.2 b h3 b (mem_foot.2 ⟨p', e2, h4⟩) rfl
        · subst e2; exact hn.2.2 b h4 b (mem_foot.2 ⟨p, e1, h3⟩) rfl
        · exact ih hn.2.1 e1 e2 hne h3 h4
    exact this ho.nodup hp hp' hne' hb hbr
  have hle : ((mem cx w H ι F).less q).le (mem cx w' (putT (killH q (rmT R H)) id t') (updF ι id v') (updF F id fp')) := by
    refine ⟨himm, fun i p hd => ?_⟩
    obtain ⟨hd, hqf⟩ := hd
    simp only [mem] at hd
    simp only [mem, find_putT]
    by_cases hi : i = id
    · subst hi
      obtain ⟨h1, h2, h3⟩ := hqid p hqf hd
      simp only [if_true, updF]
      exact ⟨h1, h2, h3⟩
    · have hiR : i ∉ R := fun h => by rw [hq i h p] at hqf; cases hqf
      simp only [if_neg hi, updF, find_killH, find_rmT]
      have hc : R.contains i = false := by simpa using hiR
      rw [hc]
      refine ⟨by simpa [livePath_kill] using hd, rfl, fun u hu => ?_⟩
      cases hf : find H i with
      | none => rw [hf] at hd; simp [livePath] at hd
      | some t =>
        exact path_keep ho hd (hother _ (find_mem hf) hiR hi) hu
  have hrep : ∀ av v, rep (mem cx w H ι F) av v → rep (mem cx w' (putT (killH q (rmT R H)) id t') (updF ι id v') (updF F id fp')) (killA q av) v :=
    fun av v h => rep.le hle _ _ (rep_kill av v h)
  refine ⟨⟨hk, fun p hp => ?_, ?_, fun b hb => ?_, ids_putT hn0, Nat.le_trans ho.old hsz⟩, hrep⟩
  · rcases mem_putT hp with rfl | ⟨h1, h2⟩ | ⟨_, _, h3⟩
    · simp only [updF, if_true]
      exact ht hrep
    · simp only [killH, List.mem_map] at h1
      obtain ⟨p0, hp0, rfl⟩ := h1
      rw [mem_rmT] at hp0
      simp only [updF, if_neg h2]
      exact (treeRep_kill (ho.trees p0 hp0.1)).le hle (hother p0 hp0.1 hp0.2 h2)
    · exact absurd hn0 h3
  · refine nodup_foot_put hfp hn0 ?_ ?_
    · rw [foot_killH]; exact ho.nodup.sublist (foot_rmT_sub R F H)
    · intro b hb p hp hne hbp
      simp only [killH, List.mem_map] at hp
      obtain ⟨p0, hp0, rfl⟩ := hp
      rw [mem_rmT] at hp0
      rcases (hfpm b hb).2 with ⟨r, hr, hri, hbr⟩ | h
      · obtain ⟨p', hp', rfl⟩ := List.mem_map.1 hri
        have hne' : p0.1 ≠ p'.1 := by
          rcases hr with h | h
          · rw [h]; exact hne
          · intro e; exact hp0.2 (e ▸ h)
        have : ∀ {H : List (Nat × Tree)}, (foot H F).Nodup → p0 ∈ H → p' ∈ H → p0.1 ≠ p'.1 → b ∈ F p0.1 → b ∈ F p'.1 → False := by
          intro H
          induction H with
          | nil => intro _ h; cases h
          | cons x r ih =>
            intro hn h1 h2 hne h3 h4
            rw [foot_cons, List.nodup_append] at hn
            rcases List.mem_cons.1 h1 with e1 | e1 <;> rcases List.mem_cons.1 h2 with e2 | e2
            · subst e1; exact hne (by rw [e2])
            · subst e1; exact hn.2.2 b h3 b (mem_foot.2 ⟨p', e2, h4⟩) rfl
            · subst e2; exact hn.2.2 b h4 b (mem_foot.2 ⟨p0, e1, h3⟩) rfl
            · exact ih hn.2.1 e1 e2 hne h3 h4
        exact this ho.nodup hp0.1 hp' hne' hbp hbr
      · have := (ho.mine b (mem_foot.2 ⟨p0, hp0.1, hbp⟩)).1; omega
  · rcases hfoot b hb with h | ⟨p, hp, _, _, h⟩
    · refine ⟨(hfpm b h).1, ?_⟩
      rcases (hfpm b h).2 with ⟨r, _, hri, hbr⟩ | h'
      · obtain ⟨p', hp', rfl⟩ := List.mem_map.1 hri
        exact (ho.mine b (mem_foot.2 ⟨p', hp', hbr⟩)).2
      · exact .inl (Nat.le_trans ho.old h')
    · exact ⟨Nat.lt_of_lt_of_le (ho.mine b (mem_foot.2 ⟨p, hp, h⟩)).1 hsz, (ho.mine b (mem_foot.2 ⟨p, hp, h⟩)).2⟩

end
end Go.Aw
