import Derived.Test.YtcmgjlgmajhekaaLib2
import Derived.Test.YtcmgjlgmajhekaaLib1
import Derived.ChangeSame
import Derived.WideKeyArgs
import Derived.Deep.Slices
import Derived.OpenShut
import Derived.ProofKit
set_option linter.unusedSimpArgs false
set_option linter.unusedVariables false
namespace Go.Aw
open Go.RowKit
def flatRep (w : World) (fp : List Nat) : Tree → Value → Prop
 | .t1 xs, v => O1 w fp xs v
 | .t2 xs, v => O2 w fp xs v
 | .t3 xs, v => O3 w fp xs v
 | _, _ => False
theorem flatRep.tree {w : World} {fp : List Nat} {t : Tree} {v : Value} (h : flatRep w fp t v) {m : Mem} (hm : m.w = w) : treeRep m fp t v := by
 subst hm
 cases t <;> simp only [flatRep] at h <;> simp only [treeRep] <;> exact h
def flatT : Tree → Bool
 | .t1 _ | .t2 _ | .t3 _ => true
 | _ => false
theorem flatT_rep {m : Mem} {fp : List Nat} {t : Tree} {v : Value} (hf : flatT t = true) (h : treeRep m fp t v) : flatRep m.w fp t v := by
 cases t <;> simp only [flatT] at hf <;> simp only [treeRep] at h <;> first | exact h | cases hf
section
variable {P : Program} {cx : Cx} {H : List (Nat × Tree)} {w w' : World} {ι : Nat → Value} {F : Nat → List Nat}
theorem Owns.turn (ho : Owns cx H w ι F) {T T' : List (Nat × Tree)} (hids : Aw.ids T' = Aw.ids T) (hn : (Aw.ids T).Nodup) (hf : ∀ p ∈ T, find H p.1 = some p.2) (hw : Turned w w' (foot T F)) {G : Nat → List Nat}
  (h1 : ∀ p ∈ T', flatRep w' (G p.1) p.2 (ι p.1)) (h2 : (foot T' G).Nodup) (h3 : ∀ b ∈ foot T' G, b < w'.heap.size ∧ (b ∈ foot T F ∨ w.heap.size ≤ b)) :
  Owns cx (T' ++ killH (qOf [] (Aw.ids T)) (rmT (Aw.ids T) H)) w' ι (fun i => if (Aw.ids T).contains i then G i else F i) ∧
  ∀ av v, rep (mem cx w H ι F) av v → rep (mem cx w' (T' ++ killH (qOf [] (Aw.ids T)) (rmT (Aw.ids T) H)) ι (fun i => if (Aw.ids T).contains i then G i else F i)) (killA (qOf [] (Aw.ids T)) av) v := by
 have hsub : ∀ b, b ∈ foot T F → b ∈ foot H F := fun b hb => by
  obtain ⟨p, hp, hb⟩ := mem_foot.1 hb
  exact mem_foot.2 ⟨_, find_mem (hf p hp), hb⟩
 have hc : ∀ {i}, (Aw.ids T).contains i = true ↔ i ∈ Aw.ids T := fun {i} => by simp
 have hc' : ∀ {i}, i ∉ Aw.ids T → (Aw.ids T).contains i = false := fun {i} h => by simpa using h
 have hTin : ∀ p ∈ T', (Aw.ids T).contains p.1 = true := fun p hp => hc.2 (by rw [← hids]; exact List.mem_map.2 ⟨p, hp, rfl⟩)
 have hq1 : foot T' (fun i => if (Aw.ids T).contains i then G i else F i) = foot T' G := foot_congr (fun p hp => by simp only [hTin p hp, if_true])
 have hq2 : foot (killH (qOf [] (Aw.ids T)) (rmT (Aw.ids T) H)) (fun i => if (Aw.ids T).contains i then G i else F i) = foot (rmT (Aw.ids T) H) F := by
  rw [foot_killH]
  exact foot_congr (fun p hp => by rw [mem_rmT] at hp; simp only [hc' hp.2, Bool.false_eq_true, if_false])
 have hfoot : foot (T' ++ killH (qOf [] (Aw.ids T)) (rmT (Aw.ids T) H)) (fun i => if (Aw.ids T).contains i then G i else F i) = foot T' G ++ foot (rmT (Aw.ids T) H) F := by rw [foot_append, hq1, hq2]
 have hrm : ∀ b, b ∈ foot (rmT (Aw.ids T) H) F → b ∈ foot H F ∧ b ∉ foot T F := fun b hb => by
  obtain ⟨p, hp, hb⟩ := mem_foot.1 hb
  rw [mem_rmT] at hp
  refine ⟨mem_foot.2 ⟨p, hp.1, hb⟩, fun h => ?_⟩
  obtain ⟨p', hp', hb'⟩ := mem_foot.1 h
  exact foot_disj ho (find_of_mem ho.ids hp.1) (hf p' hp') (fun e => hp.2 (e ▸ List.mem_map.2 ⟨p', hp', rfl⟩)) hb hb'
 have hfind : ∀ i, i ∉ Aw.ids T → find (T' ++ killH (qOf [] (Aw.ids T)) (rmT (Aw.ids T) H)) i = (find H i).map (killT (qOf [] (Aw.ids T))) := fun i hi => by
  rw [find_append, find_none.2 (by rw [hids]; exact hi), find_killH, find_rmT, hc' hi]
  rfl
 have hother : ∀ p ∈ H, p.1 ∉ Aw.ids T → ∀ b ∈ F p.1, w'.heap[b]? = w.heap[b]? := fun p hp hi b hb =>
  hw.block b (ho.mine b (mem_foot.2 ⟨p, hp, hb⟩)).1 (hrm b (mem_foot.2 ⟨p, mem_rmT.2 ⟨hp, hi⟩, hb⟩)).2
 have hle : ((mem cx w H ι F).less (qOf [] (Aw.ids T))).le (mem cx w' (T' ++ killH (qOf [] (Aw.ids T)) (rmT (Aw.ids T) H)) ι (fun i => if (Aw.ids T).contains i then G i else F i)) := by
  refine ⟨fun b hb => ⟨⟨hb.1, Nat.lt_of_lt_of_le hb.2.1 hw.size, fun hm => ?_⟩, hw.block b hb.2.1 (fun h => hb.2.2 (hsub b h))⟩, fun i p hd => ?_⟩
  ·rw [hfoot] at hm
   rcases List.mem_append.1 hm with hm | hm
   ·rcases (h3 b hm).2 with h | h
    ·exact hb.2.2 (hsub b h)
    ·exact absurd h (Nat.not_le.2 hb.2.1)
   ·exact hb.2.2 (hrm b hm).1
  ·obtain ⟨hd, hqf⟩ := hd
   simp only [mem] at hd ⊢
   by_cases hi : i ∈ Aw.ids T
   ·have hp : p = [] := by
     simp only [qOf, hc.2 hi, List.contains_nil, Bool.false_or, Bool.true_and] at hqf
     simpa using hqf
    subst hp
    refine ⟨?_, rfl, fun v hv => by simpa [pathV] using hv⟩
    have hi' : i ∈ Aw.ids T' := by rw [hids]; exact hi
    obtain ⟨p, hp, rfl⟩ := List.mem_map.1 hi'
    rw [find_append, find_of_mem (by rw [hids]; exact hn) hp]
    cases p.2 <;> rfl
   ·rw [hfind i hi]
    refine ⟨by rw [livePath_kill]; exact hd, rfl, fun v hv => ?_⟩
    cases hcf : find H i with
    | none => rw [hcf] at hd; simp [livePath] at hd
    | some t => exact path_keep ho hd (hother _ (find_mem hcf) hi) hv
 have hnd : (Aw.ids (T' ++ killH (qOf [] (Aw.ids T)) (rmT (Aw.ids T) H))).Nodup := by
  rw [ids_append, ids_killH, List.nodup_append]
  refine ⟨by rw [hids]; exact hn, ids_rmT ho.ids, fun i hi j hj e => ?_⟩
  subst e
  rw [hids] at hi
  obtain ⟨p, hp, rfl⟩ := List.mem_map.1 hj
  exact (mem_rmT.1 hp).2 hi
 refine ⟨⟨ho.keep.turned ho.old hw (fun b hb => (ho.mine b (hsub b hb)).2), fun p hp => ?_, ?_, fun b hb => ?_, hnd, Nat.le_trans ho.old hw.size⟩, fun av v h => rep.le hle _ _ (rep_kill av v h)⟩
 ·rcases List.mem_append.1 hp with hp | hp
  ·simp only [hTin p hp, if_true]; exact (h1 p hp).tree rfl
  ·simp only [killH, List.mem_map] at hp
   obtain ⟨p0, hp0, rfl⟩ := hp
   rw [mem_rmT] at hp0
   simp only [hc' hp0.2, Bool.false_eq_true, if_false]
   exact (treeRep_kill (ho.trees p0 hp0.1)).le hle (hother p0 hp0.1 hp0.2)
 ·rw [hfoot, List.nodup_append]
  refine ⟨h2, ho.nodup.sublist (foot_rmT_sub _ F H), fun a ha c hcm e => ?_⟩
  subst e
  obtain ⟨k1, k2⟩ := hrm a hcm
  rcases (h3 a ha).2 with h | h
  ·exact k2 h
  ·exact absurd (ho.mine a k1).1 (Nat.not_lt.2 h)
 ·rw [hfoot] at hb
  rcases List.mem_append.1 hb with h | h
  ·refine ⟨(h3 b h).1, ?_⟩
   rcases (h3 b h).2 with k | k
   ·exact (ho.mine b (hsub b k)).2
   ·exact .inl (Nat.le_trans ho.old k)
  ·exact ⟨Nat.lt_of_lt_of_le (ho.mine b (hrm b h).1).1 hw.size, (ho.mine b (hrm b h).1).2⟩
end
structure TurnCall (P : Program) (f : FuncId) (args : List AV) (T T' : List (Nat × Tree)) (r : AV) : Prop where
 enter : ∀ args w, (callFunc f args).run P w = .ok (.enter f args) w
 ids : Aw.ids T' = Aw.ids T
 free : memFree r = true
 runs : ∀ (us : List Value) (w : World) (ι : Nat → Value) (G : Nat → List Nat), (∀ p ∈ T, flatRep w (G p.1) p.2 (ι p.1)) → (foot T G).Nodup → (∀ b ∈ foot T G, b < w.heap.size ∧ NoGl b) ∧ GlobOk w →
  reps ⟨w, fun _ => False, ι, fun id path => livePath (find T id) path = true⟩ args us →
  Calls P f us.toArray w fun e w' => ∃ v G', e = .returned v ∧ Turned w w' (foot T G) ∧ (∀ p ∈ T', flatRep w' (G' p.1) p.2 (ι p.1)) ∧ (foot T' G').Nodup ∧
   (∀ b ∈ foot T' G', b < w'.heap.size ∧ (b ∈ foot T G ∨ w.heap.size ≤ b)) ∧ rep ⟨w', fun _ => False, fun _ => undef, fun _ _ => False⟩ r v
mutual
def ren (ρ : Nat → Nat) : AV → AV
 | .ref i p => .ref (ρ i) p
 | .agg vs => .agg (rens ρ vs)
 | .tup vs => .tup (rens ρ vs)
 | v => v
def rens (ρ : Nat → Nat) : List AV → List AV
 | [] => []
 | a :: as => ren ρ a :: rens ρ as
end
mutual
def plain (T : List (Nat × Tree)) : AV → Bool
 | .ref i [] => (find T i).isSome
 | .int _ | .bool _ | .str _ | .nil => true
 | .agg vs | .tup vs => plains T vs
 | _ => false
def plains (T : List (Nat × Tree)) : List AV → Bool
 | [] => true
 | a :: as => plain T a && plains T as
end
mutual
theorem ren_rep {T : List (Nat × Tree)} {ρ : Nat → Nat} {m : Mem} : ∀ (a : AV) (u : Value), plain T a = true → rep m (ren ρ a) u → rep ⟨m.w, fun _ => False, fun i => m.ι (ρ i), fun id path => livePath (find T id) path = true⟩ a u
 | .ref i [], u, hp, h => by
  simp only [ren, rep, pathV] at h ⊢
  simp only [plain] at hp
  obtain ⟨t, ht⟩ := Option.isSome_iff_exists.1 hp
  exact ⟨by rw [ht]; cases t <;> rfl, h.2⟩
 | .ref i (_ :: _), _, hp, _ => by simp [plain] at hp
 | .int _, u, _, h | .bool _, u, _, h | .str _, u, _, h | .nil, u, _, h => by simp only [ren, rep] at h ⊢; exact h
 | .agg vs, u, hp, h => by
  simp only [ren, rep] at h ⊢
  simp only [plain] at hp
  obtain ⟨us, h1, h2⟩ := h
  exact ⟨us, h1, rens_rep vs us hp h2⟩
 | .tup vs, u, hp, h => by
  simp only [ren, rep] at h ⊢
  simp only [plain] at hp
  obtain ⟨us, h1, h2⟩ := h
  exact ⟨us, h1, rens_rep vs us hp h2⟩
 | .flt _, _, hp, _ | .ik _ _, _, hp, _ | .nilfn, _, hp, _ | .lv _, _, hp, _ | .fn _ _, _, hp, _ | .eptr _ _, _, hp, _ | .cptr _ _, _, hp, _
 | .sub _ _ _ _, _, hp, _ | .eref _ _ _, _, hp, _ | .bptr _ _, _, hp, _ | .when _ _, _, hp, _ | .junk, _, hp, _ | .l1 _, _, hp, _ | .l2 _, _, hp, _ | .l3 _, _, hp, _ | .lp _ _, _, hp, _ | .val _, _, hp, _ => by simp [plain] at hp
theorem rens_rep {T : List (Nat × Tree)} {ρ : Nat → Nat} {m : Mem} : ∀ (as : List AV) (us : List Value), plains T as = true → reps m (rens ρ as) us → reps ⟨m.w, fun _ => False, fun i => m.ι (ρ i), fun id path => livePath (find T id) path = true⟩ as us
 | [], us, _, h => by simp only [rens, reps] at h ⊢; exact h
 | a :: as, us, hp, h => by
  simp only [rens, reps] at h ⊢
  simp only [plains, Bool.and_eq_true] at hp
  obtain ⟨u, us', h1, h2, h3⟩ := h
  exact ⟨u, us', h1, ren_rep a u hp.1 h2, rens_rep as us' hp.2 h3⟩
end
def renT (ρ : Nat → Nat) (T : List (Nat × Tree)) : List (Nat × Tree) := T.map fun p => (ρ p.1, p.2)
theorem ids_renT (ρ : Nat → Nat) (T : List (Nat × Tree)) : ids (renT ρ T) = (ids T).map ρ := by simp [ids, renT]
theorem foot_renT (ρ : Nat → Nat) (T : List (Nat × Tree)) (G : Nat → List Nat) : foot (renT ρ T) G = foot T (fun i => G (ρ i)) := by simp [foot, renT, Function.comp_def]
theorem inv_of {ρ : Nat → Nat} {α : Type} (d : α) (G' : Nat → α) : ∀ {l : List Nat}, (l.map ρ).Nodup → ∃ G : Nat → α, ∀ i ∈ l, G (ρ i) = G' i
 | [], _ => ⟨fun _ => d, by simp⟩
 | a :: l, h => by
  simp only [List.map_cons, List.nodup_cons] at h
  obtain ⟨G, hG⟩ := inv_of d G' h.2
  refine ⟨fun j => if j = ρ a then G' a else G j, fun i hi => ?_⟩
  rcases List.mem_cons.1 hi with rfl | hi
  ·simp
  ·have : ρ i ≠ ρ a := fun e => h.1 (e ▸ List.mem_map.2 ⟨i, hi, rfl⟩)
   simp only [if_neg this]
   exact hG i hi
section
variable {P : Program} {cx : Cx} {H : List (Nat × Tree)} {w w' : World} {ι : Nat → Value} {F : Nat → List Nat}
def TurnOf (P : Program) (H : List (Nat × Tree)) (f : FuncId) (args : List AV) (r : AV) (subs : List Nat) (H' : List (Nat × Tree)) : Prop :=
 ∃ (as : List AV) (T T' : List (Nat × Tree)) (ρ : Nat → Nat), rens ρ as = args ∧ TurnCall P f as T T' r ∧ plains T as = true ∧ (T.all fun p => flatT p.2) = true ∧ ((ids T).map ρ).Nodup ∧ (∀ p ∈ T, find H (ρ p.1) = some p.2) ∧
  subs = (ids T).map ρ ∧ H' = renT ρ T' ++ killH (qOf [] ((ids T).map ρ)) (rmT ((ids T).map ρ) H)
theorem turnOf_sound (ho : Owns cx H w ι F) {f : FuncId} {args : List AV} {r : AV} {subs : List Nat} {H' : List (Nat × Tree)} (h : TurnOf P H f args r subs H') {us : List Value} (hr : reps (mem cx w H ι F) args us) :
  (∀ args w, (callFunc f args).run P w = .ok (.enter f args) w) ∧ Calls P f us.toArray w fun e w' => ∃ u F', e = .returned u ∧ Owns cx H' w' ι F' ∧ rep (mem cx w' H' ι F') r u ∧ ∀ av v, rep (mem cx w H ι F) av v → rep (mem cx w' H' ι F') (killA (qOf [] subs) av) v := by
 obtain ⟨as, T, T', ρ, h1, h2, h3, h4, h5, h6, rfl, rfl⟩ := h
 subst h1
 have hin : ∀ p ∈ renT ρ T, find H p.1 = some p.2 := fun p hp => by
  obtain ⟨p0, hp0, rfl⟩ := List.mem_map.1 hp
  exact h6 p0 hp0
 have hnr : (Aw.ids (renT ρ T)).Nodup := by rw [ids_renT]; exact h5
 have hnd : (foot (renT ρ T) F).Nodup := by
  have : ∀ {l : List (Nat × Tree)}, (Aw.ids l).Nodup → (∀ p ∈ l, find H p.1 = some p.2) → (foot l F).Nodup := by
   intro l
   induction l with
   | nil => intro _ _; simp [foot]
   | cons p l ih =>
    intro hn hl
    simp only [Aw.ids, List.map_cons, List.nodup_cons] at hn
    rw [foot_cons, List.nodup_append]
    refine ⟨foot_part ho (hl p (List.mem_cons_self ..)), ih hn.2 (fun q hq => hl q (List.mem_cons_of_mem _ hq)), fun a ha c hc e => ?_⟩
    subst e
    obtain ⟨q, hq, hb⟩ := mem_foot.1 hc
    exact foot_disj ho (hl p (List.mem_cons_self ..)) (hl q (List.mem_cons_of_mem _ hq)) (fun e => hn.1 (e ▸ List.mem_map.2 ⟨q, hq, rfl⟩)) ha hb
  exact this hnr hin
 have hmine : ∀ b ∈ foot (renT ρ T) F, b ∈ foot H F := fun b hb => by
  obtain ⟨p, hp, hb⟩ := mem_foot.1 hb
  exact mem_foot.2 ⟨_, find_mem (hin p hp), hb⟩
 rw [foot_renT] at hnd hmine
 refine ⟨h2.enter, (h2.runs us w (fun i => ι (ρ i)) (fun i => F (ρ i)) (fun p hp => ?_) hnd ⟨fun b hb => ⟨(ho.mine b (hmine b hb)).1, ho.noGl (hmine b hb)⟩, ho.globOk⟩ (rens_rep (m := mem cx w H ι F) as us h3 hr)).mono fun e w' ⟨v, G', k1, k2, k3, k4, k5, k6⟩ => ?_⟩
 ·exact flatT_rep (m := mem cx w H ι F) ((List.all_eq_true.1 h4) p hp) (ho.trees _ (find_mem (h6 p hp)))
 ·obtain ⟨G1, hG⟩ := inv_of [] G' (l := Aw.ids T) h5
  have hfe : foot (renT ρ T') G1 = foot T' G' := by
   rw [foot_renT]
   exact foot_congr (fun p hp => hG p.1 (by rw [← h2.ids]; exact List.mem_map.2 ⟨p, hp, rfl⟩))
  rw [← foot_renT ρ T F] at k2 k5
  have key := ho.turn (T := renT ρ T) (T' := renT ρ T') (by rw [ids_renT, ids_renT, h2.ids]) hnr hin k2 (G := G1) (fun p hp => ?_) (by rw [hfe]; exact k4) (by rw [hfe]; exact k5)
  ·rw [ids_renT] at key
   exact ⟨v, _, k1, key.1, rep_memFree h2.free k6, key.2⟩
  ·obtain ⟨p0, hp0, rfl⟩ := List.mem_map.1 hp
   simp only
   rw [hG p0.1 (by rw [← h2.ids]; exact List.mem_map.2 ⟨p0, hp0, rfl⟩)]
   exact k3 p0 hp0
end
end Go.Aw
namespace Go.Aw
open Go.RowKit
section
variable {P : Program} {cx : Cx} {H : List (Nat × Tree)} {w w' : World} {ι : Nat → Value} {F : Nat → List Nat}
theorem on_turn {α : Type} {R : World → List Nat → α → Value → Prop} (frame : ∀ {w w' fp a v}, (∀ b ∈ fp, w'.heap[b]? = w.heap[b]?) → R w fp a v → R w' fp a v) {f0 : List Nat} {fs : List (List Nat)} {as : List α} {us : List Value} {v x : Value} {i : Nat} {f g : List Nat} {a' : α}
  (h1 : OwnSl w f0 us v) (h2 : All3 (R w) fs as us) (hn : (f0 ++ fs.flatten).Nodup) (hlt : ∀ b ∈ f0 ++ fs.flatten, b < w.heap.size) (hf : fs[i]? = some f) (hx : us[i]? = some x) (hw : Turned w w' f) (hg : g.Nodup) (hgm : ∀ b ∈ g, b ∈ f ∨ w.heap.size ≤ b) (hr : R w' g a' x) :
  OwnSl w' f0 us v ∧ All3 (R w') (fs.set i g) (as.set i a') us ∧ (f0 ++ (fs.set i g).flatten).Nodup ∧ ∀ b ∈ f0 ++ (fs.set i g).flatten, b ∈ f0 ++ fs.flatten ∨ w.heap.size ≤ b := by
 have hn' := hn
 rw [List.nodup_append] at hn
 have hff : ∀ b ∈ f, b ∈ fs.flatten := fun b hb => List.mem_flatten.2 ⟨f, List.mem_of_getElem? hf, hb⟩
 have h0 : ∀ k ∈ f0, w'.heap[k]? = w.heap[k]? := fun k hk => hw.block k (hlt k (List.mem_append.2 (.inl hk))) (fun e => hn.2.2 k hk k (hff k e) rfl)
 refine ⟨h1.heap h0, ?_, ?_, fun b hb => ?_⟩
 ·refine All3.of_get (by rw [List.length_set, List.length_set]; exact h2.length.1) (by rw [List.length_set]; exact h2.length.2) (fun j g' a u hg' ha hu => ?_)
  rw [List.getElem?_set] at ha hg'
  split at ha
  ·rename_i hij; subst hij
   rw [hx] at hu; cases hu
   rw [if_pos rfl] at hg'
   split at ha <;> split at hg' <;> first | (cases ha; done) | (cases hg'; done) | skip
   cases ha; cases hg'
   exact hr
  ·rename_i hij
   rw [if_neg hij] at hg'
   refine frame (fun k hk => hw.block k (hlt k (List.mem_append.2 (.inr (List.mem_flatten.2 ⟨g', List.mem_of_getElem? hg', hk⟩)))) (fun e => ?_)) (h2.at hg' ha hu)
   exact flatten_disj hn.2.1 hg' hf (fun e => hij e.symm) hk e
 ·have hset : fs.set i g = fs.take i ++ g :: fs.drop (i + 1) := by
   rw [List.set_eq_take_append_cons_drop, if_pos (List.getElem?_eq_some_iff.1 hf).1]
  have hfs : fs = fs.take i ++ f :: fs.drop (i + 1) := by
   have hl := (List.getElem?_eq_some_iff.1 hf).1
   have he := (List.getElem?_eq_some_iff.1 hf).2
   rw [← he, List.getElem_cons_drop, List.take_append_drop]
  have hgn : ∀ b ∈ g, b ∉ f0 ∧ b ∉ (fs.take i).flatten ∧ b ∉ (fs.drop (i + 1)).flatten := by
   intro b hb
   rw [hfs] at hn' hlt
   simp only [List.flatten_append, List.flatten_cons, List.nodup_append, List.mem_append] at hn' hlt
   rcases hgm b hb with h | h
   ·refine ⟨fun e => hn'.2.2 b e b (.inr (.inl h)) rfl, fun e => hn'.2.1.2.2 b e b (.inl h) rfl, fun e => hn'.2.1.2.1.2.2 b h b e rfl⟩
   ·refine ⟨fun e => ?_, fun e => ?_, fun e => ?_⟩
    ·exact absurd (hlt b (.inl e)) (Nat.not_lt.2 h)
    ·exact absurd (hlt b (.inr (.inl e))) (Nat.not_lt.2 h)
    ·exact absurd (hlt b (.inr (.inr (.inr e)))) (Nat.not_lt.2 h)
  rw [hset]
  rw [hfs] at hn'
  simp only [List.flatten_append, List.flatten_cons, List.nodup_append, List.mem_append] at hn' ⊢
  obtain ⟨a1, ⟨a2, ⟨a3, a4, a5⟩, a6⟩, a7⟩ := hn'
  refine ⟨a1, ⟨a2, ⟨hg, a4, fun x hx y hy e => (hgn x hx).2.2 (e ▸ hy)⟩, fun x hx y hy e => ?_⟩, fun x hx y hy e => ?_⟩
  ·rcases hy with hy | hy
   ·exact (hgn y hy).2.1 (e ▸ hx)
   ·exact a6 x hx y (.inr hy) e
  ·rcases hy with hy | hy | hy
   ·exact a7 x hx y (.inl hy) e
   ·exact (hgn y hy).1 (e ▸ hx)
   ·exact a7 x hx y (.inr (.inr hy)) e
 ·rcases List.mem_append.1 hb with hb | hb
  ·exact .inl (List.mem_append.2 (.inl hb))
  ·rcases mem_flatten_set hb with hb | hb
   ·rcases hgm b hb with h | h
    ·exact .inl (List.mem_append.2 (.inr (hff b h)))
    ·exact .inr h
   ·exact .inl (List.mem_append.2 (.inr hb))
def TurnRow (P : Program) (H : List (Nat × Tree)) (f : FuncId) (args : List AV) (r : AV) (id : Nat) (H' : List (Nat × Tree)) : Prop :=
 ∃ (i : Nat) (k : Int), args = [.ref id [i], .int k] ∧
  ((∃ xss ys, find H id = some (.t2 xss) ∧ i < xss.length ∧ TurnCall P f [.ref 0 [], .int k] [(0, .t1 (xss.getD i []))] [(0, .t1 ys)] r ∧ H' = (id, .t2 (xss.set i ys)) :: killH (qOf [] [id]) (rmT [id] H)) ∨
   (∃ xss ys, find H id = some (.t3 xss) ∧ i < xss.length ∧ TurnCall P f [.ref 0 [], .int k] [(0, .t2 (xss.getD i []))] [(0, .t2 ys)] r ∧ H' = (id, .t3 (xss.set i ys)) :: killH (qOf [] [id]) (rmT [id] H)))
theorem turnRow_sound (ho : Owns cx H w ι F) {f : FuncId} {args : List AV} {r : AV} {id : Nat} {H' : List (Nat × Tree)} (h : TurnRow P H f args r id H') {us : List Value} (hr : reps (mem cx w H ι F) args us) :
  (∀ args w, (callFunc f args).run P w = .ok (.enter f args) w) ∧ Calls P f us.toArray w fun e w' => ∃ u F', e = .returned u ∧ Owns cx H' w' ι F' ∧ rep (mem cx w' H' ι F') r u ∧ ∀ av v, rep (mem cx w H ι F) av v → rep (mem cx w' H' ι F') (killA (qOf [] [id]) av) v := by
 obtain ⟨i, k, rfl, h⟩ := h
 simp only [reps] at hr
 obtain ⟨x, us', rfl, hx, y, us'', rfl, hy, rfl⟩ := hr
 simp only [rep] at hx
 have hx2 := hx.2
 have gen : ∀ {α : Type} {R : World → List Nat → α → Value → Prop} (d : α) (frame : ∀ {w w' fp a v}, (∀ b ∈ fp, w'.heap[b]? = w.heap[b]?) → R w fp a v → R w' fp a v) (tr : α → Tree) (big : List α → Tree)
   (hflat : ∀ {w fp a v}, R w fp a v ↔ flatRep w fp (tr a) v) (hbig : ∀ {w fp as v}, flatRep w fp (big as) v ↔ ON R w fp as v) (hft : ∀ as, flatT (big as) = true) {as : List α} {a' : α}
   (_ : find H id = some (big as)) (_ : i < as.length) (_ : TurnCall P f [.ref 0 [], .int k] [(0, tr (as.getD i d))] [(0, tr a')] r),
   (∀ args w, (callFunc f args).run P w = .ok (.enter f args) w) ∧ Calls P f [x, y].toArray w fun e w' => ∃ u F', e = .returned u ∧ Owns cx ((id, big (as.set i a')) :: killH (qOf [] [id]) (rmT [id] H)) w' ι F' ∧
    rep (mem cx w' ((id, big (as.set i a')) :: killH (qOf [] [id]) (rmT [id] H)) ι F') r u ∧ ∀ av v, rep (mem cx w H ι F) av v → rep (mem cx w' ((id, big (as.set i a')) :: killH (qOf [] [id]) (rmT [id] H)) ι F') (killA (qOf [] [id]) av) v := by
  intro α R d frame tr big hflat hbig hft as a' hfd hi hc
  have ht := flatT_rep (m := mem cx w H ι F) (hft as) (ho.trees _ (find_mem hfd))
  rw [hbig] at ht
  obtain ⟨vs, f0, fs, h1, h2, h3⟩ := ht
  obtain ⟨x', hx', hp⟩ := h1.row hx2
  simp only [pathV, Option.some.injEq] at hp; subst hp
  obtain ⟨g, c, hg, hcc, hrow⟩ := h2.get i _ (getD_some (d := d) hi)
  rw [hx'] at hcc; cases hcc
  have hsub : ∀ b ∈ g, b ∈ foot H F := fun b hb => mem_foot.2 ⟨_, find_mem hfd, by
   rw [h3]; exact List.mem_append.2 (.inr (List.mem_flatten.2 ⟨g, List.mem_of_getElem? hg, hb⟩))⟩
  have hnF : (f0 ++ fs.flatten).Nodup := by rw [← h3]; exact foot_part ho hfd
  have hft1 : foot [(0, tr (as.getD i d))] (fun _ => g) = g := by simp [foot]
  refine ⟨hc.enter, (hc.runs [x', y] w (fun _ => x') (fun _ => g) (fun p hp => ?_) ?_ ⟨fun b hb => ⟨?_, ?_⟩, ho.globOk⟩ ?_).mono fun e w' ⟨v, G', k1, k2, k3, k4, k5, k6⟩ => ?_⟩
  ·simp only [List.mem_singleton] at hp; subst hp; exact hflat.1 hrow
  ·rw [hft1]; exact flatten_part (List.nodup_append.1 hnF).2.1 hg
  ·rw [hft1] at hb; exact (ho.mine b (hsub b hb)).1
  ·rw [hft1] at hb; exact ho.noGl (hsub b hb)
  ·simp only [reps]
   refine ⟨x', [y], rfl, ?_, y, [], rfl, ?_, rfl⟩
   ·simp only [rep, find, if_true, pathV]
    refine ⟨?_, trivial⟩
    cases tr (as.getD i d) <;> rfl
   ·simp only [rep] at hy ⊢; exact hy
  ·rw [hft1] at k2 k5
   have hfg : foot [(0, tr a')] G' = G' 0 := by simp [foot]
   rw [hfg] at k4 k5
   obtain ⟨m1, m2, m3, m4⟩ := on_turn (R := R) (fun h h' => frame h h') h1 h2 hnF (fun b hb => by rw [← h3] at hb; exact (ho.mine b (mem_foot.2 ⟨_, find_mem hfd, hb⟩)).1) hg hx' k2 k4 (fun b hb => (k5 b hb).2) (hflat.2 (k3 _ (List.mem_singleton.2 rfl)))
   have e1 : Aw.ids [(id, big as)] = [id] := rfl
   have e2 : foot [(id, big as)] F = F id := by simp [foot]
   have key := ho.turn (w' := w') (T := [(id, big as)]) (T' := [(id, big (as.set i a'))]) rfl (by simp [Aw.ids]) (by simpa using hfd)
    (by rw [e2]; exact ⟨k2.os, k2.tape, k2.output, k2.size, fun b hb hbn => k2.block b hb (fun h => hbn (by rw [h3]; exact List.mem_append.2 (.inr (List.mem_flatten.2 ⟨g, List.mem_of_getElem? hg, h⟩))))⟩)
    (G := fun _ => f0 ++ (fs.set i (G' 0)).flatten)
    (fun p hp => by simp only [List.mem_singleton] at hp; subst hp; exact hbig.2 ⟨vs, f0, _, m1, m2, rfl⟩)
    (by simpa [foot] using m3)
    (fun b hb => by
     have hb' : b ∈ f0 ++ (fs.set i (G' 0)).flatten := by simpa [foot] using hb
     rw [e2, h3]
     refine ⟨?_, m4 b hb'⟩
     rcases List.mem_append.1 hb' with hq | hq
     ·exact Nat.lt_of_lt_of_le (ho.mine b (mem_foot.2 ⟨_, find_mem hfd, by rw [h3]; exact List.mem_append.2 (.inl hq)⟩)).1 k2.size
     ·rcases mem_flatten_set hq with hq | hq
      ·exact (k5 b hq).1
      ·exact Nat.lt_of_lt_of_le (ho.mine b (mem_foot.2 ⟨_, find_mem hfd, by rw [h3]; exact List.mem_append.2 (.inr hq)⟩)).1 k2.size)
   rw [e1] at key
   exact ⟨v, _, k1, key.1, rep_memFree hc.free k6, key.2⟩
 rcases h with ⟨xss, ys, h1, h2, h3, rfl⟩ | ⟨xss, ys, h1, h2, h3, rfl⟩
 ·exact gen (R := O1) [] (fun hb h => h.heap hb) .t1 .t2 Iff.rfl Iff.rfl (fun _ => rfl) h1 h2 h3
 ·exact gen (R := O2) [] (fun hb h => h.heap hb) .t2 .t3 Iff.rfl Iff.rfl (fun _ => rfl) h1 h2 h3
end
end Go.Aw
namespace Go.Aw
open Go.RowKit
def outQ (T : List (Nat × Tree)) : Nat → List Nat → Bool := fun i _ => !(ids T).contains i
def closedT (T : List (Nat × Tree)) : Prop := ∀ p ∈ T, killT (outQ T) p.2 = p.2
def ownCx (w : World) (T : List (Nat × Tree)) (F : Nat → List Nat) (S : Nat → Prop) (k : Fx) (u : Nat → Value) : Cx := ⟨w.heap.size, fun b => b ∈ foot T F, S, w, k, u, none, []⟩
section
variable {P : Program} {cx : Cx} {H : List (Nat × Tree)} {w w' : World} {ι : Nat → Value} {F : Nat → List Nat}
theorem out_in {T : List (Nat × Tree)} {i : Nat} {p : List Nat} (h : outQ T i p = false) : i ∈ ids T := by
 simpa [outQ] using h
theorem nodup_find (ho : Owns cx H w ι F) : ∀ {l : List (Nat × Tree)}, (Aw.ids l).Nodup → (∀ p ∈ l, find H p.1 = some p.2) → (foot l F).Nodup
 | [], _, _ => by simp [foot]
 | p :: l, hn, hl => by
  simp only [Aw.ids, List.map_cons, List.nodup_cons] at hn
  rw [foot_cons, List.nodup_append]
  refine ⟨foot_part ho (hl p (List.mem_cons_self ..)), nodup_find ho hn.2 (fun q hq => hl q (List.mem_cons_of_mem _ hq)), fun a ha c hc e => ?_⟩
  subst e
  obtain ⟨q, hq, hb⟩ := mem_foot.1 hc
  exact foot_disj ho (hl p (List.mem_cons_self ..)) (hl q (List.mem_cons_of_mem _ hq)) (fun e => hn.1 (e ▸ List.mem_map.2 ⟨q, hq, rfl⟩)) ha hb
theorem own_part (ho : Owns cx H w ι F) {T : List (Nat × Tree)} (hn : (Aw.ids T).Nodup) (hf : ∀ p ∈ T, find H p.1 = some p.2) (hc : closedT T) (k : Fx) (u : Nat → Value) :
  Owns (ownCx w T F (imm cx w H F) k u) T w ι F ∧ ((mem cx w H ι F).less (outQ T)).le (mem (ownCx w T F (imm cx w H F) k u) w T ι F) := by
 have hsub : ∀ b, b ∈ foot T F → b ∈ foot H F := fun b hb => by
  obtain ⟨p, hp, hb⟩ := mem_foot.1 hb
  exact mem_foot.2 ⟨_, find_mem (hf p hp), hb⟩
 have hle : ((mem cx w H ι F).less (outQ T)).le (mem (ownCx w T F (imm cx w H F) k u) w T ι F) := by
  refine ⟨fun b hb => ⟨⟨.inl hb, hb.2.1, fun hm => hb.2.2 (hsub b hm)⟩, rfl⟩, fun i p hd => ?_⟩
  obtain ⟨hd, hq⟩ := hd
  have hi := out_in hq
  obtain ⟨p0, hp0, rfl⟩ := List.mem_map.1 hi
  simp only [mem] at hd ⊢
  rw [hf p0 hp0] at hd
  rw [find_of_mem hn hp0]
  exact ⟨hd, rfl, fun v hv => hv⟩
 refine ⟨⟨⟨rfl, rfl, rfl, Nat.le_refl _, fun _ _ _ => rfl, ho.globOk.glOk fun b hb => ho.noGl (hsub b hb)⟩, fun p hp => ?_, nodup_find ho hn hf, fun b hb => ⟨(ho.mine b (hsub b hb)).1, .inr hb⟩, hn, Nat.le_refl _⟩, hle⟩
 have h1 := treeRep_kill (q := outQ T) (ho.trees _ (find_mem (hf p hp)))
 rw [hc p hp] at h1
 exact h1.le hle (fun b _ => rfl)
end
structure OwnCall (P : Program) (f : FuncId) (args : List AV) (T T' : List (Nat × Tree)) (r : AV) (X : List Nat) : Prop where
 enter : ∀ args w, (callFunc f args).run P w = .ok (.enter f args) w
 keep : ∀ i ∈ X, i ∈ Aw.ids T'
 runs : ∀ (us : List Value) (w : World) (S : Nat → Prop) (ι : Nat → Value) (F : Nat → List Nat), Owns (ownCx w T F S 0 (fun _ => undef)) T w ι F → reps (mem (ownCx w T F S 0 (fun _ => undef)) w T ι F) args us →
  Calls P f us.toArray w fun e w' => ∃ v ι' F', e = .returned v ∧ Owns (ownCx w T F S 0 (fun _ => undef)) T' w' ι' F' ∧ rep (mem (ownCx w T F S 0 (fun _ => undef)) w' T' ι' F') r v ∧ ∀ i ∈ X, ι' i = ι i
def OwnOf (P : Program) (H : List (Nat × Tree)) (f : FuncId) (args : List AV) (r : AV) (all subs : List Nat) (H' : List (Nat × Tree)) : Prop :=
 ∃ (T T' : List (Nat × Tree)), OwnCall P f args T T' r subs ∧ (Aw.ids T).Nodup ∧ (∀ p ∈ T, find H p.1 = some p.2) ∧ closedT T ∧ killAs (outQ T) args = args ∧ (∀ i ∈ Aw.ids T', i ∈ Aw.ids T ∨ i ∉ Aw.ids H) ∧
  all = (Aw.ids T).filter (fun i => !subs.contains i) ∧ H' = T' ++ killH (qOf all subs) (rmT (Aw.ids T) H)
section
variable {P : Program} {cx : Cx} {H : List (Nat × Tree)} {w w' : World} {ι : Nat → Value} {F : Nat → List Nat}
theorem live_root {t : Option Tree} (h : t.isSome = true) : livePath t [] = true := by
 cases t with
 | none => cases h
 | some t => cases t <;> rfl
theorem ownOf_sound (ho : Owns cx H w ι F) {f : FuncId} {args : List AV} {r : AV} {all X : List Nat} {H' : List (Nat × Tree)} (h : OwnOf P H f args r all X H') {us : List Value} (hr : reps (mem cx w H ι F) args us) :
  (∀ args w, (callFunc f args).run P w = .ok (.enter f args) w) ∧ Calls P f us.toArray w fun e w' => ∃ u ι' F', e = .returned u ∧ Owns cx H' w' ι' F' ∧ rep (mem cx w' H' ι' F') r u ∧
   ∀ av v, rep (mem cx w H ι F) av v → rep (mem cx w' H' ι' F') (killA (qOf all X) av) v := by
 obtain ⟨T, T', hC, hn, hf, hc, ha, hfr, rfl, rfl⟩ := h
 obtain ⟨ho1, hle0⟩ := own_part ho hn hf hc 0 (fun _ => undef)
 have har : reps (mem (ownCx w T F (imm cx w H F) 0 (fun _ => undef)) w T ι F) args us := by
  have h1 := reps_kill (q := outQ T) args us hr
  rw [ha] at h1
  rw [reps_all2] at h1 ⊢
  exact h1.mono fun _ _ => rep.le hle0 _ _
 refine ⟨hC.enter, (hC.runs us w (imm cx w H F) ι F ho1 har).mono fun e w' ⟨v, ι', F', he, hO, hv, hX⟩ => ?_⟩
 have hsub : ∀ b, b ∈ foot T F → b ∈ foot H F := fun b hb => by
  obtain ⟨p, hp, hb⟩ := mem_foot.1 hb
  exact mem_foot.2 ⟨_, find_mem (hf p hp), hb⟩
 have hw : Turned w w' (foot T F) := ⟨hO.keep.os, hO.keep.tape, hO.keep.output, hO.keep.size, fun k hk hkn => hO.keep.block k hk hkn⟩
 have hconT : ∀ {i}, i ∉ Aw.ids T → (Aw.ids T).contains i = false := fun {i} h => by simpa using h
 have hcon : ∀ {i}, (Aw.ids T').contains i = true ↔ i ∈ Aw.ids T' := fun {i} => by simp
 have hcon' : ∀ {i}, i ∈ Aw.ids H → i ∉ Aw.ids T → (Aw.ids T').contains i = false := fun {i} hH hT => by
  have : i ∉ Aw.ids T' := fun h => (hfr i h).elim hT (fun h => h hH)
  simpa using this
 have hTin : ∀ p ∈ T', (Aw.ids T').contains p.1 = true := fun p hp => hcon.2 (List.mem_map.2 ⟨p, hp, rfl⟩)
 have hnew : ∀ b ∈ foot T' F', b < w'.heap.size ∧ (b ∈ foot T F ∨ w.heap.size ≤ b) := fun b hb => ⟨(hO.mine b hb).1, (hO.mine b hb).2.symm⟩
 have hq1 : foot T' (fun i => if (Aw.ids T').contains i then F' i else F i) = foot T' F' := foot_congr (fun p hp => by simp only [hTin p hp, if_true])
 have hq2 : foot (killH (qOf ((Aw.ids T).filter (fun i => !X.contains i)) X) (rmT (Aw.ids T) H)) (fun i => if (Aw.ids T').contains i then F' i else F i) = foot (rmT (Aw.ids T) H) F := by
  rw [foot_killH]
  exact foot_congr (fun p hp => by rw [mem_rmT] at hp; simp only [hcon' (List.mem_map.2 ⟨p, hp.1, rfl⟩) hp.2, Bool.false_eq_true, if_false])
 have hfoot : foot (T' ++ killH (qOf ((Aw.ids T).filter (fun i => !X.contains i)) X) (rmT (Aw.ids T) H)) (fun i => if (Aw.ids T').contains i then F' i else F i) = foot T' F' ++ foot (rmT (Aw.ids T) H) F := by rw [foot_append, hq1, hq2]
 have hrm : ∀ b, b ∈ foot (rmT (Aw.ids T) H) F → b ∈ foot H F ∧ b ∉ foot T F := fun b hb => by
  obtain ⟨p, hp, hb⟩ := mem_foot.1 hb
  rw [mem_rmT] at hp
  refine ⟨mem_foot.2 ⟨p, hp.1, hb⟩, fun h => ?_⟩
  obtain ⟨p', hp', hb'⟩ := mem_foot.1 h
  exact foot_disj ho (find_of_mem ho.ids hp.1) (hf p' hp') (fun e => hp.2 (e ▸ List.mem_map.2 ⟨p', hp', rfl⟩)) hb hb'
 have hfindT : ∀ i, i ∈ Aw.ids T' → find (T' ++ killH (qOf ((Aw.ids T).filter (fun i => !X.contains i)) X) (rmT (Aw.ids T) H)) i = find T' i := fun i hi => by
  obtain ⟨p, hp, rfl⟩ := List.mem_map.1 hi
  rw [find_append, find_of_mem hO.ids hp]
 have hfind : ∀ i, i ∈ Aw.ids H → i ∉ Aw.ids T → find (T' ++ killH (qOf ((Aw.ids T).filter (fun i => !X.contains i)) X) (rmT (Aw.ids T) H)) i = (find H i).map (killT (qOf ((Aw.ids T).filter (fun i => !X.contains i)) X)) := fun i hH hi => by
  rw [find_append, find_none.2 (fun h => (hfr i h).elim hi (fun h => h hH)), find_killH, find_rmT, hconT hi]
  rfl
 have hother : ∀ p ∈ H, p.1 ∉ Aw.ids T → ∀ b ∈ F p.1, w'.heap[b]? = w.heap[b]? := fun p hp hi b hb =>
  hw.block b (ho.mine b (mem_foot.2 ⟨p, hp, hb⟩)).1 (hrm b (mem_foot.2 ⟨p, mem_rmT.2 ⟨hp, hi⟩, hb⟩)).2
 have hnotin : ∀ b, imm cx w H F b → b ∉ foot T' F' ++ foot (rmT (Aw.ids T) H) F := fun b hb hm => by
  rcases List.mem_append.1 hm with hm | hm
  ·rcases (hnew b hm).2 with h | h
   ·exact hb.2.2 (hsub b h)
   ·exact absurd h (Nat.not_le.2 hb.2.1)
  ·exact hb.2.2 (hrm b hm).1
 have hle1 : ((mem cx w H ι F).less (qOf ((Aw.ids T).filter (fun i => !X.contains i)) X)).le (mem cx w' (T' ++ killH (qOf ((Aw.ids T).filter (fun i => !X.contains i)) X) (rmT (Aw.ids T) H)) (fun i => if (Aw.ids T').contains i then ι' i else ι i) (fun i => if (Aw.ids T').contains i then F' i else F i)) := by
  refine ⟨fun b hb => ⟨⟨hb.1, Nat.lt_of_lt_of_le hb.2.1 hw.size, fun hm => ?_⟩, hw.block b hb.2.1 (fun h => hb.2.2 (hsub b h))⟩, fun i p hd => ?_⟩
  ·rw [hfoot] at hm
   exact hnotin b hb hm
  ·obtain ⟨hd, hqf⟩ := hd
   simp only [mem] at hd ⊢
   by_cases hi : i ∈ Aw.ids T
   ·simp only [qOf, Bool.or_eq_false_iff] at hqf
    have hiX : i ∈ X := by
     have h1 := hqf.1
     simp only [List.contains_eq_mem, List.mem_filter, Bool.not_eq_true', decide_eq_false_iff_not, not_and] at h1
     have h2 := h1 hi
     simpa using h2
    have hp : p = [] := by
     have h1 := hqf.2
     have h2 : X.contains i = true := by simpa using hiX
     rw [h2, Bool.true_and] at h1
     simpa using h1
    subst hp
    rw [hfindT i (hC.keep i hiX)]
    have e1 : (if (Aw.ids T').contains i = true then ι' i else ι i) = ι i := by rw [if_pos (hcon.2 (hC.keep i hiX))]; exact hX i hiX
    refine ⟨live_root ?_, e1, fun v hv => by simpa [pathV] using hv⟩
    obtain ⟨p, hp, rfl⟩ := List.mem_map.1 (hC.keep i hiX)
    rw [find_of_mem hO.ids hp]; rfl
   ·have hH : i ∈ Aw.ids H := by
     refine Classical.byContradiction fun hni => ?_
     rw [find_none.2 hni] at hd
     simp [livePath] at hd
    rw [hfind i hH hi]
    have e1 : (if (Aw.ids T').contains i = true then ι' i else ι i) = ι i := if_neg (by rw [hcon' hH hi]; simp)
    refine ⟨by rw [livePath_kill]; exact hd, e1, fun v hv => ?_⟩
    cases hcf : find H i with
    | none => rw [hcf] at hd; simp [livePath] at hd
    | some t => exact path_keep ho hd (hother _ (find_mem hcf) hi) hv
 have hle2 : (mem (ownCx w T F (imm cx w H F) 0 (fun _ => undef)) w' T' ι' F').le (mem cx w' (T' ++ killH (qOf ((Aw.ids T).filter (fun i => !X.contains i)) X) (rmT (Aw.ids T) H)) (fun i => if (Aw.ids T').contains i then ι' i else ι i) (fun i => if (Aw.ids T').contains i then F' i else F i)) := by
  refine ⟨fun b hb => ⟨⟨?_, hb.2.1, fun hm => ?_⟩, rfl⟩, fun i p hd => ?_⟩
  ·rcases hb.1 with h | h | h
   ·exact h.1
   ·exact .inr (.inl (Nat.le_trans ho.old h))
   ·exact .inr (ho.mine b (hsub b h)).2
  ·rw [hfoot] at hm
   rcases List.mem_append.1 hm with hm | hm
   ·exact hb.2.2 hm
   ·rcases hb.1 with h | h | h
    ·exact h.2.2 (hrm b hm).1
    ·exact absurd (ho.mine b (hrm b hm).1).1 (Nat.not_lt.2 h)
    ·exact (hrm b hm).2 h
  ·simp only [mem] at hd ⊢
   have hi : i ∈ Aw.ids T' := by
    refine Classical.byContradiction fun hni => ?_
    rw [find_none.2 hni] at hd
    simp [livePath] at hd
   rw [hfindT i hi, if_pos (hcon.2 hi)]
   exact ⟨hd, rfl, fun v hv => hv⟩
 have hnd : (Aw.ids (T' ++ killH (qOf ((Aw.ids T).filter (fun i => !X.contains i)) X) (rmT (Aw.ids T) H))).Nodup := by
  rw [ids_append, ids_killH, List.nodup_append]
  refine ⟨hO.ids, ids_rmT ho.ids, fun i hi j hj e => ?_⟩
  subst e
  obtain ⟨p, hp, rfl⟩ := List.mem_map.1 hj
  exact (hfr _ hi).elim (mem_rmT.1 hp).2 (fun h => h (List.mem_map.2 ⟨p, (mem_rmT.1 hp).1, rfl⟩))
 refine ⟨v, _, _, he, ⟨ho.keep.turned ho.old hw (fun b hb => (ho.mine b (hsub b hb)).2), fun p hp => ?_, ?_, fun b hb => ?_, hnd, Nat.le_trans ho.old hw.size⟩, rep.le hle2 r v hv, fun av v h => rep.le hle1 _ _ (rep_kill av v h)⟩
 ·rcases List.mem_append.1 hp with hp | hp
  ·simp only [hTin p hp, if_true]
   exact (hO.trees p hp).le hle2 (fun b _ => rfl)
  ·simp only [killH, List.mem_map] at hp
   obtain ⟨p0, hp0, rfl⟩ := hp
   rw [mem_rmT] at hp0
   simp only [hcon' (List.mem_map.2 ⟨p0, hp0.1, rfl⟩) hp0.2, Bool.false_eq_true, if_false]
   exact (treeRep_kill (ho.trees p0 hp0.1)).le hle1 (hother p0 hp0.1 hp0.2)
 ·rw [hfoot, List.nodup_append]
  refine ⟨hO.nodup, ho.nodup.sublist (foot_rmT_sub _ F H), fun a ha c hcm e => ?_⟩
  subst e
  obtain ⟨k1, k2⟩ := hrm a hcm
  rcases (hnew a ha).2 with h | h
  ·exact k2 h
  ·exact absurd (ho.mine a k1).1 (Nat.not_lt.2 h)
 ·rw [hfoot] at hb
  rcases List.mem_append.1 hb with h | h
  ·refine ⟨(hnew b h).1, ?_⟩
   rcases (hnew b h).2 with k | k
   ·exact (ho.mine b (hsub b k)).2
   ·exact .inl (Nat.le_trans ho.old k)
  ·exact ⟨Nat.lt_of_lt_of_le (ho.mine b (hrm b h).1).1 hw.size, (ho.mine b (hrm b h).1).2⟩
end
mutual
def frzA (H : List (Nat × Tree)) (R : List Nat) : AV → AV
 | .ref i [] => if R.contains i then (match find H i with
  | some (.t1 xs) => .l1 xs
  | some (.t2 xs) => .l2 xs
  | some (.t3 xs) => .l3 xs
  | some (.lv vs) => .lv (killAs (qOf R []) vs)
  | _ => .junk) else .ref i []
 | .agg vs => .agg (frzAs H R vs)
 | .int n => .int n
 | .bool b => .bool b
 | .nil => .nil
 | .l1 xs => .l1 xs
 | .l2 xs => .l2 xs
 | .l3 xs => .l3 xs
 | _ => .junk
def frzAs (H : List (Nat × Tree)) (R : List Nat) : List AV → List AV
 | [] => []
 | a :: as => frzA H R a :: frzAs H R as
end
section
variable {P : Program} {cx : Cx} {H : List (Nat × Tree)} {w w' : World} {ι : Nat → Value} {F : Nat → List Nat}
theorem frz_imm (ho : Owns cx H w ι F) {R : List Nat} : (∀ b, imm cx w H F b → imm cx w (killH (qOf R []) (rmT R H)) F b) ∧ ∀ i t, i ∈ R → find H i = some t → ∀ b ∈ F i, imm cx w (killH (qOf R []) (rmT R H)) F b := by
 constructor
 ·intro b hb
  refine ⟨hb.1, hb.2.1, fun hm => ?_⟩
  rw [foot_killH] at hm
  exact hb.2.2 ((foot_rmT_sub R F H).subset hm)
 ·intro i t hi hf b hb
  have hm := ho.mine b (mem_foot.2 ⟨_, find_mem hf, hb⟩)
  refine ⟨.inr hm.2, hm.1, fun hm2 => ?_⟩
  rw [foot_killH] at hm2
  obtain ⟨p, hp, hb2⟩ := mem_foot.1 hm2
  rw [mem_rmT] at hp
  exact foot_disj ho (find_of_mem ho.ids hp.1) hf (fun e => hp.2 (e ▸ hi)) hb2 hb
mutual
theorem frz_rep (ho : Owns cx H w ι F) {R : List Nat} : ∀ (av : AV) (u : Value), rep (mem cx w H ι F) av u → rep (mem cx w (killH (qOf R []) (rmT R H)) ι F) (frzA H R av) u
 | .ref i [], u, h => by
  unfold frzA
  split
  ·rename_i hc
   have hi : i ∈ R := by simpa using hc
   simp only [rep, mem, pathV, Option.some.injEq] at h
   split
   ·rename_i xs hf
    have ht := ho.trees _ (find_mem hf)
    simp only [treeRep, mem] at ht
    rw [h.2] at ht
    simp only [rep]
    exact ht.l1 ((frz_imm ho).2 i _ hi hf)
   ·rename_i xs hf
    have ht := ho.trees _ (find_mem hf)
    simp only [treeRep, mem] at ht
    rw [h.2] at ht
    simp only [rep]
    exact ht.l2 ((frz_imm ho).2 i _ hi hf)
   ·rename_i xs hf
    have ht := ho.trees _ (find_mem hf)
    simp only [treeRep, mem] at ht
    rw [h.2] at ht
    simp only [rep]
    exact ht.l3 ((frz_imm ho).2 i _ hi hf)
   ·rename_i vs hf
    have ht := ho.trees _ (find_mem hf)
    simp only [treeRep, mem] at ht
    rw [h.2] at ht
    obtain ⟨us, h1, h2⟩ := ht
    have h3 := (ho.drop R).2 (.agg vs) (.agg us.toArray) (by simp only [rep]; exact ⟨us, rfl, h2⟩)
    simp only [killA, rep] at h3
    obtain ⟨us', e, h3⟩ := h3
    obtain rfl : us = us' := by simpa using e
    simp only [rep]
    exact ⟨us, h1.slC ((frz_imm ho).2 i _ hi hf), h3⟩
   ·simp only [rep]
  ·rename_i hc
   have hq : qOf R [] i [] = false := by simpa [qOf] using hc
   have := (ho.drop R).2 (.ref i []) u h
   simpa only [killA, hq, Bool.false_eq_true, if_false] using this
 | .ref i (_ :: _), u, h => by simp only [frzA, rep]
 | .agg vs, u, h => by
  simp only [rep, frzA] at h ⊢
  obtain ⟨us, rfl, h1⟩ := h
  exact ⟨us, rfl, frz_reps ho vs us h1⟩
 | .int _, u, h | .bool _, u, h | .nil, u, h => by simpa only [rep, frzA] using h
 | .l1 xs, u, h => by
  simp only [rep, frzA] at h ⊢
  exact L1.le (fun b hb => ⟨(frz_imm ho).1 b hb, rfl⟩) h
 | .l2 xs, u, h => by
  simp only [rep, frzA] at h ⊢
  exact L2.le (fun b hb => ⟨(frz_imm ho).1 b hb, rfl⟩) h
 | .l3 xs, u, h => by
  simp only [rep, frzA] at h ⊢
  exact L3.le (fun b hb => ⟨(frz_imm ho).1 b hb, rfl⟩) h
 | .flt _, u, h | .ik _ _, u, h | .str _, u, h | .nilfn, u, h | .lp _ _, u, h | .val _, u, h | .lv _, u, h | .tup _, u, h | .fn _ _, u, h | .eptr _ _, u, h | .cptr _ _, u, h
 | .sub _ _ _ _, u, h | .eref _ _ _, u, h | .bptr _ _, u, h | .when _ _, u, h | .junk, u, h => by simp only [frzA, rep]
theorem frz_reps (ho : Owns cx H w ι F) {R : List Nat} : ∀ (as : List AV) (us : List Value), reps (mem cx w H ι F) as us → reps (mem cx w (killH (qOf R []) (rmT R H)) ι F) (frzAs H R as) us
 | [], us, h => by simpa only [reps, frzAs] using h
 | a :: as, us, h => by
  simp only [reps, frzAs] at h ⊢
  obtain ⟨u, us', rfl, h1, h2⟩ := h
  exact ⟨u, us', rfl, frz_rep ho a u h1, frz_reps ho as us' h2⟩
end
end
mutual
theorem killA_comp {q1 q2 q3 : Nat → List Nat → Bool} (h : ∀ i p, q3 i p = (q1 i p || q2 i p)) : ∀ (v : AV), killA q2 (killA q1 v) = killA q3 v
 | .ref i p | .sub i p _ _ | .eref i p _ => by
  simp only [killA, h]
  cases h1 : q1 i p
  ·simp [killA]
  ·simp [killA]
 | .bptr i _ => by
  simp only [killA, h]
  cases h1 : q1 i []
  ·simp [killA]
  ·simp [killA]
 | .lv vs | .agg vs | .tup vs | .fn _ vs | .cptr vs _ => by simp only [killA, killAs_comp h vs]
 | .eptr v _ | .when _ v => by simp only [killA, killA_comp h v]
 | .int _ | .flt _ | .ik _ _ | .bool _ | .str _ | .nil | .nilfn | .l1 _ | .l2 _ | .l3 _ | .lp _ _ | .val _ | .junk => by simp only [killA]
theorem killAs_comp {q1 q2 q3 : Nat → List Nat → Bool} (h : ∀ i p, q3 i p = (q1 i p || q2 i p)) : ∀ (vs : List AV), killAs q2 (killAs q1 vs) = killAs q3 vs
 | [] => rfl
 | a :: as => by simp only [killAs, killA_comp h a, killAs_comp h as]
end
theorem qOf_comp {R all subs : List Nat} (i : Nat) (p : List Nat) : qOf (R ++ all) subs i p = (qOf R [] i p || qOf all subs i p) := by
 simp [qOf, Bool.or_assoc]
end Go.Aw
namespace Go.Aw
open Go.RowKit
structure RowCall (P : Program) (f : FuncId) (ds : List AV) (xs ys : List Int) (r : AV) : Prop where
 enter : ∀ args w, (callFunc f args).run P w = .ok (.enter f args) w
 free : memFree r = true
 runs : ∀ (x : Value) (us : List Value) (w : World) (S : Nat → Prop) (g : List Nat), O1 w g xs x → g.Nodup → (∀ b ∈ g, b < w.heap.size ∧ NoGl b ∧ ¬ S b) → (∀ b, S b → b < w.heap.size) → GlobOk w → All2 (Rd w S) ds us →
  Calls P f (x :: us).toArray w fun e w' => ∃ v G, e = .returned v ∧ Turned w w' g ∧ O1 w' G ys x ∧ G.Nodup ∧ (∀ b ∈ G, b < w'.heap.size ∧ (b ∈ g ∨ w.heap.size ≤ b)) ∧ rep ⟨w', fun _ => False, fun _ => undef, fun _ _ => False⟩ r v
def RowOf (P : Program) (H : List (Nat × Tree)) (f : FuncId) (args : List AV) (r : AV) (H' : List (Nat × Tree)) : Prop :=
 ∃ (id i j : Nat) (as : List AV) (xss : List (List (List Int))) (ys : List Int), args = .ref id [i, j] :: as ∧ areData as = true ∧ find H id = some (.t3 xss) ∧ i < xss.length ∧ j < (xss.getD i []).length ∧
  RowCall P f as ((xss.getD i []).getD j []) ys r ∧ H' = putT H id (.t3 (xss.set i ((xss.getD i []).set j ys)))
section
variable {P : Program} {cx : Cx} {H : List (Nat × Tree)} {w w' : World} {ι : Nat → Value} {F : Nat → List Nat}
theorem rowOf_sound (ho : Owns cx H w ι F) {f : FuncId} {args : List AV} {r : AV} {H' : List (Nat × Tree)} (h : RowOf P H f args r H') {us : List Value} (hr : reps (mem cx w H ι F) args us) :
  (∀ args w, (callFunc f args).run P w = .ok (.enter f args) w) ∧ Calls P f us.toArray w fun e w' => ∃ u ι' F', e = .returned u ∧ Owns cx H' w' ι' F' ∧ rep (mem cx w' H' ι' F') r u ∧ ∀ av v, rep (mem cx w H ι F) av v → rep (mem cx w' H' ι' F') (killA (qOf [] []) av) v := by
 obtain ⟨id, i, j, as, xss, ys, rfl, hd, hfd, hi, hj, hc, rfl⟩ := h
 simp only [reps] at hr
 obtain ⟨x, us', rfl, hx, hr⟩ := hr
 simp only [rep] at hx
 have hx2 := hx.2
 have ht : ON O2 w (F id) xss (ι id) := by have := ho.trees _ (find_mem hfd); simp only [treeRep, mem] at this; exact this
 obtain ⟨vs, f0, fs, h1, h2, h3⟩ := ht
 obtain ⟨xr, hxr, hp⟩ := h1.row hx2
 obtain ⟨fr, c, hfr, hcc, hmat⟩ := h2.get i _ (getD_some (d := []) hi)
 rw [hxr] at hcc; cases hcc
 obtain ⟨vs2, f02, fs2, q1, q2, q3⟩ := hmat
 obtain ⟨x', hx', hp2⟩ := q1.row hp
 simp only [pathV, Option.some.injEq] at hp2; subst hp2
 obtain ⟨g, c, hg, hcc, hrow⟩ := q2.get j _ (getD_some (d := []) hj)
 rw [hx'] at hcc; cases hcc
 have hnF : (f0 ++ fs.flatten).Nodup := by rw [← h3]; exact foot_part ho hfd
 have hnr : fr.Nodup := flatten_part (List.nodup_append.1 hnF).2.1 hfr
 have hg_r : ∀ b ∈ g, b ∈ fr := fun b hb => by rw [q3]; exact List.mem_append.2 (.inr (List.mem_flatten.2 ⟨g, List.mem_of_getElem? hg, hb⟩))
 have hr_F : ∀ b ∈ fr, b ∈ F id := fun b hb => by rw [h3]; exact List.mem_append.2 (.inr (List.mem_flatten.2 ⟨fr, List.mem_of_getElem? hfr, hb⟩))
 have hF_lt : ∀ b ∈ F id, b < w.heap.size := fun b hb => (ho.mine b (mem_foot.2 ⟨_, find_mem hfd, hb⟩)).1
 have hsub : ∀ b ∈ g, b ∈ foot H F := fun b hb => mem_foot.2 ⟨_, find_mem hfd, hr_F b (hg_r b hb)⟩
 have hdat : All2 (Rd w (imm cx w H F)) as us' := by
  have := reps_data (m := mem cx w H ι F) (m' := ⟨w, imm cx w H F, fun _ => undef, fun _ _ => False⟩) rfl (fun b hb => hb) _ _ hd hr
  rw [reps_all2] at this
  exact this
 refine ⟨hc.enter, (hc.runs x' us' w (imm cx w H F) g hrow ?_ (fun b hb => ⟨(ho.mine b (hsub b hb)).1, ho.noGl (hsub b hb), fun hs => hs.2.2 (hsub b hb)⟩) (fun b hb => hb.2.1) ho.globOk hdat).mono fun e w' ⟨v, G, k1, k2, k3, k4, k5, k6⟩ => ?_⟩
 ·rw [q3] at hnr; exact flatten_part (List.nodup_append.1 hnr).2.1 hg
 ·have hnr2 : (f02 ++ fs2.flatten).Nodup := by rw [← q3]; exact hnr
  obtain ⟨m1, m2, m3, m4⟩ := on_turn (R := O1) (fun h h' => O1.heap h h') q1 q2 hnr2 (fun b hb => hF_lt b (hr_F b (by rw [q3]; exact hb))) hg hx' k2 k4 (fun b hb => (k5 b hb).2) k3
  have kT : Turned w w' fr := ⟨k2.os, k2.tape, k2.output, k2.size, fun k hk hkn => k2.block k hk (fun h => hkn (hg_r k h))⟩
  have hO2 : O2 w' (f02 ++ (fs2.set j G).flatten) ((xss.getD i []).set j ys) xr := ⟨vs2, f02, _, m1, m2, rfl⟩
  obtain ⟨n1, n2, n3, n4⟩ := on_turn (R := O2) (fun h h' => O2.heap h h') h1 h2 hnF (fun b hb => hF_lt b (by rw [h3]; exact hb)) hfr hxr kT m3 (fun b hb => by rw [q3]; exact m4 b hb) hO2
  have hwF : ∀ k, k < w.heap.size → k ∉ g → w'.heap[k]? = w.heap[k]? := fun k hk hkn => k2.block k hk hkn
  have hup : ∀ b ∈ f0 ++ (fs.set i (f02 ++ (fs2.set j G).flatten)).flatten, b < w'.heap.size := fun b hb => by
   have old : ∀ b ∈ F id, b < w'.heap.size := fun b hb => Nat.lt_of_lt_of_le (hF_lt b hb) k2.size
   rcases List.mem_append.1 hb with hb | hb
   ·exact old b (by rw [h3]; exact List.mem_append.2 (.inl hb))
   ·rcases mem_flatten_set hb with hb | hb
    ·rcases List.mem_append.1 hb with hb | hb
     ·exact old b (hr_F b (by rw [q3]; exact List.mem_append.2 (.inl hb)))
     ·rcases mem_flatten_set hb with hb | hb
      ·exact (k5 b hb).1
      ·exact old b (hr_F b (by rw [q3]; exact List.mem_append.2 (.inr hb)))
    ·exact old b (by rw [h3]; exact List.mem_append.2 (.inr hb))
  have hf0 : ∀ b ∈ f0, w'.heap[b]? = w.heap[b]? := fun b hb => hwF b (hF_lt b (by rw [h3]; exact List.mem_append.2 (.inl hb))) fun hbg =>
   (List.nodup_append.1 hnF).2.2 b hb b (List.mem_flatten.2 ⟨fr, List.mem_of_getElem? hfr, hg_r b hbg⟩) rfl
  have path1 : ∀ k p u, pathV w (ι id) (k :: p) = some u → ∃ y, vs[k]? = some y ∧ pathV w y p = some u ∧ ∀ u', pathV w' y p = some u' → pathV w' (ι id) (k :: p) = some u' := fun k p u hu => by
   obtain ⟨b', off, n, cap, y, e, hi', hc', hy⟩ := pathV_cons_inv hu
   rw [e] at h1
   have ha := h1.at
   obtain ⟨y2, hy2, hc2⟩ := ha.2.2.1 k hi'
   rw [hc'] at hc2; cases hc2
   refine ⟨y, hy2, hy, fun u' hu' => ?_⟩
   rw [e, pathV_cons hi' (by rw [cell_of_heap (hf0 b' (by rw [ha.1]; exact List.mem_singleton.2 rfl))]; exact hc')]
   exact hu'
  have key := ho.put (w' := w') [] id (.t3 (xss.set i ((xss.getD i []).set j ys))) (ι id) (f0 ++ (fs.set i (f02 ++ (fs2.set j G).flatten)).flatten) (qOf [] [])
   (ho.keep.turned ho.old k2 (fun b hb => (ho.mine b (hsub b hb)).2)) k2.size
   (fun b hb hno => hwF b hb (fun hbg => hno id (.inl rfl) (List.mem_map.2 ⟨_, find_mem hfd, rfl⟩) (hr_F b (hg_r b hbg))))
   n3
   (fun b hb => ⟨hup b hb, (n4 b hb).imp (fun h => ⟨id, .inl rfl, List.mem_map.2 ⟨_, find_mem hfd, rfl⟩, by rw [h3]; exact h⟩) (fun h => h)⟩)
   (fun r hr => by simp at hr)
   (fun p _ hl => by
    rw [hfd] at hl
    match p, hl with
    | [], _ => exact ⟨rfl, rfl, fun u hu => by simpa [pathV] using hu⟩
    | [k], _ =>
     refine ⟨rfl, rfl, fun u hu => ?_⟩
     obtain ⟨y, _, hy, hb⟩ := path1 k [] u hu
     exact hb u (by simpa [pathV] using hy)
    | [k, l], _ =>
     refine ⟨rfl, rfl, fun u hu => ?_⟩
     obtain ⟨y, hy1, hy, hb⟩ := path1 k [l] u hu
     refine hb u ?_
     obtain ⟨b2, off, n, cap, z, e, hi', hc', hz⟩ := pathV_cons_inv hy
     have hkl : k < xss.length := by rw [h2.length.2]; exact (List.getElem?_eq_some_iff.1 hy1).1
     obtain ⟨fk, c, hfk, hcc, hmk⟩ := h2.get k _ (getD_some (d := []) hkl)
     rw [hy1] at hcc; cases hcc
     obtain ⟨vk, fk0, fks, a1, a2, a3⟩ := hmk
     rw [e] at a1
     have hfk0 : fk0 = [b2] := a1.at.1
     have hb2k : b2 ∈ fk := by rw [a3, hfk0]; exact List.mem_append.2 (.inl (List.mem_singleton.2 rfl))
     have hb2 : b2 ∉ g := fun hbg => by
      by_cases hik : k = i
      ·subst hik
       rw [hxr] at hy1; cases hy1
       rw [e] at q1
       have h02 : f02 = [b2] := q1.at.1
       exact (List.nodup_append.1 hnr2).2.2 b2 (by rw [h02]; exact List.mem_singleton.2 rfl) b2 (List.mem_flatten.2 ⟨g, List.mem_of_getElem? hg, hbg⟩) rfl
      ·exact flatten_disj (List.nodup_append.1 hnF).2.1 hfk hfr hik hb2k (hg_r b2 hbg)
     have hb2F : b2 ∈ F id := by rw [h3]; exact List.mem_append.2 (.inr (List.mem_flatten.2 ⟨fk, List.mem_of_getElem? hfk, hb2k⟩))
     rw [e, pathV_cons hi' (by rw [cell_of_heap (hwF b2 (hF_lt b2 hb2F) hb2)]; exact hc')]
     simpa [pathV] using hz
    | _ :: _ :: _ :: _, hl => simp [livePath] at hl)
   (fun _ => by simp only [treeRep, mem]; exact ⟨vs, f0, _, n1, n2, rfl⟩)
  rw [rmT_no, killH_no] at key
  exact ⟨v, _, _, k1, key.1, rep_memFree hc.free k6, key.2⟩
end
end Go.Aw
namespace Go.Aw
open Go.RowKit
def FCall (P : Program) (H : List (Nat × Tree)) (f : FuncId) (args : List AV) (K : AV → List Nat → List Nat → List (Nat × Tree) → Prop) : Prop :=
 (∃ v, ACall P H f args v ∧ K v [] [] H) ∨
 (∃ ds d v es, views H args = some ds ∧ FreshCall P f ds d ∧ thaw (newId H) d = some (v, es) ∧ K v [] [] (es ++ H)) ∨
 (∃ r subs H', TurnOf P H f args r subs H' ∧ K r [] subs H') ∨
 ((∃ r id H', TurnRow P H f args r id H' ∧ K r [] [id] H') ∨ (∃ r H', RowOf P H f args r H' ∧ K r [] [] H')) ∨
 (∃ r all subs H', OwnOf P H f args r all subs H' ∧ K r all subs H') ∨
 (∃ R v, PureCall P f (frzAs H R args) v ∧ areData (frzAs H R args) = true ∧ K v R [] (killH (qOf R []) (rmT R H))) ∨
 (∃ R r all subs H', OwnOf P (killH (qOf R []) (rmT R H)) f (frzAs H R args) r all subs H' ∧ K r (R ++ all) subs H')
@[congr] theorem fcall_congr {P : Program} {H H2 : List (Nat × Tree)} {f : FuncId} {args args2 : List AV} {K : AV → List Nat → List Nat → List (Nat × Tree) → Prop} (h : args = args2) (h2 : H = H2) : FCall P H f args K = FCall P H2 f args2 K := by rw [h, h2]
section
variable {P : Program} {cx : Cx} {H : List (Nat × Tree)} {w w' : World} {ι : Nat → Value} {F : Nat → List Nat}
theorem fcall_sound (ho : Owns cx H w ι F) {f : FuncId} {args : List AV} {K : AV → List Nat → List Nat → List (Nat × Tree) → Prop} (h : FCall P H f args K) {us : List Value} (hr : reps (mem cx w H ι F) args us) :
  (∀ args w, (callFunc f args).run P w = .ok (.enter f args) w) ∧ Calls P f us.toArray w fun e w' => ∃ u v all subs H' ι' F', e = .returned u ∧ K v all subs H' ∧ Owns cx H' w' ι' F' ∧ rep (mem cx w' H' ι' F') v u ∧
   ∀ av x, rep (mem cx w H ι F) av x → rep (mem cx w' H' ι' F') (killA (qOf all subs) av) x := by
 rcases h with ⟨v, h1, h2⟩ | ⟨ds, d, v, es, h1, h2, h3, h4⟩ | ⟨r, subs, H', h1, h2⟩ | (⟨r, id, H', h1, h2⟩ | ⟨r, H', h1, h2⟩) | ⟨r, all, subs, H', h1, h2⟩ | ⟨R, v, h1, h2, h3⟩ | ⟨R, r, all, subs, H', h1, h2⟩
 ·obtain ⟨k1, k2⟩ := acall_sound ho h1 hr
  exact ⟨k1, k2.mono fun e w' ⟨u, j1, j2, j3⟩ => ⟨u, v, [], [], H, ι, F, j1, h2, ho.ext j2, j3, fun av x h => by rw [killA_no]; exact rep.le (mem_ext j2) _ _ h⟩⟩
 ·have hv := views_rep ho args ds us h1 hr
  refine ⟨h2.enter, (h2.runs us w (allow cx w) ⟨fun b hb => hb.1, ho.globOk⟩ hv).mono fun e w' ⟨u, fp, k1, k2, k3, k4, k5⟩ => ?_⟩
  obtain ⟨G, J, t1, t2⟩ := thaw_rep d (newId H) fp u v es k3 h3
  obtain ⟨j1, j2, j3⟩ := ho.adds k2 t1 k4 k5
  exact ⟨u, v, [], [], _, _, _, k1, h4, j1, t2 _ rfl j3, fun av x h => by rw [killA_no]; exact j2 _ _ h⟩
 ·obtain ⟨k1, k2⟩ := turnOf_sound ho h1 hr
  exact ⟨k1, k2.mono fun e w' ⟨u, F', j1, j2, j3, j4⟩ => ⟨u, r, [], subs, H', ι, F', j1, h2, j2, j3, j4⟩⟩
 ·obtain ⟨k1, k2⟩ := turnRow_sound ho h1 hr
  exact ⟨k1, k2.mono fun e w' ⟨u, F', j1, j2, j3, j4⟩ => ⟨u, r, [], [id], H', ι, F', j1, h2, j2, j3, j4⟩⟩
 ·obtain ⟨k1, k2⟩ := rowOf_sound ho h1 hr
  exact ⟨k1, k2.mono fun e w' ⟨u, ι', F', j1, j2, j3, j4⟩ => ⟨u, r, [], [], H', ι', F', j1, h2, j2, j3, j4⟩⟩
 ·obtain ⟨k1, k2⟩ := ownOf_sound ho h1 hr
  exact ⟨k1, k2.mono fun e w' ⟨u, ι', F', j1, j2, j3, j4⟩ => ⟨u, r, all, subs, H', ι', F', j1, h2, j2, j3, j4⟩⟩
 ·have ho2 := ho.drop R
  obtain ⟨k1, k2⟩ := acall_sound ho2.1 (acall_data h1 h2) (frz_reps ho args us hr)
  exact ⟨k1, k2.mono fun e w' ⟨u, j1, j2, j3⟩ => ⟨u, v, R, [], _, ι, F, j1, h3, ho2.1.ext j2, j3, fun av x hav => rep.le (mem_ext j2) _ _ (ho2.2 av x hav)⟩⟩
 ·have ho2 := ho.drop R
  obtain ⟨k1, k2⟩ := ownOf_sound ho2.1 h1 (frz_reps ho args us hr)
  exact ⟨k1, k2.mono fun e w' ⟨u, ι', F', j1, j2, j3, j4⟩ => ⟨u, r, R ++ all, subs, H', ι', F', j1, h2, j2, j3, fun av x hav => by
   rw [← killA_comp (q1 := qOf R []) (q2 := qOf all subs) qOf_comp]
   exact j4 _ _ (ho2.2 av x hav)⟩⟩
end
def killS (all subs : List Nat) (s : List (Nat × AV)) : List (Nat × AV) :=
 match all, subs with
 | [], [] => s
 | _, _ => killL all subs s
theorem killS_eq (all subs : List Nat) (s : List (Nat × AV)) : killS all subs s = killL all subs s := by
 cases all with
 | nil =>
  cases subs with
  | nil =>
   simp only [killS, killL, killA_no]
   simp
  | cons _ _ => rfl
 | cons _ _ => cases subs <;> rfl
def fOper (P : Program) (ops : Array Oper) (n : Nat) (st : St) (o : Oper) (K : St → Prop) : Prop :=
 match o.op, o.guard with
 | .call { callee := .value g, args, .. }, none =>
  (match o.dst with
   | some d => d < n
   | none => True) ∧
  (match strip (evF st.get g) with
   | .fn f caps => okG true (evF st.get g) ∧ okGs true (args.toList.map (evF st.get)) ∧ FCall P st.H f ((args.toList.map (evF st.get)).map strip ++ caps) (fun v all subs H' => K ⟨putL o.dst v (killS all subs st.s), H'⟩)
   | _ => False)
 | _, _ => lOper P ops n st o K
@[congr] theorem foper_congr {P : Program} {ops : Array Oper} {n : Nat} {st st2 : St} {o : Oper} {K : St → Prop} (h : st = st2) : fOper P ops n st o K = fOper P ops n st2 o K := by rw [h]
def fRun (P : Program) (ops : Array Oper) (n : Nat) : List Oper → St → (St → Prop) → Prop
 | [], st, K => K st
 | o :: r, st, K => fOper P ops n st o (fun st' => fRun P ops n r st' K)
section
variable {P : Program} {cx : Cx} {n : Nat} {ops : Array Oper} {o : Oper} {st : St} {tmps : Array Value} {w : World}
theorem fOper_sound (hs : SimF cx n st.get st.H tmps w) (hx : ∀ d, o.dst = some d → cx.fix d = false) {K : St → Prop} (h : fOper P ops n st o K) {Q : Exit → Act → World → Prop} :
  if Region.wanted o (yielded ops tmps) then o.wpIn (Fr cx.rd) 0 P ⟨tmps, cx.ds⟩ w (After cx n (ofSt K)) Q else After cx n (ofSt K) ((⟨tmps, cx.ds⟩ : Act).put o.dst undef) w := by
 unfold fOper at h
 split at h
 ·rename_i g args ts hop hgd
  obtain ⟨h1, h2⟩ := h
  have hd : dstOk cx.fix n o := fun d hd => ⟨hx d hd, by rw [hd] at h1; exact h1⟩
  rw [if_pos (by simp [Region.wanted, hgd])]
  obtain ⟨hsz, ι, F, ho, hr⟩ := hs
  have hdst : ∀ d, o.dst = some d → d < tmps.size := fun d h => by rw [hsz.1]; exact (hd d h).2
  have hρ := ev_rep (ds := cx.ds) hr
  have hg := hρ g
  split at h2 <;> first | exact h2.elim | skip
  rename_i f caps hsf
  obtain ⟨g1, g2, g3⟩ := h2
  have hgs := strip_rep rfl g1 hg
  rw [hsf] at hgs
  simp only [rep] at hgs
  obtain ⟨cs, hcv, hcr⟩ := hgs
  have hok : ∀ (l : List Operand), okGs true (l.map (evF st.get)) → reps (mem cx w st.H ι F) ((l.map (evF st.get)).map strip) (l.map (⟨tmps, cx.ds⟩ : Act).eval) := by
   intro l
   induction l with
   | nil => intro _; simp [reps]
   | cons x l ih =>
    intro h
    simp only [List.map_cons, okGs] at h
    simp only [List.map_cons, reps]
    exact ⟨_, _, rfl, strip_rep rfl h.1 (hρ x), ih h.2⟩
  have har := reps_append (hok _ g2) hcr
  obtain ⟨k1, k2⟩ := fcall_sound ho g3 har
  refine wpIn_exec (by rw [hop]; intro c h; cases h) ?_
  have hrun : (execOp (⟨tmps, cx.ds⟩ : Act).eval o).run P w = .ok (.enter f (args.toList.map (⟨tmps, cx.ds⟩ : Act).eval ++ cs).toArray) w := by
   unfold execOp
   simp only [hop, resolve, Sem.run_bind]
   rw [hcv]
   simp [Deferred.ofValue, invoke, k1]
  rw [hrun, Oper.uponIn_enter]
  refine ⟨fun _ => by simp_all [Fr, Fence.wide], callsIn_fr ?_⟩
  refine k2.mono fun e w' ⟨u, v, all, subs, H', ι', F', j1, j2, j3, j4, j5⟩ => ?_
  subst j1
  refine ⟨(put_size _ _).2, _, _, ⟨_, rfl, rfl, j2⟩, put_fix hsz hd _, ι', F', j3, ?_⟩
  have := put_rep (ds := cx.ds) (m := mem cx w' H' ι' F') (g := fun k => killA (qOf all subs) (st.get k)) (tmps := tmps) (fun k => j5 _ _ (hr k)) hdst j4
  intro k
  have hk := this k
  show rep _ (slotGet (putL o.dst v (killS all subs st.s)) k) _
  rw [killS_eq]
  have e1 := congrFun (get_put ⟨killL all subs st.s, H'⟩ o.dst v) k
  rw [e1]
  show rep _ (upd (fun k => slotGet (killL all subs st.s) k) o.dst v k) _
  rw [get_kill]
  exact hk
 ·exact aOper_sound hs (lOper_aOper hx h)
end
end Go.Aw
namespace Go.Aw
open Go.RowKit
section
variable {P : Program} {cx : Cx} {n : Nat} {ops : Array Oper}
theorem fRun_sound {K : St → Prop} {Q' : Exit → Act → World → Prop} (hQ : ∀ a w, After cx n (ofSt K) a w → Q' .normal a w) : ∀ (l : List Oper) {st : St} {tmps : Array Value} {w : World}, (∀ o ∈ l, ∀ d, o.dst = some d → cx.fix d = false) →
  SimF cx n st.get st.H tmps w → fRun P ops n l st K → wpListIn (Fr cx.rd) 0 P ops Q' l ⟨tmps, cx.ds⟩ w
 | [], st, tmps, w, _, hs, h => hQ _ _ ⟨rfl, _, _, ⟨st, rfl, rfl, h⟩, hs⟩
 | o :: l, st, tmps, w, hx, hs, h => by
  have := fOper_sound (Q := Q') hs (hx o (List.mem_cons_self ..)) h
  have next : ∀ a w, After cx n (ofSt (fun st' => fRun P ops n l st' K)) a w → wpListIn (Fr cx.rd) 0 P ops Q' l a w := by
   rintro a w ⟨hd, g', H', ⟨st', rfl, rfl, hK⟩, hs'⟩
   rw [act_eta hd]
   exact fRun_sound hQ l (fun o ho => hx o (List.mem_cons_of_mem _ ho)) hs' hK
  unfold wpListIn
  split
  ·rename_i hw
   rw [if_pos hw] at this
   exact Oper.wpIn_mono next this
  ·rename_i hw
   rw [if_neg hw] at this
   exact ⟨fun _ _ => trivial, next _ _ this⟩
theorem AT.run {Q : SQ} {st : St} {id : Nat} {l : List Oper} (hx : ∀ o ∈ l, ∀ d, o.dst = some d → cx.fix d = false) (h : fRun P l.toArray n l st (fun st' => Q .normal st')) : AT P cx n (.region id l.toArray false) Q st := by
 intro tmps w hs
 refine wpIn_region_list ?_
 have : wpListIn (Fr cx.rd) 0 P l.toArray _ l ⟨tmps, cx.ds⟩ w := fRun_sound (Q' := fun e a w' => a.defers = cx.ds ∧ ∃ st', Q e st' ∧ SimF cx n st'.get st'.H a.tmps w') (K := fun st' => Q .normal st')
  (fun a w' ⟨h1, g, H, ⟨st', e1, e2, h2⟩, h3⟩ => by subst e1; subst e2; exact ⟨h1, st', h2, h3⟩) l hx hs h
 simpa using this
theorem ats_run {Q : SQ} {st : St} {cs : List Code} {id : Nat} {l : List Oper} (hx : ∀ o ∈ l, ∀ d, o.dst = some d → cx.fix d = false) (h : ∀ K : St → Prop, (∀ s, ATs P cx n cs Q s → K s) → fRun P l.toArray n l st K) : ATs P cx n (.region id l.toArray false :: cs) Q st :=
 AT.run hx (h _ fun _ h => h)
theorem fcall_data {H : List (Nat × Tree)} {f : FuncId} {args : List AV} {v : AV} {K : AV → List Nat → List Nat → List (Nat × Tree) → Prop} (h : PureCall P f args v) (hd : areData args = true) (k : K v [] [] H) : FCall P H f args K := .inl ⟨v, acall_data h hd, k⟩
theorem fcall_free {H : List (Nat × Tree)} {f : FuncId} {args ds : List AV} {v : AV} {K : AV → List Nat → List Nat → List (Nat × Tree) → Prop} (hv : views H args = some ds) (hm : memFree v = true) (h : PureCall P f ds v) (k : K v [] [] H) : FCall P H f args K := .inl ⟨v, acall_free hv hm h, k⟩
theorem fcall_fresh {H : List (Nat × Tree)} {f : FuncId} {args ds : List AV} {v : AV} {K : AV → List Nat → List Nat → List (Nat × Tree) → Prop} (hv : views H args = some ds) (h : FreshCall P f ds v) (k : K v [] [] H) : FCall P H f args K := .inl ⟨v, acall_fresh hv h, k⟩
theorem fcall_own {H : List (Nat × Tree)} {f : FuncId} {args ds : List AV} {d v : AV} {es : List (Nat × Tree)} {K : AV → List Nat → List Nat → List (Nat × Tree) → Prop} (hv : views H args = some ds) (h : FreshCall P f ds d) (ht : thaw (newId H) d = some (v, es)) (k : K v [] [] (es ++ H)) : FCall P H f args K :=
 .inr (.inl ⟨ds, d, v, es, hv, h, ht, k⟩)
mutual
def refsOf : AV → List Nat
 | .ref i [] => [i]
 | .agg vs => refsOfs vs
 | _ => []
def refsOfs : List AV → List Nat
 | [] => []
 | a :: as => refsOf a ++ refsOfs as
end
mutual
theorem refs_agree {m m' : Mem} : ∀ (a : AV) (u : Value), rep m a u → rep m' a u → ∀ i ∈ refsOf a, m'.ι i = m.ι i
 | .ref i [], u, h, h', j, hj => by
  simp only [refsOf, List.mem_singleton] at hj; subst hj
  simp only [rep, pathV, Option.some.injEq] at h h'
  rw [h.2, h'.2]
 | .ref i (_ :: _), _, _, _, j, hj => by simp [refsOf] at hj
 | .agg vs, u, h, h', j, hj => by
  simp only [refsOf] at hj
  simp only [rep] at h h'
  obtain ⟨us, rfl, h1⟩ := h
  obtain ⟨us', e, h2⟩ := h'
  have : us' = us := by
   simp only [Value.agg.injEq] at e
   exact (congrArg Array.toList e).symm
  subst this
  exact refss_agree vs _ h1 h2 j hj
 | .int _, _, _, _, _, hj | .bool _, _, _, _, _, hj | .str _, _, _, _, _, hj | .nil, _, _, _, _, hj | .tup _, _, _, _, _, hj
 | .flt _, _, _, _, _, hj | .ik _ _, _, _, _, _, hj | .nilfn, _, _, _, _, hj | .lv _, _, _, _, _, hj | .fn _ _, _, _, _, _, hj | .eptr _ _, _, _, _, _, hj | .cptr _ _, _, _, _, _, hj
 | .sub _ _ _ _, _, _, _, _, hj | .eref _ _ _, _, _, _, _, hj | .bptr _ _, _, _, _, _, hj | .when _ _, _, _, _, _, hj | .junk, _, _, _, _, hj | .l1 _, _, _, _, _, hj | .l2 _, _, _, _, _, hj | .l3 _, _, _, _, _, hj | .lp _ _, _, _, _, _, hj | .val _, _, _, _, _, hj => by simp [refsOf] at hj
theorem refss_agree {m m' : Mem} : ∀ (as : List AV) (us : List Value), reps m as us → reps m' as us → ∀ i ∈ refsOfs as, m'.ι i = m.ι i
 | [], _, _, _, j, hj => by simp [refsOfs] at hj
 | a :: as, us, h, h', j, hj => by
  simp only [refsOfs, List.mem_append] at hj
  simp only [reps] at h h'
  obtain ⟨u, us1, rfl, h1, h2⟩ := h
  obtain ⟨u', us2, e, h3, h4⟩ := h'
  cases e
  rcases hj with hj | hj
  ·exact refs_agree a _ h1 h3 j hj
  ·exact refss_agree as _ h2 h4 j hj
end
theorem nodup_of_find {H : List (Nat × Tree)} {w : World} {ι : Nat → Value} {F : Nat → List Nat} (ho : Owns cx H w ι F) : ∀ {l : List (Nat × Tree)}, (Aw.ids l).Nodup → (∀ p ∈ l, find H p.1 = some p.2) → (foot l F).Nodup
 | [], _, _ => by simp [foot]
 | p :: l, hn, hl => by
  simp only [Aw.ids, List.map_cons, List.nodup_cons] at hn
  rw [foot_cons, List.nodup_append]
  refine ⟨foot_part ho (hl p (List.mem_cons_self ..)), nodup_of_find ho hn.2 (fun q hq => hl q (List.mem_cons_of_mem _ hq)), fun a ha c hc e => ?_⟩
  subst e
  obtain ⟨q, hq, hb⟩ := mem_foot.1 hc
  exact foot_disj ho (hl p (List.mem_cons_self ..)) (hl q (List.mem_cons_of_mem _ hq)) (fun e => hn.1 (e ▸ List.mem_map.2 ⟨q, hq, rfl⟩)) ha hb
theorem TurnCall.intro {f : FuncId} {fn : Func} {c : Code} {rs : List ResultVar} {a0 : AV} {as : List AV} {T T' : List (Nat × Tree)} {r : AV} (hcall : ∀ args w, (callFunc f args).run P w = .ok (.enter f args) w) (hf : P.funcs[f]? = some fn) (hb : fn.body = some c)
  (hn : fn.ntmps = n) (hrs : fn.results = rs.toArray) (hl : (a0 :: as).length ≤ n) (hids : Aw.ids T' = Aw.ids T) (hnd : (Aw.ids T).Nodup) (hflat : (T'.all fun p => flatT p.2) = true) (hfree : memFree r = true) (href : ((Aw.ids T).all fun i => (refsOf a0).contains i) = true)
  (h : ∀ cx, cx.fix = 1 → AT P cx n c (fun e st => Ends e ∧ resL P st rs r ∧ st.get 0 = a0 ∧ ∀ p ∈ T', find st.H p.1 = some p.2) ⟨argSlots 0 (a0 :: as), T⟩) : TurnCall P f (a0 :: as) T T' r := by
 refine ⟨hcall, hids, hfree, fun us w ι G hT hGn hGb' hr => calls_of_wp hf hb ?_⟩
 have hGb := fun b hb => (hGb'.1 b hb).1
 rw [hn]
 have hr0 := hr
 rw [reps_all2] at hr
 have hlen := hr.length
 let u0 : Value := us.headD undef
 let cx : Cx := ⟨w.heap.size, fun b => b ∈ foot T G, fun _ => False, w, 1, fun _ => u0, none, []⟩
 have hget : ∀ k, (us.toArray ++ Array.replicate (n - us.toArray.size) undef).getD k undef = (us[k]?).getD undef := by
  intro k
  rw [Array.getD_eq_getD_getElem?]
  by_cases hk : k < us.length
  ·rw [Array.getElem?_append_left (by simpa using hk)]; simp
  ·rw [Array.getElem?_append_right (by simpa using hk)]
   rw [List.getElem?_eq_none (by omega)]
   simp only [Array.getElem?_replicate]
   split <;> rfl
 have hu0 : us[0]?.getD undef = u0 := by
  cases us with
  | nil => rfl
  | cons a l => rfl
 have ho : Owns cx T w ι G := ⟨⟨rfl, rfl, rfl, Nat.le_refl _, fun _ _ _ => rfl, hGb'.2.glOk fun b hb => (hGb'.1 b hb).2⟩, fun p hp => (hT p hp).tree rfl, hGn, fun b hb => ⟨hGb b hb, .inr hb⟩, hnd, Nat.le_refl _⟩
 have hm : All2 (rep (mem cx w T ι G)) (a0 :: as) us := hr.mono fun d v hdv =>
  rep.le (m := ⟨w, fun _ => False, ι, fun id path => livePath (find T id) path = true⟩) (m' := mem cx w T ι G) ⟨fun b hb => hb.elim, fun i p hd => ⟨hd, rfl, fun v hv => hv⟩⟩ _ _ hdv
 have hs : SimF cx n (St.mk (argSlots 0 (a0 :: as)) T).get T (us.toArray ++ Array.replicate (n - us.toArray.size) undef) w := by
  refine ⟨⟨by simp only [List.size_toArray, Array.size_append, Array.size_replicate]; omega, fun j hj => ?_⟩, ι, G, ho, fun k => ?_⟩
  ·have : j = 0 := Nat.lt_one_iff.1 (of_decide_eq_true hj)
   subst this
   rw [hget]; exact hu0
  ·have := argSlots_get 0 hm k
   simp only [Nat.not_lt_zero, if_false, Nat.sub_zero] at this
   rw [hget]
   exact this
 refine wp_mono (wpIn_wide.1 (h cx rfl _ w hs)) ?_
 rintro e a w' ⟨h1, st', ⟨he, hv, hg0, hfd⟩, ⟨hsz, hfx⟩, ι', F', ho', hr'⟩
 obtain ⟨u, k1, k2⟩ := results_run (P := P) hrs ho' hr' hv
 have hin : ∀ p ∈ T', p.1 ∈ refsOf a0 := fun p hp => by
  have : p.1 ∈ Aw.ids T := by rw [← hids]; exact List.mem_map.2 ⟨p, hp, rfl⟩
  have := (List.all_eq_true.1 href) _ this
  simpa using this
 have hι : ∀ p ∈ T', ι' p.1 = ι p.1 := fun p hp => by
  have r0 := hr' 0
  rw [hg0, hfx 0 (by rfl)] at r0
  have r1 : rep ⟨w, fun _ => False, ι, fun id path => livePath (find T id) path = true⟩ a0 u0 := by
   simp only [reps] at hr0
   obtain ⟨u, us', rfl, q1, _⟩ := hr0
   exact q1
  exact refs_agree a0 u0 r1 r0 _ (hin p hp)
 have hfin : ∃ x, (results fn a.tmps).run P w' = .ok x w' ∧ ∃ v G', Ending.returned x = .returned v ∧ Turned w w' (foot T G) ∧ (∀ p ∈ T', flatRep w' (G' p.1) p.2 (ι p.1)) ∧ (foot T' G').Nodup ∧
   (∀ b ∈ foot T' G', b < w'.heap.size ∧ (b ∈ foot T G ∨ w.heap.size ≤ b)) ∧ rep ⟨w', fun _ => False, fun _ => undef, fun _ _ => False⟩ r v := by
  refine ⟨u, k1, u, F', rfl, ⟨ho'.keep.os, ho'.keep.tape, ho'.keep.output, ho'.keep.size, fun k hk hkn => ho'.keep.block k hk hkn⟩, fun p hp => ?_, nodup_of_find ho' (by rw [hids]; exact hnd) hfd, fun b hb => ?_, rep_memFree hfree k2⟩
  ·rw [← hι p hp]
   exact flatT_rep (m := mem cx w' st'.H ι' F') ((List.all_eq_true.1 hflat) p hp) (ho'.trees _ (find_mem (hfd p hp)))
  ·obtain ⟨p, hp, hb⟩ := mem_foot.1 hb
   have := ho'.mine b (mem_foot.2 ⟨_, find_mem (hfd p hp), hb⟩)
   exact ⟨this.1, this.2.symm⟩
 rcases he with rfl | rfl
 ·exact ⟨h1, hfin⟩
 ·exact ⟨h1, hfin⟩
end
end Go.Aw
namespace Go.Aw
open Go.RowKit
theorem putParts_nil (pl : List (Nat × Nat)) (zs : List AV) : putParts pl [] zs = some zs := rfl
theorem putParts_cons (pl : List (Nat × Nat)) (i : Nat) (a : AV) (r : List (Nat × AV)) (zs : List AV) : putParts pl ((i, a) :: r) zs = (match pl[i]? with
  | some (off, sz) => (match a with
   | .agg ws => if ws.length = sz ∧ off + sz ≤ zs.length then putParts pl r (zs.take off ++ ws ++ zs.drop (off + sz)) else none
   | a => if sz = 1 ∧ off < zs.length then putParts pl r (zs.set off a) else none)
  | none => none) := rfl
theorem strip_int (n : Int) : strip (.int n : AV) = (.int n : AV) := rfl
theorem okG_int (γ : Bool) (n : Int) : okG γ (.int n : AV) = True := rfl
theorem strip_flt (b : Nat) : strip (.flt b : AV) = (.flt b : AV) := rfl
theorem okG_flt (γ : Bool) (b : Nat) : okG γ (.flt b : AV) = True := rfl
theorem strip_ik (k : IntKind) (n : Int) : strip (.ik k n : AV) = (.ik k n : AV) := rfl
theorem okG_ik (γ : Bool) (k : IntKind) (n : Int) : okG γ (.ik k n : AV) = True := rfl
theorem strip_bool (b : Bool) : strip (.bool b : AV) = (.bool b : AV) := rfl
theorem okG_bool (γ : Bool) (b : Bool) : okG γ (.bool b : AV) = True := rfl
theorem strip_str (s : ByteArray) : strip (.str s : AV) = (.str s : AV) := rfl
theorem okG_str (γ : Bool) (s : ByteArray) : okG γ (.str s : AV) = True := rfl
theorem strip_nil  : strip (.nil : AV) = (.nil : AV) := rfl
theorem okG_nil (γ : Bool)  : okG γ (.nil : AV) = True := rfl
theorem strip_nilfn  : strip (.nilfn : AV) = (.nilfn : AV) := rfl
theorem okG_nilfn (γ : Bool)  : okG γ (.nilfn : AV) = True := rfl
theorem strip_l1 (xs : List Int) : strip (.l1 xs : AV) = (.l1 xs : AV) := rfl
theorem okG_l1 (γ : Bool) (xs : List Int) : okG γ (.l1 xs : AV) = True := rfl
theorem strip_l2 (xs : List (List Int)) : strip (.l2 xs : AV) = (.l2 xs : AV) := rfl
theorem okG_l2 (γ : Bool) (xs : List (List Int)) : okG γ (.l2 xs : AV) = True := rfl
theorem strip_val (x : Value) : strip (.val x : AV) = (.val x : AV) := rfl
theorem okG_val (γ : Bool) (x : Value) : okG γ (.val x : AV) = True := rfl
theorem strip_lp (xs : List (Int × Int)) (o : Option Nat) : strip (.lp xs o : AV) = (.lp xs o : AV) := rfl
theorem okG_lp (γ : Bool) (xs : List (Int × Int)) (o : Option Nat) : okG γ (.lp xs o : AV) = True := rfl
theorem strip_l3 (xs : List (List (List Int))) : strip (.l3 xs : AV) = (.l3 xs : AV) := rfl
theorem okG_l3 (γ : Bool) (xs : List (List (List Int))) : okG γ (.l3 xs : AV) = True := rfl
theorem strip_lv (vs : List AV) : strip (.lv vs : AV) = (.lv vs : AV) := rfl
theorem okG_lv (γ : Bool) (vs : List AV) : okG γ (.lv vs : AV) = True := rfl
theorem strip_agg (vs : List AV) : strip (.agg vs : AV) = (.agg vs : AV) := rfl
theorem okG_agg (γ : Bool) (vs : List AV) : okG γ (.agg vs : AV) = True := rfl
theorem strip_tup (vs : List AV) : strip (.tup vs : AV) = (.tup vs : AV) := rfl
theorem okG_tup (γ : Bool) (vs : List AV) : okG γ (.tup vs : AV) = True := rfl
theorem strip_fn (f : Nat) (caps : List AV) : strip (.fn f caps : AV) = (.fn f caps : AV) := rfl
theorem okG_fn (γ : Bool) (f : Nat) (caps : List AV) : okG γ (.fn f caps : AV) = True := rfl
theorem strip_eptr (av : AV) (i : Nat) : strip (.eptr av i : AV) = (.eptr av i : AV) := rfl
theorem okG_eptr (γ : Bool) (av : AV) (i : Nat) : okG γ (.eptr av i : AV) = True := rfl
theorem strip_cptr (vs : List AV) (off : Nat) : strip (.cptr vs off : AV) = (.cptr vs off : AV) := rfl
theorem okG_cptr (γ : Bool) (vs : List AV) (off : Nat) : okG γ (.cptr vs off : AV) = True := rfl
theorem strip_ref (id : Nat) (path : List Nat) : strip (.ref id path : AV) = (.ref id path : AV) := rfl
theorem okG_ref (γ : Bool) (id : Nat) (path : List Nat) : okG γ (.ref id path : AV) = True := rfl
theorem strip_sub (id : Nat) (path : List Nat) (lo hi : Nat) : strip (.sub id path lo hi : AV) = (.sub id path lo hi : AV) := rfl
theorem okG_sub (γ : Bool) (id : Nat) (path : List Nat) (lo hi : Nat) : okG γ (.sub id path lo hi : AV) = True := rfl
theorem strip_eref (id : Nat) (path : List Nat) (i : Nat) : strip (.eref id path i : AV) = (.eref id path i : AV) := rfl
theorem okG_eref (γ : Bool) (id : Nat) (path : List Nat) (i : Nat) : okG γ (.eref id path i : AV) = True := rfl
theorem strip_bptr (id : Nat) (off : Nat) : strip (.bptr id off : AV) = (.bptr id off : AV) := rfl
theorem okG_bptr (γ : Bool) (id : Nat) (off : Nat) : okG γ (.bptr id off : AV) = True := rfl
theorem strip_junk  : strip (.junk : AV) = (.junk : AV) := rfl
theorem okG_junk (γ : Bool)  : okG γ (.junk : AV) = True := rfl
theorem strip_when (g : Bool) (v : AV) : strip (.when g v) = v := rfl
theorem okG_when (γ g : Bool) (v : AV) : okG γ (.when g v) = (γ = true → g = true) := rfl
theorem view1_int (H : List (Nat × Tree)) (n : Int) : view1 H (.int n : AV) = some (.int n : AV) := rfl
theorem viewB_int (H : List (Nat × Tree)) (n : Int) : viewB H (.int n : AV) = some (.int n : AV) := rfl
theorem view_int (H : List (Nat × Tree)) (n : Int) : view H (.int n : AV) = some (.int n : AV) := rfl
theorem cellsA_int (H : List (Nat × Tree)) (n : Int) : cellsA H (.int n : AV) = some [(.int n : AV)] := rfl
theorem oneA_int (H : List (Nat × Tree)) (n : Int) : oneA H (.int n : AV) = true := rfl
theorem killA_int (q : Nat → List Nat → Bool) (n : Int) : killA q (.int n : AV) = (.int n : AV) := rfl
theorem view1_flt (H : List (Nat × Tree)) (b : Nat) : view1 H (.flt b : AV) = some (.flt b : AV) := rfl
theorem viewB_flt (H : List (Nat × Tree)) (b : Nat) : viewB H (.flt b : AV) = some (.flt b : AV) := rfl
theorem view_flt (H : List (Nat × Tree)) (b : Nat) : view H (.flt b : AV) = some (.flt b : AV) := rfl
theorem cellsA_flt (H : List (Nat × Tree)) (b : Nat) : cellsA H (.flt b : AV) = some [(.flt b : AV)] := rfl
theorem oneA_flt (H : List (Nat × Tree)) (b : Nat) : oneA H (.flt b : AV) = true := rfl
theorem killA_flt (q : Nat → List Nat → Bool) (b : Nat) : killA q (.flt b : AV) = (.flt b : AV) := rfl
theorem view1_ik (H : List (Nat × Tree)) (k : IntKind) (n : Int) : view1 H (.ik k n : AV) = some (.ik k n : AV) := rfl
theorem viewB_ik (H : List (Nat × Tree)) (k : IntKind) (n : Int) : viewB H (.ik k n : AV) = some (.ik k n : AV) := rfl
theorem view_ik (H : List (Nat × Tree)) (k : IntKind) (n : Int) : view H (.ik k n : AV) = some (.ik k n : AV) := rfl
theorem cellsA_ik (H : List (Nat × Tree)) (k : IntKind) (n : Int) : cellsA H (.ik k n : AV) = some [(.ik k n : AV)] := rfl
theorem oneA_ik (H : List (Nat × Tree)) (k : IntKind) (n : Int) : oneA H (.ik k n : AV) = true := rfl
theorem killA_ik (q : Nat → List Nat → Bool) (k : IntKind) (n : Int) : killA q (.ik k n : AV) = (.ik k n : AV) := rfl
theorem view1_bool (H : List (Nat × Tree)) (b : Bool) : view1 H (.bool b : AV) = some (.bool b : AV) := rfl
theorem viewB_bool (H : List (Nat × Tree)) (b : Bool) : viewB H (.bool b : AV) = some (.bool b : AV) := rfl
theorem view_bool (H : List (Nat × Tree)) (b : Bool) : view H (.bool b : AV) = some (.bool b : AV) := rfl
theorem cellsA_bool (H : List (Nat × Tree)) (b : Bool) : cellsA H (.bool b : AV) = some [(.bool b : AV)] := rfl
theorem oneA_bool (H : List (Nat × Tree)) (b : Bool) : oneA H (.bool b : AV) = true := rfl
theorem killA_bool (q : Nat → List Nat → Bool) (b : Bool) : killA q (.bool b : AV) = (.bool b : AV) := rfl
theorem view1_str (H : List (Nat × Tree)) (s : ByteArray) : view1 H (.str s : AV) = some (.str s : AV) := rfl
theorem viewB_str (H : List (Nat × Tree)) (s : ByteArray) : viewB H (.str s : AV) = some (.str s : AV) := rfl
theorem view_str (H : List (Nat × Tree)) (s : ByteArray) : view H (.str s : AV) = some (.str s : AV) := rfl
theorem cellsA_str (H : List (Nat × Tree)) (s : ByteArray) : cellsA H (.str s : AV) = some [(.str s : AV)] := rfl
theorem oneA_str (H : List (Nat × Tree)) (s : ByteArray) : oneA H (.str s : AV) = true := rfl
theorem killA_str (q : Nat → List Nat → Bool) (s : ByteArray) : killA q (.str s : AV) = (.str s : AV) := rfl
theorem view1_nil (H : List (Nat × Tree))  : view1 H (.nil : AV) = some (.nil : AV) := rfl
theorem viewB_nil (H : List (Nat × Tree))  : viewB H (.nil : AV) = some (.nil : AV) := rfl
theorem view_nil (H : List (Nat × Tree))  : view H (.nil : AV) = some (.nil : AV) := rfl
theorem cellsA_nil (H : List (Nat × Tree))  : cellsA H (.nil : AV) = some [(.nil : AV)] := rfl
theorem oneA_nil (H : List (Nat × Tree))  : oneA H (.nil : AV) = true := rfl
theorem killA_nil (q : Nat → List Nat → Bool)  : killA q (.nil : AV) = (.nil : AV) := rfl
theorem view1_nilfn (H : List (Nat × Tree))  : view1 H (.nilfn : AV) = some (.nilfn : AV) := rfl
theorem viewB_nilfn (H : List (Nat × Tree))  : viewB H (.nilfn : AV) = some (.nilfn : AV) := rfl
theorem view_nilfn (H : List (Nat × Tree))  : view H (.nilfn : AV) = some (.nilfn : AV) := rfl
theorem cellsA_nilfn (H : List (Nat × Tree))  : cellsA H (.nilfn : AV) = some [(.nilfn : AV)] := rfl
theorem oneA_nilfn (H : List (Nat × Tree))  : oneA H (.nilfn : AV) = true := rfl
theorem killA_nilfn (q : Nat → List Nat → Bool)  : killA q (.nilfn : AV) = (.nilfn : AV) := rfl
theorem view1_l1 (H : List (Nat × Tree)) (xs : List Int) : view1 H (.l1 xs : AV) = some (.l1 xs : AV) := rfl
theorem viewB_l1 (H : List (Nat × Tree)) (xs : List Int) : viewB H (.l1 xs : AV) = some (.l1 xs : AV) := rfl
theorem view_l1 (H : List (Nat × Tree)) (xs : List Int) : view H (.l1 xs : AV) = some (.l1 xs : AV) := rfl
theorem cellsA_l1 (H : List (Nat × Tree)) (xs : List Int) : cellsA H (.l1 xs : AV) = some [(.l1 xs : AV)] := rfl
theorem oneA_l1 (H : List (Nat × Tree)) (xs : List Int) : oneA H (.l1 xs : AV) = true := rfl
theorem killA_l1 (q : Nat → List Nat → Bool) (xs : List Int) : killA q (.l1 xs : AV) = (.l1 xs : AV) := rfl
theorem view1_l2 (H : List (Nat × Tree)) (xs : List (List Int)) : view1 H (.l2 xs : AV) = some (.l2 xs : AV) := rfl
theorem viewB_l2 (H : List (Nat × Tree)) (xs : List (List Int)) : viewB H (.l2 xs : AV) = some (.l2 xs : AV) := rfl
theorem view_l2 (H : List (Nat × Tree)) (xs : List (List Int)) : view H (.l2 xs : AV) = some (.l2 xs : AV) := rfl
theorem cellsA_l2 (H : List (Nat × Tree)) (xs : List (List Int)) : cellsA H (.l2 xs : AV) = some [(.l2 xs : AV)] := rfl
theorem oneA_l2 (H : List (Nat × Tree)) (xs : List (List Int)) : oneA H (.l2 xs : AV) = true := rfl
theorem killA_l2 (q : Nat → List Nat → Bool) (xs : List (List Int)) : killA q (.l2 xs : AV) = (.l2 xs : AV) := rfl
theorem view1_val (H : List (Nat × Tree)) (x : Value) : view1 H (.val x : AV) = none := rfl
theorem viewB_val (H : List (Nat × Tree)) (x : Value) : viewB H (.val x : AV) = none := rfl
theorem view_val (H : List (Nat × Tree)) (x : Value) : view H (.val x : AV) = none := rfl
theorem cellsA_val (H : List (Nat × Tree)) (x : Value) : cellsA H (.val x : AV) = none := rfl
theorem oneA_val (H : List (Nat × Tree)) (x : Value) : oneA H (.val x : AV) = false := rfl
theorem killA_val (q : Nat → List Nat → Bool) (x : Value) : killA q (.val x : AV) = (.val x : AV) := rfl
theorem view1_lp (H : List (Nat × Tree)) (xs : List (Int × Int)) (o : Option Nat) : view1 H (.lp xs o : AV) = some (.lp xs o : AV) := rfl
theorem viewB_lp (H : List (Nat × Tree)) (xs : List (Int × Int)) (o : Option Nat) : viewB H (.lp xs o : AV) = some (.lp xs o : AV) := rfl
theorem view_lp (H : List (Nat × Tree)) (xs : List (Int × Int)) (o : Option Nat) : view H (.lp xs o : AV) = some (.lp xs o : AV) := rfl
theorem cellsA_lp (H : List (Nat × Tree)) (xs : List (Int × Int)) (o : Option Nat) : cellsA H (.lp xs o : AV) = some [(.lp xs o : AV)] := rfl
theorem oneA_lp (H : List (Nat × Tree)) (xs : List (Int × Int)) (o : Option Nat) : oneA H (.lp xs o : AV) = true := rfl
theorem killA_lp (q : Nat → List Nat → Bool) (xs : List (Int × Int)) (o : Option Nat) : killA q (.lp xs o : AV) = (.lp xs o : AV) := rfl
theorem view1_l3 (H : List (Nat × Tree)) (xs : List (List (List Int))) : view1 H (.l3 xs : AV) = some (.l3 xs : AV) := rfl
theorem viewB_l3 (H : List (Nat × Tree)) (xs : List (List (List Int))) : viewB H (.l3 xs : AV) = some (.l3 xs : AV) := rfl
theorem view_l3 (H : List (Nat × Tree)) (xs : List (List (List Int))) : view H (.l3 xs : AV) = some (.l3 xs : AV) := rfl
theorem cellsA_l3 (H : List (Nat × Tree)) (xs : List (List (List Int))) : cellsA H (.l3 xs : AV) = some [(.l3 xs : AV)] := rfl
theorem oneA_l3 (H : List (Nat × Tree)) (xs : List (List (List Int))) : oneA H (.l3 xs : AV) = true := rfl
theorem killA_l3 (q : Nat → List Nat → Bool) (xs : List (List (List Int))) : killA q (.l3 xs : AV) = (.l3 xs : AV) := rfl
theorem killA_junk (q : Nat → List Nat → Bool) : killA q (.junk : AV) = .junk := rfl
theorem killA_ref (q : Nat → List Nat → Bool) (id : Nat) (p : List Nat) : killA q (.ref id p) = if q id p then .junk else .ref id p := rfl
theorem killA_sub (q : Nat → List Nat → Bool) (id : Nat) (p : List Nat) (lo hi : Nat) : killA q (.sub id p lo hi) = if q id p then .junk else .sub id p lo hi := rfl
theorem killA_eref (q : Nat → List Nat → Bool) (id : Nat) (p : List Nat) (i : Nat) : killA q (.eref id p i) = if q id p then .junk else .eref id p i := rfl
theorem killA_bptr (q : Nat → List Nat → Bool) (id : Nat) (off : Nat) : killA q (.bptr id off) = if q id [] then .junk else .bptr id off := rfl
theorem killA_lv (q : Nat → List Nat → Bool) (vs : List AV) : killA q (.lv vs) = .lv (killAs q vs) := rfl
theorem killA_agg (q : Nat → List Nat → Bool) (vs : List AV) : killA q (.agg vs) = .agg (killAs q vs) := rfl
theorem killA_tup (q : Nat → List Nat → Bool) (vs : List AV) : killA q (.tup vs) = .tup (killAs q vs) := rfl
theorem killA_fn (q : Nat → List Nat → Bool) (f : Nat) (vs : List AV) : killA q (.fn f vs) = .fn f (killAs q vs) := rfl
theorem killA_cptr (q : Nat → List Nat → Bool) (f : Nat) (vs : List AV) : killA q (.cptr vs f) = .cptr (killAs q vs) f := rfl
theorem killA_eptr (q : Nat → List Nat → Bool) (i : Nat) (v : AV) : killA q (.eptr v i) = .eptr (killA q v) i := rfl
theorem killA_when (q : Nat → List Nat → Bool) (g : Bool) (v : AV) : killA q (.when g v) = .when g (killA q v) := rfl
theorem killT_e (q : Nat → List Nat → Bool) : (∀ x, killT q (.t1 x) = .t1 x) ∧ (∀ x, killT q (.t2 x) = .t2 x) ∧ (∀ x, killT q (.t3 x) = .t3 x) ∧ (∀ x, killT q (.r2 x) = .r2 x) ∧ (∀ x, killT q (.r3 x) = .r3 x) ∧ (∀ x s, killT q (.a3 x s) = .a3 x s) ∧ (∀ x, killT q (.tp x) = .tp x) ∧ (∀ x L, killT q (.tq x L) = .tq x L) ∧ (∀ x i j u v, killT q (.mx x i j u v) = .mx x i j (killA q u) (killA q v)) ∧ (∀ vs, killT q (.lv vs) = .lv (killAs q vs)) ∧ (∀ vs, killT q (.bx vs) = .bx (killAs q vs)) :=
 ⟨fun _ => rfl, fun _ => rfl, fun _ => rfl, fun _ => rfl, fun _ => rfl, fun _ _ => rfl, fun _ => rfl, fun _ _ => rfl, fun _ _ _ _ _ => rfl, fun _ => rfl, fun _ => rfl⟩
theorem view1_ref (H : List (Nat × Tree)) (id : Nat) (p : List Nat) : view1 H (.ref id p) = viewT (find H id) p := rfl
theorem view1_sub (H : List (Nat × Tree)) (id : Nat) (p : List Nat) (lo hi : Nat) : view1 H (.sub id p lo hi) = (viewT (find H id) p).bind (cutData lo hi) := rfl
theorem view1_agg (H : List (Nat × Tree)) (vs : List AV) : view1 H (.agg vs) = (views1 H vs).map .agg := rfl
theorem view1_tup (H : List (Nat × Tree)) (vs : List AV) : view1 H (.tup vs) = (views1 H vs).map .tup := rfl
theorem viewB_ref (H : List (Nat × Tree)) (id : Nat) (p : List Nat) : viewB H (.ref id p) = view1 H (.ref id p) := rfl
theorem view_ref (H : List (Nat × Tree)) (id : Nat) (p : List Nat) : view H (.ref id p) = view1 H (.ref id p) := rfl
theorem viewB_sub (H : List (Nat × Tree)) (id : Nat) (p : List Nat) (lo hi : Nat) : viewB H (.sub id p lo hi) = view1 H (.sub id p lo hi) := rfl
theorem view_sub (H : List (Nat × Tree)) (id : Nat) (p : List Nat) (lo hi : Nat) : view H (.sub id p lo hi) = view1 H (.sub id p lo hi) := rfl
theorem viewB_agg (H : List (Nat × Tree)) (vs : List AV) : viewB H (.agg vs) = view1 H (.agg vs) := rfl
theorem view_agg (H : List (Nat × Tree)) (vs : List AV) : view H (.agg vs) = view1 H (.agg vs) := rfl
theorem viewB_tup (H : List (Nat × Tree)) (vs : List AV) : viewB H (.tup vs) = view1 H (.tup vs) := rfl
theorem view_tup (H : List (Nat × Tree)) (vs : List AV) : view H (.tup vs) = view1 H (.tup vs) := rfl
theorem viewB_cptr (H : List (Nat × Tree)) (vs : List AV) (o : Nat) : viewB H (.cptr vs o) = view1 H (.cptr vs o) := rfl
theorem view_cptr (H : List (Nat × Tree)) (vs : List AV) (o : Nat) : view H (.cptr vs o) = view1 H (.cptr vs o) := rfl
theorem viewB_lv (H : List (Nat × Tree)) (vs : List AV) : viewB H (.lv vs) = view1 H (.lv vs) := rfl
theorem view_lv (H : List (Nat × Tree)) (vs : List AV) : view H (.lv vs) = view1 H (.lv vs) := rfl
theorem viewB_bptr (H : List (Nat × Tree)) (id off : Nat) : viewB H (.bptr id off) = match find H id with | some (.bx vs) => (views1 H vs).map (.cptr · off) | _ => none := rfl
theorem view_bptr (H : List (Nat × Tree)) (id off : Nat) : view H (.bptr id off) = viewB H (.bptr id off) := rfl
theorem view_fn (H : List (Nat × Tree)) (f : Nat) (caps : List AV) : view H (.fn f caps) = (viewsB H caps).map (.fn f) := rfl
theorem view1_lv (H : List (Nat × Tree)) (vs : List AV) : view1 H (.lv vs) = if isData (.lv vs) then some (.lv vs) else none := rfl
theorem view1_fn (H : List (Nat × Tree)) (f : Nat) (vs : List AV) : view1 H (.fn f vs) = if isData (.fn f vs) then some (.fn f vs) else none := rfl
theorem view1_cptr (H : List (Nat × Tree)) (f : Nat) (vs : List AV) : view1 H (.cptr vs f) = if isData (.cptr vs f) then some (.cptr vs f) else none := rfl
theorem cellsA_agg (H : List (Nat × Tree)) (vs : List AV) : cellsA H (.agg vs) = some vs := rfl
theorem cellsA_ref (H : List (Nat × Tree)) (id : Nat) (p : List Nat) : cellsA H (.ref id p) = if okRef H id p then some [.ref id p] else none := rfl
theorem cellsA_sub (H : List (Nat × Tree)) (id : Nat) (p : List Nat) (lo hi : Nat) : cellsA H (.sub id p lo hi) = some [.sub id p lo hi] := rfl
theorem cellsA_lv (H : List (Nat × Tree)) (vs : List AV) : cellsA H (.lv vs) = some [.lv vs] := rfl
theorem cellsA_fn (H : List (Nat × Tree)) (f : Nat) (vs : List AV) : cellsA H (.fn f vs) = some [.fn f vs] := rfl
theorem cellsA_cptr (H : List (Nat × Tree)) (f : Nat) (vs : List AV) : cellsA H (.cptr vs f) = some [.cptr vs f] := rfl
theorem cellsA_eptr (H : List (Nat × Tree)) (i : Nat) (v : AV) : cellsA H (.eptr v i) = some [.eptr v i] := rfl
theorem cellsA_bptr (H : List (Nat × Tree)) (i f : Nat) : cellsA H (.bptr i f) = some [.bptr i f] := rfl
theorem oneA_agg (H : List (Nat × Tree)) (vs : List AV) : oneA H (.agg vs) = false := rfl
theorem oneA_ref (H : List (Nat × Tree)) (id : Nat) (p : List Nat) : oneA H (.ref id p) = okRef H id p := by unfold oneA cellsA; cases h : okRef H id p <;> simp [h]
theorem oneA_sub (H : List (Nat × Tree)) (id : Nat) (p : List Nat) (lo hi : Nat) : oneA H (.sub id p lo hi) = true := rfl
theorem oneA_lv (H : List (Nat × Tree)) (vs : List AV) : oneA H (.lv vs) = true := rfl
theorem oneA_fn (H : List (Nat × Tree)) (f : Nat) (vs : List AV) : oneA H (.fn f vs) = true := rfl
theorem oneA_bptr (H : List (Nat × Tree)) (i f : Nat) : oneA H (.bptr i f) = true := rfl
section
variable {P : Program} {ops : Array Oper} {n : Nat} {st : St} {K : St → Prop}
def dstLt (n : Nat) : Option Nat → Prop
 | some d => d < n
 | none => True
theorem dstLt_some (n d : Nat) : dstLt n (some d) = (d < n) := rfl
theorem dstLt_none (n : Nat) : dstLt n none = True := rfl
def pOper (P : Program) (ops : Array Oper) (n : Nat) (st : St) (d : Option Nat) (op : Op) (gd : Option (Nat × Bool)) (K : St → Prop) : Prop :=
 dstLt n d ∧ match gd with
 | none => Yl (fun v => AVal P st.H true (evF st.get) op v) (fun v => K ⟨putL d v st.s, st.H⟩)
 | some (j, want) => match (ops[j]?).bind (·.dst) with
  | some e => match boolOf (st.get e) with
   | some (gg, b) => Yl (fun v => AVal P st.H (gg && (b == want)) (evF st.get) op v) (fun v => K ⟨putL d (.when (gg && (b == want)) v) st.s, st.H⟩)
   | none => False
  | none => False
@[congr] theorem poper_congr {d : Option Nat} {op : Op} {gd : Option (Nat × Bool)} {st2 : St} (h : st = st2) : pOper P ops n st d op gd K = pOper P ops n st2 d op gd K := by rw [h]
theorem lOper_pure {d : Option Nat} {op : Op} {ty : TypeId} {pos : String} {af : Array Edge} {gd : Option (Nat × Bool)} (hp : pureOp op = true) : lOper P ops n st ⟨d, op, ty, pos, af, gd⟩ K = pOper P ops n st d op gd K := by
 unfold lOper pOper gam
 simp only [hp, if_true]
 congr 1
 cases gd with
 | none => rfl
 | some g =>
  obtain ⟨j, want⟩ := g
  simp only
  cases (ops[j]?).bind (·.dst) with
  | none => rfl
  | some e =>
   simp only
   cases boolOf (st.get e) with
   | none => rfl
   | some q => rfl
def mOper (P : Program) (n : Nat) (st : St) (d : Option Nat) (op : Op) (K : St → Prop) : Prop := dstLt n d ∧ AHeap P st.H (evF st.get) op (fun v all subs H' => K ⟨putL d v (killL all subs st.s), H'⟩)
@[congr] theorem moper_congr {d : Option Nat} {op : Op} {st2 : St} (h : st = st2) : mOper P n st d op K = mOper P n st2 d op K := by rw [h]
theorem lOper_heap {d : Option Nat} {op : Op} {ty : TypeId} {pos : String} {af : Array Edge} (hp : pureOp op = false) : lOper P ops n st ⟨d, op, ty, pos, af, none⟩ K = mOper P n st d op K := by
 unfold lOper mOper gam
 simp only [hp, Bool.false_eq_true, if_false, true_and]
 rfl
theorem fo_move {d : Option Nat} {ty : TypeId} {pos : String} {af : Array Edge} {gd : Option (Nat × Bool)} (x : Operand) : fOper P ops n st ⟨d, (.move x), ty, pos, af, gd⟩ K = pOper P ops n st d (.move x) gd K := lOper_pure rfl
theorem fo_assign {d : Option Nat} {ty : TypeId} {pos : String} {af : Array Edge} {gd : Option (Nat × Bool)} (x : Operand) : fOper P ops n st ⟨d, (.assign x), ty, pos, af, gd⟩ K = pOper P ops n st d (.assign x) gd K := lOper_pure rfl
theorem fo_pick {d : Option Nat} {ty : TypeId} {pos : String} {af : Array Edge} {gd : Option (Nat × Bool)} (c a b : Operand) : fOper P ops n st ⟨d, (.pick c a b), ty, pos, af, gd⟩ K = pOper P ops n st d (.pick c a b) gd K := lOper_pure rfl
theorem fo_load {d : Option Nat} {ty : TypeId} {pos : String} {af : Array Edge} {gd : Option (Nat × Bool)} (t : TypeId) (p : Operand) : fOper P ops n st ⟨d, (.load t p), ty, pos, af, gd⟩ K = pOper P ops n st d (.load t p) gd K := lOper_pure rfl
theorem fo_indexAddr {d : Option Nat} {ty : TypeId} {pos : String} {af : Array Edge} {gd : Option (Nat × Bool)} (t : TypeId) (x i : Operand) : fOper P ops n st ⟨d, (.indexAddr t x i), ty, pos, af, gd⟩ K = pOper P ops n st d (.indexAddr t x i) gd K := lOper_pure rfl
theorem fo_fieldAddr {d : Option Nat} {ty : TypeId} {pos : String} {af : Array Edge} {gd : Option (Nat × Bool)} (t : TypeId) (p : Operand) (f : Nat) : fOper P ops n st ⟨d, (.fieldAddr t p f), ty, pos, af, gd⟩ K = pOper P ops n st d (.fieldAddr t p f) gd K := lOper_pure rfl
theorem fo_bld {d : Option Nat} {ty : TypeId} {pos : String} {af : Array Edge} {gd : Option (Nat × Bool)} (t : TypeId) (parts : Array (Nat × Operand)) : fOper P ops n st ⟨d, (.build t parts), ty, pos, af, gd⟩ K = pOper P ops n st d (.build t parts) gd K := lOper_pure rfl
theorem fo_field {d : Option Nat} {ty : TypeId} {pos : String} {af : Array Edge} {gd : Option (Nat × Bool)} (t : TypeId) (p : Operand) (f : Nat) : fOper P ops n st ⟨d, (.field t p f), ty, pos, af, gd⟩ K = pOper P ops n st d (.field t p f) gd K := lOper_pure rfl
theorem fo_binOp {d : Option Nat} {ty : TypeId} {pos : String} {af : Array Edge} {gd : Option (Nat × Bool)} (b : BinOp) (t : TypeId) (x y : Operand) (t' : TypeId) : fOper P ops n st ⟨d, (.binOp b t x y t'), ty, pos, af, gd⟩ K = pOper P ops n st d (.binOp b t x y t') gd K := lOper_pure rfl
theorem fo_unOp {d : Option Nat} {ty : TypeId} {pos : String} {af : Array Edge} {gd : Option (Nat × Bool)} (u : UnOp) (t : TypeId) (x : Operand) : fOper P ops n st ⟨d, (.unOp u t x), ty, pos, af, gd⟩ K = pOper P ops n st d (.unOp u t x) gd K := lOper_pure rfl
theorem fo_nilCheck {d : Option Nat} {ty : TypeId} {pos : String} {af : Array Edge} {gd : Option (Nat × Bool)} (x : Operand) : fOper P ops n st ⟨d, (.nilCheck x), ty, pos, af, gd⟩ K = pOper P ops n st d (.nilCheck x) gd K := lOper_pure rfl
theorem fo_convert {d : Option Nat} {ty : TypeId} {pos : String} {af : Array Edge} {gd : Option (Nat × Bool)} (s d' : TypeId) (x : Operand) : fOper P ops n st ⟨d, (.convert s d' x), ty, pos, af, gd⟩ K = pOper P ops n st d (.convert s d' x) gd K := lOper_pure rfl
theorem fo_extract {d : Option Nat} {ty : TypeId} {pos : String} {af : Array Edge} {gd : Option (Nat × Bool)} (x : Operand) (i : Nat) : fOper P ops n st ⟨d, (.extract x i), ty, pos, af, gd⟩ K = pOper P ops n st d (.extract x i) gd K := lOper_pure rfl
theorem fo_slice {d : Option Nat} {ty : TypeId} {pos : String} {af : Array Edge} {gd : Option (Nat × Bool)} (t : TypeId) (x : Operand) (lo hi mx : Option Operand) : fOper P ops n st ⟨d, (.slice t x lo hi mx), ty, pos, af, gd⟩ K = pOper P ops n st d (.slice t x lo hi mx) gd K := lOper_pure rfl
theorem fo_makeFunc {d : Option Nat} {ty : TypeId} {pos : String} {af : Array Edge} {gd : Option (Nat × Bool)} (g : Fn) (first : Array Operand) (caps : Array Operand) : fOper P ops n st ⟨d, (.makeFunc g first caps), ty, pos, af, gd⟩ K = pOper P ops n st d (.makeFunc g first caps) gd K := lOper_pure rfl
theorem fo_len {d : Option Nat} {ty : TypeId} {pos : String} {af : Array Edge} {gd : Option (Nat × Bool)} (args : Array Operand) (ts : Array TypeId) : fOper P ops n st ⟨d, (.call ⟨.builtin .len, args, ts⟩), ty, pos, af, gd⟩ K = pOper P ops n st d (.call ⟨.builtin .len, args, ts⟩) gd K := lOper_pure rfl
theorem fo_cap {d : Option Nat} {ty : TypeId} {pos : String} {af : Array Edge} {gd : Option (Nat × Bool)} (args : Array Operand) (ts : Array TypeId) : fOper P ops n st ⟨d, (.call ⟨.builtin .cap, args, ts⟩), ty, pos, af, gd⟩ K = pOper P ops n st d (.call ⟨.builtin .cap, args, ts⟩) gd K := lOper_pure rfl
theorem fo_max {d : Option Nat} {ty : TypeId} {pos : String} {af : Array Edge} {gd : Option (Nat × Bool)} (args : Array Operand) (ts : Array TypeId) : fOper P ops n st ⟨d, (.call ⟨.builtin .max, args, ts⟩), ty, pos, af, gd⟩ K = pOper P ops n st d (.call ⟨.builtin .max, args, ts⟩) gd K := lOper_pure rfl
theorem fo_min {d : Option Nat} {ty : TypeId} {pos : String} {af : Array Edge} {gd : Option (Nat × Bool)} (args : Array Operand) (ts : Array TypeId) : fOper P ops n st ⟨d, (.call ⟨.builtin .min, args, ts⟩), ty, pos, af, gd⟩ K = pOper P ops n st d (.call ⟨.builtin .min, args, ts⟩) gd K := lOper_pure rfl
theorem fo_alloc {d : Option Nat} {ty : TypeId} {pos : String} {af : Array Edge} (t : TypeId) : fOper P ops n st ⟨d, (.alloc t), ty, pos, af, none⟩ K = mOper P n st d (.alloc t) K := lOper_heap (ops := ops) rfl
theorem fo_box {d : Option Nat} {ty : TypeId} {pos : String} {af : Array Edge} (t : TypeId) (x : Operand) : fOper P ops n st ⟨d, (.box t x), ty, pos, af, none⟩ K = mOper P n st d (.box t x) K := lOper_heap (ops := ops) rfl
theorem fo_build {d : Option Nat} {ty : TypeId} {pos : String} {af : Array Edge} (t : TypeId) (len : Nat) (parts : Array (Nat × Operand)) : fOper P ops n st ⟨d, (.buildSlice t len parts), ty, pos, af, none⟩ K = mOper P n st d (.buildSlice t len parts) K := lOper_heap (ops := ops) rfl
theorem fo_make {d : Option Nat} {ty : TypeId} {pos : String} {af : Array Edge} (t : TypeId) (l c : Operand) : fOper P ops n st ⟨d, (.makeSlice t l c), ty, pos, af, none⟩ K = mOper P n st d (.makeSlice t l c) K := lOper_heap (ops := ops) rfl
theorem fo_store {d : Option Nat} {ty : TypeId} {pos : String} {af : Array Edge} (t : TypeId) (p v : Operand) : fOper P ops n st ⟨d, (.store t p v), ty, pos, af, none⟩ K = mOper P n st d (.store t p v) K := lOper_heap (ops := ops) rfl
theorem fo_append {d : Option Nat} {ty : TypeId} {pos : String} {af : Array Edge} (args : Array Operand) (ts : Array TypeId) : fOper P ops n st ⟨d, (.call ⟨.builtin .append, args, ts⟩), ty, pos, af, none⟩ K = mOper P n st d (.call ⟨.builtin .append, args, ts⟩) K := lOper_heap (ops := ops) rfl
theorem fo_copy {d : Option Nat} {ty : TypeId} {pos : String} {af : Array Edge} (args : Array Operand) (ts : Array TypeId) : fOper P ops n st ⟨d, (.call ⟨.builtin .copy, args, ts⟩), ty, pos, af, none⟩ K = mOper P n st d (.call ⟨.builtin .copy, args, ts⟩) K := lOper_heap (ops := ops) rfl
theorem fo_callg {d : Option Nat} {ty : TypeId} {pos : String} {af : Array Edge} {gd : Nat × Bool} (g : Operand) (args : Array Operand) (ts : Array TypeId) : fOper P ops n st ⟨d, .call ⟨.value g, args, ts⟩, ty, pos, af, some gd⟩ K = pOper P ops n st d (.call ⟨.value g, args, ts⟩) (some gd) K := lOper_pure rfl
end
def ldB (k : TK) (b : Option Tree) (off : Nat) (v : AV) : Prop :=
 match b with
 | some (.bx vs) => if k.one then off < vs.length ∧ v = vs.getD off .junk else (match k with
  | .st _ sz => off + sz ≤ vs.length ∧ v = .agg ((vs.drop off).take sz)
  | _ => False)
 | _ => False
theorem ldB_bx (k : TK) (vs : List AV) (off : Nat) (v : AV) : ldB k (some (.bx vs)) off v = (if k.one then off < vs.length ∧ v = vs.getD off .junk else (match k with
  | .st _ sz => off + sz ≤ vs.length ∧ v = .agg ((vs.drop off).take sz)
  | _ => False)) := rfl
theorem one_sp (e : Nat) : TK.one (.sp e) = true := rfl
theorem one_ar (n : Nat) : TK.one (.ar n) = false := rfl
theorem one_sl (e : Nat) : TK.one (.sl e) = true := rfl
theorem one_int : TK.one .int = true := rfl
theorem one_flt : TK.one .flt = true := rfl
theorem one_ik (k : IntKind) : TK.one (.ik k) = true := rfl
theorem one_bool : TK.one .bool = true := rfl
theorem one_str : TK.one .str = true := rfl
theorem one_cell : TK.one .cell = true := rfl
theorem one_st (fs : List (Nat × Nat)) (sz : Nat) : TK.one (.st fs sz) = false := rfl
section
variable {P : Program} {H : List (Nat × Tree)}
theorem ld_bptr (t : TypeId) (id off : Nat) (v : AV) : ALoad P H t (.bptr id off) v = ldB (tkOf P t) (find H id) off v := by
 unfold ALoad
 cases tkOf P t <;> (cases hf : find H id with
  | none => simp [hf, ldB]
  | some t => cases t <;> simp [hf, TK.one, ldB])
theorem ld_cptr (t : TypeId) (vs : List AV) (off : Nat) (v : AV) : ALoad P H t (.cptr vs off) v = ldB (tkOf P t) (some (.bx vs)) off v := by
 unfold ALoad ldB
 cases tkOf P t <;> first | rfl | simp [TK.one]
def ldE (k : TK) (e : Option (Nat × (Nat → AV))) (i : Nat) (v : AV) : Prop := k.one = true ∧ match e with
 | some (_, f) => v = f i
 | none => False
theorem ldE_some (k : TK) (n : Nat) (f : Nat → AV) (i : Nat) (v : AV) : ldE k (some (n, f)) i v = (k.one = true ∧ v = f i) := rfl
theorem ld_eptr (t : TypeId) (av : AV) (i : Nat) (v : AV) : ALoad P H t (.eptr av i) v = ldE (tkOf P t) (elemsOf av) i v := by
 unfold ALoad ldE
 cases tkOf P t <;> (cases he : elemsOf av with
  | none => simp [he, TK.one]
  | some q => simp [he, TK.one])
theorem ld_eref (t : TypeId) (id : Nat) (p : List Nat) (i : Nat) (v : AV) : ALoad P H t (.eref id p i) v = ldE (tkOf P t) (elemsT H id p) i v := by
 unfold ALoad ldE
 cases tkOf P t <;> (cases he : elemsT H id p with
  | none => simp [he, TK.one]
  | some q => simp [he, TK.one])
def TK.isSl : TK → Bool
 | .sl _ => true
 | _ => false
theorem isSl_sl (e : Nat) : TK.isSl (.sl e) = true := rfl
def ixE (k : TK) (γ : Bool) (e : Option (Nat × (Nat → AV))) (i : Int) (r v : AV) : Prop := k.isSl = true ∧ match e with
 | some (n, _) => (γ = true → 0 ≤ i ∧ i < n) ∧ v = r
 | none => False
theorem ixE_some (k : TK) (γ : Bool) (n : Nat) (f : Nat → AV) (i : Int) (r v : AV) : ixE k γ (some (n, f)) i r v = (k.isSl = true ∧ (γ = true → 0 ≤ i ∧ i < n) ∧ v = r) := rfl
theorem ix_l1 (γ : Bool) (t : TypeId) (xs : List Int) (i : Int) (v : AV) : AIndexAddr P H γ t (.l1 xs) (.int i) v = ixE (tkOf P t) γ (some (xs.length, fun i => .int (xs.getD i 0))) i (.eptr (.l1 xs) i.toNat) v := by
 unfold AIndexAddr ixE; cases tkOf P t <;> simp [TK.isSl, elemsOf]
theorem ix_l2 (γ : Bool) (t : TypeId) (xs : List (List Int)) (i : Int) (v : AV) : AIndexAddr P H γ t (.l2 xs) (.int i) v = ixE (tkOf P t) γ (some (xs.length, fun i => .l1 (xs.getD i []))) i (.eptr (.l2 xs) i.toNat) v := by
 unfold AIndexAddr ixE; cases tkOf P t <;> simp [TK.isSl, elemsOf]
theorem ix_l3 (γ : Bool) (t : TypeId) (xs : List (List (List Int))) (i : Int) (v : AV) : AIndexAddr P H γ t (.l3 xs) (.int i) v = ixE (tkOf P t) γ (some (xs.length, fun i => .l2 (xs.getD i []))) i (.eptr (.l3 xs) i.toNat) v := by
 unfold AIndexAddr ixE; cases tkOf P t <;> simp [TK.isSl, elemsOf]
theorem ix_lv (γ : Bool) (t : TypeId) (xs : List AV) (i : Int) (v : AV) : AIndexAddr P H γ t (.lv xs) (.int i) v = ixE (tkOf P t) γ (some (xs.length, fun i => xs.getD i .junk)) i (.eptr (.lv xs) i.toNat) v := by
 unfold AIndexAddr ixE; cases tkOf P t <;> simp [TK.isSl, elemsOf]
theorem ix_ref (γ : Bool) (t : TypeId) (id : Nat) (p : List Nat) (i : Int) (v : AV) : AIndexAddr P H γ t (.ref id p) (.int i) v = ixE (tkOf P t) γ (elemsT H id p) i (.eref id p i.toNat) v := by
 unfold AIndexAddr ixE; cases tkOf P t <;> (cases he : elemsT H id p with | none => simp [he, TK.isSl] | some q => simp [he, TK.isSl])
theorem ix_sub (γ : Bool) (t : TypeId) (id : Nat) (p : List Nat) (lo hi : Nat) (i : Int) (v : AV) : AIndexAddr P H γ t (.sub id p lo hi) (.int i) v = (match tkOf P t with
 | .sl _ => (match elemsT H id p with
  | some _ => (γ = true → 0 ≤ i ∧ i < (hi : Int) - lo) ∧ v = .eref id p (lo + i.toNat)
  | none => False)
 | _ => False) := by
 unfold AIndexAddr; cases tkOf P t <;> rfl
def TK.isSp : TK → Bool
 | .sp _ => true
 | _ => false
theorem isSp_sp (e : Nat) : TK.isSp (.sp e) = true := rfl
def TK.isAr (n : Nat) : TK → Bool
 | .ar m => m == n
 | _ => false
def TK.arLen : TK → Nat
 | .ar m => m
 | _ => 0
theorem arLen_ar (n : Nat) : TK.arLen (.ar n) = n := rfl
theorem isAr_ar (m n : Nat) : TK.isAr n (.ar m) = (m == n) := rfl
theorem ix_lp (γ : Bool) (t : TypeId) (ps : List (Int × Int)) (i : Int) (v : AV) : AIndexAddr P H γ t (.lp ps none) (.int i) v = ((tkOf P t).isSp = true ∧ (γ = true → 0 ≤ i ∧ i < ps.length) ∧ v = .lp ps (some i.toNat)) := by
 unfold AIndexAddr; cases tkOf P t <;> simp [TK.isSp, elemsOf]
theorem ix_bp (γ : Bool) (t : TypeId) (id off : Nat) (i : Int) (v : AV) : AIndexAddr P H γ t (.bptr id off) (.int i) v = (TK.isAr (TK.arLen (tkOf P t)) (tkOf P t) = true ∧ (γ = true → 0 ≤ i ∧ i < (TK.arLen (tkOf P t) : Nat)) ∧ v = .bptr id (off + i.toNat)) := by
 unfold AIndexAddr; cases tkOf P t <;> simp [TK.isAr, TK.arLen, elemsOf]
theorem len_lp (t : TypeId) (ps : List (Int × Int)) (v : AV) : ALen P H t (.lp ps none) v = ((tkOf P t).isSp = true ∧ v = .int ps.length) := by unfold ALen; cases tkOf P t <;> simp [TK.isSp, elemsOf]
theorem ld_lp (t : TypeId) (ps : List (Int × Int)) (i : Nat) (v : AV) : ALoad P H t (.lp ps (some i)) v = (TK.isAr 2 (tkOf P t) = true ∧ v = .agg [.int (ps.getD i (0, 0)).1, .int (ps.getD i (0, 0)).2]) := by
 unfold ALoad; cases tkOf P t <;> simp [TK.isAr]
theorem len_l1 (t : TypeId) (xs : List Int) (v : AV) : ALen P H t (.l1 xs) v = ((tkOf P t).isSl = true ∧ v = .int xs.length) := by unfold ALen; cases tkOf P t <;> simp [TK.isSl, elemsOf]
theorem len_l2 (t : TypeId) (xs : List (List Int)) (v : AV) : ALen P H t (.l2 xs) v = ((tkOf P t).isSl = true ∧ v = .int xs.length) := by unfold ALen; cases tkOf P t <;> simp [TK.isSl, elemsOf]
theorem len_l3 (t : TypeId) (xs : List (List (List Int))) (v : AV) : ALen P H t (.l3 xs) v = ((tkOf P t).isSl = true ∧ v = .int xs.length) := by unfold ALen; cases tkOf P t <;> simp [TK.isSl, elemsOf]
theorem len_lv (t : TypeId) (xs : List AV) (v : AV) : ALen P H t (.lv xs) v = ((tkOf P t).isSl = true ∧ v = .int xs.length) := by unfold ALen; cases tkOf P t <;> simp [TK.isSl, elemsOf]
theorem len_nil (t : TypeId) (v : AV) : ALen P H t .nil v = ((tkOf P t).isSl = true ∧ v = .int 0) := by unfold ALen; cases tkOf P t <;> simp [TK.isSl]
theorem len_sub (t : TypeId) (id : Nat) (p : List Nat) (lo hi : Nat) (v : AV) : ALen P H t (.sub id p lo hi) v = ((tkOf P t).isSl = true ∧ v = .int ((hi - lo : Nat))) := by unfold ALen; cases tkOf P t <;> simp [TK.isSl]
theorem len_ref (t : TypeId) (id : Nat) (p : List Nat) (v : AV) : ALen P H t (.ref id p) v = ((tkOf P t).isSl = true ∧ match elemsT H id p with
 | some (n, _) => v = .int n
 | none => False) := by unfold ALen; cases tkOf P t <;> (cases he : elemsT H id p with | none => simp [he, TK.isSl] | some q => simp [he, TK.isSl])
theorem len_str (t : TypeId) (s : ByteArray) (v : AV) : ALen P H t (.str s) v = (match tkOf P t with
 | .str => v = .int s.size
 | _ => False) := by unfold ALen; cases tkOf P t <;> rfl
def fldA (k : TK) (f : Nat) (r : Nat → AV) (v : AV) : Prop :=
 match k with
 | .st fs _ => match fs[f]? with
  | some (o, sz) => sz ≠ 0 ∧ v = r o
  | none => False
 | _ => False
theorem fldA_st (fs : List (Nat × Nat)) (sz f : Nat) (r : Nat → AV) (v : AV) : fldA (.st fs sz) f r v = (match fs[f]? with
  | some (o, sz) => sz ≠ 0 ∧ v = r o
  | none => False) := rfl
theorem fa_bptr (t : TypeId) (id off f : Nat) (v : AV) : AFieldAddr P t (.bptr id off) f v = fldA (tkOf P t) f (fun o => .bptr id (off + o)) v := by unfold AFieldAddr fldA; cases tkOf P t <;> rfl
theorem fa_cptr (t : TypeId) (vs : List AV) (off f : Nat) (v : AV) : AFieldAddr P t (.cptr vs off) f v = fldA (tkOf P t) f (fun o => .cptr vs (off + o)) v := by unfold AFieldAddr fldA; cases tkOf P t <;> rfl
def binI (γ : Bool) (b : BinOp) (p q : Int) (v : AV) : Prop :=
 match b with
  | .and => v = .int (andI p q)
  | .or => v = .int (orI p q)
  | .xor => v = .int (xorI p q)
  | .andNot => v = .int (anI p q)
  | .shl => (γ = true → 0 ≤ q) ∧ v = .int (shlI p q)
  | .shr => (γ = true → 0 ≤ q) ∧ v = .int (shrI p q)
  | .add => (γ = true → InR (p + q)) ∧ v = .int (p + q)
  | .sub => (γ = true → InR (p - q)) ∧ v = .int (p - q)
  | .mul => (γ = true → InR (p * q)) ∧ v = .int (p * q)
  | .quo => (γ = true → q ≠ 0 ∧ InR (p.tdiv q)) ∧ v = .int (p.tdiv q)
  | .rem => (γ = true → q ≠ 0 ∧ InR (p.tmod q)) ∧ v = .int (p.tmod q)
  | .eql => v = .bool (decide (p = q))
  | .neq => v = .bool (!decide (p = q))
  | .lss => v = .bool (decide (p < q))
  | .leq => v = .bool (decide (p ≤ q))
  | .gtr => v = .bool (decide (q < p))
  | .geq => v = .bool (decide (q ≤ p))
theorem bin_int (γ : Bool) (b : BinOp) (t : TypeId) (p q : Int) (v : AV) : ABin P H γ b t (.int p) (.int q) v = binI γ b p q v := rfl
theorem bi_add (γ : Bool) (p q : Int) (v : AV) : binI γ .add p q v = ((γ = true → InR (p + q)) ∧ v = .int (p + q)) := rfl
theorem bi_sub (γ : Bool) (p q : Int) (v : AV) : binI γ .sub p q v = ((γ = true → InR (p - q)) ∧ v = .int (p - q)) := rfl
theorem bi_mul (γ : Bool) (p q : Int) (v : AV) : binI γ .mul p q v = ((γ = true → InR (p * q)) ∧ v = .int (p * q)) := rfl
theorem bi_quo (γ : Bool) (p q : Int) (v : AV) : binI γ .quo p q v = ((γ = true → q ≠ 0 ∧ InR (p.tdiv q)) ∧ v = .int (p.tdiv q)) := rfl
theorem bi_rem (γ : Bool) (p q : Int) (v : AV) : binI γ .rem p q v = ((γ = true → q ≠ 0 ∧ InR (p.tmod q)) ∧ v = .int (p.tmod q)) := rfl
theorem bi_and (γ : Bool) (p q : Int) (v : AV) : binI γ .and p q v = (v = .int (andI p q)) := rfl
theorem bi_or (γ : Bool) (p q : Int) (v : AV) : binI γ .or p q v = (v = .int (orI p q)) := rfl
theorem bi_xor (γ : Bool) (p q : Int) (v : AV) : binI γ .xor p q v = (v = .int (xorI p q)) := rfl
theorem bi_an (γ : Bool) (p q : Int) (v : AV) : binI γ .andNot p q v = (v = .int (anI p q)) := rfl
theorem bi_shl (γ : Bool) (p q : Int) (v : AV) : binI γ .shl p q v = ((γ = true → 0 ≤ q) ∧ v = .int (shlI p q)) := rfl
theorem bi_shr (γ : Bool) (p q : Int) (v : AV) : binI γ .shr p q v = ((γ = true → 0 ≤ q) ∧ v = .int (shrI p q)) := rfl
theorem bs_shl (γ : Bool) (t : TypeId) (p q : Int) (k : IntKind) (v : AV) : ABin P H γ .shl t (.int p) (.ik k q) v = ((γ = true → 0 ≤ q) ∧ v = .int (shlI p q)) := rfl
theorem bs_shr (γ : Bool) (t : TypeId) (p q : Int) (k : IntKind) (v : AV) : ABin P H γ .shr t (.int p) (.ik k q) v = ((γ = true → 0 ≤ q) ∧ v = .int (shrI p q)) := rfl
theorem bi_eql (γ : Bool) (p q : Int) (v : AV) : binI γ .eql p q v = (v = .bool (decide (p = q))) := rfl
theorem bi_neq (γ : Bool) (p q : Int) (v : AV) : binI γ .neq p q v = (v = .bool (!decide (p = q))) := rfl
theorem bi_lss (γ : Bool) (p q : Int) (v : AV) : binI γ .lss p q v = (v = .bool (decide (p < q))) := rfl
theorem bi_leq (γ : Bool) (p q : Int) (v : AV) : binI γ .leq p q v = (v = .bool (decide (p ≤ q))) := rfl
theorem bi_gtr (γ : Bool) (p q : Int) (v : AV) : binI γ .gtr p q v = (v = .bool (decide (q < p))) := rfl
theorem bi_geq (γ : Bool) (p q : Int) (v : AV) : binI γ .geq p q v = (v = .bool (decide (q ≤ p))) := rfl
def binK (γ : Bool) (k : IntKind) (b : BinOp) (p q : Int) (v : AV) : Prop :=
 match b with
  | .add => v = .ik k (k.wrap (p + q))
  | .sub => v = .ik k (k.wrap (p - q))
  | .mul => v = .ik k (k.wrap (p * q))
  | .and => v = .ik k (k.wrap (BitVec.ofInt k.bits p &&& BitVec.ofInt k.bits q).toNat)
  | .or => v = .ik k (k.wrap (BitVec.ofInt k.bits p ||| BitVec.ofInt k.bits q).toNat)
  | .andNot => v = .ik k (k.wrap (BitVec.ofInt k.bits p &&& ~~~ BitVec.ofInt k.bits q).toNat)
  | .eql => v = .bool (decide (p = q))
  | .neq => v = .bool (!decide (p = q))
  | .shr => (γ = true → 0 ≤ q) ∧ v = .ik k (p.fdiv (2 ^ min q.toNat k.bits))
  | .lss => v = .bool (decide (p < q))
  | .leq => v = .bool (decide (p ≤ q))
  | .gtr => v = .bool (decide (q < p))
  | .geq => v = .bool (decide (q ≤ p))
  | _ => False
theorem bin_ik (γ : Bool) (b : BinOp) (t : TypeId) (k k' : IntKind) (p q : Int) (v : AV) : ABin P H γ b t (.ik k p) (.ik k' q) v = (k = k' ∧ binK γ k b p q v) := rfl
theorem bk_or (γ : Bool) (k : IntKind) (p q : Int) (v : AV) : binK γ k .or p q v = (v = .ik k (k.wrap (BitVec.ofInt k.bits p ||| BitVec.ofInt k.bits q).toNat)) := rfl
theorem bk_an (γ : Bool) (k : IntKind) (p q : Int) (v : AV) : binK γ k .andNot p q v = (v = .ik k (k.wrap (BitVec.ofInt k.bits p &&& ~~~ BitVec.ofInt k.bits q).toNat)) := rfl
theorem bk_eql (γ : Bool) (k : IntKind) (p q : Int) (v : AV) : binK γ k .eql p q v = (v = .bool (decide (p = q))) := rfl
theorem bk_neq (γ : Bool) (k : IntKind) (p q : Int) (v : AV) : binK γ k .neq p q v = (v = .bool (!decide (p = q))) := rfl
theorem bin_agg (γ : Bool) (b : BinOp) (t : TypeId) (xs ys : List AV) (v : AV) : ABin P H γ b t (.agg xs) (.agg ys) v = ABinS P b t (intsA xs) (intsA ys) v := rfl
theorem binS_eql (t : TypeId) (a c : List Int) (v : AV) : ABinS P .eql t (some a) (some c) v = (a.length = c.length ∧ stI P t a.length = true ∧ v = .bool (decide (a = c))) := rfl
theorem binS_neq (t : TypeId) (a c : List Int) (v : AV) : ABinS P .neq t (some a) (some c) v = (a.length = c.length ∧ stI P t a.length = true ∧ v = .bool (!decide (a = c))) := rfl
theorem intsA_nil : intsA [] = some [] := rfl
theorem intsA_cons (n : Int) (as : List AV) : intsA (.int n :: as) = (intsA as).map (n :: ·) := rfl
theorem bf_add (γ : Bool) (t : TypeId) (p q : Nat) (v : AV) : ABin P H γ .add t (.flt p) (.flt q) v = ((γ = true → fbinOk .add p q) ∧ v = .flt (fbin .add p q)) := rfl
theorem bf_sub (γ : Bool) (t : TypeId) (p q : Nat) (v : AV) : ABin P H γ .sub t (.flt p) (.flt q) v = ((γ = true → fbinOk .sub p q) ∧ v = .flt (fbin .sub p q)) := rfl
theorem bf_mul (γ : Bool) (t : TypeId) (p q : Nat) (v : AV) : ABin P H γ .mul t (.flt p) (.flt q) v = ((γ = true → fbinOk .mul p q) ∧ v = .flt (fbin .mul p q)) := rfl
theorem bf_quo (γ : Bool) (t : TypeId) (p q : Nat) (v : AV) : ABin P H γ .quo t (.flt p) (.flt q) v = ((γ = true → fbinOk .quo p q) ∧ v = .flt (fbin .quo p q)) := rfl
theorem bk_add (γ : Bool) (k : IntKind) (p q : Int) (v : AV) : binK γ k .add p q v = (v = .ik k (k.wrap (p + q))) := rfl
theorem bk_sub (γ : Bool) (k : IntKind) (p q : Int) (v : AV) : binK γ k .sub p q v = (v = .ik k (k.wrap (p - q))) := rfl
theorem bk_mul (γ : Bool) (k : IntKind) (p q : Int) (v : AV) : binK γ k .mul p q v = (v = .ik k (k.wrap (p * q))) := rfl
def andK (k : IntKind) (p q : Int) : Int := k.wrap (BitVec.ofInt k.bits p &&& BitVec.ofInt k.bits q).toNat
theorem bk_andO (γ : Bool) (k : IntKind) (p q : Int) (v : AV) : binK γ k .and p q v = (v = .ik k (andK k p q)) := rfl
theorem bk_shr (γ : Bool) (k : IntKind) (p q : Int) (v : AV) : binK γ k .shr p q v = ((γ = true → 0 ≤ q) ∧ v = .ik k (p.fdiv (2 ^ min q.toNat k.bits))) := rfl
theorem bk_lss (γ : Bool) (k : IntKind) (p q : Int) (v : AV) : binK γ k .lss p q v = (v = .bool (decide (p < q))) := rfl
theorem bk_leq (γ : Bool) (k : IntKind) (p q : Int) (v : AV) : binK γ k .leq p q v = (v = .bool (decide (p ≤ q))) := rfl
theorem bk_gtr (γ : Bool) (k : IntKind) (p q : Int) (v : AV) : binK γ k .gtr p q v = (v = .bool (decide (q < p))) := rfl
theorem bk_geq (γ : Bool) (k : IntKind) (p q : Int) (v : AV) : binK γ k .geq p q v = (v = .bool (decide (q ≤ p))) := rfl
theorem wrap_u64 (n : Int) : IntKind.wrap .u64 n = n % 18446744073709551616 := by simp [IntKind.wrap, IntKind.signed, IntKind.bits]
theorem bits_u64 : IntKind.bits .u64 = 64 := rfl
def nilE (k : TK) (γ : Bool) (b : BinOp) (e : Option (Nat × (Nat → AV))) (v : AV) : Prop := k.isSl = true ∧ match e with
 | some (n, _) => (match b with
  | .eql => (γ = true → 0 < n) ∧ v = .bool false
  | .neq => (γ = true → 0 < n) ∧ v = .bool true
  | _ => False)
 | none => False
theorem nilE_eql (k : TK) (γ : Bool) (n : Nat) (f : Nat → AV) (v : AV) : nilE k γ .eql (some (n, f)) v = (k.isSl = true ∧ (γ = true → 0 < n) ∧ v = .bool false) := rfl
theorem nilE_neq (k : TK) (γ : Bool) (n : Nat) (f : Nat → AV) (v : AV) : nilE k γ .neq (some (n, f)) v = (k.isSl = true ∧ (γ = true → 0 < n) ∧ v = .bool true) := rfl
theorem bin_l1 (γ : Bool) (b : BinOp) (t : TypeId) (xs : List Int) (v : AV) : ABin P H γ b t (.l1 xs) .nil v = nilE (tkOf P t) γ b (some (xs.length, fun i => .int (xs.getD i 0))) v := by
 unfold ABin nilE; cases tkOf P t <;> cases b <;> simp [TK.isSl, elemsOf]
theorem bin_l2 (γ : Bool) (b : BinOp) (t : TypeId) (xs : List (List Int)) (v : AV) : ABin P H γ b t (.l2 xs) .nil v = nilE (tkOf P t) γ b (some (xs.length, fun i => .l1 (xs.getD i []))) v := by
 unfold ABin nilE; cases tkOf P t <;> cases b <;> simp [TK.isSl, elemsOf]
theorem bin_l3 (γ : Bool) (b : BinOp) (t : TypeId) (xs : List (List (List Int))) (v : AV) : ABin P H γ b t (.l3 xs) .nil v = nilE (tkOf P t) γ b (some (xs.length, fun i => .l2 (xs.getD i []))) v := by
 unfold ABin nilE; cases tkOf P t <;> cases b <;> simp [TK.isSl, elemsOf]
theorem bin_ref (γ : Bool) (b : BinOp) (t : TypeId) (id : Nat) (p : List Nat) (v : AV) : ABin P H γ b t (.ref id p) .nil v = nilE (tkOf P t) γ b (elemsT H id p) v := by
 unfold ABin nilE; cases tkOf P t <;> (cases he : elemsT H id p with | none => cases b <;> simp [he, TK.isSl] | some q => cases b <;> simp [he, TK.isSl])
theorem bin_nil_eql (γ : Bool) (t : TypeId) (v : AV) : ABin P H γ .eql t .nil .nil v = ((tkOf P t).isSl = true ∧ v = .bool true) := by
 unfold ABin; cases tkOf P t <;> simp [TK.isSl]
theorem bin_nil_neq (γ : Bool) (t : TypeId) (v : AV) : ABin P H γ .neq t .nil .nil v = ((tkOf P t).isSl = true ∧ v = .bool false) := by
 unfold ABin; cases tkOf P t <;> simp [TK.isSl]
theorem bin_str (γ : Bool) (b : BinOp) (t : TypeId) (p q : ByteArray) (v : AV) : ABin P H γ b t (.str p) (.str q) v = (match b with
  | .add => (γ = true → p.size + q.size ≤ 1099511627776) ∧ v = .str (p ++ q)
  | .eql => v = .bool (p.toList == q.toList)
  | .neq => v = .bool (!(p.toList == q.toList))
  | _ => False) := rfl
theorem bin_bool (γ : Bool) (b : BinOp) (t : TypeId) (p q : Bool) (v : AV) : ABin P H γ b t (.bool p) (.bool q) v = (match tkOf P t with
  | .bool => (match b with
   | .eql => v = .bool (p == q)
   | .neq => v = .bool (!(p == q))
   | _ => False)
  | _ => False) := by unfold ABin; cases tkOf P t <;> cases b <;> rfl
theorem un_not (γ : Bool) (b : Bool) (v : AV) : AUn γ .not (.bool b) v = (v = .bool (!b)) := rfl
theorem un_neg (γ : Bool) (n : Int) (v : AV) : AUn γ .neg (.int n) v = ((γ = true → InR (0 - n)) ∧ v = .int (0 - n)) := rfl
theorem boolOf_bool (b : Bool) : boolOf (.bool b) = some (true, b) := rfl
theorem boolOf_when (g b : Bool) : boolOf (.when g (.bool b)) = some (g, b) := rfl
end
end Go.Aw
namespace Go.Aw
open Go.RowKit
def gRun (b : Bool) (P : Program) (ops : Array Oper) (n : Nat) (l : List Oper) (st : St) (K : St → Prop) : Prop :=
 match b with
 | true => fRun P ops n l st K
 | false => lRun P ops n l st K
def wrp (w : Option Bool) (v : AV) : AV :=
 match w with
 | none => v
 | some γ => .when γ v
theorem wrp_none (v : AV) : wrp none v = v := rfl
theorem wrp_some (γ : Bool) (v : AV) : wrp (some γ) v = .when γ v := rfl
def YR (b : Bool) (P : Program) (ops : Array Oper) (n : Nat) (r : List Oper) (st : St) (d : Option Nat) (w : Option Bool) (K : St → Prop) (p : AV → Prop) : Prop := ∃ v, p v ∧ gRun b P ops n r ⟨putL d (wrp w v) st.s, st.H⟩ K
def MK (b : Bool) (P : Program) (ops : Array Oper) (n : Nat) (r : List Oper) (st : St) (d : Option Nat) (K : St → Prop) (v : AV) (all subs : List Nat) (H' : List (Nat × Tree)) : Prop := gRun b P ops n r ⟨putL d v (killL all subs st.s), H'⟩ K
def FK (P : Program) (ops : Array Oper) (n : Nat) (r : List Oper) (st : St) (d : Option Nat) (K : St → Prop) (v : AV) (all subs : List Nat) (H' : List (Nat × Tree)) : Prop := gRun true P ops n r ⟨putL d v (killS all subs st.s), H'⟩ K
section
variable {b : Bool} {P : Program} {ops : Array Oper} {n : Nat} {r : List Oper} {st : St} {K : St → Prop}
theorem YR_eq {d : Option Nat} {w : Option Bool} (a : AV) : YR b P ops n r st d w K (fun v => v = a) = gRun b P ops n r ⟨putL d (wrp w a) st.s, st.H⟩ K := propext ⟨fun ⟨_, h, k⟩ => h ▸ k, fun k => ⟨a, rfl, k⟩⟩
theorem YR_and {d : Option Nat} {w : Option Bool} (c : Prop) (p : AV → Prop) : YR b P ops n r st d w K (fun v => c ∧ p v) = (c ∧ YR b P ops n r st d w K p) := propext ⟨fun ⟨v, ⟨h1, h2⟩, k⟩ => ⟨h1, v, h2, k⟩, fun ⟨h1, v, h2, k⟩ => ⟨v, ⟨h1, h2⟩, k⟩⟩
theorem YR_intro {d : Option Nat} {w : Option Bool} {p : AV → Prop} {v : AV} (h : p v) (k : gRun b P ops n r ⟨putL d (wrp w v) st.s, st.H⟩ K) : YR b P ops n r st d w K p := ⟨v, h, k⟩
theorem MK_00 {d : Option Nat} (v : AV) (H' : List (Nat × Tree)) : MK b P ops n r st d K v [] [] H' = gRun b P ops n r ⟨putL d v st.s, H'⟩ K := by
 unfold MK; rw [← killS_eq]; rfl
theorem MK_10 {d : Option Nat} (v : AV) (i : Nat) (H' : List (Nat × Tree)) : MK b P ops n r st d K v [i] [] H' = gRun b P ops n r ⟨putL d v (killL [i] [] st.s), H'⟩ K := rfl
theorem MK_01 {d : Option Nat} (v : AV) (i : Nat) (H' : List (Nat × Tree)) : MK b P ops n r st d K v [] [i] H' = gRun b P ops n r ⟨putL d v (killL [] [i] st.s), H'⟩ K := rfl
theorem MK_11 {d : Option Nat} (v : AV) (i j : Nat) (H' : List (Nat × Tree)) : MK b P ops n r st d K v [i] [j] H' = gRun b P ops n r ⟨putL d v (killL [i] [j] st.s), H'⟩ K := rfl
theorem MK_20 {d : Option Nat} (v : AV) (i j : Nat) (H' : List (Nat × Tree)) : MK b P ops n r st d K v [i, j] [] H' = gRun b P ops n r ⟨putL d v (killL [i, j] [] st.s), H'⟩ K := rfl
theorem FK_0 {d : Option Nat} (v : AV) (H' : List (Nat × Tree)) : FK P ops n r st d K v [] [] H' = gRun true P ops n r ⟨putL d v st.s, H'⟩ K := rfl
theorem FK_s {d : Option Nat} (v : AV) (i : Nat) (is : List Nat) (H' : List (Nat × Tree)) : FK P ops n r st d K v [] (i :: is) H' = gRun true P ops n r ⟨putL d v (killL [] (i :: is) st.s), H'⟩ K := rfl
theorem FK_a {d : Option Nat} (v : AV) (i : Nat) (is subs : List Nat) (H' : List (Nat × Tree)) : FK P ops n r st d K v (i :: is) subs H' = gRun true P ops n r ⟨putL d v (killL (i :: is) subs st.s), H'⟩ K := by cases subs <;> rfl
theorem gRun_nil : gRun b P ops n [] st K = K st := by cases b <;> rfl
def pRun (b : Bool) (P : Program) (ops : Array Oper) (n : Nat) (r : List Oper) (st : St) (d : Option Nat) (op : Op) (gd : Option (Nat × Bool)) (K : St → Prop) : Prop :=
 dstLt n d ∧ match gd with
 | none => YR b P ops n r st d none K (fun v => AVal P st.H true (evF st.get) op v)
 | some (j, want) => match (ops[j]?).bind (·.dst) with
  | some e => match boolOf (st.get e) with
   | some (gg, q) => YR b P ops n r st d (some (gg && (q == want))) K (fun v => AVal P st.H (gg && (q == want)) (evF st.get) op v)
   | none => False
  | none => False
theorem pRun_none (d : Option Nat) (op : Op) : pRun b P ops n r st d op none K = (dstLt n d ∧ YR b P ops n r st d none K (fun v => AVal P st.H true (evF st.get) op v)) := rfl
theorem pRun_some (d : Option Nat) (op : Op) (j : Nat) (want : Bool) : pRun b P ops n r st d op (some (j, want)) K = (dstLt n d ∧ match (ops[j]?).bind (·.dst) with
  | some e => match boolOf (st.get e) with
   | some (gg, q) => YR b P ops n r st d (some (gg && (q == want))) K (fun v => AVal P st.H (gg && (q == want)) (evF st.get) op v)
   | none => False
  | none => False) := rfl
theorem pRun_of {d : Option Nat} {op : Op} {gd : Option (Nat × Bool)} : pOper P ops n st d op gd (fun st' => gRun b P ops n r st' K) = pRun b P ops n r st d op gd K := by
 unfold pOper pRun
 congr 1
def mRun (b : Bool) (P : Program) (ops : Array Oper) (n : Nat) (r : List Oper) (st : St) (d : Option Nat) (op : Op) (K : St → Prop) : Prop := dstLt n d ∧ AHeap P st.H (evF st.get) op (MK b P ops n r st d K)
theorem mRun_def (d : Option Nat) (op : Op) : mRun b P ops n r st d op K = (dstLt n d ∧ AHeap P st.H (evF st.get) op (MK b P ops n r st d K)) := rfl
theorem gRun_pure {d : Option Nat} {op : Op} {ty : TypeId} {pos : String} {af : Array Edge} {gd : Option (Nat × Bool)} (hp : pureOp op = true) (hc : b = true → ∀ K, fOper P ops n st ⟨d, op, ty, pos, af, gd⟩ K = pOper P ops n st d op gd K) :
  gRun b P ops n (⟨d, op, ty, pos, af, gd⟩ :: r) st K = pRun b P ops n r st d op gd K := by
 rw [← pRun_of]
 cases b with
 | true =>
  show fOper P ops n st ⟨d, op, ty, pos, af, gd⟩ (fun st' => fRun P ops n r st' K) = _
  exact hc rfl _
 | false =>
  show lOper P ops n st ⟨d, op, ty, pos, af, gd⟩ (fun st' => lRun P ops n r st' K) = _
  exact lOper_pure hp
theorem gRun_heap {d : Option Nat} {op : Op} {ty : TypeId} {pos : String} {af : Array Edge} (hp : pureOp op = false) (hc : ∀ K, fOper P ops n st ⟨d, op, ty, pos, af, none⟩ K = mOper P n st d op K) :
  gRun b P ops n (⟨d, op, ty, pos, af, none⟩ :: r) st K = mRun b P ops n r st d op K := by
 cases b with
 | true =>
  show fOper P ops n st ⟨d, op, ty, pos, af, none⟩ (fun st' => fRun P ops n r st' K) = _
  exact hc _
 | false =>
  show lOper P ops n st ⟨d, op, ty, pos, af, none⟩ (fun st' => lRun P ops n r st' K) = _
  exact lOper_heap (ops := ops) hp
theorem gr_move {d : Option Nat} {ty : TypeId} {pos : String} {af : Array Edge} {gd : Option (Nat × Bool)} (x : Operand) : gRun b P ops n (⟨d, (.move x), ty, pos, af, gd⟩ :: r) st K = pRun b P ops n r st d (.move x) gd K := gRun_pure rfl (fun _ _ => fo_move ..)
theorem gr_assign {d : Option Nat} {ty : TypeId} {pos : String} {af : Array Edge} {gd : Option (Nat × Bool)} (x : Operand) : gRun b P ops n (⟨d, (.assign x), ty, pos, af, gd⟩ :: r) st K = pRun b P ops n r st d (.assign x) gd K := gRun_pure rfl (fun _ _ => fo_assign ..)
theorem gr_pick {d : Option Nat} {ty : TypeId} {pos : String} {af : Array Edge} {gd : Option (Nat × Bool)} (c a q : Operand) : gRun b P ops n (⟨d, (.pick c a q), ty, pos, af, gd⟩ :: r) st K = pRun b P ops n r st d (.pick c a q) gd K := gRun_pure rfl (fun _ _ => fo_pick ..)
theorem gr_load {d : Option Nat} {ty : TypeId} {pos : String} {af : Array Edge} {gd : Option (Nat × Bool)} (t : TypeId) (p : Operand) : gRun b P ops n (⟨d, (.load t p), ty, pos, af, gd⟩ :: r) st K = pRun b P ops n r st d (.load t p) gd K := gRun_pure rfl (fun _ _ => fo_load ..)
theorem gr_indexAddr {d : Option Nat} {ty : TypeId} {pos : String} {af : Array Edge} {gd : Option (Nat × Bool)} (t : TypeId) (x i : Operand) : gRun b P ops n (⟨d, (.indexAddr t x i), ty, pos, af, gd⟩ :: r) st K = pRun b P ops n r st d (.indexAddr t x i) gd K := gRun_pure rfl (fun _ _ => fo_indexAddr ..)
theorem gr_fieldAddr {d : Option Nat} {ty : TypeId} {pos : String} {af : Array Edge} {gd : Option (Nat × Bool)} (t : TypeId) (p : Operand) (f : Nat) : gRun b P ops n (⟨d, (.fieldAddr t p f), ty, pos, af, gd⟩ :: r) st K = pRun b P ops n r st d (.fieldAddr t p f) gd K := gRun_pure rfl (fun _ _ => fo_fieldAddr ..)
theorem gr_field {d : Option Nat} {ty : TypeId} {pos : String} {af : Array Edge} {gd : Option (Nat × Bool)} (t : TypeId) (p : Operand) (f : Nat) : gRun b P ops n (⟨d, (.field t p f), ty, pos, af, gd⟩ :: r) st K = pRun b P ops n r st d (.field t p f) gd K := gRun_pure rfl (fun _ _ => fo_field ..)
theorem gr_bld {d : Option Nat} {ty : TypeId} {pos : String} {af : Array Edge} {gd : Option (Nat × Bool)} (t : TypeId) (parts : Array (Nat × Operand)) : gRun b P ops n (⟨d, (.build t parts), ty, pos, af, gd⟩ :: r) st K = pRun b P ops n r st d (.build t parts) gd K := gRun_pure rfl (fun _ _ => fo_bld ..)
theorem gr_binOp {d : Option Nat} {ty : TypeId} {pos : String} {af : Array Edge} {gd : Option (Nat × Bool)} (bo : BinOp) (t : TypeId) (x y : Operand) (t' : TypeId) : gRun b P ops n (⟨d, (.binOp bo t x y t'), ty, pos, af, gd⟩ :: r) st K = pRun b P ops n r st d (.binOp bo t x y t') gd K := gRun_pure rfl (fun _ _ => fo_binOp ..)
theorem gr_unOp {d : Option Nat} {ty : TypeId} {pos : String} {af : Array Edge} {gd : Option (Nat × Bool)} (u : UnOp) (t : TypeId) (x : Operand) : gRun b P ops n (⟨d, (.unOp u t x), ty, pos, af, gd⟩ :: r) st K = pRun b P ops n r st d (.unOp u t x) gd K := gRun_pure rfl (fun _ _ => fo_unOp ..)
theorem gr_nilCheck {d : Option Nat} {ty : TypeId} {pos : String} {af : Array Edge} {gd : Option (Nat × Bool)} (x : Operand) : gRun b P ops n (⟨d, (.nilCheck x), ty, pos, af, gd⟩ :: r) st K = pRun b P ops n r st d (.nilCheck x) gd K := gRun_pure rfl (fun _ _ => fo_nilCheck ..)
theorem gr_convert {d : Option Nat} {ty : TypeId} {pos : String} {af : Array Edge} {gd : Option (Nat × Bool)} (s d' : TypeId) (x : Operand) : gRun b P ops n (⟨d, (.convert s d' x), ty, pos, af, gd⟩ :: r) st K = pRun b P ops n r st d (.convert s d' x) gd K := gRun_pure rfl (fun _ _ => fo_convert ..)
theorem gr_extract {d : Option Nat} {ty : TypeId} {pos : String} {af : Array Edge} {gd : Option (Nat × Bool)} (x : Operand) (i : Nat) : gRun b P ops n (⟨d, (.extract x i), ty, pos, af, gd⟩ :: r) st K = pRun b P ops n r st d (.extract x i) gd K := gRun_pure rfl (fun _ _ => fo_extract ..)
theorem gr_slice {d : Option Nat} {ty : TypeId} {pos : String} {af : Array Edge} {gd : Option (Nat × Bool)} (t : TypeId) (x : Operand) (lo hi mx : Option Operand) : gRun b P ops n (⟨d, (.slice t x lo hi mx), ty, pos, af, gd⟩ :: r) st K = pRun b P ops n r st d (.slice t x lo hi mx) gd K := gRun_pure rfl (fun _ _ => fo_slice ..)
theorem gr_makeFunc {d : Option Nat} {ty : TypeId} {pos : String} {af : Array Edge} {gd : Option (Nat × Bool)} (g : Fn) (first : Array Operand) (caps : Array Operand) : gRun b P ops n (⟨d, (.makeFunc g first caps), ty, pos, af, gd⟩ :: r) st K = pRun b P ops n r st d (.makeFunc g first caps) gd K := gRun_pure rfl (fun _ _ => fo_makeFunc ..)
theorem gr_len {d : Option Nat} {ty : TypeId} {pos : String} {af : Array Edge} {gd : Option (Nat × Bool)} (args : Array Operand) (ts : Array TypeId) : gRun b P ops n (⟨d, (.call ⟨.builtin .len, args, ts⟩), ty, pos, af, gd⟩ :: r) st K = pRun b P ops n r st d (.call ⟨.builtin .len, args, ts⟩) gd K := gRun_pure rfl (fun _ _ => fo_len ..)
theorem gr_cap {d : Option Nat} {ty : TypeId} {pos : String} {af : Array Edge} {gd : Option (Nat × Bool)} (args : Array Operand) (ts : Array TypeId) : gRun b P ops n (⟨d, (.call ⟨.builtin .cap, args, ts⟩), ty, pos, af, gd⟩ :: r) st K = pRun b P ops n r st d (.call ⟨.builtin .cap, args, ts⟩) gd K := gRun_pure rfl (fun _ _ => fo_cap ..)
theorem gr_max {d : Option Nat} {ty : TypeId} {pos : String} {af : Array Edge} {gd : Option (Nat × Bool)} (args : Array Operand) (ts : Array TypeId) : gRun b P ops n (⟨d, (.call ⟨.builtin .max, args, ts⟩), ty, pos, af, gd⟩ :: r) st K = pRun b P ops n r st d (.call ⟨.builtin .max, args, ts⟩) gd K := gRun_pure rfl (fun _ _ => fo_max ..)
theorem gr_min {d : Option Nat} {ty : TypeId} {pos : String} {af : Array Edge} {gd : Option (Nat × Bool)} (args : Array Operand) (ts : Array TypeId) : gRun b P ops n (⟨d, (.call ⟨.builtin .min, args, ts⟩), ty, pos, af, gd⟩ :: r) st K = pRun b P ops n r st d (.call ⟨.builtin .min, args, ts⟩) gd K := gRun_pure rfl (fun _ _ => fo_min ..)
theorem gr_alloc {d : Option Nat} {ty : TypeId} {pos : String} {af : Array Edge} (t : TypeId) : gRun b P ops n (⟨d, (.alloc t), ty, pos, af, none⟩ :: r) st K = mRun b P ops n r st d (.alloc t) K := gRun_heap rfl (fun _ => fo_alloc ..)
theorem gr_box {d : Option Nat} {ty : TypeId} {pos : String} {af : Array Edge} (t : TypeId) (x : Operand) : gRun b P ops n (⟨d, (.box t x), ty, pos, af, none⟩ :: r) st K = mRun b P ops n r st d (.box t x) K := gRun_heap rfl (fun _ => fo_box ..)
theorem gr_build {d : Option Nat} {ty : TypeId} {pos : String} {af : Array Edge} (t : TypeId) (len : Nat) (parts : Array (Nat × Operand)) : gRun b P ops n (⟨d, (.buildSlice t len parts), ty, pos, af, none⟩ :: r) st K = mRun b P ops n r st d (.buildSlice t len parts) K := gRun_heap rfl (fun _ => fo_build ..)
theorem gr_make {d : Option Nat} {ty : TypeId} {pos : String} {af : Array Edge} (t : TypeId) (l c : Operand) : gRun b P ops n (⟨d, (.makeSlice t l c), ty, pos, af, none⟩ :: r) st K = mRun b P ops n r st d (.makeSlice t l c) K := gRun_heap rfl (fun _ => fo_make ..)
theorem gr_store {d : Option Nat} {ty : TypeId} {pos : String} {af : Array Edge} (t : TypeId) (p v : Operand) : gRun b P ops n (⟨d, (.store t p v), ty, pos, af, none⟩ :: r) st K = mRun b P ops n r st d (.store t p v) K := gRun_heap rfl (fun _ => fo_store ..)
theorem gr_append {d : Option Nat} {ty : TypeId} {pos : String} {af : Array Edge} (args : Array Operand) (ts : Array TypeId) : gRun b P ops n (⟨d, (.call ⟨.builtin .append, args, ts⟩), ty, pos, af, none⟩ :: r) st K = mRun b P ops n r st d (.call ⟨.builtin .append, args, ts⟩) K := gRun_heap rfl (fun _ => fo_append ..)
theorem gr_copy {d : Option Nat} {ty : TypeId} {pos : String} {af : Array Edge} (args : Array Operand) (ts : Array TypeId) : gRun b P ops n (⟨d, (.call ⟨.builtin .copy, args, ts⟩), ty, pos, af, none⟩ :: r) st K = mRun b P ops n r st d (.call ⟨.builtin .copy, args, ts⟩) K := gRun_heap rfl (fun _ => fo_copy ..)
theorem gr_callg {d : Option Nat} {ty : TypeId} {pos : String} {af : Array Edge} {gd : Nat × Bool} (g : Operand) (args : Array Operand) (ts : Array TypeId) : gRun b P ops n (⟨d, .call ⟨.value g, args, ts⟩, ty, pos, af, some gd⟩ :: r) st K = pRun b P ops n r st d (.call ⟨.value g, args, ts⟩) (some gd) K :=
 gRun_pure rfl (fun _ _ => fo_callg ..)
theorem gr_calld {d : Option Nat} {ty : TypeId} {pos : String} {af : Array Edge} {gd : Option (Nat × Bool)} (g : Operand) (args : Array Operand) (ts : Array TypeId) : gRun false P ops n (⟨d, .call ⟨.value g, args, ts⟩, ty, pos, af, gd⟩ :: r) st K = pRun false P ops n r st d (.call ⟨.value g, args, ts⟩) gd K :=
 gRun_pure rfl (fun h => by cases h)
def cRun (P : Program) (ops : Array Oper) (n : Nat) (r : List Oper) (st : St) (d : Option Nat) (K : St → Prop) (args : List AV) (g : AV) : Prop :=
 match strip g with
 | .fn f caps => okG true g ∧ okGs true args ∧ FCall P st.H f (args.map strip ++ caps) (FK P ops n r st d K)
 | _ => False
theorem cRun_fn {d : Option Nat} (args : List AV) (f : Nat) (caps : List AV) : cRun P ops n r st d K args (.fn f caps) = (okGs true args ∧ FCall P st.H f (args.map strip ++ caps) (FK P ops n r st d K)) := by
 simp only [cRun, strip, okG, true_and]
theorem gr_call {d : Option Nat} {ty : TypeId} {pos : String} {af : Array Edge} (g : Operand) (args : Array Operand) (ts : Array TypeId) : gRun true P ops n (⟨d, .call ⟨.value g, args, ts⟩, ty, pos, af, none⟩ :: r) st K = (dstLt n d ∧ cRun P ops n r st d K (args.toList.map (evF st.get)) (evF st.get g)) := rfl
end
section
variable {P : Program} {cx : Cx} {n : Nat} {Q : SQ} {st : St} {cs : List Code}
theorem ats_go {id : Nat} {l : List Oper} (hx : ∀ o ∈ l, ∀ d, o.dst = some d → cx.fix d = false) (h : ∀ K : St → Prop, (∀ s, ATs P cx n cs Q s → K s) → gRun true P l.toArray n l st K) : ATs P cx n (.region id l.toArray false :: cs) Q st := ats_run hx h
theorem ats_pick {id : Nat} {l : List Oper} (hx : ∀ o ∈ l, ∀ d, o.dst = some d → cx.fix d = false) (hm : P.follows .mixedOrders = true) (hB : drawOk l.toArray = true) (h : ∀ K : St → Prop, (∀ s, ATs P cx n cs Q s → K s) → gRun false P l.toArray n l st K) : ATs P cx n (.region id l.toArray true :: cs) Q st := ats_draw hx hm hB h
theorem ats_yes {x : Operand} {a b : Code} (hx : strip (evF st.get x) = .bool true) (hg : okG true (evF st.get x)) (h : ATs P cx n (a :: cs) Q st) : ATs P cx n (.cond x a b :: cs) Q st := ats_cond hx hg (fun _ => h) (fun h => by cases h)
theorem ats_no {x : Operand} {a b : Code} (hx : strip (evF st.get x) = .bool false) (hg : okG true (evF st.get x)) (h : ATs P cx n (b :: cs) Q st) : ATs P cx n (.cond x a b :: cs) Q st := ats_cond hx hg (fun h => by cases h) (fun _ => h)
end
section
variable {P : Program} {cx : Cx} {n : Nat} {Q : SQ} {st : St} {cs : List Code}
end
end Go.Aw
namespace Go.Aw
theorem aI {a b : Prop} (ha : a := by first | omega | (intro hq; first | omega | (simp at hq <;> omega) | (simp_all <;> omega))) (hb : b) : a ∧ b := ⟨ha, hb⟩
theorem leS : (∀ st, SlotsLe st [] = True) ∧ (∀ st k v r, SlotsLe st ((k, v) :: r) = (st.get k = v ∧ SlotsLe st r)) ∧ (∀ s H k, St.get ⟨s, H⟩ k = slotGet s k) ∧ (∀ j v r k, slotGet ((j, v) :: r) k = if j = k then v else slotGet r k) ∧ (∀ k, slotGet [] k = .junk) ∧
  (∀ a b, (AV.int a = AV.int b) = (a = b)) ∧ (∀ a b, (AV.bool a = AV.bool b) = (a = b)) ∧ (∀ a b, (AV.l1 a = AV.l1 b) = (a = b)) ∧ (∀ a b, (AV.l2 a = AV.l2 b) = (a = b)) ∧ (∀ a b, (AV.l3 a = AV.l3 b) = (a = b)) :=
 ⟨fun _ => rfl, fun _ _ _ _ => rfl, fun _ _ _ => rfl, fun _ _ _ _ => rfl, fun _ => rfl, fun _ _ => by simp, fun _ _ => by simp, fun _ _ => by simp, fun _ _ => by simp, fun _ _ => by simp⟩
attribute [go_sem] one_sp one_ar okRef strip_val okG_val view1_val viewB_val view_val cellsA_val oneA_val killA_val strip_lp okG_lp view1_lp viewB_lp view_lp cellsA_lp oneA_lp killA_lp ix_lp ix_bp len_lp ld_lp isSp_sp isAr_ar arLen_ar ABuildP AAppP okPart gr_bld putParts_nil putParts_cons ABuildS AVal APick AConv byteOf bytesOf TK.num ASlice ABuiltin okGs elemsOf elemsT AHeap AHeapB ABuild AMake numA AStore AAppend AAppN ACopy AApp target kindTree srcD srcR2 srcR3 srcLv cutTree cutData evF ofV1 ofV find putT killAs killT_e killH rmT views viewsB views1 viewT isData areData isL1 isL2 isL3 isLv isInt allSome inOrder newId argSlots slotGet St.get putL killL qOf InR AField strip_int okG_int strip_flt okG_flt strip_ik okG_ik strip_bool okG_bool strip_str okG_str strip_nil okG_nil strip_nilfn okG_nilfn strip_l1 okG_l1 strip_l2 okG_l2 strip_l3 okG_l3 strip_lv okG_lv strip_agg okG_agg strip_tup okG_tup strip_fn okG_fn strip_eptr okG_eptr strip_cptr okG_cptr strip_ref okG_ref strip_sub okG_sub strip_eref okG_eref strip_bptr okG_bptr strip_junk okG_junk strip_when okG_when view1_int viewB_int view_int cellsA_int oneA_int killA_int view1_flt viewB_flt view_flt cellsA_flt oneA_flt killA_flt view1_ik viewB_ik view_ik cellsA_ik oneA_ik killA_ik view1_bool viewB_bool view_bool cellsA_bool oneA_bool killA_bool view1_str viewB_str view_str cellsA_str oneA_str killA_str view1_nil viewB_nil view_nil cellsA_nil oneA_nil killA_nil view1_nilfn viewB_nilfn view_nilfn cellsA_nilfn oneA_nilfn killA_nilfn view1_l1 viewB_l1 view_l1 cellsA_l1 oneA_l1 killA_l1 view1_l2 viewB_l2 view_l2 cellsA_l2 oneA_l2 killA_l2 view1_l3 viewB_l3 view_l3 cellsA_l3 oneA_l3 killA_l3 killA_junk killA_ref killA_sub killA_eref killA_bptr killA_lv killA_agg killA_tup killA_fn killA_cptr killA_eptr killA_when view1_ref view1_sub view1_agg view1_tup viewB_ref view_ref viewB_sub view_sub viewB_agg view_agg viewB_tup view_tup viewB_cptr view_cptr viewB_lv view_lv viewB_bptr view_bptr view_fn view1_lv view1_fn view1_cptr cellsA_agg cellsA_ref cellsA_sub cellsA_lv cellsA_fn cellsA_cptr cellsA_eptr cellsA_bptr oneA_agg oneA_ref oneA_sub oneA_lv oneA_fn oneA_bptr dstLt_some dstLt_none bi_and bi_or bi_xor bi_an bi_shl bi_shr bs_shl bs_shr bi_add bi_sub bi_mul bi_quo bi_rem bi_eql bi_neq bi_lss bi_leq bi_gtr bi_geq ldB_bx one_sl one_int one_flt one_ik one_bool one_str one_cell one_st ld_bptr ld_cptr ldE_some ld_eptr ld_eref isSl_sl ixE_some ix_l1 ix_l2 ix_l3 ix_lv ix_ref ix_sub len_l1 len_l2 len_l3 len_lv len_nil len_sub len_ref len_str fldA_st fa_bptr fa_cptr bin_int bin_ik bk_or bk_an bk_eql bk_neq bin_agg binS_eql binS_neq intsA_nil intsA_cons Option.map_some bf_add bf_sub bf_mul bf_quo bk_add bk_sub bk_mul bk_andO bk_shr bk_lss bk_leq bk_gtr bk_geq wrap_u64 bits_u64 nilE_eql nilE_neq bin_l1 bin_l2 bin_l3 bin_ref bin_nil_eql bin_nil_neq bin_str bin_bool un_not un_neg boolOf_bool boolOf_when wrp_none wrp_some YR_eq YR_and MK_00 MK_10 MK_01 MK_11 MK_20 FK_0 FK_s FK_a gRun_nil pRun_none pRun_some mRun_def gr_move gr_assign gr_pick gr_load gr_indexAddr gr_fieldAddr gr_field gr_binOp gr_unOp gr_nilCheck isPtr_bptr isPtr_cptr gr_convert gr_extract gr_slice gr_makeFunc gr_len gr_cap gr_max gr_min gr_alloc gr_box gr_build gr_make gr_store gr_append gr_copy gr_callg gr_calld cRun_fn gr_call
attribute [go_sem] List.isEmpty List.filter_cons List.filter_nil List.map_cons List.map_nil List.all_cons List.all_nil List.any_cons List.any_nil List.contains_cons List.contains_nil List.getD_cons_zero List.getD_cons_succ List.set_cons_zero List.set_cons_succ List.length_cons List.length_nil List.toList_toArray List.getElem?_toArray List.getElem?_cons_zero List.getElem?_cons_succ Option.bind_some Option.bind_none Option.map_some Option.map_none Option.isSome_some Option.some.injEq and_assoc and_true true_and if_true if_false ite_true ite_false exists_and_left exists_eq_left exists_eq_left' exists_eq_right forall_const Bool.not_true Bool.not_false Bool.true_and Bool.and_true Bool.false_and Bool.and_false Bool.or_true Bool.or_false Bool.true_or Bool.false_or Bool.false_eq_true Bool.true_eq_false Int.toNat_natCast Int.toNat_zero Int.toNat_one Int.sub_zero Nat.zero_add Nat.add_zero List.isEmpty_nil List.isEmpty_cons beq_self_eq_true Nat.max_def ne_eq not_false_eq_true bne_self_eq_false cond_true cond_false List.append_nil List.nil_append List.cons_append List.take_zero List.take_succ_cons List.take_nil List.drop_zero List.drop_succ_cons List.drop_nil imp_self implies_true beqT beqF Bool.not_eq_true' Bool.cond_true_left Bool.cond_false_right
end Go.Aw
namespace Go.Aw
open Go.ChangeShapes Go.WideShapes Go.RowKit Go.Deep
section
variable {H : Type} {enc : TypeId × Value → H} {P : Program} {w : World} {held : Bool}
theorem slC_of {a : Addr} {len cap : Nat} {V : Nat → Value} (hl : len ≤ cap) (hm : cap ≤ maxLen) (hx : ∀ i, i < cap → w.cell? (a.add i) = some (V i)) :
  SlC w (lower w) ((List.range len).map V) (.slice (some a) len cap) := by
 by_cases hc : cap = 0
 ·subst hc
  obtain rfl : len = 0 := by omega
  exact .inl ⟨⟨some a, rfl⟩, rfl⟩
 ·have h0 := hx 0 (by omega)
  have hs : a.spot = none := by
   simp only [Addr.add, if_true, World.cell?] at h0
   split at h0
   ·split at h0
    ·cases h0
    ·rename_i hn; simpa using hn
   ·cases h0
  obtain ⟨b, off, s⟩ := a
  simp only at hs
  subst hs
  have hadd : ∀ i, Addr.add ⟨b, off, none⟩ i = ⟨b, off + i, none⟩ := fun i => by
   unfold Addr.add
   split
   ·simp_all
   ·rfl
  have hb : b < w.heap.size := cell_lt (by rw [hadd] at h0; exact h0)
  refine .inr ⟨b, off, cap, by simp, by simpa using hl, hm, hb, fun i u hu => ?_⟩
  have hi : i < len := by
   have := (List.getElem?_eq_some_iff.1 hu).1
   simpa using this
  simp only [List.getElem?_map, List.getElem?_range hi, Option.map_some, Option.some.injEq] at hu
  subst hu
  rw [← hadd]
  exact hx i (by omega)
theorem all2_range {α β : Type} {R : α → β → Prop} {V : Nat → β} : ∀ {n : Nat}, (∀ i, i < n → ∃ x, R x (V i)) → ∃ xs : List α, All2 R xs ((List.range n).map V)
 | 0, _ => ⟨[], trivial⟩
 | n + 1, h => by
  obtain ⟨xs, hxs⟩ := all2_range (n := n) (fun i hi => h i (by omega))
  obtain ⟨x, hx⟩ := h n (by omega)
  refine ⟨xs ++ [x], ?_⟩
  rw [List.range_succ, List.map_append]
  exact hxs.append ⟨hx, trivial⟩
theorem rdSl {α : Type} {R : α → Value → Prop} {t e : TypeId} {n : Nat} {v : Value} {x : DataW H × List MemPlace} (ht : P.underlying t = some (.slice e)) (hc : P.cellsOf e = 1)
  (each : ∀ (m : Nat) (u : Value) (y : DataW H × List MemPlace), DataW.trod enc P w 0 (fun _ => true) held m e [u] = some y → ∃ a, R a u)
  (h : DataW.trod enc P w 0 (fun _ => true) held n t [v] = some x) : ∃ (xs : List α) (us : List Value), SlC w (lower w) us v ∧ All2 R xs us := by
 rcases open_slice1 ht hc h with ⟨h1, _⟩ | ⟨a, len, cap, m, n', V, D, Pl, h1, _, hl, hm, hmm, _, hx⟩
 ·cases h1
  exact ⟨[], [], .inl ⟨⟨none, rfl⟩, rfl⟩, trivial⟩
 ·obtain rfl := List.singleton_inj.1 h1
  have hx : ∀ i, i < cap → w.cell? (a.add i) = some (V i) ∧ DataW.trod enc P w 0 (fun _ => true) held n' e [V i] = some (D i, Pl i) := fun i hi => hx i (by simpa [hmm] using hi)
  obtain ⟨xs, hxs⟩ := all2_range (n := len) (V := V) (fun i hi => each _ _ _ (hx i (by omega)).2)
  exact ⟨xs, _, slC_of hl hm (fun i hi => (hx i hi).1), hxs⟩
theorem inR_of {n : Int} (h : (Lit.int .i64 n).wf = true) : InR n := by
 simpa [Lit.wf, IntKind.min, IntKind.max, IntKind.signed, IntKind.bits, InR] using h
theorem rd1 {t e : TypeId} (ht : P.underlying t = some (.slice e)) (he : P.underlying e = some (.int .i64)) (hc : P.cellsOf e = 1) (n : Nat) (v : Value) (x : DataW H × List MemPlace)
  (h : DataW.trod enc P w 0 (fun _ => true) held n t [v] = some x) : ∃ xs, L1 w (lower w) xs v := by
 obtain ⟨xs, us, h1, h2⟩ := rdSl (R := fun (z : Int) u => u = .int .i64 z ∧ InR z) ht hc (fun m u y hy => by
  obtain ⟨z, hz, _, hw⟩ := DataW.trod_int he hy
  exact ⟨z, List.singleton_inj.1 hz, inR_of hw⟩) h
 have hu : us = ints xs := by
  clear h1
  revert us
  induction xs with
  | nil => intro us h2; cases us with
   | nil => rfl
   | cons _ _ => exact h2.elim
  | cons z zs ih => intro us h2; cases us with
   | nil => exact h2.elim
   | cons u us => rw [h2.1.1, ih us h2.2]; rfl
 have hr : ∀ z ∈ xs, InR z := fun z hz => by
  obtain ⟨i, hi⟩ := List.getElem?_of_mem hz
  obtain ⟨u, _, hu⟩ := h2.get i z hi
  exact hu.2
 exact ⟨xs, hu ▸ h1, hr⟩
theorem rdOne {t : TypeId} {v : Value} {d : DataW H} {p : List MemPlace} (h : DataW.Trod enc P w 0 (fun _ => true) held t v d p) (hv : v.cells.toList = [v]) : ∃ n y, DataW.trod enc P w 0 (fun _ => true) held n t [v] = some y := by
 obtain ⟨n, h⟩ := h
 rw [hv] at h
 exact ⟨n, _, h⟩
theorem cells_of_slice {t e : TypeId} {base : Nat} {v : Value} (ht : P.underlying t = some (.slice e)) (hv : Value.okWide P w .any base t v) : v.cells.toList = [v] := by
 simp only [Value.okWide, ht, Cell.okWide, Cell.ok] at hv
 split at hv <;> first | rfl | (exfalso; simp_all; done) | skip
 all_goals first | exact hv.elim | skip
theorem trodAll_stays (hl : laidOutB P = true) {W W' : World} {sp' : Nat → Bool} : ∀ {ts : List TypeId} {vs : List Value} {ds : List (DataW H)} {ps : List MemPlace},
  ts.all (fun t => P.readableRec t && decide (t < P.types.size)) = true → DataW.TrodAll enc P W 0 (fun _ => true) true ts vs ds ps → (∀ p ∈ ps, W.sameAt W' p) → (∀ p ∈ ps, sp' p.block = true) → DataW.TrodAll enc P W' 0 sp' true ts vs ds ps
 | [], _, _, _, _, h, _, _ => by
  obtain ⟨rfl, rfl, rfl⟩ := trodAll_nil h
  exact rfl
 | t :: ts, _, _, _, hr, h, hs, hp => by
  obtain ⟨v, vs, d, ds, p, q, rfl, rfl, rfl, h1, h2⟩ := trodAll_cons h
  simp only [List.all_cons, Bool.and_eq_true, decide_eq_true_eq] at hr
  exact ⟨p, q, Go.WideElems.Trod_stays hl hr.1.1 hr.1.2 h1 (fun x hx => hs x (by simp [hx])) (fun x hx => hp x (by simp [hx])), trodAll_stays hl hr.2 h2 (fun x hx => hs x (by simp [hx])) (fun x hx => hp x (by simp [hx])), rfl⟩
theorem keptBut_ext {W W' : World} (e : Ext W W') (may : MemPlace → Prop) : W.keptBut W' may := by
 refine ⟨e.os, e.output, fun i hi => ?_⟩
 rw [e.block i hi]
 cases h : W.heap[i]? with
 | none => trivial
 | some o => cases o <;> simp
theorem frozen_ext {W W' : World} (e : Ext W W') {b off : Nat} (hb : b < W.heap.size) : W'.frozen? ⟨b, off, none⟩ = W.frozen? ⟨b, off, none⟩ := by
 simp only [World.frozen?, e.block b hb]
theorem law_post {f : Func} {s : ChangeSpec} {apart fresh handsOn again : Bool} {W W' : World} {args : Array Value} {ds gs : List (DataW H)} {before : List MemPlace} {tb : TypeId}
  (hl : laidOutB P = true) (hsv : s.vars = []) (hr : f.resultTypes = #[tb]) (htb : P.underlying tb = some .bool) (hp : f.params.toList.all (fun t => P.readableRec t && decide (t < P.types.size)) = true)
  (hW : DataW.Whole enc P f.params.toList s.vars apart W args.toList ds gs before)
  (hres : (s.fn H (ds ++ gs)).results = [.lit (.bool true)]) (hargs : (s.fn H (ds ++ gs)).args = ds) (hvars : (s.fn H (ds ++ gs)).vars = []) (e : Ext W W') :
  s.post enc P f apart fresh handsOn again W args (.bool true) W' := by
 have hlt := hW.lt
 have hW0 := hW
 obtain ⟨p, q, hA, hV, hpq, hfz, hnd⟩ := hW
 rw [hsv] at hV
 obtain ⟨rfl, rfl⟩ := trodVars_none hV
 rw [List.append_nil] at hpq
 subst hpq
 have hsame : ∀ x ∈ before, W.sameAt W' x := fun x hx => by
  have hb := hlt x hx
  cases x with
  | cell b off => simp only [World.sameAt]; exact cell_of_heap (e.block b hb) _ _
  | map b => simp only [World.sameAt]; exact e.block b hb
 have ha : ∀ sp : Nat → Bool, (∀ x ∈ before, sp x.block = true) → DataW.TrodAll enc P W' 0 sp true f.params.toList args.toList ds before := fun sp hsp => trodAll_stays hl hp hA hsame hsp
 have hb : ∀ (b : Nat) (sp : Nat → Bool) (hd : Bool), DataW.TrodAll enc P W' b sp hd f.resultTypes.toList ((Value.bool true).resultList f.resultTypes.size) [.lit (.bool true)] [] := fun b sp hd => by
  rw [hr]
  exact trodAll_cons_mk (shut_bool htb _) trodAll_mk0
 refine ⟨ds, [], before, [], before, [], hW0, ?_, ?_, ?_, keptBut_ext e _, fun _ => ⟨?_, [.lit (.bool true)] ++ ds, [], before, ⟨before, [], trodAll_append (ha _ (fun _ _ => rfl)) (hb _ _ _), ?_, by simp, ?_, hnd⟩, fun x hx _ => hx⟩⟩
 ·rw [hres]; exact hb _ _ _
 ·rw [hargs]; exact ha _ (fun x hx => by simpa using hlt x hx)
 ·rw [hvars, hsv]; exact rfl
 ·exact ok_one hr rfl (okWide_bool_mk htb _)
 ·rw [hsv]; exact rfl
 ·intro b off hx
  have h1 := hlt _ hx
  simp only [MemPlace.block] at h1
  rw [frozen_ext e h1]
  exact hfz b off hx
end
end Go.Aw
namespace Go.Aw
structure Hd (Y : Prop) : Prop where
 y : Y
theorem gA {X Y : Prop} (y : Y) (s : Hd Y → X := by intro hy; (repeat refine ats_seq ?_); refine ats_go (by first | exact fix0 hcx | exact fix1 hcx rfl) fun K hK => ?_; simp only [go_sem, seval]; refine hK _ ?_; clear hK K; exact hy.y) : X := s ⟨y⟩
theorem gB {X Y : Prop} (y : Y) (s : Hd Y → X := by intro hy; (repeat refine ats_seq ?_); refine ats_go (by first | exact fix0 hcx | exact fix1 hcx rfl) fun K hK => ?_; simp only [go_sem, seval]; (repeat refine aI (hb := ?_)); refine hK _ ?_; clear hK K; exact hy.y) : X := s ⟨y⟩
theorem gC {X : Prop} {Φ : (St → Prop) → Prop} {Y : ∀ K : St → Prop, Φ K → Prop} (y : ∀ K hK, Y K hK) (s : (∀ K hK, Y K hK) → X := by intro hy; (repeat refine ats_seq ?_); refine ats_go (by first | exact fix0 hcx | exact fix1 hcx rfl) fun K hK => ?_; simp only [go_sem, seval]; exact hy K hK) : X := s y
theorem gI {X Y Z p q : Prop} (y : p → Y) (z : q → Z) (s : (p → Y) → (q → Z) → X := by intro hy hz; (repeat refine ats_seq ?_); first | (refine ats_ifn (p := _) rfl trivial (fun h => ?_) (fun h => ?_); exact hy h; exact hz h) | (refine ats_ifp (p := _) rfl trivial (fun h => ?_) (fun h => ?_); exact hy h; exact hz h) | (refine ats_cond rfl trivial (fun h => ?_) (fun h => ?_); exact hy h; exact hz h)) : X := s y z
end Go.Aw
