import Derived.Test.YtjbdiekkjegckaaGreatLib2
import Derived.ChangeSame
import Derived.WideKeyArgs
import Derived.Deep.Slices
import Derived.OpenShut
import Derived.ProofKit
set_option linter.unusedSimpArgs false
set_option linter.unusedVariables false
namespace Go.Aw
open Go.RowKit
def flatRep (w : World) (fp : List Nat) : Tree → Value → Prop
 | .t1 xs, v => O1 w fp xs v
 | .t2 xs, v => O2 w fp xs v
 | .t3 xs, v => O3 w fp xs v
 | _, _ => False
theorem flatRep.tree {w : World} {fp : List Nat} {t : Tree} {v : Value} (h : flatRep w fp t v) {m : Mem} (hm : m.w = w) : treeRep m fp t v := by
 subst hm
 cases t <;> simp only [flatRep] at h <;> simp only [treeRep] <;> exact h
def Qd_ : Tree → Bool
 | .t1 _ | .t2 _ | .t3 _ => true
 | _ => false
theorem Zr_ {m : Mem} {fp : List Nat} {t : Tree} {v : Value} (hf : Qd_ t = true) (h : treeRep m fp t v) : flatRep m.w fp t v := by
 cases t <;> simp only [Qd_] at hf <;> simp only [treeRep] at h <;> first | exact h | cases hf
section
variable {P : Program} {cx : Cx} {H : List (Nat × Tree)} {w w' : World} {ι : Nat → Value} {F : Nat → List Nat}
theorem Owns.turn (ho : Owns cx H w ι F) {T T' : List (Nat × Tree)} (hids : Aw.ids T' = Aw.ids T) (hn : (Aw.ids T).Nodup) (hf : ∀ p ∈ T, find H p.1 = some p.2) (hw : Turned w w' (xX_ T F)) {G : Nat → List Nat}
  (h1 : ∀ p ∈ T', flatRep w' (G p.1) p.2 (ι p.1)) (h2 : (xX_ T' G).Nodup) (h3 : ∀ b ∈ xX_ T' G, b < w'.heap.size ∧ (b ∈ xX_ T F ∨ w.heap.size ≤ b)) :
  Owns cx (T' ++ xD_ (qOf [] (Aw.ids T)) (rmT (Aw.ids T) H)) w' ι (fun i => if (Aw.ids T).contains i then G i else F i) ∧
  ∀ av v, rep (mem cx w H ι F) av v → rep (mem cx w' (T' ++ xD_ (qOf [] (Aw.ids T)) (rmT (Aw.ids T) H)) ι (fun i => if (Aw.ids T).contains i then G i else F i)) (xu_ (qOf [] (Aw.ids T)) av) v := by
 have hsub : ∀ b, b ∈ xX_ T F → b ∈ xX_ H F := fun b hb => by
  obtain ⟨p, hp, hb⟩ := mem_foot.1 hb
  exact mem_foot.2 ⟨_, xk_ (hf p hp), hb⟩
 have hc : ∀ {i}, (Aw.ids T).contains i = true ↔ i ∈ Aw.ids T := fun {i} => by simp
 have hc' : ∀ {i}, i ∉ Aw.ids T → (Aw.ids T).contains i = false := fun {i} h => by simpa using h
 have hTin : ∀ p ∈ T', (Aw.ids T).contains p.1 = true := fun p hp => hc.2 (by rw [← hids]; exact List.mem_map.2 ⟨p, hp, rfl⟩)
 have hq1 : xX_ T' (fun i => if (Aw.ids T).contains i then G i else F i) = xX_ T' G := yL_ (fun p hp => by simp only [hTin p hp, if_true])
 have hq2 : xX_ (xD_ (qOf [] (Aw.ids T)) (rmT (Aw.ids T) H)) (fun i => if (Aw.ids T).contains i then G i else F i) = xX_ (rmT (Aw.ids T) H) F := by
  rw [zm_]
  exact yL_ (fun p hp => by rw [mem_rmT] at hp; simp only [hc' hp.2, Bool.false_eq_true, if_false])
 have hfoot : xX_ (T' ++ xD_ (qOf [] (Aw.ids T)) (rmT (Aw.ids T) H)) (fun i => if (Aw.ids T).contains i then G i else F i) = xX_ T' G ++ xX_ (rmT (Aw.ids T) H) F := by rw [wx_, hq1, hq2]
 have hrm : ∀ b, b ∈ xX_ (rmT (Aw.ids T) H) F → b ∈ xX_ H F ∧ b ∉ xX_ T F := fun b hb => by
  obtain ⟨p, hp, hb⟩ := mem_foot.1 hb
  rw [mem_rmT] at hp
  refine ⟨mem_foot.2 ⟨p, hp.1, hb⟩, fun h => ?_⟩
  obtain ⟨p', hp', hb'⟩ := mem_foot.1 h
  exact yr_ ho (yc_ ho.ids hp.1) (hf p' hp') (fun e => hp.2 (e ▸ List.mem_map.2 ⟨p', hp', rfl⟩)) hb hb'
 have hfind : ∀ i, i ∉ Aw.ids T → find (T' ++ xD_ (qOf [] (Aw.ids T)) (rmT (Aw.ids T) H)) i = (find H i).map (yF_ (qOf [] (Aw.ids T))) := fun i hi => by
  rw [zi_, find_none.2 (by rw [hids]; exact hi), zM_, X4_, hc' hi]
  rfl
 have hother : ∀ p ∈ H, p.1 ∉ Aw.ids T → ∀ b ∈ F p.1, w'.heap[b]? = w.heap[b]? := fun p hp hi b hb =>
  hw.block b (ho.mine b (mem_foot.2 ⟨p, hp, hb⟩)).1 (hrm b (mem_foot.2 ⟨p, mem_rmT.2 ⟨hp, hi⟩, hb⟩)).2
 have hle : ((mem cx w H ι F).less (qOf [] (Aw.ids T))).le (mem cx w' (T' ++ xD_ (qOf [] (Aw.ids T)) (rmT (Aw.ids T) H)) ι (fun i => if (Aw.ids T).contains i then G i else F i)) := by
  refine ⟨fun b hb => ⟨⟨hb.1, Nat.lt_of_lt_of_le hb.2.1 hw.size, fun hm => ?_⟩, hw.block b hb.2.1 (fun h => hb.2.2 (hsub b h))⟩, fun i p hd => ?_⟩
  ·rw [hfoot] at hm
   rcases List.mem_append.1 hm with hm | hm
   ·rcases (h3 b hm).2 with h | h
    ·exact hb.2.2 (hsub b h)
    ·exact absurd h (Nat.not_le.2 hb.2.1)
   ·exact hb.2.2 (hrm b hm).1
  ·obtain ⟨hd, hqf⟩ := hd
   simp only [mem] at hd ⊢
   by_cases hi : i ∈ Aw.ids T
   ·have hp : p = [] := by
     simp only [qOf, hc.2 hi, List.contains_nil, Bool.false_or, Bool.true_and] at hqf
     simpa using hqf
    subst hp
    refine ⟨?_, rfl, fun v hv => by simpa [xn_] using hv⟩
    have hi' : i ∈ Aw.ids T' := by rw [hids]; exact hi
    obtain ⟨p, hp, rfl⟩ := List.mem_map.1 hi'
    rw [zi_, yc_ (by rw [hids]; exact hn) hp]
    cases p.2 <;> rfl
   ·rw [hfind i hi]
    refine ⟨by rw [y7_]; exact hd, rfl, fun v hv => ?_⟩
    cases hcf : find H i with
    | none => rw [hcf] at hd; simp [xw_] at hd
    | some t => exact ZR_ ho hd (hother _ (xk_ hcf) hi) hv
 have hnd : (Aw.ids (T' ++ xD_ (qOf [] (Aw.ids T)) (rmT (Aw.ids T) H))).Nodup := by
  rw [Xb_, X5_, List.nodup_append]
  refine ⟨by rw [hids]; exact hn, ZQ_ ho.ids, fun i hi j hj e => ?_⟩
  subst e
  rw [hids] at hi
  obtain ⟨p, hp, rfl⟩ := List.mem_map.1 hj
  exact (mem_rmT.1 hp).2 hi
 refine ⟨⟨ho.keep.turned ho.old hw (fun b hb => (ho.mine b (hsub b hb)).2), fun p hp => ?_, ?_, fun b hb => ?_, hnd, Nat.le_trans ho.old hw.size⟩, fun av v h => rep.le hle _ _ (wB_ av v h)⟩
 ·rcases List.mem_append.1 hp with hp | hp
  ·simp only [hTin p hp, if_true]; exact (h1 p hp).tree rfl
  ·simp only [xD_, List.mem_map] at hp
   obtain ⟨p0, hp0, rfl⟩ := hp
   rw [mem_rmT] at hp0
   simp only [hc' hp0.2, Bool.false_eq_true, if_false]
   exact (zx_ (ho.trees p0 hp0.1)).le hle (hother p0 hp0.1 hp0.2)
 ·rw [hfoot, List.nodup_append]
  refine ⟨h2, ho.nodup.sublist (yI_ _ F H), fun a ha c hcm e => ?_⟩
  subst e
  obtain ⟨k1, k2⟩ := hrm a hcm
  rcases (h3 a ha).2 with h | h
  ·exact k2 h
  ·exact absurd (ho.mine a k1).1 (Nat.not_lt.2 h)
 ·rw [hfoot] at hb
  rcases List.mem_append.1 hb with h | h
  ·refine ⟨(h3 b h).1, ?_⟩
   rcases (h3 b h).2 with k | k
   ·exact (ho.mine b (hsub b k)).2
   ·exact .inl (Nat.le_trans ho.old k)
  ·exact ⟨Nat.lt_of_lt_of_le (ho.mine b (hrm b h).1).1 hw.size, (ho.mine b (hrm b h).1).2⟩
end
structure TurnCall (P : Program) (f : FuncId) (args : List AV) (T T' : List (Nat × Tree)) (r : AV) : Prop where
 enter : ∀ args w, (callFunc f args).run P w = .ok (.enter f args) w
 ids : Aw.ids T' = Aw.ids T
 free : z8_ r = true
 runs : ∀ (us : List Value) (w : World) (ι : Nat → Value) (G : Nat → List Nat), (∀ p ∈ T, flatRep w (G p.1) p.2 (ι p.1)) → (xX_ T G).Nodup → (∀ b ∈ xX_ T G, b < w.heap.size ∧ aL0 b) ∧ GlobOk w →
  reps ⟨w, fun _ => False, ι, fun id path => xw_ (find T id) path = true⟩ args us →
  Calls P f us.toArray w fun e w' => ∃ v G', e = .returned v ∧ Turned w w' (xX_ T G) ∧ (∀ p ∈ T', flatRep w' (G' p.1) p.2 (ι p.1)) ∧ (xX_ T' G').Nodup ∧
   (∀ b ∈ xX_ T' G', b < w'.heap.size ∧ (b ∈ xX_ T G ∨ w.heap.size ≤ b)) ∧ rep ⟨w', fun _ => False, fun _ => undef, fun _ _ => False⟩ r v
mutual
def ren (ρ : Nat → Nat) : AV → AV
 | .ref i p => .ref (ρ i) p
 | .agg vs => .agg (ak5 ρ vs)
 | .tup vs => .tup (ak5 ρ vs)
 | v => v
def ak5 (ρ : Nat → Nat) : List AV → List AV
 | [] => []
 | a :: as => ren ρ a :: ak5 ρ as
end
mutual
def plain (T : List (Nat × Tree)) : AV → Bool
 | .ref i [] => (find T i).isSome
 | .int _ | .bool _ | .str _ | .nil => true
 | .agg vs | .tup vs => VW_ T vs
 | _ => false
def VW_ (T : List (Nat × Tree)) : List AV → Bool
 | [] => true
 | a :: as => plain T a && VW_ T as
end
mutual
theorem ak6 {T : List (Nat × Tree)} {ρ : Nat → Nat} {m : Mem} : ∀ (a : AV) (u : Value), plain T a = true → rep m (ren ρ a) u → rep ⟨m.w, fun _ => False, fun i => m.ι (ρ i), fun id path => xw_ (find T id) path = true⟩ a u
 | .ref i [], u, hp, h => by
  simp only [ren, rep, xn_] at h ⊢
  simp only [plain] at hp
  obtain ⟨t, ht⟩ := Option.isSome_iff_exists.1 hp
  exact ⟨by rw [ht]; cases t <;> rfl, h.2⟩
 | .ref i (_ :: _), _, hp, _ => by simp [plain] at hp
 | .int _, u, _, h | .bool _, u, _, h | .str _, u, _, h | .nil, u, _, h => by simp only [ren, rep] at h ⊢; exact h
 | .agg vs, u, hp, h => by
  simp only [ren, rep] at h ⊢
  simp only [plain] at hp
  obtain ⟨us, h1, h2⟩ := h
  exact ⟨us, h1, Y3_ vs us hp h2⟩
 | .tup vs, u, hp, h => by
  simp only [ren, rep] at h ⊢
  simp only [plain] at hp
  obtain ⟨us, h1, h2⟩ := h
  exact ⟨us, h1, Y3_ vs us hp h2⟩
 | .ik _ _, _, hp, _ | .nilfn, _, hp, _ | .lv _, _, hp, _ | .fn _ _, _, hp, _ | .eptr _ _, _, hp, _ | .cptr _ _, _, hp, _
 | .sub _ _ _ _, _, hp, _ | .eref _ _ _, _, hp, _ | .bptr _ _, _, hp, _ | .when _ _, _, hp, _ | .junk, _, hp, _ | .l1 _, _, hp, _ | .l2 _, _, hp, _ | .l3 _, _, hp, _ => by simp [plain] at hp
theorem Y3_ {T : List (Nat × Tree)} {ρ : Nat → Nat} {m : Mem} : ∀ (as : List AV) (us : List Value), VW_ T as = true → reps m (ak5 ρ as) us → reps ⟨m.w, fun _ => False, fun i => m.ι (ρ i), fun id path => xw_ (find T id) path = true⟩ as us
 | [], us, _, h => by simp only [ak5, reps] at h ⊢; exact h
 | a :: as, us, hp, h => by
  simp only [ak5, reps] at h ⊢
  simp only [VW_, Bool.and_eq_true] at hp
  obtain ⟨u, us', h1, h2, h3⟩ := h
  exact ⟨u, us', h1, ak6 a u hp.1 h2, Y3_ as us' hp.2 h3⟩
end
def RH_ (ρ : Nat → Nat) (T : List (Nat × Tree)) : List (Nat × Tree) := T.map fun p => (ρ p.1, p.2)
theorem Y4_ (ρ : Nat → Nat) (T : List (Nat × Tree)) : ids (RH_ ρ T) = (ids T).map ρ := by simp [ids, RH_]
theorem Zs_ (ρ : Nat → Nat) (T : List (Nat × Tree)) (G : Nat → List Nat) : xX_ (RH_ ρ T) G = xX_ T (fun i => G (ρ i)) := by simp [xX_, RH_, Function.comp_def]
theorem inv_of {ρ : Nat → Nat} {α : Type} (d : α) (G' : Nat → α) : ∀ {l : List Nat}, (l.map ρ).Nodup → ∃ G : Nat → α, ∀ i ∈ l, G (ρ i) = G' i
 | [], _ => ⟨fun _ => d, by simp⟩
 | a :: l, h => by
  simp only [List.map_cons, List.nodup_cons] at h
  obtain ⟨G, hG⟩ := inv_of d G' h.2
  refine ⟨fun j => if j = ρ a then G' a else G j, fun i hi => ?_⟩
  rcases List.mem_cons.1 hi with rfl | hi
  ·simp
  ·have : ρ i ≠ ρ a := fun e => h.1 (e ▸ List.mem_map.2 ⟨i, hi, rfl⟩)
   simp only [if_neg this]
   exact hG i hi
section
variable {P : Program} {cx : Cx} {H : List (Nat × Tree)} {w w' : World} {ι : Nat → Value} {F : Nat → List Nat}
def ah4 (P : Program) (H : List (Nat × Tree)) (f : FuncId) (args : List AV) (r : AV) (subs : List Nat) (H' : List (Nat × Tree)) : Prop :=
 ∃ (as : List AV) (T T' : List (Nat × Tree)) (ρ : Nat → Nat), ak5 ρ as = args ∧ TurnCall P f as T T' r ∧ VW_ T as = true ∧ (T.all fun p => Qd_ p.2) = true ∧ ((ids T).map ρ).Nodup ∧ (∀ p ∈ T, find H (ρ p.1) = some p.2) ∧
  subs = (ids T).map ρ ∧ H' = RH_ ρ T' ++ xD_ (qOf [] ((ids T).map ρ)) (rmT ((ids T).map ρ) H)
theorem VX_ (ho : Owns cx H w ι F) {f : FuncId} {args : List AV} {r : AV} {subs : List Nat} {H' : List (Nat × Tree)} (h : ah4 P H f args r subs H') {us : List Value} (hr : reps (mem cx w H ι F) args us) :
  (∀ args w, (callFunc f args).run P w = .ok (.enter f args) w) ∧ Calls P f us.toArray w fun e w' => ∃ u F', e = .returned u ∧ Owns cx H' w' ι F' ∧ rep (mem cx w' H' ι F') r u ∧ ∀ av v, rep (mem cx w H ι F) av v → rep (mem cx w' H' ι F') (xu_ (qOf [] subs) av) v := by
 obtain ⟨as, T, T', ρ, h1, h2, h3, h4, h5, h6, rfl, rfl⟩ := h
 subst h1
 have hin : ∀ p ∈ RH_ ρ T, find H p.1 = some p.2 := fun p hp => by
  obtain ⟨p0, hp0, rfl⟩ := List.mem_map.1 hp
  exact h6 p0 hp0
 have hnr : (Aw.ids (RH_ ρ T)).Nodup := by rw [Y4_]; exact h5
 have hnd : (xX_ (RH_ ρ T) F).Nodup := by
  have : ∀ {l : List (Nat × Tree)}, (Aw.ids l).Nodup → (∀ p ∈ l, find H p.1 = some p.2) → (xX_ l F).Nodup := by
   intro l
   induction l with
   | nil => intro _ _; simp [xX_]
   | cons p l ih =>
    intro hn hl
    simp only [Aw.ids, List.map_cons, List.nodup_cons] at hn
    rw [yl_, List.nodup_append]
    refine ⟨xF_ ho (hl p (List.mem_cons_self ..)), ih hn.2 (fun q hq => hl q (List.mem_cons_of_mem _ hq)), fun a ha c hc e => ?_⟩
    subst e
    obtain ⟨q, hq, hb⟩ := mem_foot.1 hc
    exact yr_ ho (hl p (List.mem_cons_self ..)) (hl q (List.mem_cons_of_mem _ hq)) (fun e => hn.1 (e ▸ List.mem_map.2 ⟨q, hq, rfl⟩)) ha hb
  exact this hnr hin
 have hmine : ∀ b ∈ xX_ (RH_ ρ T) F, b ∈ xX_ H F := fun b hb => by
  obtain ⟨p, hp, hb⟩ := mem_foot.1 hb
  exact mem_foot.2 ⟨_, xk_ (hin p hp), hb⟩
 rw [Zs_] at hnd hmine
 refine ⟨h2.enter, (h2.runs us w (fun i => ι (ρ i)) (fun i => F (ρ i)) (fun p hp => ?_) hnd ⟨fun b hb => ⟨(ho.mine b (hmine b hb)).1, ho.noGl (hmine b hb)⟩, ho.globOk⟩ (Y3_ (m := mem cx w H ι F) as us h3 hr)).mono fun e w' ⟨v, G', k1, k2, k3, k4, k5, k6⟩ => ?_⟩
 ·exact Zr_ (m := mem cx w H ι F) ((List.all_eq_true.1 h4) p hp) (ho.trees _ (xk_ (h6 p hp)))
 ·obtain ⟨G1, hG⟩ := inv_of [] G' (l := Aw.ids T) h5
  have hfe : xX_ (RH_ ρ T') G1 = xX_ T' G' := by
   rw [Zs_]
   exact yL_ (fun p hp => hG p.1 (by rw [← h2.ids]; exact List.mem_map.2 ⟨p, hp, rfl⟩))
  rw [← Zs_ ρ T F] at k2 k5
  have key := ho.turn (T := RH_ ρ T) (T' := RH_ ρ T') (by rw [Y4_, Y4_, h2.ids]) hnr hin k2 (G := G1) (fun p hp => ?_) (by rw [hfe]; exact k4) (by rw [hfe]; exact k5)
  ·rw [Y4_] at key
   exact ⟨v, _, k1, key.1, zT_ h2.free k6, key.2⟩
  ·obtain ⟨p0, hp0, rfl⟩ := List.mem_map.1 hp
   simp only
   rw [hG p0.1 (by rw [← h2.ids]; exact List.mem_map.2 ⟨p0, hp0, rfl⟩)]
   exact k3 p0 hp0
end
end Go.Aw
namespace Go.Aw
open Go.RowKit
section
variable {P : Program} {cx : Cx} {H : List (Nat × Tree)} {w w' : World} {ι : Nat → Value} {F : Nat → List Nat}
theorem ak7 {α : Type} {R : World → List Nat → α → Value → Prop} (frame : ∀ {w w' fp a v}, (∀ b ∈ fp, w'.heap[b]? = w.heap[b]?) → R w fp a v → R w' fp a v) {f0 : List Nat} {fs : List (List Nat)} {as : List α} {us : List Value} {v x : Value} {i : Nat} {f g : List Nat} {a' : α}
  (h1 : OwnSl w f0 us v) (h2 : All3 (R w) fs as us) (hn : (f0 ++ fs.flatten).Nodup) (hlt : ∀ b ∈ f0 ++ fs.flatten, b < w.heap.size) (hf : fs[i]? = some f) (hx : us[i]? = some x) (hw : Turned w w' f) (hg : g.Nodup) (hgm : ∀ b ∈ g, b ∈ f ∨ w.heap.size ≤ b) (hr : R w' g a' x) :
  OwnSl w' f0 us v ∧ All3 (R w') (fs.set i g) (as.set i a') us ∧ (f0 ++ (fs.set i g).flatten).Nodup ∧ ∀ b ∈ f0 ++ (fs.set i g).flatten, b ∈ f0 ++ fs.flatten ∨ w.heap.size ≤ b := by
 have hn' := hn
 rw [List.nodup_append] at hn
 have hff : ∀ b ∈ f, b ∈ fs.flatten := fun b hb => List.mem_flatten.2 ⟨f, List.mem_of_getElem? hf, hb⟩
 have h0 : ∀ k ∈ f0, w'.heap[k]? = w.heap[k]? := fun k hk => hw.block k (hlt k (List.mem_append.2 (.inl hk))) (fun e => hn.2.2 k hk k (hff k e) rfl)
 refine ⟨h1.heap h0, ?_, ?_, fun b hb => ?_⟩
 ·refine All3.of_get (by rw [List.length_set, List.length_set]; exact h2.length.1) (by rw [List.length_set]; exact h2.length.2) (fun j g' a u hg' ha hu => ?_)
  rw [List.getElem?_set] at ha hg'
  split at ha
  ·rename_i hij; subst hij
   rw [hx] at hu; cases hu
   rw [if_pos rfl] at hg'
   split at ha <;> split at hg' <;> first | (cases ha; done) | (cases hg'; done) | skip
   cases ha; cases hg'
   exact hr
  ·rename_i hij
   rw [if_neg hij] at hg'
   refine frame (fun k hk => hw.block k (hlt k (List.mem_append.2 (.inr (List.mem_flatten.2 ⟨g', List.mem_of_getElem? hg', hk⟩)))) (fun e => ?_)) (h2.at hg' ha hu)
   exact yw_ hn.2.1 hg' hf (fun e => hij e.symm) hk e
 ·have hset : fs.set i g = fs.take i ++ g :: fs.drop (i + 1) := by
   rw [List.set_eq_take_append_cons_drop, if_pos (List.getElem?_eq_some_iff.1 hf).1]
  have hfs : fs = fs.take i ++ f :: fs.drop (i + 1) := by
   have hl := (List.getElem?_eq_some_iff.1 hf).1
   have he := (List.getElem?_eq_some_iff.1 hf).2
   rw [← he, List.getElem_cons_drop, List.take_append_drop]
  have hgn : ∀ b ∈ g, b ∉ f0 ∧ b ∉ (fs.take i).flatten ∧ b ∉ (fs.drop (i + 1)).flatten := by
   intro b hb
   rw [hfs] at hn' hlt
   simp only [List.flatten_append, List.flatten_cons, List.nodup_append, List.mem_append] at hn' hlt
   rcases hgm b hb with h | h
   ·refine ⟨fun e => hn'.2.2 b e b (.inr (.inl h)) rfl, fun e => hn'.2.1.2.2 b e b (.inl h) rfl, fun e => hn'.2.1.2.1.2.2 b h b e rfl⟩
   ·refine ⟨fun e => ?_, fun e => ?_, fun e => ?_⟩
    ·exact absurd (hlt b (.inl e)) (Nat.not_lt.2 h)
    ·exact absurd (hlt b (.inr (.inl e))) (Nat.not_lt.2 h)
    ·exact absurd (hlt b (.inr (.inr (.inr e)))) (Nat.not_lt.2 h)
  rw [hset]
  rw [hfs] at hn'
  simp only [List.flatten_append, List.flatten_cons, List.nodup_append, List.mem_append] at hn' ⊢
  obtain ⟨a1, ⟨a2, ⟨a3, a4, a5⟩, a6⟩, a7⟩ := hn'
  refine ⟨a1, ⟨a2, ⟨hg, a4, fun x hx y hy e => (hgn x hx).2.2 (e ▸ hy)⟩, fun x hx y hy e => ?_⟩, fun x hx y hy e => ?_⟩
  ·rcases hy with hy | hy
   ·exact (hgn y hy).2.1 (e ▸ hx)
   ·exact a6 x hx y (.inr hy) e
  ·rcases hy with hy | hy | hy
   ·exact a7 x hx y (.inl hy) e
   ·exact (hgn y hy).1 (e ▸ hx)
   ·exact a7 x hx y (.inr (.inr hy)) e
 ·rcases List.mem_append.1 hb with hb | hb
  ·exact .inl (List.mem_append.2 (.inl hb))
  ·rcases yi_ hb with hb | hb
   ·rcases hgm b hb with h | h
    ·exact .inl (List.mem_append.2 (.inr (hff b h)))
    ·exact .inr h
   ·exact .inl (List.mem_append.2 (.inr hb))
def Qe_ (P : Program) (H : List (Nat × Tree)) (f : FuncId) (args : List AV) (r : AV) (id : Nat) (H' : List (Nat × Tree)) : Prop :=
 ∃ (i : Nat) (k : Int), args = [.ref id [i], .int k] ∧
  ((∃ xss ys, find H id = some (.t2 xss) ∧ i < xss.length ∧ TurnCall P f [.ref 0 [], .int k] [(0, .t1 (xss.getD i []))] [(0, .t1 ys)] r ∧ H' = (id, .t2 (xss.set i ys)) :: xD_ (qOf [] [id]) (rmT [id] H)) ∨
   (∃ xss ys, find H id = some (.t3 xss) ∧ i < xss.length ∧ TurnCall P f [.ref 0 [], .int k] [(0, .t2 (xss.getD i []))] [(0, .t2 ys)] r ∧ H' = (id, .t3 (xss.set i ys)) :: xD_ (qOf [] [id]) (rmT [id] H)))
theorem W6_ (ho : Owns cx H w ι F) {f : FuncId} {args : List AV} {r : AV} {id : Nat} {H' : List (Nat × Tree)} (h : Qe_ P H f args r id H') {us : List Value} (hr : reps (mem cx w H ι F) args us) :
  (∀ args w, (callFunc f args).run P w = .ok (.enter f args) w) ∧ Calls P f us.toArray w fun e w' => ∃ u F', e = .returned u ∧ Owns cx H' w' ι F' ∧ rep (mem cx w' H' ι F') r u ∧ ∀ av v, rep (mem cx w H ι F) av v → rep (mem cx w' H' ι F') (xu_ (qOf [] [id]) av) v := by
 obtain ⟨i, k, rfl, h⟩ := h
 simp only [reps] at hr
 obtain ⟨x, us', rfl, hx, y, us'', rfl, hy, rfl⟩ := hr
 simp only [rep] at hx
 have hx2 := hx.2
 have gen : ∀ {α : Type} {R : World → List Nat → α → Value → Prop} (d : α) (frame : ∀ {w w' fp a v}, (∀ b ∈ fp, w'.heap[b]? = w.heap[b]?) → R w fp a v → R w' fp a v) (tr : α → Tree) (big : List α → Tree)
   (hflat : ∀ {w fp a v}, R w fp a v ↔ flatRep w fp (tr a) v) (hbig : ∀ {w fp as v}, flatRep w fp (big as) v ↔ ON R w fp as v) (hft : ∀ as, Qd_ (big as) = true) {as : List α} {a' : α}
   (_ : find H id = some (big as)) (_ : i < as.length) (_ : TurnCall P f [.ref 0 [], .int k] [(0, tr (as.getD i d))] [(0, tr a')] r),
   (∀ args w, (callFunc f args).run P w = .ok (.enter f args) w) ∧ Calls P f [x, y].toArray w fun e w' => ∃ u F', e = .returned u ∧ Owns cx ((id, big (as.set i a')) :: xD_ (qOf [] [id]) (rmT [id] H)) w' ι F' ∧
    rep (mem cx w' ((id, big (as.set i a')) :: xD_ (qOf [] [id]) (rmT [id] H)) ι F') r u ∧ ∀ av v, rep (mem cx w H ι F) av v → rep (mem cx w' ((id, big (as.set i a')) :: xD_ (qOf [] [id]) (rmT [id] H)) ι F') (xu_ (qOf [] [id]) av) v := by
  intro α R d frame tr big hflat hbig hft as a' hfd hi hc
  have ht := Zr_ (m := mem cx w H ι F) (hft as) (ho.trees _ (xk_ hfd))
  rw [hbig] at ht
  obtain ⟨vs, f0, fs, h1, h2, h3⟩ := ht
  obtain ⟨x', hx', hp⟩ := h1.row hx2
  simp only [xn_, Option.some.injEq] at hp; subst hp
  obtain ⟨g, c, hg, hcc, hrow⟩ := h2.get i _ (getD_some (d := d) hi)
  rw [hx'] at hcc; cases hcc
  have hsub : ∀ b ∈ g, b ∈ xX_ H F := fun b hb => mem_foot.2 ⟨_, xk_ hfd, by
   rw [h3]; exact List.mem_append.2 (.inr (List.mem_flatten.2 ⟨g, List.mem_of_getElem? hg, hb⟩))⟩
  have hnF : (f0 ++ fs.flatten).Nodup := by rw [← h3]; exact xF_ ho hfd
  have hft1 : xX_ [(0, tr (as.getD i d))] (fun _ => g) = g := by simp [xX_]
  refine ⟨hc.enter, (hc.runs [x', y] w (fun _ => x') (fun _ => g) (fun p hp => ?_) ?_ ⟨fun b hb => ⟨?_, ?_⟩, ho.globOk⟩ ?_).mono fun e w' ⟨v, G', k1, k2, k3, k4, k5, k6⟩ => ?_⟩
  ·simp only [List.mem_singleton] at hp; subst hp; exact hflat.1 hrow
  ·rw [hft1]; exact ye_ (List.nodup_append.1 hnF).2.1 hg
  ·rw [hft1] at hb; exact (ho.mine b (hsub b hb)).1
  ·rw [hft1] at hb; exact ho.noGl (hsub b hb)
  ·simp only [reps]
   refine ⟨x', [y], rfl, ?_, y, [], rfl, ?_, rfl⟩
   ·simp only [rep, find, if_true, xn_]
    refine ⟨?_, trivial⟩
    cases tr (as.getD i d) <;> rfl
   ·simp only [rep] at hy ⊢; exact hy
  ·rw [hft1] at k2 k5
   have hfg : xX_ [(0, tr a')] G' = G' 0 := by simp [xX_]
   rw [hfg] at k4 k5
   obtain ⟨m1, m2, m3, m4⟩ := ak7 (R := R) (fun h h' => frame h h') h1 h2 hnF (fun b hb => by rw [← h3] at hb; exact (ho.mine b (mem_foot.2 ⟨_, xk_ hfd, hb⟩)).1) hg hx' k2 k4 (fun b hb => (k5 b hb).2) (hflat.2 (k3 _ (List.mem_singleton.2 rfl)))
   have e1 : Aw.ids [(id, big as)] = [id] := rfl
   have e2 : xX_ [(id, big as)] F = F id := by simp [xX_]
   have key := ho.turn (w' := w') (T := [(id, big as)]) (T' := [(id, big (as.set i a'))]) rfl (by simp [Aw.ids]) (by simpa using hfd)
    (by rw [e2]; exact ⟨k2.os, k2.tape, k2.output, k2.size, fun b hb hbn => k2.block b hb (fun h => hbn (by rw [h3]; exact List.mem_append.2 (.inr (List.mem_flatten.2 ⟨g, List.mem_of_getElem? hg, h⟩))))⟩)
    (G := fun _ => f0 ++ (fs.set i (G' 0)).flatten)
    (fun p hp => by simp only [List.mem_singleton] at hp; subst hp; exact hbig.2 ⟨vs, f0, _, m1, m2, rfl⟩)
    (by simpa [xX_] using m3)
    (fun b hb => by
     have hb' : b ∈ f0 ++ (fs.set i (G' 0)).flatten := by simpa [xX_] using hb
     rw [e2, h3]
     refine ⟨?_, m4 b hb'⟩
     rcases List.mem_append.1 hb' with hq | hq
     ·exact Nat.lt_of_lt_of_le (ho.mine b (mem_foot.2 ⟨_, xk_ hfd, by rw [h3]; exact List.mem_append.2 (.inl hq)⟩)).1 k2.size
     ·rcases yi_ hq with hq | hq
      ·exact (k5 b hq).1
      ·exact Nat.lt_of_lt_of_le (ho.mine b (mem_foot.2 ⟨_, xk_ hfd, by rw [h3]; exact List.mem_append.2 (.inr hq)⟩)).1 k2.size)
   rw [e1] at key
   exact ⟨v, _, k1, key.1, zT_ hc.free k6, key.2⟩
 rcases h with ⟨xss, ys, h1, h2, h3, rfl⟩ | ⟨xss, ys, h1, h2, h3, rfl⟩
 ·exact gen (R := O1) [] (fun hb h => h.heap hb) .t1 .t2 Iff.rfl Iff.rfl (fun _ => rfl) h1 h2 h3
 ·exact gen (R := O2) [] (fun hb h => h.heap hb) .t2 .t3 Iff.rfl Iff.rfl (fun _ => rfl) h1 h2 h3
end
end Go.Aw
namespace Go.Aw
open Go.RowKit
def YV_ (T : List (Nat × Tree)) : Nat → List Nat → Bool := fun i _ => !(ids T).contains i
def zQ_ (T : List (Nat × Tree)) : Prop := ∀ p ∈ T, yF_ (YV_ T) p.2 = p.2
def wR_ (w : World) (T : List (Nat × Tree)) (F : Nat → List Nat) (S : Nat → Prop) (k : Fx) (u : Nat → Value) : Cx := ⟨w.heap.size, fun b => b ∈ xX_ T F, S, w, k, u, none, []⟩
section
variable {P : Program} {cx : Cx} {H : List (Nat × Tree)} {w w' : World} {ι : Nat → Value} {F : Nat → List Nat}
theorem ax0 {T : List (Nat × Tree)} {i : Nat} {p : List Nat} (h : YV_ T i p = false) : i ∈ ids T := by
 simpa [YV_] using h
theorem WA_ (ho : Owns cx H w ι F) : ∀ {l : List (Nat × Tree)}, (Aw.ids l).Nodup → (∀ p ∈ l, find H p.1 = some p.2) → (xX_ l F).Nodup
 | [], _, _ => by simp [xX_]
 | p :: l, hn, hl => by
  simp only [Aw.ids, List.map_cons, List.nodup_cons] at hn
  rw [yl_, List.nodup_append]
  refine ⟨xF_ ho (hl p (List.mem_cons_self ..)), WA_ ho hn.2 (fun q hq => hl q (List.mem_cons_of_mem _ hq)), fun a ha c hc e => ?_⟩
  subst e
  obtain ⟨q, hq, hb⟩ := mem_foot.1 hc
  exact yr_ ho (hl p (List.mem_cons_self ..)) (hl q (List.mem_cons_of_mem _ hq)) (fun e => hn.1 (e ▸ List.mem_map.2 ⟨q, hq, rfl⟩)) ha hb
theorem Jh_ (ho : Owns cx H w ι F) {T : List (Nat × Tree)} (hn : (Aw.ids T).Nodup) (hf : ∀ p ∈ T, find H p.1 = some p.2) (hc : zQ_ T) (k : Fx) (u : Nat → Value) :
  Owns (wR_ w T F (imm cx w H F) k u) T w ι F ∧ ((mem cx w H ι F).less (YV_ T)).le (mem (wR_ w T F (imm cx w H F) k u) w T ι F) := by
 have hsub : ∀ b, b ∈ xX_ T F → b ∈ xX_ H F := fun b hb => by
  obtain ⟨p, hp, hb⟩ := mem_foot.1 hb
  exact mem_foot.2 ⟨_, xk_ (hf p hp), hb⟩
 have hle : ((mem cx w H ι F).less (YV_ T)).le (mem (wR_ w T F (imm cx w H F) k u) w T ι F) := by
  refine ⟨fun b hb => ⟨⟨.inl hb, hb.2.1, fun hm => hb.2.2 (hsub b hm)⟩, rfl⟩, fun i p hd => ?_⟩
  obtain ⟨hd, hq⟩ := hd
  have hi := ax0 hq
  obtain ⟨p0, hp0, rfl⟩ := List.mem_map.1 hi
  simp only [mem] at hd ⊢
  rw [hf p0 hp0] at hd
  rw [yc_ hn hp0]
  exact ⟨hd, rfl, fun v hv => hv⟩
 refine ⟨⟨⟨rfl, rfl, rfl, Nat.le_refl _, fun _ _ _ => rfl, ho.globOk.glOk fun b hb => ho.noGl (hsub b hb)⟩, fun p hp => ?_, WA_ ho hn hf, fun b hb => ⟨(ho.mine b (hsub b hb)).1, .inr hb⟩, hn, Nat.le_refl _⟩, hle⟩
 have h1 := zx_ (q := YV_ T) (ho.trees _ (xk_ (hf p hp)))
 rw [hc p hp] at h1
 exact h1.le hle (fun b _ => rfl)
end
structure OwnCall (P : Program) (f : FuncId) (args : List AV) (T T' : List (Nat × Tree)) (r : AV) (X : List Nat) : Prop where
 enter : ∀ args w, (callFunc f args).run P w = .ok (.enter f args) w
 keep : ∀ i ∈ X, i ∈ Aw.ids T'
 runs : ∀ (us : List Value) (w : World) (S : Nat → Prop) (ι : Nat → Value) (F : Nat → List Nat), Owns (wR_ w T F S 0 (fun _ => undef)) T w ι F → reps (mem (wR_ w T F S 0 (fun _ => undef)) w T ι F) args us →
  Calls P f us.toArray w fun e w' => ∃ v ι' F', e = .returned v ∧ Owns (wR_ w T F S 0 (fun _ => undef)) T' w' ι' F' ∧ rep (mem (wR_ w T F S 0 (fun _ => undef)) w' T' ι' F') r v ∧ ∀ i ∈ X, ι' i = ι i
def ak8 (P : Program) (H : List (Nat × Tree)) (f : FuncId) (args : List AV) (r : AV) (all subs : List Nat) (H' : List (Nat × Tree)) : Prop :=
 ∃ (T T' : List (Nat × Tree)), OwnCall P f args T T' r subs ∧ (Aw.ids T).Nodup ∧ (∀ p ∈ T, find H p.1 = some p.2) ∧ zQ_ T ∧ xH_ (YV_ T) args = args ∧ (∀ i ∈ Aw.ids T', i ∈ Aw.ids T ∨ i ∉ Aw.ids H) ∧
  all = (Aw.ids T).filter (fun i => !subs.contains i) ∧ H' = T' ++ xD_ (qOf all subs) (rmT (Aw.ids T) H)
section
variable {P : Program} {cx : Cx} {H : List (Nat × Tree)} {w w' : World} {ι : Nat → Value} {F : Nat → List Nat}
theorem Qf_ {t : Option Tree} (h : t.isSome = true) : xw_ t [] = true := by
 cases t with
 | none => cases h
 | some t => cases t <;> rfl
theorem Zt_ (ho : Owns cx H w ι F) {f : FuncId} {args : List AV} {r : AV} {all X : List Nat} {H' : List (Nat × Tree)} (h : ak8 P H f args r all X H') {us : List Value} (hr : reps (mem cx w H ι F) args us) :
  (∀ args w, (callFunc f args).run P w = .ok (.enter f args) w) ∧ Calls P f us.toArray w fun e w' => ∃ u ι' F', e = .returned u ∧ Owns cx H' w' ι' F' ∧ rep (mem cx w' H' ι' F') r u ∧
   ∀ av v, rep (mem cx w H ι F) av v → rep (mem cx w' H' ι' F') (xu_ (qOf all X) av) v := by
 obtain ⟨T, T', hC, hn, hf, hc, ha, hfr, rfl, rfl⟩ := h
 obtain ⟨ho1, hle0⟩ := Jh_ ho hn hf hc 0 (fun _ => undef)
 have har : reps (mem (wR_ w T F (imm cx w H F) 0 (fun _ => undef)) w T ι F) args us := by
  have h1 := y6_ (q := YV_ T) args us hr
  rw [ha] at h1
  rw [xC_] at h1 ⊢
  exact h1.mono fun _ _ => rep.le hle0 _ _
 refine ⟨hC.enter, (hC.runs us w (imm cx w H F) ι F ho1 har).mono fun e w' ⟨v, ι', F', he, hO, hv, hX⟩ => ?_⟩
 have hsub : ∀ b, b ∈ xX_ T F → b ∈ xX_ H F := fun b hb => by
  obtain ⟨p, hp, hb⟩ := mem_foot.1 hb
  exact mem_foot.2 ⟨_, xk_ (hf p hp), hb⟩
 have hw : Turned w w' (xX_ T F) := ⟨hO.keep.os, hO.keep.tape, hO.keep.output, hO.keep.size, fun k hk hkn => hO.keep.block k hk hkn⟩
 have hconT : ∀ {i}, i ∉ Aw.ids T → (Aw.ids T).contains i = false := fun {i} h => by simpa using h
 have hcon : ∀ {i}, (Aw.ids T').contains i = true ↔ i ∈ Aw.ids T' := fun {i} => by simp
 have hcon' : ∀ {i}, i ∈ Aw.ids H → i ∉ Aw.ids T → (Aw.ids T').contains i = false := fun {i} hH hT => by
  have : i ∉ Aw.ids T' := fun h => (hfr i h).elim hT (fun h => h hH)
  simpa using this
 have hTin : ∀ p ∈ T', (Aw.ids T').contains p.1 = true := fun p hp => hcon.2 (List.mem_map.2 ⟨p, hp, rfl⟩)
 have hnew : ∀ b ∈ xX_ T' F', b < w'.heap.size ∧ (b ∈ xX_ T F ∨ w.heap.size ≤ b) := fun b hb => ⟨(hO.mine b hb).1, (hO.mine b hb).2.symm⟩
 have hq1 : xX_ T' (fun i => if (Aw.ids T').contains i then F' i else F i) = xX_ T' F' := yL_ (fun p hp => by simp only [hTin p hp, if_true])
 have hq2 : xX_ (xD_ (qOf ((Aw.ids T).filter (fun i => !X.contains i)) X) (rmT (Aw.ids T) H)) (fun i => if (Aw.ids T').contains i then F' i else F i) = xX_ (rmT (Aw.ids T) H) F := by
  rw [zm_]
  exact yL_ (fun p hp => by rw [mem_rmT] at hp; simp only [hcon' (List.mem_map.2 ⟨p, hp.1, rfl⟩) hp.2, Bool.false_eq_true, if_false])
 have hfoot : xX_ (T' ++ xD_ (qOf ((Aw.ids T).filter (fun i => !X.contains i)) X) (rmT (Aw.ids T) H)) (fun i => if (Aw.ids T').contains i then F' i else F i) = xX_ T' F' ++ xX_ (rmT (Aw.ids T) H) F := by rw [wx_, hq1, hq2]
 have hrm : ∀ b, b ∈ xX_ (rmT (Aw.ids T) H) F → b ∈ xX_ H F ∧ b ∉ xX_ T F := fun b hb => by
  obtain ⟨p, hp, hb⟩ := mem_foot.1 hb
  rw [mem_rmT] at hp
  refine ⟨mem_foot.2 ⟨p, hp.1, hb⟩, fun h => ?_⟩
  obtain ⟨p', hp', hb'⟩ := mem_foot.1 h
  exact yr_ ho (yc_ ho.ids hp.1) (hf p' hp') (fun e => hp.2 (e ▸ List.mem_map.2 ⟨p', hp', rfl⟩)) hb hb'
 have hfindT : ∀ i, i ∈ Aw.ids T' → find (T' ++ xD_ (qOf ((Aw.ids T).filter (fun i => !X.contains i)) X) (rmT (Aw.ids T) H)) i = find T' i := fun i hi => by
  obtain ⟨p, hp, rfl⟩ := List.mem_map.1 hi
  rw [zi_, yc_ hO.ids hp]
 have hfind : ∀ i, i ∈ Aw.ids H → i ∉ Aw.ids T → find (T' ++ xD_ (qOf ((Aw.ids T).filter (fun i => !X.contains i)) X) (rmT (Aw.ids T) H)) i = (find H i).map (yF_ (qOf ((Aw.ids T).filter (fun i => !X.contains i)) X)) := fun i hH hi => by
  rw [zi_, find_none.2 (fun h => (hfr i h).elim hi (fun h => h hH)), zM_, X4_, hconT hi]
  rfl
 have hother : ∀ p ∈ H, p.1 ∉ Aw.ids T → ∀ b ∈ F p.1, w'.heap[b]? = w.heap[b]? := fun p hp hi b hb =>
  hw.block b (ho.mine b (mem_foot.2 ⟨p, hp, hb⟩)).1 (hrm b (mem_foot.2 ⟨p, mem_rmT.2 ⟨hp, hi⟩, hb⟩)).2
 have hnotin : ∀ b, imm cx w H F b → b ∉ xX_ T' F' ++ xX_ (rmT (Aw.ids T) H) F := fun b hb hm => by
  rcases List.mem_append.1 hm with hm | hm
  ·rcases (hnew b hm).2 with h | h
   ·exact hb.2.2 (hsub b h)
   ·exact absurd h (Nat.not_le.2 hb.2.1)
  ·exact hb.2.2 (hrm b hm).1
 have hle1 : ((mem cx w H ι F).less (qOf ((Aw.ids T).filter (fun i => !X.contains i)) X)).le (mem cx w' (T' ++ xD_ (qOf ((Aw.ids T).filter (fun i => !X.contains i)) X) (rmT (Aw.ids T) H)) (fun i => if (Aw.ids T').contains i then ι' i else ι i) (fun i => if (Aw.ids T').contains i then F' i else F i)) := by
  refine ⟨fun b hb => ⟨⟨hb.1, Nat.lt_of_lt_of_le hb.2.1 hw.size, fun hm => ?_⟩, hw.block b hb.2.1 (fun h => hb.2.2 (hsub b h))⟩, fun i p hd => ?_⟩
  ·rw [hfoot] at hm
   exact hnotin b hb hm
  ·obtain ⟨hd, hqf⟩ := hd
   simp only [mem] at hd ⊢
   by_cases hi : i ∈ Aw.ids T
   ·simp only [qOf, Bool.or_eq_false_iff] at hqf
    have hiX : i ∈ X := by
     have h1 := hqf.1
     simp only [List.contains_eq_mem, List.mem_filter, Bool.not_eq_true', decide_eq_false_iff_not, not_and] at h1
     have h2 := h1 hi
     simpa using h2
    have hp : p = [] := by
     have h1 := hqf.2
     have h2 : X.contains i = true := by simpa using hiX
     rw [h2, Bool.true_and] at h1
     simpa using h1
    subst hp
    rw [hfindT i (hC.keep i hiX)]
    have e1 : (if (Aw.ids T').contains i = true then ι' i else ι i) = ι i := by rw [if_pos (hcon.2 (hC.keep i hiX))]; exact hX i hiX
    refine ⟨Qf_ ?_, e1, fun v hv => by simpa [xn_] using hv⟩
    obtain ⟨p, hp, rfl⟩ := List.mem_map.1 (hC.keep i hiX)
    rw [yc_ hO.ids hp]; rfl
   ·have hH : i ∈ Aw.ids H := by
     refine Classical.byContradiction fun hni => ?_
     rw [find_none.2 hni] at hd
     simp [xw_] at hd
    rw [hfind i hH hi]
    have e1 : (if (Aw.ids T').contains i = true then ι' i else ι i) = ι i := if_neg (by rw [hcon' hH hi]; simp)
    refine ⟨by rw [y7_]; exact hd, e1, fun v hv => ?_⟩
    cases hcf : find H i with
    | none => rw [hcf] at hd; simp [xw_] at hd
    | some t => exact ZR_ ho hd (hother _ (xk_ hcf) hi) hv
 have hle2 : (mem (wR_ w T F (imm cx w H F) 0 (fun _ => undef)) w' T' ι' F').le (mem cx w' (T' ++ xD_ (qOf ((Aw.ids T).filter (fun i => !X.contains i)) X) (rmT (Aw.ids T) H)) (fun i => if (Aw.ids T').contains i then ι' i else ι i) (fun i => if (Aw.ids T').contains i then F' i else F i)) := by
  refine ⟨fun b hb => ⟨⟨?_, hb.2.1, fun hm => ?_⟩, rfl⟩, fun i p hd => ?_⟩
  ·rcases hb.1 with h | h | h
   ·exact h.1
   ·exact .inr (.inl (Nat.le_trans ho.old h))
   ·exact .inr (ho.mine b (hsub b h)).2
  ·rw [hfoot] at hm
   rcases List.mem_append.1 hm with hm | hm
   ·exact hb.2.2 hm
   ·rcases hb.1 with h | h | h
    ·exact h.2.2 (hrm b hm).1
    ·exact absurd (ho.mine b (hrm b hm).1).1 (Nat.not_lt.2 h)
    ·exact (hrm b hm).2 h
  ·simp only [mem] at hd ⊢
   have hi : i ∈ Aw.ids T' := by
    refine Classical.byContradiction fun hni => ?_
    rw [find_none.2 hni] at hd
    simp [xw_] at hd
   rw [hfindT i hi, if_pos (hcon.2 hi)]
   exact ⟨hd, rfl, fun v hv => hv⟩
 have hnd : (Aw.ids (T' ++ xD_ (qOf ((Aw.ids T).filter (fun i => !X.contains i)) X) (rmT (Aw.ids T) H))).Nodup := by
  rw [Xb_, X5_, List.nodup_append]
  refine ⟨hO.ids, ZQ_ ho.ids, fun i hi j hj e => ?_⟩
  subst e
  obtain ⟨p, hp, rfl⟩ := List.mem_map.1 hj
  exact (hfr _ hi).elim (mem_rmT.1 hp).2 (fun h => h (List.mem_map.2 ⟨p, (mem_rmT.1 hp).1, rfl⟩))
 refine ⟨v, _, _, he, ⟨ho.keep.turned ho.old hw (fun b hb => (ho.mine b (hsub b hb)).2), fun p hp => ?_, ?_, fun b hb => ?_, hnd, Nat.le_trans ho.old hw.size⟩, rep.le hle2 r v hv, fun av v h => rep.le hle1 _ _ (wB_ av v h)⟩
 ·rcases List.mem_append.1 hp with hp | hp
  ·simp only [hTin p hp, if_true]
   exact (hO.trees p hp).le hle2 (fun b _ => rfl)
  ·simp only [xD_, List.mem_map] at hp
   obtain ⟨p0, hp0, rfl⟩ := hp
   rw [mem_rmT] at hp0
   simp only [hcon' (List.mem_map.2 ⟨p0, hp0.1, rfl⟩) hp0.2, Bool.false_eq_true, if_false]
   exact (zx_ (ho.trees p0 hp0.1)).le hle1 (hother p0 hp0.1 hp0.2)
 ·rw [hfoot, List.nodup_append]
  refine ⟨hO.nodup, ho.nodup.sublist (yI_ _ F H), fun a ha c hcm e => ?_⟩
  subst e
  obtain ⟨k1, k2⟩ := hrm a hcm
  rcases (hnew a ha).2 with h | h
  ·exact k2 h
  ·exact absurd (ho.mine a k1).1 (Nat.not_lt.2 h)
 ·rw [hfoot] at hb
  rcases List.mem_append.1 hb with h | h
  ·refine ⟨(hnew b h).1, ?_⟩
   rcases (hnew b h).2 with k | k
   ·exact (ho.mine b (hsub b k)).2
   ·exact .inl (Nat.le_trans ho.old k)
  ·exact ⟨Nat.lt_of_lt_of_le (ho.mine b (hrm b h).1).1 hw.size, (ho.mine b (hrm b h).1).2⟩
end
mutual
def Qg_ (H : List (Nat × Tree)) (R : List Nat) : AV → AV
 | .ref i [] => if R.contains i then (match find H i with
  | some (.t1 xs) => .l1 xs
  | some (.t2 xs) => .l2 xs
  | some (.t3 xs) => .l3 xs
  | _ => .junk) else .ref i []
 | .agg vs => .agg (W7_ H R vs)
 | .int n => .int n
 | .bool b => .bool b
 | .nil => .nil
 | .l1 xs => .l1 xs
 | .l2 xs => .l2 xs
 | .l3 xs => .l3 xs
 | _ => .junk
def W7_ (H : List (Nat × Tree)) (R : List Nat) : List AV → List AV
 | [] => []
 | a :: as => Qg_ H R a :: W7_ H R as
end
section
variable {P : Program} {cx : Cx} {H : List (Nat × Tree)} {w w' : World} {ι : Nat → Value} {F : Nat → List Nat}
theorem y5_ (ho : Owns cx H w ι F) {R : List Nat} : (∀ b, imm cx w H F b → imm cx w (xD_ (qOf R []) (rmT R H)) F b) ∧ ∀ i t, i ∈ R → find H i = some t → ∀ b ∈ F i, imm cx w (xD_ (qOf R []) (rmT R H)) F b := by
 constructor
 ·intro b hb
  refine ⟨hb.1, hb.2.1, fun hm => ?_⟩
  rw [zm_] at hm
  exact hb.2.2 ((yI_ R F H).subset hm)
 ·intro i t hi hf b hb
  have hm := ho.mine b (mem_foot.2 ⟨_, xk_ hf, hb⟩)
  refine ⟨.inr hm.2, hm.1, fun hm2 => ?_⟩
  rw [zm_] at hm2
  obtain ⟨p, hp, hb2⟩ := mem_foot.1 hm2
  rw [mem_rmT] at hp
  exact yr_ ho (yc_ ho.ids hp.1) hf (fun e => hp.2 (e ▸ hi)) hb2 hb
mutual
theorem ak9 (ho : Owns cx H w ι F) {R : List Nat} : ∀ (av : AV) (u : Value), rep (mem cx w H ι F) av u → rep (mem cx w (xD_ (qOf R []) (rmT R H)) ι F) (Qg_ H R av) u
 | .ref i [], u, h => by
  unfold Qg_
  split
  ·rename_i hc
   have hi : i ∈ R := by simpa using hc
   simp only [rep, mem, xn_, Option.some.injEq] at h
   split
   ·rename_i xs hf
    have ht := ho.trees _ (xk_ hf)
    simp only [treeRep, mem] at ht
    rw [h.2] at ht
    simp only [rep]
    exact ht.l1 ((y5_ ho).2 i _ hi hf)
   ·rename_i xs hf
    have ht := ho.trees _ (xk_ hf)
    simp only [treeRep, mem] at ht
    rw [h.2] at ht
    simp only [rep]
    exact ht.l2 ((y5_ ho).2 i _ hi hf)
   ·rename_i xs hf
    have ht := ho.trees _ (xk_ hf)
    simp only [treeRep, mem] at ht
    rw [h.2] at ht
    simp only [rep]
    exact ht.l3 ((y5_ ho).2 i _ hi hf)
   ·simp only [rep]
  ·rename_i hc
   have hq : qOf R [] i [] = false := by simpa [qOf] using hc
   have := (ho.drop R).2 (.ref i []) u h
   simpa only [xu_, hq, Bool.false_eq_true, if_false] using this
 | .ref i (_ :: _), u, h => by simp only [Qg_, rep]
 | .agg vs, u, h => by
  simp only [rep, Qg_] at h ⊢
  obtain ⟨us, rfl, h1⟩ := h
  exact ⟨us, rfl, Y5_ ho vs us h1⟩
 | .int _, u, h | .bool _, u, h | .nil, u, h => by simpa only [rep, Qg_] using h
 | .l1 xs, u, h => by
  simp only [rep, Qg_] at h ⊢
  exact L1.le (fun b hb => ⟨(y5_ ho).1 b hb, rfl⟩) h
 | .l2 xs, u, h => by
  simp only [rep, Qg_] at h ⊢
  exact L2.le (fun b hb => ⟨(y5_ ho).1 b hb, rfl⟩) h
 | .l3 xs, u, h => by
  simp only [rep, Qg_] at h ⊢
  exact L3.le (fun b hb => ⟨(y5_ ho).1 b hb, rfl⟩) h
 | .ik _ _, u, h | .str _, u, h | .nilfn, u, h | .lv _, u, h | .tup _, u, h | .fn _ _, u, h | .eptr _ _, u, h | .cptr _ _, u, h
 | .sub _ _ _ _, u, h | .eref _ _ _, u, h | .bptr _ _, u, h | .when _ _, u, h | .junk, u, h => by simp only [Qg_, rep]
theorem Y5_ (ho : Owns cx H w ι F) {R : List Nat} : ∀ (as : List AV) (us : List Value), reps (mem cx w H ι F) as us → reps (mem cx w (xD_ (qOf R []) (rmT R H)) ι F) (W7_ H R as) us
 | [], us, h => by simpa only [reps, W7_] using h
 | a :: as, us, h => by
  simp only [reps, W7_] at h ⊢
  obtain ⟨u, us', rfl, h1, h2⟩ := h
  exact ⟨u, us', rfl, ak9 ho a u h1, Y5_ ho as us' h2⟩
end
end
mutual
theorem Yl_ {q1 q2 q3 : Nat → List Nat → Bool} (h : ∀ i p, q3 i p = (q1 i p || q2 i p)) : ∀ (v : AV), xu_ q2 (xu_ q1 v) = xu_ q3 v
 | .ref i p | .sub i p _ _ | .eref i p _ => by
  simp only [xu_, h]
  cases h1 : q1 i p
  ·simp [xu_]
  ·simp [xu_]
 | .bptr i _ => by
  simp only [xu_, h]
  cases h1 : q1 i []
  ·simp [xu_]
  ·simp [xu_]
 | .lv vs | .agg vs | .tup vs | .fn _ vs | .cptr vs _ => by simp only [xu_, Zu_ h vs]
 | .eptr v _ | .when _ v => by simp only [xu_, Yl_ h v]
 | .int _ | .ik _ _ | .bool _ | .str _ | .nil | .nilfn | .l1 _ | .l2 _ | .l3 _ | .junk => by simp only [xu_]
theorem Zu_ {q1 q2 q3 : Nat → List Nat → Bool} (h : ∀ i p, q3 i p = (q1 i p || q2 i p)) : ∀ (vs : List AV), xH_ q2 (xH_ q1 vs) = xH_ q3 vs
 | [] => rfl
 | a :: as => by simp only [xH_, Yl_ h a, Zu_ h as]
end
theorem Ji_ {R all subs : List Nat} (i : Nat) (p : List Nat) : qOf (R ++ all) subs i p = (qOf R [] i p || qOf all subs i p) := by
 simp [qOf, Bool.or_assoc]
end Go.Aw
namespace Go.Aw
open Go.RowKit
def Xv_ (P : Program) (H : List (Nat × Tree)) (f : FuncId) (args : List AV) (K : AV → List Nat → List Nat → List (Nat × Tree) → Prop) : Prop :=
 (∃ v, Ug_ P H f args v ∧ K v [] [] H) ∨
 (∃ ds d v es, Xj_ H args = some ds ∧ FreshCall P f ds d ∧ thaw (xP_ H) d = some (v, es) ∧ K v [] [] (es ++ H)) ∨
 (∃ r subs H', ah4 P H f args r subs H' ∧ K r [] subs H') ∨
 (∃ r id H', Qe_ P H f args r id H' ∧ K r [] [id] H') ∨
 (∃ r all subs H', ak8 P H f args r all subs H' ∧ K r all subs H') ∨
 (∃ R v, PureCall P f (W7_ H R args) v ∧ x1_ (W7_ H R args) = true ∧ K v R [] (xD_ (qOf R []) (rmT R H))) ∨
 (∃ R r all subs H', ak8 P (xD_ (qOf R []) (rmT R H)) f (W7_ H R args) r all subs H' ∧ K r (R ++ all) subs H')
@[congr] theorem al0 {P : Program} {H H2 : List (Nat × Tree)} {f : FuncId} {args args2 : List AV} {K : AV → List Nat → List Nat → List (Nat × Tree) → Prop} (h : args = args2) (h2 : H = H2) : Xv_ P H f args K = Xv_ P H2 f args2 K := by rw [h, h2]
section
variable {P : Program} {cx : Cx} {H : List (Nat × Tree)} {w w' : World} {ι : Nat → Value} {F : Nat → List Nat}
theorem UW_ (ho : Owns cx H w ι F) {f : FuncId} {args : List AV} {K : AV → List Nat → List Nat → List (Nat × Tree) → Prop} (h : Xv_ P H f args K) {us : List Value} (hr : reps (mem cx w H ι F) args us) :
  (∀ args w, (callFunc f args).run P w = .ok (.enter f args) w) ∧ Calls P f us.toArray w fun e w' => ∃ u v all subs H' ι' F', e = .returned u ∧ K v all subs H' ∧ Owns cx H' w' ι' F' ∧ rep (mem cx w' H' ι' F') v u ∧
   ∀ av x, rep (mem cx w H ι F) av x → rep (mem cx w' H' ι' F') (xu_ (qOf all subs) av) x := by
 rcases h with ⟨v, h1, h2⟩ | ⟨ds, d, v, es, h1, h2, h3, h4⟩ | ⟨r, subs, H', h1, h2⟩ | ⟨r, id, H', h1, h2⟩ | ⟨r, all, subs, H', h1, h2⟩ | ⟨R, v, h1, h2, h3⟩ | ⟨R, r, all, subs, H', h1, h2⟩
 ·obtain ⟨k1, k2⟩ := XA_ ho h1 hr
  exact ⟨k1, k2.mono fun e w' ⟨u, j1, j2, j3⟩ => ⟨u, v, [], [], H, ι, F, j1, h2, ho.ext j2, j3, fun av x h => by rw [yA_]; exact rep.le (zj_ j2) _ _ h⟩⟩
 ·have hv := ZM_ ho args ds us h1 hr
  refine ⟨h2.enter, (h2.runs us w (z9_ cx w) ⟨fun b hb => hb.1, ho.globOk⟩ hv).mono fun e w' ⟨u, fp, k1, k2, k3, k4, k5⟩ => ?_⟩
  obtain ⟨G, J, t1, t2⟩ := TT_ d (xP_ H) fp u v es k3 h3
  obtain ⟨j1, j2, j3⟩ := ho.adds k2 t1 k4 k5
  exact ⟨u, v, [], [], _, _, _, k1, h4, j1, t2 _ rfl j3, fun av x h => by rw [yA_]; exact j2 _ _ h⟩
 ·obtain ⟨k1, k2⟩ := VX_ ho h1 hr
  exact ⟨k1, k2.mono fun e w' ⟨u, F', j1, j2, j3, j4⟩ => ⟨u, r, [], subs, H', ι, F', j1, h2, j2, j3, j4⟩⟩
 ·obtain ⟨k1, k2⟩ := W6_ ho h1 hr
  exact ⟨k1, k2.mono fun e w' ⟨u, F', j1, j2, j3, j4⟩ => ⟨u, r, [], [id], H', ι, F', j1, h2, j2, j3, j4⟩⟩
 ·obtain ⟨k1, k2⟩ := Zt_ ho h1 hr
  exact ⟨k1, k2.mono fun e w' ⟨u, ι', F', j1, j2, j3, j4⟩ => ⟨u, r, all, subs, H', ι', F', j1, h2, j2, j3, j4⟩⟩
 ·have ho2 := ho.drop R
  obtain ⟨k1, k2⟩ := XA_ ho2.1 (xa_ h1 h2) (Y5_ ho args us hr)
  exact ⟨k1, k2.mono fun e w' ⟨u, j1, j2, j3⟩ => ⟨u, v, R, [], _, ι, F, j1, h3, ho2.1.ext j2, j3, fun av x hav => rep.le (zj_ j2) _ _ (ho2.2 av x hav)⟩⟩
 ·have ho2 := ho.drop R
  obtain ⟨k1, k2⟩ := Zt_ ho2.1 h1 (Y5_ ho args us hr)
  exact ⟨k1, k2.mono fun e w' ⟨u, ι', F', j1, j2, j3, j4⟩ => ⟨u, r, R ++ all, subs, H', ι', F', j1, h2, j2, j3, fun av x hav => by
   rw [← Yl_ (q1 := qOf R []) (q2 := qOf all subs) Ji_]
   exact j4 _ _ (ho2.2 av x hav)⟩⟩
end
def Qh_ (all subs : List Nat) (s : List (Nat × AV)) : List (Nat × AV) :=
 match all, subs with
 | [], [] => s
 | _, _ => yj_ all subs s
theorem TM_ (all subs : List Nat) (s : List (Nat × AV)) : Qh_ all subs s = yj_ all subs s := by
 cases all with
 | nil =>
  cases subs with
  | nil =>
   simp only [Qh_, yj_, yA_]
   simp
  | cons _ _ => rfl
 | cons _ _ => cases subs <;> rfl
def ym_ (P : Program) (ops : Array Oper) (n : Nat) (st : St) (o : Oper) (K : St → Prop) : Prop :=
 match o.op, o.guard with
 | .call { callee := .value g, args, .. }, none =>
  (match o.dst with
   | some d => d < n
   | none => True) ∧
  (match strip (evF st.get g) with
   | .fn f caps => okG true (evF st.get g) ∧ Rf_ true (args.toList.map (evF st.get)) ∧ Xv_ P st.H f ((args.toList.map (evF st.get)).map strip ++ caps) (fun v all subs H' => K ⟨Yr_ o.dst v (Qh_ all subs st.s), H'⟩)
   | _ => False)
 | _, _ => Xy_ P ops n st o K
@[congr] theorem al1 {P : Program} {ops : Array Oper} {n : Nat} {st st2 : St} {o : Oper} {K : St → Prop} (h : st = st2) : ym_ P ops n st o K = ym_ P ops n st2 o K := by rw [h]
def ah5 (P : Program) (ops : Array Oper) (n : Nat) : List Oper → St → (St → Prop) → Prop
 | [], st, K => K st
 | o :: r, st, K => ym_ P ops n st o (fun st' => ah5 P ops n r st' K)
section
variable {P : Program} {cx : Cx} {n : Nat} {ops : Array Oper} {o : Oper} {st : St} {tmps : Array Value} {w : World}
theorem Zv_ (hs : SimF cx n st.get st.H tmps w) (hx : ∀ d, o.dst = some d → cx.fix d = false) {K : St → Prop} (h : ym_ P ops n st o K) {Q : Exit → Act → World → Prop} :
  if Region.wanted o (yielded ops tmps) then o.wpIn (Fr cx.rd) 0 P ⟨tmps, cx.ds⟩ w (After cx n (Vg_ K)) Q else After cx n (Vg_ K) ((⟨tmps, cx.ds⟩ : Act).put o.dst undef) w := by
 unfold ym_ at h
 split at h
 ·rename_i g args ts hop hgd
  obtain ⟨h1, h2⟩ := h
  have hd : V9_ cx.fix n o := fun d hd => ⟨hx d hd, by rw [hd] at h1; exact h1⟩
  rw [if_pos (by simp [Region.wanted, hgd])]
  obtain ⟨hsz, ι, F, ho, hr⟩ := hs
  have hdst : ∀ d, o.dst = some d → d < tmps.size := fun d h => by rw [hsz.1]; exact (hd d h).2
  have hρ := TS_ (ds := cx.ds) hr
  have hg := hρ g
  split at h2 <;> first | exact h2.elim | skip
  rename_i f caps hsf
  obtain ⟨g1, g2, g3⟩ := h2
  have hgs := xG_ rfl g1 hg
  rw [hsf] at hgs
  simp only [rep] at hgs
  obtain ⟨cs, hcv, hcr⟩ := hgs
  have hok : ∀ (l : List Operand), Rf_ true (l.map (evF st.get)) → reps (mem cx w st.H ι F) ((l.map (evF st.get)).map strip) (l.map (⟨tmps, cx.ds⟩ : Act).eval) := by
   intro l
   induction l with
   | nil => intro _; simp [reps]
   | cons x l ih =>
    intro h
    simp only [List.map_cons, Rf_] at h
    simp only [List.map_cons, reps]
    exact ⟨_, _, rfl, xG_ rfl h.1 (hρ x), ih h.2⟩
  have har := ZA_ (hok _ g2) hcr
  obtain ⟨k1, k2⟩ := UW_ ho g3 har
  refine ZD_ (by rw [hop]; intro c h; cases h) ?_
  have hrun : (execOp (⟨tmps, cx.ds⟩ : Act).eval o).run P w = .ok (.enter f (args.toList.map (⟨tmps, cx.ds⟩ : Act).eval ++ cs).toArray) w := by
   unfold execOp
   simp only [hop, resolve, Sem.run_bind]
   rw [hcv]
   simp [Deferred.ofValue, invoke, k1]
  rw [hrun, Oper.uponIn_enter]
  refine ⟨fun _ => by simp_all [Fr, Fence.wide], WF_ ?_⟩
  refine k2.mono fun e w' ⟨u, v, all, subs, H', ι', F', j1, j2, j3, j4, j5⟩ => ?_
  subst j1
  refine ⟨(XP_ _ _).2, _, _, ⟨_, rfl, rfl, j2⟩, ZC_ hsz hd _, ι', F', j3, ?_⟩
  have := ZB_ (ds := cx.ds) (m := mem cx w' H' ι' F') (g := fun k => xu_ (qOf all subs) (st.get k)) (tmps := tmps) (fun k => j5 _ _ (hr k)) hdst j4
  intro k
  have hk := this k
  show rep _ (xg_ (Yr_ o.dst v (Qh_ all subs st.s)) k) _
  rw [TM_]
  have e1 := congrFun (get_put ⟨yj_ all subs st.s, H'⟩ o.dst v) k
  rw [e1]
  show rep _ (upd (fun k => xg_ (yj_ all subs st.s) k) o.dst v k) _
  rw [Y6_]
  exact hk
 ·exact zS_ hs (Xz_ hx h)
end
end Go.Aw
namespace Go.Aw
open Go.RowKit
section
variable {P : Program} {cx : Cx} {n : Nat} {ops : Array Oper}
theorem WB_ {K : St → Prop} {Q' : Exit → Act → World → Prop} (hQ : ∀ a w, After cx n (Vg_ K) a w → Q' .normal a w) : ∀ (l : List Oper) {st : St} {tmps : Array Value} {w : World}, (∀ o ∈ l, ∀ d, o.dst = some d → cx.fix d = false) →
  SimF cx n st.get st.H tmps w → ah5 P ops n l st K → wpListIn (Fr cx.rd) 0 P ops Q' l ⟨tmps, cx.ds⟩ w
 | [], st, tmps, w, _, hs, h => hQ _ _ ⟨rfl, _, _, ⟨st, rfl, rfl, h⟩, hs⟩
 | o :: l, st, tmps, w, hx, hs, h => by
  have := Zv_ (Q := Q') hs (hx o (List.mem_cons_self ..)) h
  have next : ∀ a w, After cx n (Vg_ (fun st' => ah5 P ops n l st' K)) a w → wpListIn (Fr cx.rd) 0 P ops Q' l a w := by
   rintro a w ⟨hd, g', H', ⟨st', rfl, rfl, hK⟩, hs'⟩
   rw [zD_ hd]
   exact WB_ hQ l (fun o ho => hx o (List.mem_cons_of_mem _ ho)) hs' hK
  unfold wpListIn
  split
  ·rename_i hw
   rw [if_pos hw] at this
   exact Oper.wpIn_mono next this
  ·rename_i hw
   rw [if_neg hw] at this
   exact ⟨fun _ _ => trivial, next _ _ this⟩
theorem AT.run {Q : SQ} {st : St} {id : Nat} {l : List Oper} (hx : ∀ o ∈ l, ∀ d, o.dst = some d → cx.fix d = false) (h : ah5 P l.toArray n l st (fun st' => Q .normal st')) : AT P cx n (.region id l.toArray false) Q st := by
 intro tmps w hs
 refine wpIn_region_list ?_
 have : wpListIn (Fr cx.rd) 0 P l.toArray _ l ⟨tmps, cx.ds⟩ w := WB_ (Q' := fun e a w' => a.defers = cx.ds ∧ ∃ st', Q e st' ∧ SimF cx n st'.get st'.H a.tmps w') (K := fun st' => Q .normal st')
  (fun a w' ⟨h1, g, H, ⟨st', e1, e2, h2⟩, h3⟩ => by subst e1; subst e2; exact ⟨h1, st', h2, h3⟩) l hx hs h
 simpa using this
theorem al2 {Q : SQ} {st : St} {cs : List Code} {id : Nat} {l : List Oper} (hx : ∀ o ∈ l, ∀ d, o.dst = some d → cx.fix d = false) (h : ∀ K : St → Prop, (∀ s, ATs P cx n cs Q s → K s) → ah5 P l.toArray n l st K) : ATs P cx n (.region id l.toArray false :: cs) Q st :=
 AT.run hx (h _ fun _ h => h)
theorem xc_ {H : List (Nat × Tree)} {f : FuncId} {args : List AV} {v : AV} {K : AV → List Nat → List Nat → List (Nat × Tree) → Prop} (h : PureCall P f args v) (hd : x1_ args = true) (k : K v [] [] H) : Xv_ P H f args K := .inl ⟨v, xa_ h hd, k⟩
theorem x0_ {H : List (Nat × Tree)} {f : FuncId} {args ds : List AV} {v : AV} {K : AV → List Nat → List Nat → List (Nat × Tree) → Prop} (hv : Xj_ H args = some ds) (hm : z8_ v = true) (h : PureCall P f ds v) (k : K v [] [] H) : Xv_ P H f args K := .inl ⟨v, xR_ hv hm h, k⟩
theorem yx_ {H : List (Nat × Tree)} {f : FuncId} {args ds : List AV} {v : AV} {K : AV → List Nat → List Nat → List (Nat × Tree) → Prop} (hv : Xj_ H args = some ds) (h : FreshCall P f ds v) (k : K v [] [] H) : Xv_ P H f args K := .inl ⟨v, yn_ hv h, k⟩
theorem xq_ {H : List (Nat × Tree)} {f : FuncId} {args ds : List AV} {d v : AV} {es : List (Nat × Tree)} {K : AV → List Nat → List Nat → List (Nat × Tree) → Prop} (hv : Xj_ H args = some ds) (h : FreshCall P f ds d) (ht : thaw (xP_ H) d = some (v, es)) (k : K v [] [] (es ++ H)) : Xv_ P H f args K :=
 .inr (.inl ⟨ds, d, v, es, hv, h, ht, k⟩)
mutual
def refsOf : AV → List Nat
 | .ref i [] => [i]
 | .agg vs => Zw_ vs
 | _ => []
def Zw_ : List AV → List Nat
 | [] => []
 | a :: as => refsOf a ++ Zw_ as
end
mutual
theorem WC_ {m m' : Mem} : ∀ (a : AV) (u : Value), rep m a u → rep m' a u → ∀ i ∈ refsOf a, m'.ι i = m.ι i
 | .ref i [], u, h, h', j, hj => by
  simp only [refsOf, List.mem_singleton] at hj; subst hj
  simp only [rep, xn_, Option.some.injEq] at h h'
  rw [h.2, h'.2]
 | .ref i (_ :: _), _, _, _, j, hj => by simp [refsOf] at hj
 | .agg vs, u, h, h', j, hj => by
  simp only [refsOf] at hj
  simp only [rep] at h h'
  obtain ⟨us, rfl, h1⟩ := h
  obtain ⟨us', e, h2⟩ := h'
  have : us' = us := by
   simp only [Value.agg.injEq] at e
   exact (congrArg Array.toList e).symm
  subst this
  exact Zx_ vs _ h1 h2 j hj
 | .int _, _, _, _, _, hj | .bool _, _, _, _, _, hj | .str _, _, _, _, _, hj | .nil, _, _, _, _, hj | .tup _, _, _, _, _, hj
 | .ik _ _, _, _, _, _, hj | .nilfn, _, _, _, _, hj | .lv _, _, _, _, _, hj | .fn _ _, _, _, _, _, hj | .eptr _ _, _, _, _, _, hj | .cptr _ _, _, _, _, _, hj
 | .sub _ _ _ _, _, _, _, _, hj | .eref _ _ _, _, _, _, _, hj | .bptr _ _, _, _, _, _, hj | .when _ _, _, _, _, _, hj | .junk, _, _, _, _, hj | .l1 _, _, _, _, _, hj | .l2 _, _, _, _, _, hj | .l3 _, _, _, _, _, hj => by simp [refsOf] at hj
theorem Zx_ {m m' : Mem} : ∀ (as : List AV) (us : List Value), reps m as us → reps m' as us → ∀ i ∈ Zw_ as, m'.ι i = m.ι i
 | [], _, _, _, j, hj => by simp [Zw_] at hj
 | a :: as, us, h, h', j, hj => by
  simp only [Zw_, List.mem_append] at hj
  simp only [reps] at h h'
  obtain ⟨u, us1, rfl, h1, h2⟩ := h
  obtain ⟨u', us2, e, h3, h4⟩ := h'
  cases e
  rcases hj with hj | hj
  ·exact WC_ a _ h1 h3 j hj
  ·exact Zx_ as _ h2 h4 j hj
end
theorem XM_ {H : List (Nat × Tree)} {w : World} {ι : Nat → Value} {F : Nat → List Nat} (ho : Owns cx H w ι F) : ∀ {l : List (Nat × Tree)}, (Aw.ids l).Nodup → (∀ p ∈ l, find H p.1 = some p.2) → (xX_ l F).Nodup
 | [], _, _ => by simp [xX_]
 | p :: l, hn, hl => by
  simp only [Aw.ids, List.map_cons, List.nodup_cons] at hn
  rw [yl_, List.nodup_append]
  refine ⟨xF_ ho (hl p (List.mem_cons_self ..)), XM_ ho hn.2 (fun q hq => hl q (List.mem_cons_of_mem _ hq)), fun a ha c hc e => ?_⟩
  subst e
  obtain ⟨q, hq, hb⟩ := mem_foot.1 hc
  exact yr_ ho (hl p (List.mem_cons_self ..)) (hl q (List.mem_cons_of_mem _ hq)) (fun e => hn.1 (e ▸ List.mem_map.2 ⟨q, hq, rfl⟩)) ha hb
theorem TurnCall.intro {f : FuncId} {fn : Func} {c : Code} {rs : List ResultVar} {a0 : AV} {as : List AV} {T T' : List (Nat × Tree)} {r : AV} (hcall : ∀ args w, (callFunc f args).run P w = .ok (.enter f args) w) (hf : P.funcs[f]? = some fn) (hb : fn.body = some c)
  (hn : fn.ntmps = n) (hrs : fn.results = rs.toArray) (hl : (a0 :: as).length ≤ n) (hids : Aw.ids T' = Aw.ids T) (hnd : (Aw.ids T).Nodup) (hflat : (T'.all fun p => Qd_ p.2) = true) (hfree : z8_ r = true) (href : ((Aw.ids T).all fun i => (refsOf a0).contains i) = true)
  (h : ∀ cx, cx.fix = 1 → AT P cx n c (fun e st => Ends e ∧ y1_ P st rs r ∧ st.get 0 = a0 ∧ ∀ p ∈ T', find st.H p.1 = some p.2) ⟨xl_ 0 (a0 :: as), T⟩) : TurnCall P f (a0 :: as) T T' r := by
 refine ⟨hcall, hids, hfree, fun us w ι G hT hGn hGb' hr => calls_of_wp hf hb ?_⟩
 have hGb := fun b hb => (hGb'.1 b hb).1
 rw [hn]
 have hr0 := hr
 rw [xC_] at hr
 have hlen := hr.length
 let u0 : Value := us.headD undef
 let cx : Cx := ⟨w.heap.size, fun b => b ∈ xX_ T G, fun _ => False, w, 1, fun _ => u0, none, []⟩
 have hget : ∀ k, (us.toArray ++ Array.replicate (n - us.toArray.size) undef).getD k undef = (us[k]?).getD undef := by
  intro k
  rw [Array.getD_eq_getD_getElem?]
  by_cases hk : k < us.length
  ·rw [Array.getElem?_append_left (by simpa using hk)]; simp
  ·rw [Array.getElem?_append_right (by simpa using hk)]
   rw [List.getElem?_eq_none (by omega)]
   simp only [Array.getElem?_replicate]
   split <;> rfl
 have hu0 : us[0]?.getD undef = u0 := by
  cases us with
  | nil => rfl
  | cons a l => rfl
 have ho : Owns cx T w ι G := ⟨⟨rfl, rfl, rfl, Nat.le_refl _, fun _ _ _ => rfl, hGb'.2.glOk fun b hb => (hGb'.1 b hb).2⟩, fun p hp => (hT p hp).tree rfl, hGn, fun b hb => ⟨hGb b hb, .inr hb⟩, hnd, Nat.le_refl _⟩
 have hm : All2 (rep (mem cx w T ι G)) (a0 :: as) us := hr.mono fun d v hdv =>
  rep.le (m := ⟨w, fun _ => False, ι, fun id path => xw_ (find T id) path = true⟩) (m' := mem cx w T ι G) ⟨fun b hb => hb.elim, fun i p hd => ⟨hd, rfl, fun v hv => hv⟩⟩ _ _ hdv
 have hs : SimF cx n (St.mk (xl_ 0 (a0 :: as)) T).get T (us.toArray ++ Array.replicate (n - us.toArray.size) undef) w := by
  refine ⟨⟨by simp only [List.size_toArray, Array.size_append, Array.size_replicate]; omega, fun j hj => ?_⟩, ι, G, ho, fun k => ?_⟩
  ·have : j = 0 := Nat.lt_one_iff.1 (of_decide_eq_true hj)
   subst this
   rw [hget]; exact hu0
  ·have := yH_ 0 hm k
   simp only [Nat.not_lt_zero, if_false, Nat.sub_zero] at this
   rw [hget]
   exact this
 refine wp_mono (wpIn_wide.1 (h cx rfl _ w hs)) ?_
 rintro e a w' ⟨h1, st', ⟨he, hv, hg0, hfd⟩, ⟨hsz, hfx⟩, ι', F', ho', hr'⟩
 obtain ⟨u, k1, k2⟩ := yU_ (P := P) hrs ho' hr' hv
 have hin : ∀ p ∈ T', p.1 ∈ refsOf a0 := fun p hp => by
  have : p.1 ∈ Aw.ids T := by rw [← hids]; exact List.mem_map.2 ⟨p, hp, rfl⟩
  have := (List.all_eq_true.1 href) _ this
  simpa using this
 have hι : ∀ p ∈ T', ι' p.1 = ι p.1 := fun p hp => by
  have r0 := hr' 0
  rw [hg0, hfx 0 (by rfl)] at r0
  have r1 : rep ⟨w, fun _ => False, ι, fun id path => xw_ (find T id) path = true⟩ a0 u0 := by
   simp only [reps] at hr0
   obtain ⟨u, us', rfl, q1, _⟩ := hr0
   exact q1
  exact WC_ a0 u0 r1 r0 _ (hin p hp)
 have hfin : ∃ x, (results fn a.tmps).run P w' = .ok x w' ∧ ∃ v G', Ending.returned x = .returned v ∧ Turned w w' (xX_ T G) ∧ (∀ p ∈ T', flatRep w' (G' p.1) p.2 (ι p.1)) ∧ (xX_ T' G').Nodup ∧
   (∀ b ∈ xX_ T' G', b < w'.heap.size ∧ (b ∈ xX_ T G ∨ w.heap.size ≤ b)) ∧ rep ⟨w', fun _ => False, fun _ => undef, fun _ _ => False⟩ r v := by
  refine ⟨u, k1, u, F', rfl, ⟨ho'.keep.os, ho'.keep.tape, ho'.keep.output, ho'.keep.size, fun k hk hkn => ho'.keep.block k hk hkn⟩, fun p hp => ?_, XM_ ho' (by rw [hids]; exact hnd) hfd, fun b hb => ?_, zT_ hfree k2⟩
  ·rw [← hι p hp]
   exact Zr_ (m := mem cx w' st'.H ι' F') ((List.all_eq_true.1 hflat) p hp) (ho'.trees _ (xk_ (hfd p hp)))
  ·obtain ⟨p, hp, hb⟩ := mem_foot.1 hb
   have := ho'.mine b (mem_foot.2 ⟨_, xk_ (hfd p hp), hb⟩)
   exact ⟨this.1, this.2.symm⟩
 rcases he with rfl | rfl
 ·exact ⟨h1, hfin⟩
 ·exact ⟨h1, hfin⟩
end
end Go.Aw
namespace Go.Aw
open Go.RowKit
theorem VY_ (pl : List (Nat × Nat)) (zs : List AV) : zq_ pl [] zs = some zs := rfl
theorem W8_ (pl : List (Nat × Nat)) (i : Nat) (a : AV) (r : List (Nat × AV)) (zs : List AV) : zq_ pl ((i, a) :: r) zs = (match pl[i]? with
  | some (off, sz) => (match a with
   | .agg ws => if ws.length = sz ∧ off + sz ≤ zs.length then zq_ pl r (zs.take off ++ ws ++ zs.drop (off + sz)) else none
   | a => if sz = 1 ∧ off < zs.length then zq_ pl r (zs.set off a) else none)
  | none => none) := rfl
theorem Qi_ (n : Int) : strip (.int n : AV) = (.int n : AV) := rfl
theorem al3 (γ : Bool) (n : Int) : okG γ (.int n : AV) = True := rfl
theorem Jj_ (k : IntKind) (n : Int) : strip (.ik k n : AV) = (.ik k n : AV) := rfl
theorem ax1 (γ : Bool) (k : IntKind) (n : Int) : okG γ (.ik k n : AV) = True := rfl
theorem Sz_ (b : Bool) : strip (.bool b : AV) = (.bool b : AV) := rfl
theorem Jk_ (γ : Bool) (b : Bool) : okG γ (.bool b : AV) = True := rfl
theorem Qj_ (s : ByteArray) : strip (.str s : AV) = (.str s : AV) := rfl
theorem al4 (γ : Bool) (s : ByteArray) : okG γ (.str s : AV) = True := rfl
theorem strip_nil  : strip (.nil : AV) = (.nil : AV) := rfl
theorem al5 (γ : Bool)  : okG γ (.nil : AV) = True := rfl
theorem UX_  : strip (.nilfn : AV) = (.nilfn : AV) := rfl
theorem Qk_ (γ : Bool)  : okG γ (.nilfn : AV) = True := rfl
theorem Jl_ (xs : List Int) : strip (.l1 xs : AV) = (.l1 xs : AV) := rfl
theorem ax2 (γ : Bool) (xs : List Int) : okG γ (.l1 xs : AV) = True := rfl
theorem Jm_ (xs : List (List Int)) : strip (.l2 xs : AV) = (.l2 xs : AV) := rfl
theorem ax3 (γ : Bool) (xs : List (List Int)) : okG γ (.l2 xs : AV) = True := rfl
theorem Jn_ (xs : List (List (List Int))) : strip (.l3 xs : AV) = (.l3 xs : AV) := rfl
theorem ax4 (γ : Bool) (xs : List (List (List Int))) : okG γ (.l3 xs : AV) = True := rfl
theorem Jo_ (vs : List AV) : strip (.lv vs : AV) = (.lv vs : AV) := rfl
theorem ax5 (γ : Bool) (vs : List AV) : okG γ (.lv vs : AV) = True := rfl
theorem Ql_ (vs : List AV) : strip (.agg vs : AV) = (.agg vs : AV) := rfl
theorem al6 (γ : Bool) (vs : List AV) : okG γ (.agg vs : AV) = True := rfl
theorem Qm_ (vs : List AV) : strip (.tup vs : AV) = (.tup vs : AV) := rfl
theorem al7 (γ : Bool) (vs : List AV) : okG γ (.tup vs : AV) = True := rfl
theorem Jp_ (f : Nat) (caps : List AV) : strip (.fn f caps : AV) = (.fn f caps : AV) := rfl
theorem ax6 (γ : Bool) (f : Nat) (caps : List AV) : okG γ (.fn f caps : AV) = True := rfl
theorem SA_ (av : AV) (i : Nat) : strip (.eptr av i : AV) = (.eptr av i : AV) := rfl
theorem Jq_ (γ : Bool) (av : AV) (i : Nat) : okG γ (.eptr av i : AV) = True := rfl
theorem SB_ (vs : List AV) (off : Nat) : strip (.cptr vs off : AV) = (.cptr vs off : AV) := rfl
theorem Jr_ (γ : Bool) (vs : List AV) (off : Nat) : okG γ (.cptr vs off : AV) = True := rfl
theorem Qn_ (id : Nat) (path : List Nat) : strip (.ref id path : AV) = (.ref id path : AV) := rfl
theorem al8 (γ : Bool) (id : Nat) (path : List Nat) : okG γ (.ref id path : AV) = True := rfl
theorem Qo_ (id : Nat) (path : List Nat) (lo hi : Nat) : strip (.sub id path lo hi : AV) = (.sub id path lo hi : AV) := rfl
theorem al9 (γ : Bool) (id : Nat) (path : List Nat) (lo hi : Nat) : okG γ (.sub id path lo hi : AV) = True := rfl
theorem SC_ (id : Nat) (path : List Nat) (i : Nat) : strip (.eref id path i : AV) = (.eref id path i : AV) := rfl
theorem Js_ (γ : Bool) (id : Nat) (path : List Nat) (i : Nat) : okG γ (.eref id path i : AV) = True := rfl
theorem SD_ (id : Nat) (off : Nat) : strip (.bptr id off : AV) = (.bptr id off : AV) := rfl
theorem Jt_ (γ : Bool) (id : Nat) (off : Nat) : okG γ (.bptr id off : AV) = True := rfl
theorem SE_  : strip (.junk : AV) = (.junk : AV) := rfl
theorem Ju_ (γ : Bool)  : okG γ (.junk : AV) = True := rfl
theorem SF_ (g : Bool) (v : AV) : strip (.when g v) = v := rfl
theorem Jv_ (γ g : Bool) (v : AV) : okG γ (.when g v) = (γ = true → g = true) := rfl
theorem Qp_ (H : List (Nat × Tree)) (n : Int) : xK_ H (.int n : AV) = some (.int n : AV) := rfl
theorem Qq_ (H : List (Nat × Tree)) (n : Int) : zI_ H (.int n : AV) = some (.int n : AV) := rfl
theorem Jw_ (H : List (Nat × Tree)) (n : Int) : view H (.int n : AV) = some (.int n : AV) := rfl
theorem SG_ (H : List (Nat × Tree)) (n : Int) : cellsA H (.int n : AV) = some [(.int n : AV)] := rfl
theorem Jx_ (H : List (Nat × Tree)) (n : Int) : Xk_ H (.int n : AV) = true := rfl
theorem Qr_ (q : Nat → List Nat → Bool) (n : Int) : xu_ q (.int n : AV) = (.int n : AV) := rfl
theorem Jy_ (H : List (Nat × Tree)) (k : IntKind) (n : Int) : xK_ H (.ik k n : AV) = some (.ik k n : AV) := rfl
theorem Jz_ (H : List (Nat × Tree)) (k : IntKind) (n : Int) : zI_ H (.ik k n : AV) = some (.ik k n : AV) := rfl
theorem am0 (H : List (Nat × Tree)) (k : IntKind) (n : Int) : view H (.ik k n : AV) = some (.ik k n : AV) := rfl
theorem Qs_ (H : List (Nat × Tree)) (k : IntKind) (n : Int) : cellsA H (.ik k n : AV) = some [(.ik k n : AV)] := rfl
theorem am1 (H : List (Nat × Tree)) (k : IntKind) (n : Int) : Xk_ H (.ik k n : AV) = true := rfl
theorem JA_ (q : Nat → List Nat → Bool) (k : IntKind) (n : Int) : xu_ q (.ik k n : AV) = (.ik k n : AV) := rfl
theorem SH_ (H : List (Nat × Tree)) (b : Bool) : xK_ H (.bool b : AV) = some (.bool b : AV) := rfl
theorem SI_ (H : List (Nat × Tree)) (b : Bool) : zI_ H (.bool b : AV) = some (.bool b : AV) := rfl
theorem Qt_ (H : List (Nat × Tree)) (b : Bool) : view H (.bool b : AV) = some (.bool b : AV) := rfl
theorem UY_ (H : List (Nat × Tree)) (b : Bool) : cellsA H (.bool b : AV) = some [(.bool b : AV)] := rfl
theorem Qu_ (H : List (Nat × Tree)) (b : Bool) : Xk_ H (.bool b : AV) = true := rfl
theorem SJ_ (q : Nat → List Nat → Bool) (b : Bool) : xu_ q (.bool b : AV) = (.bool b : AV) := rfl
theorem Qv_ (H : List (Nat × Tree)) (s : ByteArray) : xK_ H (.str s : AV) = some (.str s : AV) := rfl
theorem Qw_ (H : List (Nat × Tree)) (s : ByteArray) : zI_ H (.str s : AV) = some (.str s : AV) := rfl
theorem JB_ (H : List (Nat × Tree)) (s : ByteArray) : view H (.str s : AV) = some (.str s : AV) := rfl
theorem SK_ (H : List (Nat × Tree)) (s : ByteArray) : cellsA H (.str s : AV) = some [(.str s : AV)] := rfl
theorem JC_ (H : List (Nat × Tree)) (s : ByteArray) : Xk_ H (.str s : AV) = true := rfl
theorem Qx_ (q : Nat → List Nat → Bool) (s : ByteArray) : xu_ q (.str s : AV) = (.str s : AV) := rfl
theorem Qy_ (H : List (Nat × Tree))  : xK_ H (.nil : AV) = some (.nil : AV) := rfl
theorem Qz_ (H : List (Nat × Tree))  : zI_ H (.nil : AV) = some (.nil : AV) := rfl
theorem JD_ (H : List (Nat × Tree))  : view H (.nil : AV) = some (.nil : AV) := rfl
theorem SL_ (H : List (Nat × Tree))  : cellsA H (.nil : AV) = some [(.nil : AV)] := rfl
theorem JE_ (H : List (Nat × Tree))  : Xk_ H (.nil : AV) = true := rfl
theorem QA_ (q : Nat → List Nat → Bool)  : xu_ q (.nil : AV) = (.nil : AV) := rfl
theorem UZ_ (H : List (Nat × Tree))  : xK_ H (.nilfn : AV) = some (.nilfn : AV) := rfl
theorem U0_ (H : List (Nat × Tree))  : zI_ H (.nilfn : AV) = some (.nilfn : AV) := rfl
theorem SM_ (H : List (Nat × Tree))  : view H (.nilfn : AV) = some (.nilfn : AV) := rfl
theorem VZ_ (H : List (Nat × Tree))  : cellsA H (.nilfn : AV) = some [(.nilfn : AV)] := rfl
theorem SN_ (H : List (Nat × Tree))  : Xk_ H (.nilfn : AV) = true := rfl
theorem U1_ (q : Nat → List Nat → Bool)  : xu_ q (.nilfn : AV) = (.nilfn : AV) := rfl
theorem JF_ (H : List (Nat × Tree)) (xs : List Int) : xK_ H (.l1 xs : AV) = some (.l1 xs : AV) := rfl
theorem JG_ (H : List (Nat × Tree)) (xs : List Int) : zI_ H (.l1 xs : AV) = some (.l1 xs : AV) := rfl
theorem am2 (H : List (Nat × Tree)) (xs : List Int) : view H (.l1 xs : AV) = some (.l1 xs : AV) := rfl
theorem QB_ (H : List (Nat × Tree)) (xs : List Int) : cellsA H (.l1 xs : AV) = some [(.l1 xs : AV)] := rfl
theorem am3 (H : List (Nat × Tree)) (xs : List Int) : Xk_ H (.l1 xs : AV) = true := rfl
theorem JH_ (q : Nat → List Nat → Bool) (xs : List Int) : xu_ q (.l1 xs : AV) = (.l1 xs : AV) := rfl
theorem JI_ (H : List (Nat × Tree)) (xs : List (List Int)) : xK_ H (.l2 xs : AV) = some (.l2 xs : AV) := rfl
theorem JJ_ (H : List (Nat × Tree)) (xs : List (List Int)) : zI_ H (.l2 xs : AV) = some (.l2 xs : AV) := rfl
theorem am4 (H : List (Nat × Tree)) (xs : List (List Int)) : view H (.l2 xs : AV) = some (.l2 xs : AV) := rfl
theorem QC_ (H : List (Nat × Tree)) (xs : List (List Int)) : cellsA H (.l2 xs : AV) = some [(.l2 xs : AV)] := rfl
theorem am5 (H : List (Nat × Tree)) (xs : List (List Int)) : Xk_ H (.l2 xs : AV) = true := rfl
theorem JK_ (q : Nat → List Nat → Bool) (xs : List (List Int)) : xu_ q (.l2 xs : AV) = (.l2 xs : AV) := rfl
theorem JL_ (H : List (Nat × Tree)) (xs : List (List (List Int))) : xK_ H (.l3 xs : AV) = some (.l3 xs : AV) := rfl
theorem JM_ (H : List (Nat × Tree)) (xs : List (List (List Int))) : zI_ H (.l3 xs : AV) = some (.l3 xs : AV) := rfl
theorem am6 (H : List (Nat × Tree)) (xs : List (List (List Int))) : view H (.l3 xs : AV) = some (.l3 xs : AV) := rfl
theorem QD_ (H : List (Nat × Tree)) (xs : List (List (List Int))) : cellsA H (.l3 xs : AV) = some [(.l3 xs : AV)] := rfl
theorem am7 (H : List (Nat × Tree)) (xs : List (List (List Int))) : Xk_ H (.l3 xs : AV) = true := rfl
theorem JN_ (q : Nat → List Nat → Bool) (xs : List (List (List Int))) : xu_ q (.l3 xs : AV) = (.l3 xs : AV) := rfl
theorem SO_ (q : Nat → List Nat → Bool) : xu_ q (.junk : AV) = .junk := rfl
theorem QE_ (q : Nat → List Nat → Bool) (id : Nat) (p : List Nat) : xu_ q (.ref id p) = if q id p then .junk else .ref id p := rfl
theorem QF_ (q : Nat → List Nat → Bool) (id : Nat) (p : List Nat) (lo hi : Nat) : xu_ q (.sub id p lo hi) = if q id p then .junk else .sub id p lo hi := rfl
theorem SP_ (q : Nat → List Nat → Bool) (id : Nat) (p : List Nat) (i : Nat) : xu_ q (.eref id p i) = if q id p then .junk else .eref id p i := rfl
theorem SQ_ (q : Nat → List Nat → Bool) (id : Nat) (off : Nat) : xu_ q (.bptr id off) = if q id [] then .junk else .bptr id off := rfl
theorem JO_ (q : Nat → List Nat → Bool) (vs : List AV) : xu_ q (.lv vs) = .lv (xH_ q vs) := rfl
theorem QG_ (q : Nat → List Nat → Bool) (vs : List AV) : xu_ q (.agg vs) = .agg (xH_ q vs) := rfl
theorem QH_ (q : Nat → List Nat → Bool) (vs : List AV) : xu_ q (.tup vs) = .tup (xH_ q vs) := rfl
theorem JP_ (q : Nat → List Nat → Bool) (f : Nat) (vs : List AV) : xu_ q (.fn f vs) = .fn f (xH_ q vs) := rfl
theorem SR_ (q : Nat → List Nat → Bool) (f : Nat) (vs : List AV) : xu_ q (.cptr vs f) = .cptr (xH_ q vs) f := rfl
theorem SS_ (q : Nat → List Nat → Bool) (i : Nat) (v : AV) : xu_ q (.eptr v i) = .eptr (xu_ q v) i := rfl
theorem ST_ (q : Nat → List Nat → Bool) (g : Bool) (v : AV) : xu_ q (.when g v) = .when g (xu_ q v) := rfl
theorem zC_ (q : Nat → List Nat → Bool) : (∀ x, yF_ q (.t1 x) = .t1 x) ∧ (∀ x, yF_ q (.t2 x) = .t2 x) ∧ (∀ x, yF_ q (.t3 x) = .t3 x) ∧ (∀ x, yF_ q (.r2 x) = .r2 x) ∧ (∀ x, yF_ q (.r3 x) = .r3 x) ∧ (∀ x s, yF_ q (.a3 x s) = .a3 x s) ∧ (∀ vs, yF_ q (.lv vs) = .lv (xH_ q vs)) ∧ (∀ vs, yF_ q (.bx vs) = .bx (xH_ q vs)) :=
 ⟨fun _ => rfl, fun _ => rfl, fun _ => rfl, fun _ => rfl, fun _ => rfl, fun _ _ => rfl, fun _ => rfl, fun _ => rfl⟩
theorem QI_ (H : List (Nat × Tree)) (id : Nat) (p : List Nat) : xK_ H (.ref id p) = ZJ_ (find H id) p := rfl
theorem QJ_ (H : List (Nat × Tree)) (id : Nat) (p : List Nat) (lo hi : Nat) : xK_ H (.sub id p lo hi) = (ZJ_ (find H id) p).bind (zk_ lo hi) := rfl
theorem QK_ (H : List (Nat × Tree)) (vs : List AV) : xK_ H (.agg vs) = (zU_ H vs).map .agg := rfl
theorem QL_ (H : List (Nat × Tree)) (vs : List AV) : xK_ H (.tup vs) = (zU_ H vs).map .tup := rfl
theorem QM_ (H : List (Nat × Tree)) (id : Nat) (p : List Nat) : zI_ H (.ref id p) = xK_ H (.ref id p) := rfl
theorem JQ_ (H : List (Nat × Tree)) (id : Nat) (p : List Nat) : view H (.ref id p) = xK_ H (.ref id p) := rfl
theorem QN_ (H : List (Nat × Tree)) (id : Nat) (p : List Nat) (lo hi : Nat) : zI_ H (.sub id p lo hi) = xK_ H (.sub id p lo hi) := rfl
theorem JR_ (H : List (Nat × Tree)) (id : Nat) (p : List Nat) (lo hi : Nat) : view H (.sub id p lo hi) = xK_ H (.sub id p lo hi) := rfl
theorem QO_ (H : List (Nat × Tree)) (vs : List AV) : zI_ H (.agg vs) = xK_ H (.agg vs) := rfl
theorem JS_ (H : List (Nat × Tree)) (vs : List AV) : view H (.agg vs) = xK_ H (.agg vs) := rfl
theorem QP_ (H : List (Nat × Tree)) (vs : List AV) : zI_ H (.tup vs) = xK_ H (.tup vs) := rfl
theorem JT_ (H : List (Nat × Tree)) (vs : List AV) : view H (.tup vs) = xK_ H (.tup vs) := rfl
theorem SU_ (H : List (Nat × Tree)) (vs : List AV) (o : Nat) : zI_ H (.cptr vs o) = xK_ H (.cptr vs o) := rfl
theorem QQ_ (H : List (Nat × Tree)) (vs : List AV) (o : Nat) : view H (.cptr vs o) = xK_ H (.cptr vs o) := rfl
theorem JU_ (H : List (Nat × Tree)) (vs : List AV) : zI_ H (.lv vs) = xK_ H (.lv vs) := rfl
theorem am8 (H : List (Nat × Tree)) (vs : List AV) : view H (.lv vs) = xK_ H (.lv vs) := rfl
theorem SV_ (H : List (Nat × Tree)) (id off : Nat) : zI_ H (.bptr id off) = match find H id with | some (.bx vs) => (zU_ H vs).map (.cptr · off) | _ => none := rfl
theorem QR_ (H : List (Nat × Tree)) (id off : Nat) : view H (.bptr id off) = zI_ H (.bptr id off) := rfl
theorem am9 (H : List (Nat × Tree)) (f : Nat) (caps : List AV) : view H (.fn f caps) = (wT_ H caps).map (.fn f) := rfl
theorem JV_ (H : List (Nat × Tree)) (vs : List AV) : xK_ H (.lv vs) = if isData (.lv vs) then some (.lv vs) else none := rfl
theorem JW_ (H : List (Nat × Tree)) (f : Nat) (vs : List AV) : xK_ H (.fn f vs) = if isData (.fn f vs) then some (.fn f vs) else none := rfl
theorem SW_ (H : List (Nat × Tree)) (f : Nat) (vs : List AV) : xK_ H (.cptr vs f) = if isData (.cptr vs f) then some (.cptr vs f) else none := rfl
theorem SX_ (H : List (Nat × Tree)) (vs : List AV) : cellsA H (.agg vs) = some vs := rfl
theorem SY_ (H : List (Nat × Tree)) (id : Nat) (p : List Nat) : cellsA H (.ref id p) = if (xU_ H id p).isSome then some [.ref id p] else none := rfl
theorem SZ_ (H : List (Nat × Tree)) (id : Nat) (p : List Nat) (lo hi : Nat) : cellsA H (.sub id p lo hi) = some [.sub id p lo hi] := rfl
theorem QS_ (H : List (Nat × Tree)) (vs : List AV) : cellsA H (.lv vs) = some [.lv vs] := rfl
theorem QT_ (H : List (Nat × Tree)) (f : Nat) (vs : List AV) : cellsA H (.fn f vs) = some [.fn f vs] := rfl
theorem U2_ (H : List (Nat × Tree)) (f : Nat) (vs : List AV) : cellsA H (.cptr vs f) = some [.cptr vs f] := rfl
theorem U3_ (H : List (Nat × Tree)) (i : Nat) (v : AV) : cellsA H (.eptr v i) = some [.eptr v i] := rfl
theorem U4_ (H : List (Nat × Tree)) (i f : Nat) : cellsA H (.bptr i f) = some [.bptr i f] := rfl
theorem JX_ (H : List (Nat × Tree)) (vs : List AV) : Xk_ H (.agg vs) = false := rfl
theorem JY_ (H : List (Nat × Tree)) (id : Nat) (p : List Nat) : Xk_ H (.ref id p) = (xU_ H id p).isSome := by unfold Xk_ cellsA; cases h : (xU_ H id p) <;> simp [h]
theorem JZ_ (H : List (Nat × Tree)) (id : Nat) (p : List Nat) (lo hi : Nat) : Xk_ H (.sub id p lo hi) = true := rfl
theorem an0 (H : List (Nat × Tree)) (vs : List AV) : Xk_ H (.lv vs) = true := rfl
theorem an1 (H : List (Nat × Tree)) (f : Nat) (vs : List AV) : Xk_ H (.fn f vs) = true := rfl
theorem QU_ (H : List (Nat × Tree)) (i f : Nat) : Xk_ H (.bptr i f) = true := rfl
section
variable {P : Program} {ops : Array Oper} {n : Nat} {st : St} {K : St → Prop}
def Wf_ (n : Nat) : Option Nat → Prop
 | some d => d < n
 | none => True
theorem S0_ (n d : Nat) : Wf_ n (some d) = (d < n) := rfl
theorem S1_ (n : Nat) : Wf_ n none = True := rfl
def zh_ (P : Program) (ops : Array Oper) (n : Nat) (st : St) (d : Option Nat) (op : Op) (gd : Option (Nat × Bool)) (K : St → Prop) : Prop :=
 Wf_ n d ∧ match gd with
 | none => Yl (fun v => VN_ P st.H true (evF st.get) op v) (fun v => K ⟨Yr_ d v st.s, st.H⟩)
 | some (j, want) => match (ops[j]?).bind (·.dst) with
  | some e => match wd_ (st.get e) with
   | some (gg, b) => Yl (fun v => VN_ P st.H (gg && (b == want)) (evF st.get) op v) (fun v => K ⟨Yr_ d (.when (gg && (b == want)) v) st.s, st.H⟩)
   | none => False
  | none => False
@[congr] theorem an2 {d : Option Nat} {op : Op} {gd : Option (Nat × Bool)} {st2 : St} (h : st = st2) : zh_ P ops n st d op gd K = zh_ P ops n st2 d op gd K := by rw [h]
theorem xV_ {d : Option Nat} {op : Op} {ty : TypeId} {pos : String} {af : Array Edge} {gd : Option (Nat × Bool)} (hp : ys_ op = true) : Xy_ P ops n st ⟨d, op, ty, pos, af, gd⟩ K = zh_ P ops n st d op gd K := by
 unfold Xy_ zh_ gam
 simp only [hp, if_true]
 congr 1
 cases gd with
 | none => rfl
 | some g =>
  obtain ⟨j, want⟩ := g
  simp only
  cases (ops[j]?).bind (·.dst) with
  | none => rfl
  | some e =>
   simp only
   cases wd_ (st.get e) with
   | none => rfl
   | some q => rfl
def YW_ (P : Program) (n : Nat) (st : St) (d : Option Nat) (op : Op) (K : St → Prop) : Prop := Wf_ n d ∧ wN_ P st.H (evF st.get) op (fun v all subs H' => K ⟨Yr_ d v (yj_ all subs st.s), H'⟩)
@[congr] theorem an3 {d : Option Nat} {op : Op} {st2 : St} (h : st = st2) : YW_ P n st d op K = YW_ P n st2 d op K := by rw [h]
theorem yX_ {d : Option Nat} {op : Op} {ty : TypeId} {pos : String} {af : Array Edge} (hp : ys_ op = false) : Xy_ P ops n st ⟨d, op, ty, pos, af, none⟩ K = YW_ P n st d op K := by
 unfold Xy_ YW_ gam
 simp only [hp, Bool.false_eq_true, if_false, true_and]
 rfl
theorem an4 {d : Option Nat} {ty : TypeId} {pos : String} {af : Array Edge} {gd : Option (Nat × Bool)} (x : Operand) : ym_ P ops n st ⟨d, (.move x), ty, pos, af, gd⟩ K = zh_ P ops n st d (.move x) gd K := xV_ rfl
theorem QV_ {d : Option Nat} {ty : TypeId} {pos : String} {af : Array Edge} {gd : Option (Nat × Bool)} (x : Operand) : ym_ P ops n st ⟨d, (.assign x), ty, pos, af, gd⟩ K = zh_ P ops n st d (.assign x) gd K := xV_ rfl
theorem an5 {d : Option Nat} {ty : TypeId} {pos : String} {af : Array Edge} {gd : Option (Nat × Bool)} (c a b : Operand) : ym_ P ops n st ⟨d, (.pick c a b), ty, pos, af, gd⟩ K = zh_ P ops n st d (.pick c a b) gd K := xV_ rfl
theorem an6 {d : Option Nat} {ty : TypeId} {pos : String} {af : Array Edge} {gd : Option (Nat × Bool)} (t : TypeId) (p : Operand) : ym_ P ops n st ⟨d, (.load t p), ty, pos, af, gd⟩ K = zh_ P ops n st d (.load t p) gd K := xV_ rfl
theorem V0_ {d : Option Nat} {ty : TypeId} {pos : String} {af : Array Edge} {gd : Option (Nat × Bool)} (t : TypeId) (x i : Operand) : ym_ P ops n st ⟨d, (.indexAddr t x i), ty, pos, af, gd⟩ K = zh_ P ops n st d (.indexAddr t x i) gd K := xV_ rfl
theorem V1_ {d : Option Nat} {ty : TypeId} {pos : String} {af : Array Edge} {gd : Option (Nat × Bool)} (t : TypeId) (p : Operand) (f : Nat) : ym_ P ops n st ⟨d, (.fieldAddr t p f), ty, pos, af, gd⟩ K = zh_ P ops n st d (.fieldAddr t p f) gd K := xV_ rfl
theorem ax7 {d : Option Nat} {ty : TypeId} {pos : String} {af : Array Edge} {gd : Option (Nat × Bool)} (t : TypeId) (parts : Array (Nat × Operand)) : ym_ P ops n st ⟨d, (.build t parts), ty, pos, af, gd⟩ K = zh_ P ops n st d (.build t parts) gd K := xV_ rfl
theorem J0_ {d : Option Nat} {ty : TypeId} {pos : String} {af : Array Edge} {gd : Option (Nat × Bool)} (t : TypeId) (p : Operand) (f : Nat) : ym_ P ops n st ⟨d, (.field t p f), ty, pos, af, gd⟩ K = zh_ P ops n st d (.field t p f) gd K := xV_ rfl
theorem J1_ {d : Option Nat} {ty : TypeId} {pos : String} {af : Array Edge} {gd : Option (Nat × Bool)} (b : BinOp) (t : TypeId) (x y : Operand) (t' : TypeId) : ym_ P ops n st ⟨d, (.binOp b t x y t'), ty, pos, af, gd⟩ K = zh_ P ops n st d (.binOp b t x y t') gd K := xV_ rfl
theorem an7 {d : Option Nat} {ty : TypeId} {pos : String} {af : Array Edge} {gd : Option (Nat × Bool)} (u : UnOp) (t : TypeId) (x : Operand) : ym_ P ops n st ⟨d, (.unOp u t x), ty, pos, af, gd⟩ K = zh_ P ops n st d (.unOp u t x) gd K := xV_ rfl
theorem U5_ {d : Option Nat} {ty : TypeId} {pos : String} {af : Array Edge} {gd : Option (Nat × Bool)} (x : Operand) : ym_ P ops n st ⟨d, (.nilCheck x), ty, pos, af, gd⟩ K = zh_ P ops n st d (.nilCheck x) gd K := xV_ rfl
theorem S2_ {d : Option Nat} {ty : TypeId} {pos : String} {af : Array Edge} {gd : Option (Nat × Bool)} (s d' : TypeId) (x : Operand) : ym_ P ops n st ⟨d, (.convert s d' x), ty, pos, af, gd⟩ K = zh_ P ops n st d (.convert s d' x) gd K := xV_ rfl
theorem S3_ {d : Option Nat} {ty : TypeId} {pos : String} {af : Array Edge} {gd : Option (Nat × Bool)} (x : Operand) (i : Nat) : ym_ P ops n st ⟨d, (.extract x i), ty, pos, af, gd⟩ K = zh_ P ops n st d (.extract x i) gd K := xV_ rfl
theorem J2_ {d : Option Nat} {ty : TypeId} {pos : String} {af : Array Edge} {gd : Option (Nat × Bool)} (t : TypeId) (x : Operand) (lo hi mx : Option Operand) : ym_ P ops n st ⟨d, (.slice t x lo hi mx), ty, pos, af, gd⟩ K = zh_ P ops n st d (.slice t x lo hi mx) gd K := xV_ rfl
theorem U6_ {d : Option Nat} {ty : TypeId} {pos : String} {af : Array Edge} {gd : Option (Nat × Bool)} (g : Fn) (first : Array Operand) (caps : Array Operand) : ym_ P ops n st ⟨d, (.makeFunc g first caps), ty, pos, af, gd⟩ K = zh_ P ops n st d (.makeFunc g first caps) gd K := xV_ rfl
theorem ax8 {d : Option Nat} {ty : TypeId} {pos : String} {af : Array Edge} {gd : Option (Nat × Bool)} (args : Array Operand) (ts : Array TypeId) : ym_ P ops n st ⟨d, (.call ⟨.builtin .len, args, ts⟩), ty, pos, af, gd⟩ K = zh_ P ops n st d (.call ⟨.builtin .len, args, ts⟩) gd K := xV_ rfl
theorem ax9 {d : Option Nat} {ty : TypeId} {pos : String} {af : Array Edge} {gd : Option (Nat × Bool)} (args : Array Operand) (ts : Array TypeId) : ym_ P ops n st ⟨d, (.call ⟨.builtin .cap, args, ts⟩), ty, pos, af, gd⟩ K = zh_ P ops n st d (.call ⟨.builtin .cap, args, ts⟩) gd K := xV_ rfl
theorem ay0 {d : Option Nat} {ty : TypeId} {pos : String} {af : Array Edge} {gd : Option (Nat × Bool)} (args : Array Operand) (ts : Array TypeId) : ym_ P ops n st ⟨d, (.call ⟨.builtin .max, args, ts⟩), ty, pos, af, gd⟩ K = zh_ P ops n st d (.call ⟨.builtin .max, args, ts⟩) gd K := xV_ rfl
theorem ay1 {d : Option Nat} {ty : TypeId} {pos : String} {af : Array Edge} {gd : Option (Nat × Bool)} (args : Array Operand) (ts : Array TypeId) : ym_ P ops n st ⟨d, (.call ⟨.builtin .min, args, ts⟩), ty, pos, af, gd⟩ K = zh_ P ops n st d (.call ⟨.builtin .min, args, ts⟩) gd K := xV_ rfl
theorem J3_ {d : Option Nat} {ty : TypeId} {pos : String} {af : Array Edge} (t : TypeId) : ym_ P ops n st ⟨d, (.alloc t), ty, pos, af, none⟩ K = YW_ P n st d (.alloc t) K := yX_ (ops := ops) rfl
theorem ay2 {d : Option Nat} {ty : TypeId} {pos : String} {af : Array Edge} (t : TypeId) (x : Operand) : ym_ P ops n st ⟨d, (.box t x), ty, pos, af, none⟩ K = YW_ P n st d (.box t x) K := yX_ (ops := ops) rfl
theorem J4_ {d : Option Nat} {ty : TypeId} {pos : String} {af : Array Edge} (t : TypeId) (len : Nat) (parts : Array (Nat × Operand)) : ym_ P ops n st ⟨d, (.buildSlice t len parts), ty, pos, af, none⟩ K = YW_ P n st d (.buildSlice t len parts) K := yX_ (ops := ops) rfl
theorem an8 {d : Option Nat} {ty : TypeId} {pos : String} {af : Array Edge} (t : TypeId) (l c : Operand) : ym_ P ops n st ⟨d, (.makeSlice t l c), ty, pos, af, none⟩ K = YW_ P n st d (.makeSlice t l c) K := yX_ (ops := ops) rfl
theorem J5_ {d : Option Nat} {ty : TypeId} {pos : String} {af : Array Edge} (t : TypeId) (p v : Operand) : ym_ P ops n st ⟨d, (.store t p v), ty, pos, af, none⟩ K = YW_ P n st d (.store t p v) K := yX_ (ops := ops) rfl
theorem QW_ {d : Option Nat} {ty : TypeId} {pos : String} {af : Array Edge} (args : Array Operand) (ts : Array TypeId) : ym_ P ops n st ⟨d, (.call ⟨.builtin .append, args, ts⟩), ty, pos, af, none⟩ K = YW_ P n st d (.call ⟨.builtin .append, args, ts⟩) K := yX_ (ops := ops) rfl
theorem an9 {d : Option Nat} {ty : TypeId} {pos : String} {af : Array Edge} (args : Array Operand) (ts : Array TypeId) : ym_ P ops n st ⟨d, (.call ⟨.builtin .copy, args, ts⟩), ty, pos, af, none⟩ K = YW_ P n st d (.call ⟨.builtin .copy, args, ts⟩) K := yX_ (ops := ops) rfl
theorem J6_ {d : Option Nat} {ty : TypeId} {pos : String} {af : Array Edge} {gd : Nat × Bool} (g : Operand) (args : Array Operand) (ts : Array TypeId) : ym_ P ops n st ⟨d, .call ⟨.value g, args, ts⟩, ty, pos, af, some gd⟩ K = zh_ P ops n st d (.call ⟨.value g, args, ts⟩) (some gd) K := xV_ rfl
end
def ldB (k : TK) (b : Option Tree) (off : Nat) (v : AV) : Prop :=
 match b with
 | some (.bx vs) => if k.one then off < vs.length ∧ v = vs.getD off .junk else (match k with
  | .st _ sz => off + sz ≤ vs.length ∧ v = .agg ((vs.drop off).take sz)
  | _ => False)
 | _ => False
theorem ay3 (k : TK) (vs : List AV) (off : Nat) (v : AV) : ldB k (some (.bx vs)) off v = (if k.one then off < vs.length ∧ v = vs.getD off .junk else (match k with
  | .st _ sz => off + sz ≤ vs.length ∧ v = .agg ((vs.drop off).take sz)
  | _ => False)) := rfl
theorem ay4 (e : Nat) : TK.one (.sl e) = true := rfl
theorem ao0 : TK.one .int = true := rfl
theorem ay5 (k : IntKind) : TK.one (.ik k) = true := rfl
theorem J7_ : TK.one .bool = true := rfl
theorem ao1 : TK.one .str = true := rfl
theorem one_cell : TK.one .cell = true := rfl
theorem ay6 (fs : List (Nat × Nat)) (sz : Nat) : TK.one (.st fs sz) = false := rfl
section
variable {P : Program} {H : List (Nat × Tree)}
theorem ao2 (t : TypeId) (id off : Nat) (v : AV) : wz_ P H t (.bptr id off) v = ldB (xy_ P t) (find H id) off v := by
 unfold wz_
 cases xy_ P t <;> (cases hf : find H id with
  | none => simp [hf, ldB]
  | some t => cases t <;> simp [hf, TK.one, ldB])
theorem ao3 (t : TypeId) (vs : List AV) (off : Nat) (v : AV) : wz_ P H t (.cptr vs off) v = ldB (xy_ P t) (some (.bx vs)) off v := by
 unfold wz_ ldB
 cases xy_ P t <;> first | rfl | simp [TK.one]
def ldE (k : TK) (e : Option (Nat × (Nat → AV))) (i : Nat) (v : AV) : Prop := k.one = true ∧ match e with
 | some (_, f) => v = f i
 | none => False
theorem J8_ (k : TK) (n : Nat) (f : Nat → AV) (i : Nat) (v : AV) : ldE k (some (n, f)) i v = (k.one = true ∧ v = f i) := rfl
theorem ao4 (t : TypeId) (av : AV) (i : Nat) (v : AV) : wz_ P H t (.eptr av i) v = ldE (xy_ P t) (elemsOf av) i v := by
 unfold wz_ ldE
 cases xy_ P t <;> (cases he : elemsOf av with
  | none => simp [he, TK.one]
  | some q => simp [he, TK.one])
theorem ao5 (t : TypeId) (id : Nat) (p : List Nat) (i : Nat) (v : AV) : wz_ P H t (.eref id p i) v = ldE (xy_ P t) (xU_ H id p) i v := by
 unfold wz_ ldE
 cases xy_ P t <;> (cases he : xU_ H id p with
  | none => simp [he, TK.one]
  | some q => simp [he, TK.one])
def TK.isSl : TK → Bool
 | .sl _ => true
 | _ => false
theorem ao6 (e : Nat) : TK.isSl (.sl e) = true := rfl
def ixE (k : TK) (γ : Bool) (e : Option (Nat × (Nat → AV))) (i : Int) (r v : AV) : Prop := k.isSl = true ∧ match e with
 | some (n, _) => (γ = true → 0 ≤ i ∧ i < n) ∧ v = r
 | none => False
theorem J9_ (k : TK) (γ : Bool) (n : Nat) (f : Nat → AV) (i : Int) (r v : AV) : ixE k γ (some (n, f)) i r v = (k.isSl = true ∧ (γ = true → 0 ≤ i ∧ i < n) ∧ v = r) := rfl
theorem aJ4 (γ : Bool) (t : TypeId) (xs : List Int) (i : Int) (v : AV) : x4_ P H γ t (.l1 xs) (.int i) v = ixE (xy_ P t) γ (some (xs.length, fun i => .int (xs.getD i 0))) i (.eptr (.l1 xs) i.toNat) v := by
 unfold x4_ ixE; cases xy_ P t <;> simp [TK.isSl, elemsOf]
theorem aJ5 (γ : Bool) (t : TypeId) (xs : List (List Int)) (i : Int) (v : AV) : x4_ P H γ t (.l2 xs) (.int i) v = ixE (xy_ P t) γ (some (xs.length, fun i => .l1 (xs.getD i []))) i (.eptr (.l2 xs) i.toNat) v := by
 unfold x4_ ixE; cases xy_ P t <;> simp [TK.isSl, elemsOf]
theorem aJ6 (γ : Bool) (t : TypeId) (xs : List (List (List Int))) (i : Int) (v : AV) : x4_ P H γ t (.l3 xs) (.int i) v = ixE (xy_ P t) γ (some (xs.length, fun i => .l2 (xs.getD i []))) i (.eptr (.l3 xs) i.toNat) v := by
 unfold x4_ ixE; cases xy_ P t <;> simp [TK.isSl, elemsOf]
theorem aJ7 (γ : Bool) (t : TypeId) (xs : List AV) (i : Int) (v : AV) : x4_ P H γ t (.lv xs) (.int i) v = ixE (xy_ P t) γ (some (xs.length, fun i => xs.getD i .junk)) i (.eptr (.lv xs) i.toNat) v := by
 unfold x4_ ixE; cases xy_ P t <;> simp [TK.isSl, elemsOf]
theorem ay7 (γ : Bool) (t : TypeId) (id : Nat) (p : List Nat) (i : Int) (v : AV) : x4_ P H γ t (.ref id p) (.int i) v = ixE (xy_ P t) γ (xU_ H id p) i (.eref id p i.toNat) v := by
 unfold x4_ ixE; cases xy_ P t <;> (cases he : xU_ H id p with | none => simp [he, TK.isSl] | some q => simp [he, TK.isSl])
theorem ay8 (γ : Bool) (t : TypeId) (id : Nat) (p : List Nat) (lo hi : Nat) (i : Int) (v : AV) : x4_ P H γ t (.sub id p lo hi) (.int i) v = (match xy_ P t with
 | .sl _ => (match xU_ H id p with
  | some _ => (γ = true → 0 ≤ i ∧ i < (hi : Int) - lo) ∧ v = .eref id p (lo + i.toNat)
  | none => False)
 | _ => False) := by
 unfold x4_; cases xy_ P t <;> rfl
theorem ay9 (t : TypeId) (xs : List Int) (v : AV) : Wb_ P H t (.l1 xs) v = ((xy_ P t).isSl = true ∧ v = .int xs.length) := by unfold Wb_; cases xy_ P t <;> simp [TK.isSl, elemsOf]
theorem az0 (t : TypeId) (xs : List (List Int)) (v : AV) : Wb_ P H t (.l2 xs) v = ((xy_ P t).isSl = true ∧ v = .int xs.length) := by unfold Wb_; cases xy_ P t <;> simp [TK.isSl, elemsOf]
theorem az1 (t : TypeId) (xs : List (List (List Int))) (v : AV) : Wb_ P H t (.l3 xs) v = ((xy_ P t).isSl = true ∧ v = .int xs.length) := by unfold Wb_; cases xy_ P t <;> simp [TK.isSl, elemsOf]
theorem az2 (t : TypeId) (xs : List AV) (v : AV) : Wb_ P H t (.lv xs) v = ((xy_ P t).isSl = true ∧ v = .int xs.length) := by unfold Wb_; cases xy_ P t <;> simp [TK.isSl, elemsOf]
theorem len_nil (t : TypeId) (v : AV) : Wb_ P H t .nil v = ((xy_ P t).isSl = true ∧ v = .int 0) := by unfold Wb_; cases xy_ P t <;> simp [TK.isSl]
theorem ao7 (t : TypeId) (id : Nat) (p : List Nat) (lo hi : Nat) (v : AV) : Wb_ P H t (.sub id p lo hi) v = ((xy_ P t).isSl = true ∧ v = .int ((hi - lo : Nat))) := by unfold Wb_; cases xy_ P t <;> simp [TK.isSl]
theorem ao8 (t : TypeId) (id : Nat) (p : List Nat) (v : AV) : Wb_ P H t (.ref id p) v = ((xy_ P t).isSl = true ∧ match xU_ H id p with
 | some (n, _) => v = .int n
 | none => False) := by unfold Wb_; cases xy_ P t <;> (cases he : xU_ H id p with | none => simp [he, TK.isSl] | some q => simp [he, TK.isSl])
theorem ao9 (t : TypeId) (s : ByteArray) (v : AV) : Wb_ P H t (.str s) v = (match xy_ P t with
 | .str => v = .int s.size
 | _ => False) := by unfold Wb_; cases xy_ P t <;> rfl
def az3 (k : TK) (f : Nat) (r : Nat → AV) (v : AV) : Prop :=
 match k with
 | .st fs _ => match fs[f]? with
  | some (o, sz) => sz ≠ 0 ∧ v = r o
  | none => False
 | _ => False
theorem ap0 (fs : List (Nat × Nat)) (sz f : Nat) (r : Nat → AV) (v : AV) : az3 (.st fs sz) f r v = (match fs[f]? with
  | some (o, sz) => sz ≠ 0 ∧ v = r o
  | none => False) := rfl
theorem ap1 (t : TypeId) (id off f : Nat) (v : AV) : zl_ P t (.bptr id off) f v = az3 (xy_ P t) f (fun o => .bptr id (off + o)) v := by unfold zl_ az3; cases xy_ P t <;> rfl
theorem ap2 (t : TypeId) (vs : List AV) (off f : Nat) (v : AV) : zl_ P t (.cptr vs off) f v = az3 (xy_ P t) f (fun o => .cptr vs (off + o)) v := by unfold zl_ az3; cases xy_ P t <;> rfl
def V2_ (γ : Bool) (b : BinOp) (p q : Int) (v : AV) : Prop :=
 match b with
  | .and => v = .int (aL1 p q)
  | .or => v = .int (orI p q)
  | .andNot => v = .int (anI p q)
  | .shl => (γ = true → 0 ≤ q) ∧ v = .int (aE0 p q)
  | .shr => (γ = true → 0 ≤ q) ∧ v = .int (as3 p q)
  | .add => (γ = true → InR (p + q)) ∧ v = .int (p + q)
  | .sub => (γ = true → InR (p - q)) ∧ v = .int (p - q)
  | .mul => (γ = true → InR (p * q)) ∧ v = .int (p * q)
  | .quo => (γ = true → q ≠ 0 ∧ InR (p.tdiv q)) ∧ v = .int (p.tdiv q)
  | .rem => (γ = true → q ≠ 0 ∧ InR (p.tmod q)) ∧ v = .int (p.tmod q)
  | .eql => v = .bool (decide (p = q))
  | .neq => v = .bool (!decide (p = q))
  | .lss => v = .bool (decide (p < q))
  | .leq => v = .bool (decide (p ≤ q))
  | .gtr => v = .bool (decide (q < p))
  | .geq => v = .bool (decide (q ≤ p))
  | _ => False
theorem ap3 (γ : Bool) (b : BinOp) (t : TypeId) (p q : Int) (v : AV) : YX_ P H γ b t (.int p) (.int q) v = V2_ γ b p q v := rfl
theorem az4 (γ : Bool) (p q : Int) (v : AV) : V2_ γ .add p q v = ((γ = true → InR (p + q)) ∧ v = .int (p + q)) := rfl
theorem az5 (γ : Bool) (p q : Int) (v : AV) : V2_ γ .sub p q v = ((γ = true → InR (p - q)) ∧ v = .int (p - q)) := rfl
theorem az6 (γ : Bool) (p q : Int) (v : AV) : V2_ γ .mul p q v = ((γ = true → InR (p * q)) ∧ v = .int (p * q)) := rfl
theorem az7 (γ : Bool) (p q : Int) (v : AV) : V2_ γ .quo p q v = ((γ = true → q ≠ 0 ∧ InR (p.tdiv q)) ∧ v = .int (p.tdiv q)) := rfl
theorem az8 (γ : Bool) (p q : Int) (v : AV) : V2_ γ .rem p q v = ((γ = true → q ≠ 0 ∧ InR (p.tmod q)) ∧ v = .int (p.tmod q)) := rfl
theorem az9 (γ : Bool) (p q : Int) (v : AV) : V2_ γ .and p q v = (v = .int (aL1 p q)) := rfl
theorem aJ8 (γ : Bool) (p q : Int) (v : AV) : V2_ γ .or p q v = (v = .int (orI p q)) := rfl
theorem aJ9 (γ : Bool) (p q : Int) (v : AV) : V2_ γ .andNot p q v = (v = .int (anI p q)) := rfl
theorem aA0 (γ : Bool) (p q : Int) (v : AV) : V2_ γ .shl p q v = ((γ = true → 0 ≤ q) ∧ v = .int (aE0 p q)) := rfl
theorem aA1 (γ : Bool) (p q : Int) (v : AV) : V2_ γ .shr p q v = ((γ = true → 0 ≤ q) ∧ v = .int (as3 p q)) := rfl
theorem aA2 (γ : Bool) (t : TypeId) (p q : Int) (k : IntKind) (v : AV) : YX_ P H γ .shl t (.int p) (.ik k q) v = ((γ = true → 0 ≤ q) ∧ v = .int (aE0 p q)) := rfl
theorem aA3 (γ : Bool) (t : TypeId) (p q : Int) (k : IntKind) (v : AV) : YX_ P H γ .shr t (.int p) (.ik k q) v = ((γ = true → 0 ≤ q) ∧ v = .int (as3 p q)) := rfl
theorem aA4 (γ : Bool) (p q : Int) (v : AV) : V2_ γ .eql p q v = (v = .bool (decide (p = q))) := rfl
theorem aA5 (γ : Bool) (p q : Int) (v : AV) : V2_ γ .neq p q v = (v = .bool (!decide (p = q))) := rfl
theorem aA6 (γ : Bool) (p q : Int) (v : AV) : V2_ γ .lss p q v = (v = .bool (decide (p < q))) := rfl
theorem aA7 (γ : Bool) (p q : Int) (v : AV) : V2_ γ .leq p q v = (v = .bool (decide (p ≤ q))) := rfl
theorem aA8 (γ : Bool) (p q : Int) (v : AV) : V2_ γ .gtr p q v = (v = .bool (decide (q < p))) := rfl
theorem aA9 (γ : Bool) (p q : Int) (v : AV) : V2_ γ .geq p q v = (v = .bool (decide (q ≤ p))) := rfl
def KT_ (γ : Bool) (k : IntKind) (b : BinOp) (p q : Int) (v : AV) : Prop :=
 match b with
  | .add => v = .ik k (k.wrap (p + q))
  | .sub => v = .ik k (k.wrap (p - q))
  | .mul => v = .ik k (k.wrap (p * q))
  | .and => v = .ik k (k.wrap (BitVec.ofInt k.bits p &&& BitVec.ofInt k.bits q).toNat)
  | .shr => (γ = true → 0 ≤ q) ∧ v = .ik k (p.fdiv (2 ^ min q.toNat k.bits))
  | .lss => v = .bool (decide (p < q))
  | .leq => v = .bool (decide (p ≤ q))
  | .gtr => v = .bool (decide (q < p))
  | .geq => v = .bool (decide (q ≤ p))
  | _ => False
theorem aB0 (γ : Bool) (b : BinOp) (t : TypeId) (k k' : IntKind) (p q : Int) (v : AV) : YX_ P H γ b t (.ik k p) (.ik k' q) v = (k = k' ∧ KT_ γ k b p q v) := rfl
theorem aB1 (γ : Bool) (k : IntKind) (p q : Int) (v : AV) : KT_ γ k .add p q v = (v = .ik k (k.wrap (p + q))) := rfl
theorem aB2 (γ : Bool) (k : IntKind) (p q : Int) (v : AV) : KT_ γ k .sub p q v = (v = .ik k (k.wrap (p - q))) := rfl
theorem aB3 (γ : Bool) (k : IntKind) (p q : Int) (v : AV) : KT_ γ k .mul p q v = (v = .ik k (k.wrap (p * q))) := rfl
def aH1 (k : IntKind) (p q : Int) : Int := k.wrap (BitVec.ofInt k.bits p &&& BitVec.ofInt k.bits q).toNat
theorem ap4 (γ : Bool) (k : IntKind) (p q : Int) (v : AV) : KT_ γ k .and p q v = (v = .ik k (aH1 k p q)) := rfl
theorem aB4 (γ : Bool) (k : IntKind) (p q : Int) (v : AV) : KT_ γ k .shr p q v = ((γ = true → 0 ≤ q) ∧ v = .ik k (p.fdiv (2 ^ min q.toNat k.bits))) := rfl
theorem aB5 (γ : Bool) (k : IntKind) (p q : Int) (v : AV) : KT_ γ k .lss p q v = (v = .bool (decide (p < q))) := rfl
theorem aB6 (γ : Bool) (k : IntKind) (p q : Int) (v : AV) : KT_ γ k .leq p q v = (v = .bool (decide (p ≤ q))) := rfl
theorem aB7 (γ : Bool) (k : IntKind) (p q : Int) (v : AV) : KT_ γ k .gtr p q v = (v = .bool (decide (q < p))) := rfl
theorem aB8 (γ : Bool) (k : IntKind) (p q : Int) (v : AV) : KT_ γ k .geq p q v = (v = .bool (decide (q ≤ p))) := rfl
theorem wrap_u64 (n : Int) : IntKind.wrap .u64 n = n % 18446744073709551616 := by simp [IntKind.wrap, IntKind.signed, IntKind.bits]
theorem aa0 : IntKind.bits .u64 = 64 := rfl
def KU_ (k : TK) (γ : Bool) (b : BinOp) (e : Option (Nat × (Nat → AV))) (v : AV) : Prop := k.isSl = true ∧ match e with
 | some (n, _) => (match b with
  | .eql => (γ = true → 0 < n) ∧ v = .bool false
  | .neq => (γ = true → 0 < n) ∧ v = .bool true
  | _ => False)
 | none => False
theorem aa1 (k : TK) (γ : Bool) (n : Nat) (f : Nat → AV) (v : AV) : KU_ k γ .eql (some (n, f)) v = (k.isSl = true ∧ (γ = true → 0 < n) ∧ v = .bool false) := rfl
theorem aa2 (k : TK) (γ : Bool) (n : Nat) (f : Nat → AV) (v : AV) : KU_ k γ .neq (some (n, f)) v = (k.isSl = true ∧ (γ = true → 0 < n) ∧ v = .bool true) := rfl
theorem aB9 (γ : Bool) (b : BinOp) (t : TypeId) (xs : List Int) (v : AV) : YX_ P H γ b t (.l1 xs) .nil v = KU_ (xy_ P t) γ b (some (xs.length, fun i => .int (xs.getD i 0))) v := by
 unfold YX_ KU_; cases xy_ P t <;> cases b <;> simp [TK.isSl, elemsOf]
theorem aC0 (γ : Bool) (b : BinOp) (t : TypeId) (xs : List (List Int)) (v : AV) : YX_ P H γ b t (.l2 xs) .nil v = KU_ (xy_ P t) γ b (some (xs.length, fun i => .l1 (xs.getD i []))) v := by
 unfold YX_ KU_; cases xy_ P t <;> cases b <;> simp [TK.isSl, elemsOf]
theorem aC1 (γ : Bool) (b : BinOp) (t : TypeId) (xs : List (List (List Int))) (v : AV) : YX_ P H γ b t (.l3 xs) .nil v = KU_ (xy_ P t) γ b (some (xs.length, fun i => .l2 (xs.getD i []))) v := by
 unfold YX_ KU_; cases xy_ P t <;> cases b <;> simp [TK.isSl, elemsOf]
theorem ap5 (γ : Bool) (b : BinOp) (t : TypeId) (id : Nat) (p : List Nat) (v : AV) : YX_ P H γ b t (.ref id p) .nil v = KU_ (xy_ P t) γ b (xU_ H id p) v := by
 unfold YX_ KU_; cases xy_ P t <;> (cases he : xU_ H id p with | none => cases b <;> simp [he, TK.isSl] | some q => cases b <;> simp [he, TK.isSl])
theorem U7_ (γ : Bool) (t : TypeId) (v : AV) : YX_ P H γ .eql t .nil .nil v = ((xy_ P t).isSl = true ∧ v = .bool true) := by
 unfold YX_; cases xy_ P t <;> simp [TK.isSl]
theorem U8_ (γ : Bool) (t : TypeId) (v : AV) : YX_ P H γ .neq t .nil .nil v = ((xy_ P t).isSl = true ∧ v = .bool false) := by
 unfold YX_; cases xy_ P t <;> simp [TK.isSl]
theorem ap6 (γ : Bool) (b : BinOp) (t : TypeId) (p q : ByteArray) (v : AV) : YX_ P H γ b t (.str p) (.str q) v = (match b with
  | .add => (γ = true → p.size + q.size ≤ 1099511627776) ∧ v = .str (p ++ q)
  | .eql => v = .bool (p.toList == q.toList)
  | .neq => v = .bool (!(p.toList == q.toList))
  | _ => False) := rfl
theorem aa3 (γ : Bool) (b : BinOp) (t : TypeId) (p q : Bool) (v : AV) : YX_ P H γ b t (.bool p) (.bool q) v = (match xy_ P t with
  | .bool => (match b with
   | .eql => v = .bool (p == q)
   | .neq => v = .bool (!(p == q))
   | _ => False)
  | _ => False) := by unfold YX_; cases xy_ P t <;> cases b <;> rfl
theorem aC2 (γ : Bool) (b : Bool) (v : AV) : AUn γ .not (.bool b) v = (v = .bool (!b)) := rfl
theorem aC3 (γ : Bool) (n : Int) (v : AV) : AUn γ .neg (.int n) v = ((γ = true → InR (0 - n)) ∧ v = .int (0 - n)) := rfl
theorem U9_ (b : Bool) : wd_ (.bool b) = some (true, b) := rfl
theorem Ta_ (g b : Bool) : wd_ (.when g (.bool b)) = some (g, b) := rfl
end
end Go.Aw
namespace Go.Aw
open Go.RowKit
def y0_ (b : Bool) (P : Program) (ops : Array Oper) (n : Nat) (l : List Oper) (st : St) (K : St → Prop) : Prop :=
 match b with
 | true => ah5 P ops n l st K
 | false => ac3 P ops n l st K
def wrp (w : Option Bool) (v : AV) : AV :=
 match w with
 | none => v
 | some γ => .when γ v
theorem aa4 (v : AV) : wrp none v = v := rfl
theorem aa5 (γ : Bool) (v : AV) : wrp (some γ) v = .when γ v := rfl
def YR (b : Bool) (P : Program) (ops : Array Oper) (n : Nat) (r : List Oper) (st : St) (d : Option Nat) (w : Option Bool) (K : St → Prop) (p : AV → Prop) : Prop := ∃ v, p v ∧ y0_ b P ops n r ⟨Yr_ d (wrp w v) st.s, st.H⟩ K
def MK (b : Bool) (P : Program) (ops : Array Oper) (n : Nat) (r : List Oper) (st : St) (d : Option Nat) (K : St → Prop) (v : AV) (all subs : List Nat) (H' : List (Nat × Tree)) : Prop := y0_ b P ops n r ⟨Yr_ d v (yj_ all subs st.s), H'⟩ K
def FK (P : Program) (ops : Array Oper) (n : Nat) (r : List Oper) (st : St) (d : Option Nat) (K : St → Prop) (v : AV) (all subs : List Nat) (H' : List (Nat × Tree)) : Prop := y0_ true P ops n r ⟨Yr_ d v (Qh_ all subs st.s), H'⟩ K
section
variable {b : Bool} {P : Program} {ops : Array Oper} {n : Nat} {r : List Oper} {st : St} {K : St → Prop}
theorem aK0 {d : Option Nat} {w : Option Bool} (a : AV) : YR b P ops n r st d w K (fun v => v = a) = y0_ b P ops n r ⟨Yr_ d (wrp w a) st.s, st.H⟩ K := propext ⟨fun ⟨_, h, k⟩ => h ▸ k, fun k => ⟨a, rfl, k⟩⟩
theorem aC4 {d : Option Nat} {w : Option Bool} (c : Prop) (p : AV → Prop) : YR b P ops n r st d w K (fun v => c ∧ p v) = (c ∧ YR b P ops n r st d w K p) := propext ⟨fun ⟨v, ⟨h1, h2⟩, k⟩ => ⟨h1, v, h2, k⟩, fun ⟨h1, v, h2, k⟩ => ⟨v, ⟨h1, h2⟩, k⟩⟩
theorem xd_ {d : Option Nat} {w : Option Bool} {p : AV → Prop} {v : AV} (h : p v) (k : y0_ b P ops n r ⟨Yr_ d (wrp w v) st.s, st.H⟩ K) : YR b P ops n r st d w K p := ⟨v, h, k⟩
theorem aK1 {d : Option Nat} (v : AV) (H' : List (Nat × Tree)) : MK b P ops n r st d K v [] [] H' = y0_ b P ops n r ⟨Yr_ d v st.s, H'⟩ K := by
 unfold MK; rw [← TM_]; rfl
theorem aK2 {d : Option Nat} (v : AV) (i : Nat) (H' : List (Nat × Tree)) : MK b P ops n r st d K v [i] [] H' = y0_ b P ops n r ⟨Yr_ d v (yj_ [i] [] st.s), H'⟩ K := rfl
theorem aK3 {d : Option Nat} (v : AV) (i : Nat) (H' : List (Nat × Tree)) : MK b P ops n r st d K v [] [i] H' = y0_ b P ops n r ⟨Yr_ d v (yj_ [] [i] st.s), H'⟩ K := rfl
theorem aK4 {d : Option Nat} (v : AV) (i j : Nat) (H' : List (Nat × Tree)) : MK b P ops n r st d K v [i] [j] H' = y0_ b P ops n r ⟨Yr_ d v (yj_ [i] [j] st.s), H'⟩ K := rfl
theorem aK5 {d : Option Nat} (v : AV) (i j : Nat) (H' : List (Nat × Tree)) : MK b P ops n r st d K v [i, j] [] H' = y0_ b P ops n r ⟨Yr_ d v (yj_ [i, j] [] st.s), H'⟩ K := rfl
theorem bg8 {d : Option Nat} (v : AV) (H' : List (Nat × Tree)) : FK P ops n r st d K v [] [] H' = y0_ true P ops n r ⟨Yr_ d v st.s, H'⟩ K := rfl
theorem bg9 {d : Option Nat} (v : AV) (i : Nat) (is : List Nat) (H' : List (Nat × Tree)) : FK P ops n r st d K v [] (i :: is) H' = y0_ true P ops n r ⟨Yr_ d v (yj_ [] (i :: is) st.s), H'⟩ K := rfl
theorem bh0 {d : Option Nat} (v : AV) (i : Nat) (is subs : List Nat) (H' : List (Nat × Tree)) : FK P ops n r st d K v (i :: is) subs H' = y0_ true P ops n r ⟨Yr_ d v (yj_ (i :: is) subs st.s), H'⟩ K := by cases subs <;> rfl
theorem aa6 : y0_ b P ops n [] st K = K st := by cases b <;> rfl
def YJ_ (b : Bool) (P : Program) (ops : Array Oper) (n : Nat) (r : List Oper) (st : St) (d : Option Nat) (op : Op) (gd : Option (Nat × Bool)) (K : St → Prop) : Prop :=
 Wf_ n d ∧ match gd with
 | none => YR b P ops n r st d none K (fun v => VN_ P st.H true (evF st.get) op v)
 | some (j, want) => match (ops[j]?).bind (·.dst) with
  | some e => match wd_ (st.get e) with
   | some (gg, q) => YR b P ops n r st d (some (gg && (q == want))) K (fun v => VN_ P st.H (gg && (q == want)) (evF st.get) op v)
   | none => False
  | none => False
theorem QX_ (d : Option Nat) (op : Op) : YJ_ b P ops n r st d op none K = (Wf_ n d ∧ YR b P ops n r st d none K (fun v => VN_ P st.H true (evF st.get) op v)) := rfl
theorem QY_ (d : Option Nat) (op : Op) (j : Nat) (want : Bool) : YJ_ b P ops n r st d op (some (j, want)) K = (Wf_ n d ∧ match (ops[j]?).bind (·.dst) with
  | some e => match wd_ (st.get e) with
   | some (gg, q) => YR b P ops n r st d (some (gg && (q == want))) K (fun v => VN_ P st.H (gg && (q == want)) (evF st.get) op v)
   | none => False
  | none => False) := rfl
theorem ap7 {d : Option Nat} {op : Op} {gd : Option (Nat × Bool)} : zh_ P ops n st d op gd (fun st' => y0_ b P ops n r st' K) = YJ_ b P ops n r st d op gd K := by
 unfold zh_ YJ_
 congr 1
def aa7 (b : Bool) (P : Program) (ops : Array Oper) (n : Nat) (r : List Oper) (st : St) (d : Option Nat) (op : Op) (K : St → Prop) : Prop := Wf_ n d ∧ wN_ P st.H (evF st.get) op (MK b P ops n r st d K)
theorem aa8 (d : Option Nat) (op : Op) : aa7 b P ops n r st d op K = (Wf_ n d ∧ wN_ P st.H (evF st.get) op (MK b P ops n r st d K)) := rfl
theorem x5_ {d : Option Nat} {op : Op} {ty : TypeId} {pos : String} {af : Array Edge} {gd : Option (Nat × Bool)} (hp : ys_ op = true) (hc : b = true → ∀ K, ym_ P ops n st ⟨d, op, ty, pos, af, gd⟩ K = zh_ P ops n st d op gd K) :
  y0_ b P ops n (⟨d, op, ty, pos, af, gd⟩ :: r) st K = YJ_ b P ops n r st d op gd K := by
 rw [← ap7]
 cases b with
 | true =>
  show ym_ P ops n st ⟨d, op, ty, pos, af, gd⟩ (fun st' => ah5 P ops n r st' K) = _
  exact hc rfl _
 | false =>
  show Xy_ P ops n st ⟨d, op, ty, pos, af, gd⟩ (fun st' => ac3 P ops n r st' K) = _
  exact xV_ hp
theorem zR_ {d : Option Nat} {op : Op} {ty : TypeId} {pos : String} {af : Array Edge} (hp : ys_ op = false) (hc : ∀ K, ym_ P ops n st ⟨d, op, ty, pos, af, none⟩ K = YW_ P n st d op K) :
  y0_ b P ops n (⟨d, op, ty, pos, af, none⟩ :: r) st K = aa7 b P ops n r st d op K := by
 cases b with
 | true =>
  show ym_ P ops n st ⟨d, op, ty, pos, af, none⟩ (fun st' => ah5 P ops n r st' K) = _
  exact hc _
 | false =>
  show Xy_ P ops n st ⟨d, op, ty, pos, af, none⟩ (fun st' => ac3 P ops n r st' K) = _
  exact yX_ (ops := ops) hp
theorem ap8 {d : Option Nat} {ty : TypeId} {pos : String} {af : Array Edge} {gd : Option (Nat × Bool)} (x : Operand) : y0_ b P ops n (⟨d, (.move x), ty, pos, af, gd⟩ :: r) st K = YJ_ b P ops n r st d (.move x) gd K := x5_ rfl (fun _ _ => an4 ..)
theorem QZ_ {d : Option Nat} {ty : TypeId} {pos : String} {af : Array Edge} {gd : Option (Nat × Bool)} (x : Operand) : y0_ b P ops n (⟨d, (.assign x), ty, pos, af, gd⟩ :: r) st K = YJ_ b P ops n r st d (.assign x) gd K := x5_ rfl (fun _ _ => QV_ ..)
theorem ap9 {d : Option Nat} {ty : TypeId} {pos : String} {af : Array Edge} {gd : Option (Nat × Bool)} (c a q : Operand) : y0_ b P ops n (⟨d, (.pick c a q), ty, pos, af, gd⟩ :: r) st K = YJ_ b P ops n r st d (.pick c a q) gd K := x5_ rfl (fun _ _ => an5 ..)
theorem aq0 {d : Option Nat} {ty : TypeId} {pos : String} {af : Array Edge} {gd : Option (Nat × Bool)} (t : TypeId) (p : Operand) : y0_ b P ops n (⟨d, (.load t p), ty, pos, af, gd⟩ :: r) st K = YJ_ b P ops n r st d (.load t p) gd K := x5_ rfl (fun _ _ => an6 ..)
theorem V3_ {d : Option Nat} {ty : TypeId} {pos : String} {af : Array Edge} {gd : Option (Nat × Bool)} (t : TypeId) (x i : Operand) : y0_ b P ops n (⟨d, (.indexAddr t x i), ty, pos, af, gd⟩ :: r) st K = YJ_ b P ops n r st d (.indexAddr t x i) gd K := x5_ rfl (fun _ _ => V0_ ..)
theorem V4_ {d : Option Nat} {ty : TypeId} {pos : String} {af : Array Edge} {gd : Option (Nat × Bool)} (t : TypeId) (p : Operand) (f : Nat) : y0_ b P ops n (⟨d, (.fieldAddr t p f), ty, pos, af, gd⟩ :: r) st K = YJ_ b P ops n r st d (.fieldAddr t p f) gd K := x5_ rfl (fun _ _ => V1_ ..)
theorem aa9 {d : Option Nat} {ty : TypeId} {pos : String} {af : Array Edge} {gd : Option (Nat × Bool)} (t : TypeId) (p : Operand) (f : Nat) : y0_ b P ops n (⟨d, (.field t p f), ty, pos, af, gd⟩ :: r) st K = YJ_ b P ops n r st d (.field t p f) gd K := x5_ rfl (fun _ _ => J0_ ..)
theorem aC5 {d : Option Nat} {ty : TypeId} {pos : String} {af : Array Edge} {gd : Option (Nat × Bool)} (t : TypeId) (parts : Array (Nat × Operand)) : y0_ b P ops n (⟨d, (.build t parts), ty, pos, af, gd⟩ :: r) st K = YJ_ b P ops n r st d (.build t parts) gd K := x5_ rfl (fun _ _ => ax7 ..)
theorem ab0 {d : Option Nat} {ty : TypeId} {pos : String} {af : Array Edge} {gd : Option (Nat × Bool)} (bo : BinOp) (t : TypeId) (x y : Operand) (t' : TypeId) : y0_ b P ops n (⟨d, (.binOp bo t x y t'), ty, pos, af, gd⟩ :: r) st K = YJ_ b P ops n r st d (.binOp bo t x y t') gd K := x5_ rfl (fun _ _ => J1_ ..)
theorem aq1 {d : Option Nat} {ty : TypeId} {pos : String} {af : Array Edge} {gd : Option (Nat × Bool)} (u : UnOp) (t : TypeId) (x : Operand) : y0_ b P ops n (⟨d, (.unOp u t x), ty, pos, af, gd⟩ :: r) st K = YJ_ b P ops n r st d (.unOp u t x) gd K := x5_ rfl (fun _ _ => an7 ..)
theorem Tb_ {d : Option Nat} {ty : TypeId} {pos : String} {af : Array Edge} {gd : Option (Nat × Bool)} (x : Operand) : y0_ b P ops n (⟨d, (.nilCheck x), ty, pos, af, gd⟩ :: r) st K = YJ_ b P ops n r st d (.nilCheck x) gd K := x5_ rfl (fun _ _ => U5_ ..)
theorem S4_ {d : Option Nat} {ty : TypeId} {pos : String} {af : Array Edge} {gd : Option (Nat × Bool)} (s d' : TypeId) (x : Operand) : y0_ b P ops n (⟨d, (.convert s d' x), ty, pos, af, gd⟩ :: r) st K = YJ_ b P ops n r st d (.convert s d' x) gd K := x5_ rfl (fun _ _ => S2_ ..)
theorem S5_ {d : Option Nat} {ty : TypeId} {pos : String} {af : Array Edge} {gd : Option (Nat × Bool)} (x : Operand) (i : Nat) : y0_ b P ops n (⟨d, (.extract x i), ty, pos, af, gd⟩ :: r) st K = YJ_ b P ops n r st d (.extract x i) gd K := x5_ rfl (fun _ _ => S3_ ..)
theorem ab1 {d : Option Nat} {ty : TypeId} {pos : String} {af : Array Edge} {gd : Option (Nat × Bool)} (t : TypeId) (x : Operand) (lo hi mx : Option Operand) : y0_ b P ops n (⟨d, (.slice t x lo hi mx), ty, pos, af, gd⟩ :: r) st K = YJ_ b P ops n r st d (.slice t x lo hi mx) gd K := x5_ rfl (fun _ _ => J2_ ..)
theorem Tc_ {d : Option Nat} {ty : TypeId} {pos : String} {af : Array Edge} {gd : Option (Nat × Bool)} (g : Fn) (first : Array Operand) (caps : Array Operand) : y0_ b P ops n (⟨d, (.makeFunc g first caps), ty, pos, af, gd⟩ :: r) st K = YJ_ b P ops n r st d (.makeFunc g first caps) gd K := x5_ rfl (fun _ _ => U6_ ..)
theorem aC6 {d : Option Nat} {ty : TypeId} {pos : String} {af : Array Edge} {gd : Option (Nat × Bool)} (args : Array Operand) (ts : Array TypeId) : y0_ b P ops n (⟨d, (.call ⟨.builtin .len, args, ts⟩), ty, pos, af, gd⟩ :: r) st K = YJ_ b P ops n r st d (.call ⟨.builtin .len, args, ts⟩) gd K := x5_ rfl (fun _ _ => ax8 ..)
theorem aC7 {d : Option Nat} {ty : TypeId} {pos : String} {af : Array Edge} {gd : Option (Nat × Bool)} (args : Array Operand) (ts : Array TypeId) : y0_ b P ops n (⟨d, (.call ⟨.builtin .cap, args, ts⟩), ty, pos, af, gd⟩ :: r) st K = YJ_ b P ops n r st d (.call ⟨.builtin .cap, args, ts⟩) gd K := x5_ rfl (fun _ _ => ax9 ..)
theorem aC8 {d : Option Nat} {ty : TypeId} {pos : String} {af : Array Edge} {gd : Option (Nat × Bool)} (args : Array Operand) (ts : Array TypeId) : y0_ b P ops n (⟨d, (.call ⟨.builtin .max, args, ts⟩), ty, pos, af, gd⟩ :: r) st K = YJ_ b P ops n r st d (.call ⟨.builtin .max, args, ts⟩) gd K := x5_ rfl (fun _ _ => ay0 ..)
theorem aC9 {d : Option Nat} {ty : TypeId} {pos : String} {af : Array Edge} {gd : Option (Nat × Bool)} (args : Array Operand) (ts : Array TypeId) : y0_ b P ops n (⟨d, (.call ⟨.builtin .min, args, ts⟩), ty, pos, af, gd⟩ :: r) st K = YJ_ b P ops n r st d (.call ⟨.builtin .min, args, ts⟩) gd K := x5_ rfl (fun _ _ => ay1 ..)
theorem ab2 {d : Option Nat} {ty : TypeId} {pos : String} {af : Array Edge} (t : TypeId) : y0_ b P ops n (⟨d, (.alloc t), ty, pos, af, none⟩ :: r) st K = aa7 b P ops n r st d (.alloc t) K := zR_ rfl (fun _ => J3_ ..)
theorem aD0 {d : Option Nat} {ty : TypeId} {pos : String} {af : Array Edge} (t : TypeId) (x : Operand) : y0_ b P ops n (⟨d, (.box t x), ty, pos, af, none⟩ :: r) st K = aa7 b P ops n r st d (.box t x) K := zR_ rfl (fun _ => ay2 ..)
theorem ab3 {d : Option Nat} {ty : TypeId} {pos : String} {af : Array Edge} (t : TypeId) (len : Nat) (parts : Array (Nat × Operand)) : y0_ b P ops n (⟨d, (.buildSlice t len parts), ty, pos, af, none⟩ :: r) st K = aa7 b P ops n r st d (.buildSlice t len parts) K := zR_ rfl (fun _ => J4_ ..)
theorem aq2 {d : Option Nat} {ty : TypeId} {pos : String} {af : Array Edge} (t : TypeId) (l c : Operand) : y0_ b P ops n (⟨d, (.makeSlice t l c), ty, pos, af, none⟩ :: r) st K = aa7 b P ops n r st d (.makeSlice t l c) K := zR_ rfl (fun _ => an8 ..)
theorem ab4 {d : Option Nat} {ty : TypeId} {pos : String} {af : Array Edge} (t : TypeId) (p v : Operand) : y0_ b P ops n (⟨d, (.store t p v), ty, pos, af, none⟩ :: r) st K = aa7 b P ops n r st d (.store t p v) K := zR_ rfl (fun _ => J5_ ..)
theorem Q0_ {d : Option Nat} {ty : TypeId} {pos : String} {af : Array Edge} (args : Array Operand) (ts : Array TypeId) : y0_ b P ops n (⟨d, (.call ⟨.builtin .append, args, ts⟩), ty, pos, af, none⟩ :: r) st K = aa7 b P ops n r st d (.call ⟨.builtin .append, args, ts⟩) K := zR_ rfl (fun _ => QW_ ..)
theorem aq3 {d : Option Nat} {ty : TypeId} {pos : String} {af : Array Edge} (args : Array Operand) (ts : Array TypeId) : y0_ b P ops n (⟨d, (.call ⟨.builtin .copy, args, ts⟩), ty, pos, af, none⟩ :: r) st K = aa7 b P ops n r st d (.call ⟨.builtin .copy, args, ts⟩) K := zR_ rfl (fun _ => an9 ..)
theorem ab5 {d : Option Nat} {ty : TypeId} {pos : String} {af : Array Edge} {gd : Nat × Bool} (g : Operand) (args : Array Operand) (ts : Array TypeId) : y0_ b P ops n (⟨d, .call ⟨.value g, args, ts⟩, ty, pos, af, some gd⟩ :: r) st K = YJ_ b P ops n r st d (.call ⟨.value g, args, ts⟩) (some gd) K :=
 x5_ rfl (fun _ _ => J6_ ..)
theorem ab6 {d : Option Nat} {ty : TypeId} {pos : String} {af : Array Edge} {gd : Option (Nat × Bool)} (g : Operand) (args : Array Operand) (ts : Array TypeId) : y0_ false P ops n (⟨d, .call ⟨.value g, args, ts⟩, ty, pos, af, gd⟩ :: r) st K = YJ_ false P ops n r st d (.call ⟨.value g, args, ts⟩) gd K :=
 x5_ rfl (fun h => by cases h)
def aK6 (P : Program) (ops : Array Oper) (n : Nat) (r : List Oper) (st : St) (d : Option Nat) (K : St → Prop) (args : List AV) (g : AV) : Prop :=
 match strip g with
 | .fn f caps => okG true g ∧ Rf_ true args ∧ Xv_ P st.H f (args.map strip ++ caps) (FK P ops n r st d K)
 | _ => False
theorem aq4 {d : Option Nat} (args : List AV) (f : Nat) (caps : List AV) : aK6 P ops n r st d K args (.fn f caps) = (Rf_ true args ∧ Xv_ P st.H f (args.map strip ++ caps) (FK P ops n r st d K)) := by
 simp only [aK6, strip, okG, true_and]
theorem aq5 {d : Option Nat} {ty : TypeId} {pos : String} {af : Array Edge} (g : Operand) (args : Array Operand) (ts : Array TypeId) : y0_ true P ops n (⟨d, .call ⟨.value g, args, ts⟩, ty, pos, af, none⟩ :: r) st K = (Wf_ n d ∧ aK6 P ops n r st d K (args.toList.map (evF st.get)) (evF st.get g)) := rfl
end
section
variable {P : Program} {cx : Cx} {n : Nat} {Q : SQ} {st : St} {cs : List Code}
theorem xx_ {id : Nat} {l : List Oper} (hx : ∀ o ∈ l, ∀ d, o.dst = some d → cx.fix d = false) (h : ∀ K : St → Prop, (∀ s, ATs P cx n cs Q s → K s) → y0_ true P l.toArray n l st K) : ATs P cx n (.region id l.toArray false :: cs) Q st := al2 hx h
theorem xI_ {id : Nat} {l : List Oper} (hx : ∀ o ∈ l, ∀ d, o.dst = some d → cx.fix d = false) (hm : P.follows .mixedOrders = true) (hB : Uc_ l.toArray = true) (h : ∀ K : St → Prop, (∀ s, ATs P cx n cs Q s → K s) → y0_ false P l.toArray n l st K) : ATs P cx n (.region id l.toArray true :: cs) Q st := ac4 hx hm hB h
theorem aq6 {x : Operand} {a b : Code} (hx : strip (evF st.get x) = .bool true) (hg : okG true (evF st.get x)) (h : ATs P cx n (a :: cs) Q st) : ATs P cx n (.cond x a b :: cs) Q st := XV_ hx hg (fun _ => h) (fun h => by cases h)
theorem aD1 {x : Operand} {a b : Code} (hx : strip (evF st.get x) = .bool false) (hg : okG true (evF st.get x)) (h : ATs P cx n (b :: cs) Q st) : ATs P cx n (.cond x a b :: cs) Q st := XV_ hx hg (fun h => by cases h) (fun _ => h)
end
section
variable {P : Program} {cx : Cx} {n : Nat} {Q : SQ} {st : St} {cs : List Code}
end
end Go.Aw
namespace Go.Aw
theorem aI {a b : Prop} (ha : a := by first | omega | (intro hq; first | omega | (simp at hq <;> omega) | (simp_all <;> omega))) (hb : b) : a ∧ b := ⟨ha, hb⟩
theorem leS : (∀ st, xs_ st [] = True) ∧ (∀ st k v r, xs_ st ((k, v) :: r) = (st.get k = v ∧ xs_ st r)) ∧ (∀ s H k, St.get ⟨s, H⟩ k = xg_ s k) ∧ (∀ j v r k, xg_ ((j, v) :: r) k = if j = k then v else xg_ r k) ∧ (∀ k, xg_ [] k = .junk) ∧
  (∀ a b, (AV.int a = AV.int b) = (a = b)) ∧ (∀ a b, (AV.bool a = AV.bool b) = (a = b)) ∧ (∀ a b, (AV.l1 a = AV.l1 b) = (a = b)) ∧ (∀ a b, (AV.l2 a = AV.l2 b) = (a = b)) ∧ (∀ a b, (AV.l3 a = AV.l3 b) = (a = b)) :=
 ⟨fun _ => rfl, fun _ _ _ _ => rfl, fun _ _ _ => rfl, fun _ _ _ _ => rfl, fun _ => rfl, fun _ _ => by simp, fun _ _ => by simp, fun _ _ => by simp, fun _ _ => by simp, fun _ _ => by simp⟩
attribute [go_sem] YK_ aC5 VY_ W8_ XB_ VN_ ad0 ad1 TK.num XY_ XZ_ Rf_ elemsOf xU_ wN_ WE_ wK_ Un_ aD4 Zy_ Xw_ Th_ Tg_ aH2 target Va_ aD3 aq7 aq9 ar0 W9_ zk_ evF aD9 ofV find yh_ xH_ zC_ xD_ rmT Xj_ wT_ zU_ ZJ_ isData x1_ KV_ RJ_ aq8 isInt zF_ inOrder xP_ xl_ xg_ St.get Yr_ yj_ qOf InR TU_ Qi_ al3 Jj_ ax1 Sz_ Jk_ Qj_ al4 strip_nil al5 UX_ Qk_ Jl_ ax2 Jm_ ax3 Jn_ ax4 Jo_ ax5 Ql_ al6 Qm_ al7 Jp_ ax6 SA_ Jq_ SB_ Jr_ Qn_ al8 Qo_ al9 SC_ Js_ SD_ Jt_ SE_ Ju_ SF_ Jv_ Qp_ Qq_ Jw_ SG_ Jx_ Qr_ Jy_ Jz_ am0 Qs_ am1 JA_ SH_ SI_ Qt_ UY_ Qu_ SJ_ Qv_ Qw_ JB_ SK_ JC_ Qx_ Qy_ Qz_ JD_ SL_ JE_ QA_ UZ_ U0_ SM_ VZ_ SN_ U1_ JF_ JG_ am2 QB_ am3 JH_ JI_ JJ_ am4 QC_ am5 JK_ JL_ JM_ am6 QD_ am7 JN_ SO_ QE_ QF_ SP_ SQ_ JO_ QG_ QH_ JP_ SR_ SS_ ST_ QI_ QJ_ QK_ QL_ QM_ JQ_ QN_ JR_ QO_ JS_ QP_ JT_ SU_ QQ_ JU_ am8 SV_ QR_ am9 JV_ JW_ SW_ SX_ SY_ SZ_ QS_ QT_ U2_ U3_ U4_ JX_ JY_ JZ_ an0 an1 QU_ S0_ S1_ az9 aJ8 aJ9 aA0 aA1 aA2 aA3 az4 az5 az6 az7 az8 aA4 aA5 aA6 aA7 aA8 aA9 ay3 ay4 ao0 ay5 J7_ ao1 one_cell ay6 ao2 ao3 J8_ ao4 ao5 ao6 J9_ aJ4 aJ5 aJ6 aJ7 ay7 ay8 ay9 az0 az1 az2 len_nil ao7 ao8 ao9 ap0 ap1 ap2 ap3 aB0 aB1 aB2 aB3 ap4 aB4 aB5 aB6 aB7 aB8 wrap_u64 aa0 aa1 aa2 aB9 aC0 aC1 ap5 U7_ U8_ ap6 aa3 aC2 aC3 U9_ Ta_ aa4 aa5 aK0 aC4 aK1 aK2 aK3 aK4 aK5 bg8 bg9 bh0 aa6 QX_ QY_ aa8 ap8 QZ_ ap9 aq0 V3_ V4_ aa9 ab0 aq1 Tb_ Rg_ Rh_ S4_ S5_ ab1 Tc_ aC6 aC7 aC8 aC9 ab2 aD0 ab3 aq2 ab4 Q0_ aq3 ab5 ab6 aq4 aq5
attribute [go_sem] List.isEmpty List.filter_cons List.filter_nil List.map_cons List.map_nil List.all_cons List.all_nil List.any_cons List.any_nil List.contains_cons List.contains_nil List.getD_cons_zero List.getD_cons_succ List.set_cons_zero List.set_cons_succ List.length_cons List.length_nil List.toList_toArray List.getElem?_toArray List.getElem?_cons_zero List.getElem?_cons_succ Option.bind_some Option.bind_none Option.map_some Option.map_none Option.isSome_some Option.some.injEq and_assoc and_true true_and if_true if_false ite_true ite_false exists_and_left exists_eq_left exists_eq_left' exists_eq_right forall_const Bool.not_true Bool.not_false Bool.true_and Bool.and_true Bool.false_and Bool.and_false Bool.or_true Bool.or_false Bool.true_or Bool.false_or Bool.false_eq_true Bool.true_eq_false Int.toNat_natCast Int.toNat_zero Int.toNat_one Int.sub_zero Nat.zero_add Nat.add_zero List.isEmpty_nil List.isEmpty_cons beq_self_eq_true Nat.max_def ne_eq not_false_eq_true bne_self_eq_false cond_true cond_false List.append_nil List.nil_append List.cons_append List.take_zero List.take_succ_cons List.take_nil List.drop_zero List.drop_succ_cons List.drop_nil imp_self implies_true bh3 bh4 Bool.not_eq_true' Bool.cond_true_left Bool.cond_false_right
end Go.Aw
namespace Go.Aw
open Go.ChangeShapes Go.WideShapes Go.RowKit Go.Deep
section
variable {H : Type} {enc : TypeId × Value → H} {P : Program} {w : World} {held : Bool}
theorem aD2 {a : Addr} {len cap : Nat} {V : Nat → Value} (hl : len ≤ cap) (hm : cap ≤ maxLen) (hx : ∀ i, i < cap → w.cell? (a.add i) = some (V i)) :
  SlC w (lower w) ((List.range len).map V) (.slice (some a) len cap) := by
 by_cases hc : cap = 0
 ·subst hc
  obtain rfl : len = 0 := by omega
  exact .inl ⟨⟨some a, rfl⟩, rfl⟩
 ·have h0 := hx 0 (by omega)
  have hs : a.spot = none := by
   simp only [Addr.add, if_true, World.cell?] at h0
   split at h0
   ·split at h0
    ·cases h0
    ·rename_i hn; simpa using hn
   ·cases h0
  obtain ⟨b, off, s⟩ := a
  simp only at hs
  subst hs
  have hadd : ∀ i, Addr.add ⟨b, off, none⟩ i = ⟨b, off + i, none⟩ := fun i => by
   unfold Addr.add
   split
   ·simp_all
   ·rfl
  have hb : b < w.heap.size := cell_lt (by rw [hadd] at h0; exact h0)
  refine .inr ⟨b, off, cap, by simp, by simpa using hl, hm, hb, fun i u hu => ?_⟩
  have hi : i < len := by
   have := (List.getElem?_eq_some_iff.1 hu).1
   simpa using this
  simp only [List.getElem?_map, List.getElem?_range hi, Option.map_some, Option.some.injEq] at hu
  subst hu
  rw [← hadd]
  exact hx i (by omega)
theorem WD_ {α β : Type} {R : α → β → Prop} {V : Nat → β} : ∀ {n : Nat}, (∀ i, i < n → ∃ x, R x (V i)) → ∃ xs : List α, All2 R xs ((List.range n).map V)
 | 0, _ => ⟨[], trivial⟩
 | n + 1, h => by
  obtain ⟨xs, hxs⟩ := WD_ (n := n) (fun i hi => h i (by omega))
  obtain ⟨x, hx⟩ := h n (by omega)
  refine ⟨xs ++ [x], ?_⟩
  rw [List.range_succ, List.map_append]
  exact hxs.append ⟨hx, trivial⟩
theorem bh1 {α : Type} {R : α → Value → Prop} {t e : TypeId} {n : Nat} {v : Value} {x : DataW H × List MemPlace} (ht : P.underlying t = some (.slice e)) (hc : P.cellsOf e = 1)
  (each : ∀ (m : Nat) (u : Value) (y : DataW H × List MemPlace), DataW.trod enc P w 0 (fun _ => true) held m e [u] = some y → ∃ a, R a u)
  (h : DataW.trod enc P w 0 (fun _ => true) held n t [v] = some x) : ∃ (xs : List α) (us : List Value), SlC w (lower w) us v ∧ All2 R xs us := by
 rcases open_slice1 ht hc h with ⟨h1, _⟩ | ⟨a, len, cap, m, n', V, D, Pl, h1, _, hl, hm, hmm, _, hx⟩
 ·cases h1
  exact ⟨[], [], .inl ⟨⟨none, rfl⟩, rfl⟩, trivial⟩
 ·obtain rfl := List.singleton_inj.1 h1
  have hx : ∀ i, i < cap → w.cell? (a.add i) = some (V i) ∧ DataW.trod enc P w 0 (fun _ => true) held n' e [V i] = some (D i, Pl i) := fun i hi => hx i (by simpa [hmm] using hi)
  obtain ⟨xs, hxs⟩ := WD_ (n := len) (V := V) (fun i hi => each _ _ _ (hx i (by omega)).2)
  exact ⟨xs, _, aD2 hl hm (fun i hi => (hx i hi).1), hxs⟩
theorem aK7 {t : TypeId} {v : Value} {d : DataW H} {p : List MemPlace} (h : DataW.Trod enc P w 0 (fun _ => true) held t v d p) (hv : v.cells.toList = [v]) : ∃ n y, DataW.trod enc P w 0 (fun _ => true) held n t [v] = some y := by
 obtain ⟨n, h⟩ := h
 rw [hv] at h
 exact ⟨n, _, h⟩
theorem Wg_ {t e : TypeId} {base : Nat} {v : Value} (ht : P.underlying t = some (.slice e)) (hv : Value.okWide P w .any base t v) : v.cells.toList = [v] := by
 simp only [Value.okWide, ht, Cell.okWide, Cell.ok] at hv
 split at hv <;> first | rfl | (exfalso; simp_all; done) | skip
 all_goals first | exact hv.elim | skip
theorem XN_ (hl : laidOutB P = true) {W W' : World} {sp' : Nat → Bool} : ∀ {ts : List TypeId} {vs : List Value} {ds : List (DataW H)} {ps : List MemPlace},
  ts.all (fun t => P.readableRec t && decide (t < P.types.size)) = true → DataW.TrodAll enc P W 0 (fun _ => true) true ts vs ds ps → (∀ p ∈ ps, W.sameAt W' p) → (∀ p ∈ ps, sp' p.block = true) → DataW.TrodAll enc P W' 0 sp' true ts vs ds ps
 | [], _, _, _, _, h, _, _ => by
  obtain ⟨rfl, rfl, rfl⟩ := trodAll_nil h
  exact rfl
 | t :: ts, _, _, _, hr, h, hs, hp => by
  obtain ⟨v, vs, d, ds, p, q, rfl, rfl, rfl, h1, h2⟩ := trodAll_cons h
  simp only [List.all_cons, Bool.and_eq_true, decide_eq_true_eq] at hr
  exact ⟨p, q, Go.WideElems.Trod_stays hl hr.1.1 hr.1.2 h1 (fun x hx => hs x (by simp [hx])) (fun x hx => hp x (by simp [hx])), XN_ hl hr.2 h2 (fun x hx => hs x (by simp [hx])) (fun x hx => hp x (by simp [hx])), rfl⟩
theorem Td_ {W W' : World} (e : Ext W W') (may : MemPlace → Prop) : W.keptBut W' may := by
 refine ⟨e.os, e.output, fun i hi => ?_⟩
 rw [e.block i hi]
 cases h : W.heap[i]? with
 | none => trivial
 | some o => cases o <;> simp
theorem S6_ {W W' : World} (e : Ext W W') {b off : Nat} (hb : b < W.heap.size) : W'.frozen? ⟨b, off, none⟩ = W.frozen? ⟨b, off, none⟩ := by
 simp only [World.frozen?, e.block b hb]
theorem ab7 {f : Func} {s : ChangeSpec} {apart fresh handsOn again : Bool} {W W' : World} {args : Array Value} {ds gs : List (DataW H)} {before : List MemPlace} {tb : TypeId}
  (hl : laidOutB P = true) (hsv : s.vars = []) (hr : f.resultTypes = #[tb]) (htb : P.underlying tb = some .bool) (hp : f.params.toList.all (fun t => P.readableRec t && decide (t < P.types.size)) = true)
  (hW : DataW.Whole enc P f.params.toList s.vars apart W args.toList ds gs before)
  (hres : (s.fn H (ds ++ gs)).results = [.lit (.bool true)]) (hargs : (s.fn H (ds ++ gs)).args = ds) (hvars : (s.fn H (ds ++ gs)).vars = []) (e : Ext W W') :
  s.post enc P f apart fresh handsOn again W args (.bool true) W' := by
 have hlt := hW.lt
 have hW0 := hW
 obtain ⟨p, q, hA, hV, hpq, hfz, hnd⟩ := hW
 rw [hsv] at hV
 obtain ⟨rfl, rfl⟩ := trodVars_none hV
 rw [List.append_nil] at hpq
 subst hpq
 have hsame : ∀ x ∈ before, W.sameAt W' x := fun x hx => by
  have hb := hlt x hx
  cases x with
  | cell b off => simp only [World.sameAt]; exact cell_of_heap (e.block b hb) _ _
  | map b => simp only [World.sameAt]; exact e.block b hb
 have ha : ∀ sp : Nat → Bool, (∀ x ∈ before, sp x.block = true) → DataW.TrodAll enc P W' 0 sp true f.params.toList args.toList ds before := fun sp hsp => XN_ hl hp hA hsame hsp
 have hb : ∀ (b : Nat) (sp : Nat → Bool) (hd : Bool), DataW.TrodAll enc P W' b sp hd f.resultTypes.toList ((Value.bool true).resultList f.resultTypes.size) [.lit (.bool true)] [] := fun b sp hd => by
  rw [hr]
  exact trodAll_cons_mk (shut_bool htb _) trodAll_mk0
 refine ⟨ds, [], before, [], before, [], hW0, ?_, ?_, ?_, Td_ e _, fun _ => ⟨?_, [.lit (.bool true)] ++ ds, [], before, ⟨before, [], trodAll_append (ha _ (fun _ _ => rfl)) (hb _ _ _), ?_, by simp, ?_, hnd⟩, fun x hx _ => hx⟩⟩
 ·rw [hres]; exact hb _ _ _
 ·rw [hargs]; exact ha _ (fun x hx => by simpa using hlt x hx)
 ·rw [hvars, hsv]; exact rfl
 ·exact ok_one hr rfl (okWide_bool_mk htb _)
 ·rw [hsv]; exact rfl
 ·intro b off hx
  have h1 := hlt _ hx
  simp only [MemPlace.block] at h1
  rw [S6_ e h1]
  exact hfz b off hx
end
end Go.Aw
namespace Go.Aw
structure Hd (Y : Prop) : Prop where
 y : Y
theorem gA {X Y : Prop} (y : Y) (s : Hd Y → X := by intro hy; (repeat refine xb_ ?_); refine xx_ (by first | exact xO_ hcx | exact wJ_ hcx rfl) fun K hK => ?_; simp only [go_sem, seval]; refine hK _ ?_; clear hK K; exact hy.y) : X := s ⟨y⟩
theorem gB {X Y : Prop} (y : Y) (s : Hd Y → X := by intro hy; (repeat refine xb_ ?_); refine xx_ (by first | exact xO_ hcx | exact wJ_ hcx rfl) fun K hK => ?_; simp only [go_sem, seval]; (repeat refine aI (hb := ?_)); refine hK _ ?_; clear hK K; exact hy.y) : X := s ⟨y⟩
theorem gC {X : Prop} {Φ : (St → Prop) → Prop} {Y : ∀ K : St → Prop, Φ K → Prop} (y : ∀ K hK, Y K hK) (s : (∀ K hK, Y K hK) → X := by intro hy; (repeat refine xb_ ?_); refine xx_ (by first | exact xO_ hcx | exact wJ_ hcx rfl) fun K hK => ?_; simp only [go_sem, seval]; exact hy K hK) : X := s y
theorem gI {X Y Z p q : Prop} (y : p → Y) (z : q → Z) (s : (p → Y) → (q → Z) → X := by intro hy hz; (repeat refine xb_ ?_); first | (refine as1 (p := _) rfl trivial (fun h => ?_) (fun h => ?_); exact hy h; exact hz h) | (refine as0 (p := _) rfl trivial (fun h => ?_) (fun h => ?_); exact hy h; exact hz h) | (refine XV_ rfl trivial (fun h => ?_) (fun h => ?_); exact hy h; exact hz h)) : X := s y z
end Go.Aw
namespace Go.Aw
open Go.RowKit
theorem gPC {P : Program} (n : Nat) {f : FuncId} {fn : Func} {c : Code} (rs : List ResultVar) {ds : List AV} {r : AV} (hcall : ∀ args w, (callFunc f args).run P w = .ok (.enter f args) w) (hf : P.funcs[f]? = some fn) (k : ∀ cx, cx.fix = 0 → ATs P cx n [c] (fun e st => Ends e ∧ ∃ v, y1_ P st rs v ∧ xK_ st.H v = some r) ⟨xl_ 0 ds, []⟩) (hb : fn.body = some c := by exact rfl) (hn : fn.ntmps = n := by exact rfl) (hrs : fn.results = rs.toArray := by exact rfl) (hl : ds.length ≤ n := by simp only [List.length_cons, List.length_nil]; omega) : PureCall P f ds r := PureCall.intro hcall hf hb hn hrs hl fun cx h => x2_ (k cx h)
theorem gFC {P : Program} (n : Nat) {f : FuncId} {fn : Func} {c : Code} (rs : List ResultVar) {ds : List AV} {r : AV} (hcall : ∀ args w, (callFunc f args).run P w = .ok (.enter f args) w) (hf : P.funcs[f]? = some fn) (k : ∀ cx, cx.fix = 0 → ATs P cx n [c] (fun e st => Ends e ∧ ∃ v is, y1_ P st rs v ∧ zE_ st.H v = some (r, is) ∧ is.Nodup) ⟨xl_ 0 ds, []⟩) (hb : fn.body = some c := by exact rfl) (hn : fn.ntmps = n := by exact rfl) (hrs : fn.results = rs.toArray := by exact rfl) (hl : ds.length ≤ n := by simp only [List.length_cons, List.length_nil]; omega) : FreshCall P f ds r := FreshCall.intro hcall hf hb hn hrs hl fun cx h => x2_ (k cx h)
theorem gE {X Y : Prop} (y : Y) (s : Hd Y → X := by intro hy; simp only [xl_, Nat.zero_add, Nat.reduceAdd]; exact hy.y) : X := s ⟨y⟩
theorem gO {X Y : Prop} (y : Y) (s : Hd Y → X := by intro hy; (repeat refine xb_ ?_); refine Q4_ ?_; exact hy.y) : X := s ⟨y⟩
theorem gQ {X Y : Prop} (y : Y) (s : Hd Y → X := by intro hy; (repeat refine xb_ ?_); refine aD1 rfl trivial ?_; exact hy.y) : X := s ⟨y⟩
theorem gR {X Y : Prop} (y : Y) (s : Hd Y → X := by intro hy; (repeat refine xb_ ?_); refine aq6 rfl trivial ?_; exact hy.y) : X := s ⟨y⟩
theorem gW {X Y : Prop} (y : Y) (s : Hd Y → X := by intro hy; simp only [go_sem, seval]; (repeat refine aI (hb := ?_)); exact hy.y) : X := s ⟨y⟩
theorem gU {X Y : Prop} (y : Y) (s : Hd Y → X := by intro hy; (repeat refine aI (hb := ?_)); exact hy.y) : X := s ⟨y⟩
theorem gV {X Y : Prop} (y : Y) (s : Hd Y → X := by intro hy; simp only [go_sem, seval]; exact hy.y) : X := s ⟨y⟩
theorem gZ {α : Type} (a : α) : ∃ z, z = a := ⟨_, rfl⟩
theorem gH {X : Prop} (x : X := by simp only [leS, Nat.reduceEqDiff, ↓reduceIte, true_and, and_true]; omega) : X := x
theorem gM {X : Prop} (x : X := by refine And.intro ?_ rfl; simp only [leS, Nat.reduceEqDiff, ↓reduceIte, true_and, and_true]) : X := x
theorem gLp {P : Program} {cx : Cx} {n : Nat} {id : Nat} {c : Code} {cs : List Code} {Q : SQ} {st : St} (I : Nat → St) (u : Nat) (round : ∀ x, x ≤ u → ATs P cx n [c] (lq id (fun st' => ∃ y, y ≤ u ∧ u - y < u - x ∧ Lq st' (I y)) (ATs P cx n cs Q) Q) (I x)) (hst : Le st (I 0) := by refine And.intro ?_ rfl; simp only [leS, Nat.reduceEqDiff, ↓reduceIte, true_and, and_true]; repeat' (first | rfl | with_reducible refine And.intro ?_ ?_ | omega)) : ATs P cx n (.block id (.loop c) :: cs) Q st := xt_ I (fun x => x ≤ u) (fun x => u - x) 0 (Nat.zero_le _) hst round
end Go.Aw
namespace Go.Aw
theorem gK1 {X : Prop} (x : X := by simp only [yj_, List.map_cons, List.map_nil, xu_, xH_, qOf, rmT, xD_, yF_, List.filter_cons, List.filter_nil, List.contains_cons, List.contains_nil, xs_, St.get, xg_, Nat.reduceEqDiff, Nat.reduceBEq, Bool.or_false, Bool.or_true, Bool.false_and, Bool.not_true, Bool.not_false, Bool.false_eq_true, ↓reduceIte, if_true, if_false, AV.int.injEq, AV.bool.injEq, AV.l1.injEq, AV.l2.injEq, AV.l3.injEq, true_and, and_true]; omega) : X := x
theorem av1 {X : Prop} (x : X := by simp only [yj_, List.map_cons, List.map_nil, xu_, xH_, qOf, rmT, xD_, yF_, List.filter_cons, List.filter_nil, List.contains_cons, List.contains_nil, xs_, St.get, xg_, Nat.reduceEqDiff, Nat.reduceBEq, Bool.or_false, Bool.or_true, Bool.false_and, Bool.not_true, Bool.not_false, Bool.false_eq_true, ↓reduceIte, if_true, if_false, AV.int.injEq, AV.bool.injEq, AV.l1.injEq, AV.l2.injEq, AV.l3.injEq, true_and, and_true]; (try rfl)) : X := x
theorem bf3 {X Y : Prop} (y : Y) (s : Hd Y → X := by intro hy; simp only [yj_, List.map_cons, List.map_nil, xu_, xH_, qOf, rmT, xD_, yF_, List.filter_cons, List.filter_nil, List.contains_cons, List.contains_nil, xs_, St.get, xg_, Nat.reduceEqDiff, Nat.reduceBEq, Bool.or_false, Bool.or_true, Bool.false_and, Bool.not_true, Bool.not_false, Bool.false_eq_true, ↓reduceIte, if_true, if_false, AV.int.injEq, AV.bool.injEq, AV.l1.injEq, AV.l2.injEq, AV.l3.injEq, true_and, and_true]; exact hy.y) : X := s ⟨y⟩
end Go.Aw
