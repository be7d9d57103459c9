import Derived.Test.YtlngnhbochmcoaaLib2
import Derived.ChangeSame
import Derived.WideKeyArgs
import Derived.Deep.Slices
import Derived.OpenShut
import Derived.ProofKit
set_option linter.unusedSimpArgs false
set_option linter.unusedVariables false
namespace Go.Aw
open Go.RowKit
def flatRep (w : World) (fp : List Nat) : Tree → Value → Prop
 | .t1 xs, v => O1 w fp xs v
 | .t2 xs, v => O2 w fp xs v
 | .t3 xs, v => O3 w fp xs v
 | _, _ => False
theorem flatRep.tree {w : World} {fp : List Nat} {t : Tree} {v : Value} (h : flatRep w fp t v) {m : Mem} (hm : m.w = w) : treeRep m fp t v := by
 subst hm
 cases t <;> simp only [flatRep] at h <;> simp only [treeRep] <;> exact h
def Ru_ : Tree → Bool
 | .t1 _ | .t2 _ | .t3 _ => true
 | _ => false
theorem XF_ {m : Mem} {fp : List Nat} {t : Tree} {v : Value} (hf : Ru_ t = true) (h : treeRep m fp t v) : flatRep m.w fp t v := by
 cases t <;> simp only [Ru_] at hf <;> simp only [treeRep] at h <;> first | exact h | cases hf
section
variable {P : Program} {cx : Cx} {H : List (Nat × Tree)} {w w' : World} {ι : Nat → Value} {F : Nat → List Nat}
theorem Owns.turn (ho : Owns cx H w ι F) {T T' : List (Nat × Tree)} (hids : Aw.ids T' = Aw.ids T) (hn : (Aw.ids T).Nodup) (hf : ∀ p ∈ T, find H p.1 = some p.2) (hw : Turned w w' (xW_ T F)) {G : Nat → List Nat}
  (h1 : ∀ p ∈ T', flatRep w' (G p.1) p.2 (ι p.1)) (h2 : (xW_ T' G).Nodup) (h3 : ∀ b ∈ xW_ T' G, b < w'.heap.size ∧ (b ∈ xW_ T F ∨ w.heap.size ≤ b)) :
  Owns cx (T' ++ xt_ (qOf [] (Aw.ids T)) (rmT (Aw.ids T) H)) w' ι (fun i => if (Aw.ids T).contains i then G i else F i) ∧
  ∀ av v, rep (mem cx w H ι F) av v → rep (mem cx w' (T' ++ xt_ (qOf [] (Aw.ids T)) (rmT (Aw.ids T) H)) ι (fun i => if (Aw.ids T).contains i then G i else F i)) (xp_ (qOf [] (Aw.ids T)) av) v := by
 have hsub : ∀ b, b ∈ xW_ T F → b ∈ xW_ H F := fun b hb => by
  obtain ⟨p, hp, hb⟩ := mem_foot.1 hb
  exact mem_foot.2 ⟨_, xc_ (hf p hp), hb⟩
 have hc : ∀ {i}, (Aw.ids T).contains i = true ↔ i ∈ Aw.ids T := fun {i} => by simp
 have hc' : ∀ {i}, i ∉ Aw.ids T → (Aw.ids T).contains i = false := fun {i} h => by simpa using h
 have hTin : ∀ p ∈ T', (Aw.ids T).contains p.1 = true := fun p hp => hc.2 (by rw [← hids]; exact List.mem_map.2 ⟨p, hp, rfl⟩)
 have hq1 : xW_ T' (fun i => if (Aw.ids T).contains i then G i else F i) = xW_ T' G := yM_ (fun p hp => by simp only [hTin p hp, if_true])
 have hq2 : xW_ (xt_ (qOf [] (Aw.ids T)) (rmT (Aw.ids T) H)) (fun i => if (Aw.ids T).contains i then G i else F i) = xW_ (rmT (Aw.ids T) H) F := by
  rw [y1_]
  exact yM_ (fun p hp => by rw [mem_rmT] at hp; simp only [hc' hp.2, Bool.false_eq_true, if_false])
 have hfoot : xW_ (T' ++ xt_ (qOf [] (Aw.ids T)) (rmT (Aw.ids T) H)) (fun i => if (Aw.ids T).contains i then G i else F i) = xW_ T' G ++ xW_ (rmT (Aw.ids T) H) F := by rw [wj_, hq1, hq2]
 have hrm : ∀ b, b ∈ xW_ (rmT (Aw.ids T) H) F → b ∈ xW_ H F ∧ b ∉ xW_ T F := fun b hb => by
  obtain ⟨p, hp, hb⟩ := mem_foot.1 hb
  rw [mem_rmT] at hp
  refine ⟨mem_foot.2 ⟨p, hp.1, hb⟩, fun h => ?_⟩
  obtain ⟨p', hp', hb'⟩ := mem_foot.1 h
  exact yc_ ho (x5_ ho.ids hp.1) (hf p' hp') (fun e => hp.2 (e ▸ List.mem_map.2 ⟨p', hp', rfl⟩)) hb hb'
 have hfind : ∀ i, i ∉ Aw.ids T → find (T' ++ xt_ (qOf [] (Aw.ids T)) (rmT (Aw.ids T) H)) i = (find H i).map (x4_ (qOf [] (Aw.ids T))) := fun i hi => by
  rw [zc_, find_none.2 (by rw [hids]; exact hi), zg_, XX_, hc' hi]
  rfl
 have hother : ∀ p ∈ H, p.1 ∉ Aw.ids T → ∀ b ∈ F p.1, w'.heap[b]? = w.heap[b]? := fun p hp hi b hb =>
  hw.block b (ho.mine b (mem_foot.2 ⟨p, hp, hb⟩)).1 (hrm b (mem_foot.2 ⟨p, mem_rmT.2 ⟨hp, hi⟩, hb⟩)).2
 have hle : ((mem cx w H ι F).less (qOf [] (Aw.ids T))).le (mem cx w' (T' ++ xt_ (qOf [] (Aw.ids T)) (rmT (Aw.ids T) H)) ι (fun i => if (Aw.ids T).contains i then G i else F i)) := by
  refine ⟨fun b hb => ⟨⟨hb.1, Nat.lt_of_lt_of_le hb.2.1 hw.size, fun hm => ?_⟩, hw.block b hb.2.1 (fun h => hb.2.2 (hsub b h))⟩, fun i p hd => ?_⟩
  ·rw [hfoot] at hm
   rcases List.mem_append.1 hm with hm | hm
   ·rcases (h3 b hm).2 with h | h
    ·exact hb.2.2 (hsub b h)
    ·exact absurd h (Nat.not_le.2 hb.2.1)
   ·exact hb.2.2 (hrm b hm).1
  ·obtain ⟨hd, hqf⟩ := hd
   simp only [mem] at hd ⊢
   by_cases hi : i ∈ Aw.ids T
   ·have hp : p = [] := by
     simp only [qOf, hc.2 hi, List.contains_nil, Bool.false_or, Bool.true_and] at hqf
     simpa using hqf
    subst hp
    refine ⟨?_, rfl, fun v hv => by simpa [xl_] using hv⟩
    have hi' : i ∈ Aw.ids T' := by rw [hids]; exact hi
    obtain ⟨p, hp, rfl⟩ := List.mem_map.1 hi'
    rw [zc_, x5_ (by rw [hids]; exact hn) hp]
    cases p.2 <;> rfl
   ·rw [hfind i hi]
    refine ⟨by rw [yO_]; exact hd, rfl, fun v hv => ?_⟩
    cases hcf : find H i with
    | none => rw [hcf] at hd; simp [xq_] at hd
    | some t => exact ZU_ ho hd (hother _ (xc_ hcf) hi) hv
 have hnd : (Aw.ids (T' ++ xt_ (qOf [] (Aw.ids T)) (rmT (Aw.ids T) H))).Nodup := by
  rw [w4_, zq_, List.nodup_append]
  refine ⟨by rw [hids]; exact hn, ZT_ ho.ids, fun i hi j hj e => ?_⟩
  subst e
  rw [hids] at hi
  obtain ⟨p, hp, rfl⟩ := List.mem_map.1 hj
  exact (mem_rmT.1 hp).2 hi
 refine ⟨⟨ho.keep.turned ho.old hw (fun b hb => (ho.mine b (hsub b hb)).2), fun p hp => ?_, ?_, fun b hb => ?_, hnd, Nat.le_trans ho.old hw.size⟩, fun av v h => rep.le hle _ _ (zo_ av v h)⟩
 ·rcases List.mem_append.1 hp with hp | hp
  ·simp only [hTin p hp, if_true]; exact (h1 p hp).tree rfl
  ·simp only [xt_, List.mem_map] at hp
   obtain ⟨p0, hp0, rfl⟩ := hp
   rw [mem_rmT] at hp0
   simp only [hc' hp0.2, Bool.false_eq_true, if_false]
   exact (y0_ (ho.trees p0 hp0.1)).le hle (hother p0 hp0.1 hp0.2)
 ·rw [hfoot, List.nodup_append]
  refine ⟨h2, ho.nodup.sublist (yK_ _ F H), fun a ha c hcm e => ?_⟩
  subst e
  obtain ⟨k1, k2⟩ := hrm a hcm
  rcases (h3 a ha).2 with h | h
  ·exact k2 h
  ·exact absurd (ho.mine a k1).1 (Nat.not_lt.2 h)
 ·rw [hfoot] at hb
  rcases List.mem_append.1 hb with h | h
  ·refine ⟨(h3 b h).1, ?_⟩
   rcases (h3 b h).2 with k | k
   ·exact (ho.mine b (hsub b k)).2
   ·exact .inl (Nat.le_trans ho.old k)
  ·exact ⟨Nat.lt_of_lt_of_le (ho.mine b (hrm b h).1).1 hw.size, (ho.mine b (hrm b h).1).2⟩
end
structure TurnCall (P : Program) (f : FuncId) (args : List AV) (T T' : List (Nat × Tree)) (r : AV) : Prop where
 enter : ∀ args w, (callFunc f args).run P w = .ok (.enter f args) w
 ids : Aw.ids T' = Aw.ids T
 free : zw_ r = true
 runs : ∀ (us : List Value) (w : World) (ι : Nat → Value) (G : Nat → List Nat), (∀ p ∈ T, flatRep w (G p.1) p.2 (ι p.1)) → (xW_ T G).Nodup → (∀ b ∈ xW_ T G, b < w.heap.size ∧ aZ5 b) ∧ GlobOk w →
  reps ⟨w, fun _ => False, ι, fun id path => xq_ (find T id) path = true⟩ args us →
  Calls P f us.toArray w fun e w' => ∃ v G', e = .returned v ∧ Turned w w' (xW_ T G) ∧ (∀ p ∈ T', flatRep w' (G' p.1) p.2 (ι p.1)) ∧ (xW_ T' G').Nodup ∧
   (∀ b ∈ xW_ T' G', b < w'.heap.size ∧ (b ∈ xW_ T G ∨ w.heap.size ≤ b)) ∧ rep ⟨w', fun _ => False, fun _ => undef, fun _ _ => False⟩ r v
mutual
def ren (ρ : Nat → Nat) : AV → AV
 | .ref i p => .ref (ρ i) p
 | .agg vs => .agg (aw8 ρ vs)
 | .tup vs => .tup (aw8 ρ vs)
 | v => v
def aw8 (ρ : Nat → Nat) : List AV → List AV
 | [] => []
 | a :: as => ren ρ a :: aw8 ρ as
end
mutual
def plain (T : List (Nat × Tree)) : AV → Bool
 | .ref i [] => (find T i).isSome
 | .int _ | .bool _ | .str _ | .nil => true
 | .agg vs | .tup vs => Ul_ T vs
 | _ => false
def Ul_ (T : List (Nat × Tree)) : List AV → Bool
 | [] => true
 | a :: as => plain T a && Ul_ T as
end
mutual
theorem aw9 {T : List (Nat × Tree)} {ρ : Nat → Nat} {m : Mem} : ∀ (a : AV) (u : Value), plain T a = true → rep m (ren ρ a) u → rep ⟨m.w, fun _ => False, fun i => m.ι (ρ i), fun id path => xq_ (find T id) path = true⟩ a u
 | .ref i [], u, hp, h => by
  simp only [ren, rep, xl_] at h ⊢
  simp only [plain] at hp
  obtain ⟨t, ht⟩ := Option.isSome_iff_exists.1 hp
  exact ⟨by rw [ht]; cases t <;> rfl, h.2⟩
 | .ref i (_ :: _), _, hp, _ => by simp [plain] at hp
 | .int _, u, _, h | .bool _, u, _, h | .str _, u, _, h | .nil, u, _, h => by simp only [ren, rep] at h ⊢; exact h
 | .agg vs, u, hp, h => by
  simp only [ren, rep] at h ⊢
  simp only [plain] at hp
  obtain ⟨us, h1, h2⟩ := h
  exact ⟨us, h1, Y5_ vs us hp h2⟩
 | .tup vs, u, hp, h => by
  simp only [ren, rep] at h ⊢
  simp only [plain] at hp
  obtain ⟨us, h1, h2⟩ := h
  exact ⟨us, h1, Y5_ vs us hp h2⟩
 | .flt _, _, hp, _ | .ik _ _, _, hp, _ | .nilfn, _, hp, _ | .lv _, _, hp, _ | .fn _ _, _, hp, _ | .eptr _ _, _, hp, _ | .cptr _ _, _, hp, _
 | .sub _ _ _ _, _, hp, _ | .eref _ _ _, _, hp, _ | .bptr _ _, _, hp, _ | .when _ _, _, hp, _ | .junk, _, hp, _ | .l1 _, _, hp, _ | .l2 _, _, hp, _ | .l3 _, _, hp, _ | .lp _ _, _, hp, _ | .val _, _, hp, _ => by simp [plain] at hp
theorem Y5_ {T : List (Nat × Tree)} {ρ : Nat → Nat} {m : Mem} : ∀ (as : List AV) (us : List Value), Ul_ T as = true → reps m (aw8 ρ as) us → reps ⟨m.w, fun _ => False, fun i => m.ι (ρ i), fun id path => xq_ (find T id) path = true⟩ as us
 | [], us, _, h => by simp only [aw8, reps] at h ⊢; exact h
 | a :: as, us, hp, h => by
  simp only [aw8, reps] at h ⊢
  simp only [Ul_, Bool.and_eq_true] at hp
  obtain ⟨u, us', h1, h2, h3⟩ := h
  exact ⟨u, us', h1, aw9 a u hp.1 h2, Y5_ as us' hp.2 h3⟩
end
def QP_ (ρ : Nat → Nat) (T : List (Nat × Tree)) : List (Nat × Tree) := T.map fun p => (ρ p.1, p.2)
theorem Y6_ (ρ : Nat → Nat) (T : List (Nat × Tree)) : ids (QP_ ρ T) = (ids T).map ρ := by simp [ids, QP_]
theorem Zq_ (ρ : Nat → Nat) (T : List (Nat × Tree)) (G : Nat → List Nat) : xW_ (QP_ ρ T) G = xW_ T (fun i => G (ρ i)) := by simp [xW_, QP_, Function.comp_def]
theorem inv_of {ρ : Nat → Nat} {α : Type} (d : α) (G' : Nat → α) : ∀ {l : List Nat}, (l.map ρ).Nodup → ∃ G : Nat → α, ∀ i ∈ l, G (ρ i) = G' i
 | [], _ => ⟨fun _ => d, by simp⟩
 | a :: l, h => by
  simp only [List.map_cons, List.nodup_cons] at h
  obtain ⟨G, hG⟩ := inv_of d G' h.2
  refine ⟨fun j => if j = ρ a then G' a else G j, fun i hi => ?_⟩
  rcases List.mem_cons.1 hi with rfl | hi
  ·simp
  ·have : ρ i ≠ ρ a := fun e => h.1 (e ▸ List.mem_map.2 ⟨i, hi, rfl⟩)
   simp only [if_neg this]
   exact hG i hi
section
variable {P : Program} {cx : Cx} {H : List (Nat × Tree)} {w w' : World} {ι : Nat → Value} {F : Nat → List Nat}
def as4 (P : Program) (H : List (Nat × Tree)) (f : FuncId) (args : List AV) (r : AV) (subs : List Nat) (H' : List (Nat × Tree)) : Prop :=
 ∃ (as : List AV) (T T' : List (Nat × Tree)) (ρ : Nat → Nat), aw8 ρ as = args ∧ TurnCall P f as T T' r ∧ Ul_ T as = true ∧ (T.all fun p => Ru_ p.2) = true ∧ ((ids T).map ρ).Nodup ∧ (∀ p ∈ T, find H (ρ p.1) = some p.2) ∧
  subs = (ids T).map ρ ∧ H' = QP_ ρ T' ++ xt_ (qOf [] ((ids T).map ρ)) (rmT ((ids T).map ρ) H)
theorem Um_ (ho : Owns cx H w ι F) {f : FuncId} {args : List AV} {r : AV} {subs : List Nat} {H' : List (Nat × Tree)} (h : as4 P H f args r subs H') {us : List Value} (hr : reps (mem cx w H ι F) args us) :
  (∀ args w, (callFunc f args).run P w = .ok (.enter f args) w) ∧ Calls P f us.toArray w fun e w' => ∃ u F', e = .returned u ∧ Owns cx H' w' ι F' ∧ rep (mem cx w' H' ι F') r u ∧ ∀ av v, rep (mem cx w H ι F) av v → rep (mem cx w' H' ι F') (xp_ (qOf [] subs) av) v := by
 obtain ⟨as, T, T', ρ, h1, h2, h3, h4, h5, h6, rfl, rfl⟩ := h
 subst h1
 have hin : ∀ p ∈ QP_ ρ T, find H p.1 = some p.2 := fun p hp => by
  obtain ⟨p0, hp0, rfl⟩ := List.mem_map.1 hp
  exact h6 p0 hp0
 have hnr : (Aw.ids (QP_ ρ T)).Nodup := by rw [Y6_]; exact h5
 have hnd : (xW_ (QP_ ρ T) F).Nodup := by
  have : ∀ {l : List (Nat × Tree)}, (Aw.ids l).Nodup → (∀ p ∈ l, find H p.1 = some p.2) → (xW_ l F).Nodup := by
   intro l
   induction l with
   | nil => intro _ _; simp [xW_]
   | cons p l ih =>
    intro hn hl
    simp only [Aw.ids, List.map_cons, List.nodup_cons] at hn
    rw [ym_, List.nodup_append]
    refine ⟨xu_ ho (hl p (List.mem_cons_self ..)), ih hn.2 (fun q hq => hl q (List.mem_cons_of_mem _ hq)), fun a ha c hc e => ?_⟩
    subst e
    obtain ⟨q, hq, hb⟩ := mem_foot.1 hc
    exact yc_ ho (hl p (List.mem_cons_self ..)) (hl q (List.mem_cons_of_mem _ hq)) (fun e => hn.1 (e ▸ List.mem_map.2 ⟨q, hq, rfl⟩)) ha hb
  exact this hnr hin
 have hmine : ∀ b ∈ xW_ (QP_ ρ T) F, b ∈ xW_ H F := fun b hb => by
  obtain ⟨p, hp, hb⟩ := mem_foot.1 hb
  exact mem_foot.2 ⟨_, xc_ (hin p hp), hb⟩
 rw [Zq_] at hnd hmine
 refine ⟨h2.enter, (h2.runs us w (fun i => ι (ρ i)) (fun i => F (ρ i)) (fun p hp => ?_) hnd ⟨fun b hb => ⟨(ho.mine b (hmine b hb)).1, ho.noGl (hmine b hb)⟩, ho.globOk⟩ (Y5_ (m := mem cx w H ι F) as us h3 hr)).mono fun e w' ⟨v, G', k1, k2, k3, k4, k5, k6⟩ => ?_⟩
 ·exact XF_ (m := mem cx w H ι F) ((List.all_eq_true.1 h4) p hp) (ho.trees _ (xc_ (h6 p hp)))
 ·obtain ⟨G1, hG⟩ := inv_of [] G' (l := Aw.ids T) h5
  have hfe : xW_ (QP_ ρ T') G1 = xW_ T' G' := by
   rw [Zq_]
   exact yM_ (fun p hp => hG p.1 (by rw [← h2.ids]; exact List.mem_map.2 ⟨p, hp, rfl⟩))
  rw [← Zq_ ρ T F] at k2 k5
  have key := ho.turn (T := QP_ ρ T) (T' := QP_ ρ T') (by rw [Y6_, Y6_, h2.ids]) hnr hin k2 (G := G1) (fun p hp => ?_) (by rw [hfe]; exact k4) (by rw [hfe]; exact k5)
  ·rw [Y6_] at key
   exact ⟨v, _, k1, key.1, yU_ h2.free k6, key.2⟩
  ·obtain ⟨p0, hp0, rfl⟩ := List.mem_map.1 hp
   simp only
   rw [hG p0.1 (by rw [← h2.ids]; exact List.mem_map.2 ⟨p0, hp0, rfl⟩)]
   exact k3 p0 hp0
end
end Go.Aw
namespace Go.Aw
open Go.RowKit
section
variable {P : Program} {cx : Cx} {H : List (Nat × Tree)} {w w' : World} {ι : Nat → Value} {F : Nat → List Nat}
theorem Tl_ {α : Type} {R : World → List Nat → α → Value → Prop} (frame : ∀ {w w' fp a v}, (∀ b ∈ fp, w'.heap[b]? = w.heap[b]?) → R w fp a v → R w' fp a v) {f0 : List Nat} {fs : List (List Nat)} {as : List α} {us : List Value} {v x : Value} {i : Nat} {f g : List Nat} {a' : α}
  (h1 : OwnSl w f0 us v) (h2 : All3 (R w) fs as us) (hn : (f0 ++ fs.flatten).Nodup) (hlt : ∀ b ∈ f0 ++ fs.flatten, b < w.heap.size) (hf : fs[i]? = some f) (hx : us[i]? = some x) (hw : Turned w w' f) (hg : g.Nodup) (hgm : ∀ b ∈ g, b ∈ f ∨ w.heap.size ≤ b) (hr : R w' g a' x) :
  OwnSl w' f0 us v ∧ All3 (R w') (fs.set i g) (as.set i a') us ∧ (f0 ++ (fs.set i g).flatten).Nodup ∧ ∀ b ∈ f0 ++ (fs.set i g).flatten, b ∈ f0 ++ fs.flatten ∨ w.heap.size ≤ b := by
 have hn' := hn
 rw [List.nodup_append] at hn
 have hff : ∀ b ∈ f, b ∈ fs.flatten := fun b hb => List.mem_flatten.2 ⟨f, List.mem_of_getElem? hf, hb⟩
 have h0 : ∀ k ∈ f0, w'.heap[k]? = w.heap[k]? := fun k hk => hw.block k (hlt k (List.mem_append.2 (.inl hk))) (fun e => hn.2.2 k hk k (hff k e) rfl)
 refine ⟨h1.heap h0, ?_, ?_, fun b hb => ?_⟩
 ·refine All3.of_get (by rw [List.length_set, List.length_set]; exact h2.length.1) (by rw [List.length_set]; exact h2.length.2) (fun j g' a u hg' ha hu => ?_)
  rw [List.getElem?_set] at ha hg'
  split at ha
  ·rename_i hij; subst hij
   rw [hx] at hu; cases hu
   rw [if_pos rfl] at hg'
   split at ha <;> split at hg' <;> first | (cases ha; done) | (cases hg'; done) | skip
   cases ha; cases hg'
   exact hr
  ·rename_i hij
   rw [if_neg hij] at hg'
   refine frame (fun k hk => hw.block k (hlt k (List.mem_append.2 (.inr (List.mem_flatten.2 ⟨g', List.mem_of_getElem? hg', hk⟩)))) (fun e => ?_)) (h2.at hg' ha hu)
   exact yj_ hn.2.1 hg' hf (fun e => hij e.symm) hk e
 ·have hset : fs.set i g = fs.take i ++ g :: fs.drop (i + 1) := by
   rw [List.set_eq_take_append_cons_drop, if_pos (List.getElem?_eq_some_iff.1 hf).1]
  have hfs : fs = fs.take i ++ f :: fs.drop (i + 1) := by
   have hl := (List.getElem?_eq_some_iff.1 hf).1
   have he := (List.getElem?_eq_some_iff.1 hf).2
   rw [← he, List.getElem_cons_drop, List.take_append_drop]
  have hgn : ∀ b ∈ g, b ∉ f0 ∧ b ∉ (fs.take i).flatten ∧ b ∉ (fs.drop (i + 1)).flatten := by
   intro b hb
   rw [hfs] at hn' hlt
   simp only [List.flatten_append, List.flatten_cons, List.nodup_append, List.mem_append] at hn' hlt
   rcases hgm b hb with h | h
   ·refine ⟨fun e => hn'.2.2 b e b (.inr (.inl h)) rfl, fun e => hn'.2.1.2.2 b e b (.inl h) rfl, fun e => hn'.2.1.2.1.2.2 b h b e rfl⟩
   ·refine ⟨fun e => ?_, fun e => ?_, fun e => ?_⟩
    ·exact absurd (hlt b (.inl e)) (Nat.not_lt.2 h)
    ·exact absurd (hlt b (.inr (.inl e))) (Nat.not_lt.2 h)
    ·exact absurd (hlt b (.inr (.inr (.inr e)))) (Nat.not_lt.2 h)
  rw [hset]
  rw [hfs] at hn'
  simp only [List.flatten_append, List.flatten_cons, List.nodup_append, List.mem_append] at hn' ⊢
  obtain ⟨a1, ⟨a2, ⟨a3, a4, a5⟩, a6⟩, a7⟩ := hn'
  refine ⟨a1, ⟨a2, ⟨hg, a4, fun x hx y hy e => (hgn x hx).2.2 (e ▸ hy)⟩, fun x hx y hy e => ?_⟩, fun x hx y hy e => ?_⟩
  ·rcases hy with hy | hy
   ·exact (hgn y hy).2.1 (e ▸ hx)
   ·exact a6 x hx y (.inr hy) e
  ·rcases hy with hy | hy | hy
   ·exact a7 x hx y (.inl hy) e
   ·exact (hgn y hy).1 (e ▸ hx)
   ·exact a7 x hx y (.inr (.inr hy)) e
 ·rcases List.mem_append.1 hb with hb | hb
  ·exact .inl (List.mem_append.2 (.inl hb))
  ·rcases xO_ hb with hb | hb
   ·rcases hgm b hb with h | h
    ·exact .inl (List.mem_append.2 (.inr (hff b h)))
    ·exact .inr h
   ·exact .inl (List.mem_append.2 (.inr hb))
def Q5_ (P : Program) (H : List (Nat × Tree)) (f : FuncId) (args : List AV) (r : AV) (id : Nat) (H' : List (Nat × Tree)) : Prop :=
 ∃ (i : Nat) (k : Int), args = [.ref id [i], .int k] ∧
  ((∃ xss ys, find H id = some (.t2 xss) ∧ i < xss.length ∧ TurnCall P f [.ref 0 [], .int k] [(0, .t1 (xss.getD i []))] [(0, .t1 ys)] r ∧ H' = (id, .t2 (xss.set i ys)) :: xt_ (qOf [] [id]) (rmT [id] H)) ∨
   (∃ xss ys, find H id = some (.t3 xss) ∧ i < xss.length ∧ TurnCall P f [.ref 0 [], .int k] [(0, .t2 (xss.getD i []))] [(0, .t2 ys)] r ∧ H' = (id, .t3 (xss.set i ys)) :: xt_ (qOf [] [id]) (rmT [id] H)))
theorem Vd_ (ho : Owns cx H w ι F) {f : FuncId} {args : List AV} {r : AV} {id : Nat} {H' : List (Nat × Tree)} (h : Q5_ P H f args r id H') {us : List Value} (hr : reps (mem cx w H ι F) args us) :
  (∀ args w, (callFunc f args).run P w = .ok (.enter f args) w) ∧ Calls P f us.toArray w fun e w' => ∃ u F', e = .returned u ∧ Owns cx H' w' ι F' ∧ rep (mem cx w' H' ι F') r u ∧ ∀ av v, rep (mem cx w H ι F) av v → rep (mem cx w' H' ι F') (xp_ (qOf [] [id]) av) v := by
 obtain ⟨i, k, rfl, h⟩ := h
 simp only [reps] at hr
 obtain ⟨x, us', rfl, hx, y, us'', rfl, hy, rfl⟩ := hr
 simp only [rep] at hx
 have hx2 := hx.2
 have gen : ∀ {α : Type} {R : World → List Nat → α → Value → Prop} (d : α) (frame : ∀ {w w' fp a v}, (∀ b ∈ fp, w'.heap[b]? = w.heap[b]?) → R w fp a v → R w' fp a v) (tr : α → Tree) (big : List α → Tree)
   (hflat : ∀ {w fp a v}, R w fp a v ↔ flatRep w fp (tr a) v) (hbig : ∀ {w fp as v}, flatRep w fp (big as) v ↔ ON R w fp as v) (hft : ∀ as, Ru_ (big as) = true) {as : List α} {a' : α}
   (_ : find H id = some (big as)) (_ : i < as.length) (_ : TurnCall P f [.ref 0 [], .int k] [(0, tr (as.getD i d))] [(0, tr a')] r),
   (∀ args w, (callFunc f args).run P w = .ok (.enter f args) w) ∧ Calls P f [x, y].toArray w fun e w' => ∃ u F', e = .returned u ∧ Owns cx ((id, big (as.set i a')) :: xt_ (qOf [] [id]) (rmT [id] H)) w' ι F' ∧
    rep (mem cx w' ((id, big (as.set i a')) :: xt_ (qOf [] [id]) (rmT [id] H)) ι F') r u ∧ ∀ av v, rep (mem cx w H ι F) av v → rep (mem cx w' ((id, big (as.set i a')) :: xt_ (qOf [] [id]) (rmT [id] H)) ι F') (xp_ (qOf [] [id]) av) v := by
  intro α R d frame tr big hflat hbig hft as a' hfd hi hc
  have ht := XF_ (m := mem cx w H ι F) (hft as) (ho.trees _ (xc_ hfd))
  rw [hbig] at ht
  obtain ⟨vs, f0, fs, h1, h2, h3⟩ := ht
  obtain ⟨x', hx', hp⟩ := h1.row hx2
  simp only [xl_, Option.some.injEq] at hp; subst hp
  obtain ⟨g, c, hg, hcc, hrow⟩ := h2.get i _ (getD_some (d := d) hi)
  rw [hx'] at hcc; cases hcc
  have hsub : ∀ b ∈ g, b ∈ xW_ H F := fun b hb => mem_foot.2 ⟨_, xc_ hfd, by
   rw [h3]; exact List.mem_append.2 (.inr (List.mem_flatten.2 ⟨g, List.mem_of_getElem? hg, hb⟩))⟩
  have hnF : (f0 ++ fs.flatten).Nodup := by rw [← h3]; exact xu_ ho hfd
  have hft1 : xW_ [(0, tr (as.getD i d))] (fun _ => g) = g := by simp [xW_]
  refine ⟨hc.enter, (hc.runs [x', y] w (fun _ => x') (fun _ => g) (fun p hp => ?_) ?_ ⟨fun b hb => ⟨?_, ?_⟩, ho.globOk⟩ ?_).mono fun e w' ⟨v, G', k1, k2, k3, k4, k5, k6⟩ => ?_⟩
  ·simp only [List.mem_singleton] at hp; subst hp; exact hflat.1 hrow
  ·rw [hft1]; exact x9_ (List.nodup_append.1 hnF).2.1 hg
  ·rw [hft1] at hb; exact (ho.mine b (hsub b hb)).1
  ·rw [hft1] at hb; exact ho.noGl (hsub b hb)
  ·simp only [reps]
   refine ⟨x', [y], rfl, ?_, y, [], rfl, ?_, rfl⟩
   ·simp only [rep, find, if_true, xl_]
    refine ⟨?_, trivial⟩
    cases tr (as.getD i d) <;> rfl
   ·simp only [rep] at hy ⊢; exact hy
  ·rw [hft1] at k2 k5
   have hfg : xW_ [(0, tr a')] G' = G' 0 := by simp [xW_]
   rw [hfg] at k4 k5
   obtain ⟨m1, m2, m3, m4⟩ := Tl_ (R := R) (fun h h' => frame h h') h1 h2 hnF (fun b hb => by rw [← h3] at hb; exact (ho.mine b (mem_foot.2 ⟨_, xc_ hfd, hb⟩)).1) hg hx' k2 k4 (fun b hb => (k5 b hb).2) (hflat.2 (k3 _ (List.mem_singleton.2 rfl)))
   have e1 : Aw.ids [(id, big as)] = [id] := rfl
   have e2 : xW_ [(id, big as)] F = F id := by simp [xW_]
   have key := ho.turn (w' := w') (T := [(id, big as)]) (T' := [(id, big (as.set i a'))]) rfl (by simp [Aw.ids]) (by simpa using hfd)
    (by rw [e2]; exact ⟨k2.os, k2.tape, k2.output, k2.size, fun b hb hbn => k2.block b hb (fun h => hbn (by rw [h3]; exact List.mem_append.2 (.inr (List.mem_flatten.2 ⟨g, List.mem_of_getElem? hg, h⟩))))⟩)
    (G := fun _ => f0 ++ (fs.set i (G' 0)).flatten)
    (fun p hp => by simp only [List.mem_singleton] at hp; subst hp; exact hbig.2 ⟨vs, f0, _, m1, m2, rfl⟩)
    (by simpa [xW_] using m3)
    (fun b hb => by
     have hb' : b ∈ f0 ++ (fs.set i (G' 0)).flatten := by simpa [xW_] using hb
     rw [e2, h3]
     refine ⟨?_, m4 b hb'⟩
     rcases List.mem_append.1 hb' with hq | hq
     ·exact Nat.lt_of_lt_of_le (ho.mine b (mem_foot.2 ⟨_, xc_ hfd, by rw [h3]; exact List.mem_append.2 (.inl hq)⟩)).1 k2.size
     ·rcases xO_ hq with hq | hq
      ·exact (k5 b hq).1
      ·exact Nat.lt_of_lt_of_le (ho.mine b (mem_foot.2 ⟨_, xc_ hfd, by rw [h3]; exact List.mem_append.2 (.inr hq)⟩)).1 k2.size)
   rw [e1] at key
   exact ⟨v, _, k1, key.1, yU_ hc.free k6, key.2⟩
 rcases h with ⟨xss, ys, h1, h2, h3, rfl⟩ | ⟨xss, ys, h1, h2, h3, rfl⟩
 ·exact gen (R := O1) [] (fun hb h => h.heap hb) .t1 .t2 Iff.rfl Iff.rfl (fun _ => rfl) h1 h2 h3
 ·exact gen (R := O2) [] (fun hb h => h.heap hb) .t2 .t3 Iff.rfl Iff.rfl (fun _ => rfl) h1 h2 h3
end
end Go.Aw
namespace Go.Aw
open Go.RowKit
def Wq_ (T : List (Nat × Tree)) : Nat → List Nat → Bool := fun i _ => !(ids T).contains i
def z2_ (T : List (Nat × Tree)) : Prop := ∀ p ∈ T, x4_ (Wq_ T) p.2 = p.2
def Xf_ (w : World) (T : List (Nat × Tree)) (F : Nat → List Nat) (S : Nat → Prop) (k : Fx) (u : Nat → Value) : Cx := ⟨w.heap.size, fun b => b ∈ xW_ T F, S, w, k, u, none, []⟩
section
variable {P : Program} {cx : Cx} {H : List (Nat × Tree)} {w w' : World} {ι : Nat → Value} {F : Nat → List Nat}
theorem aL0 {T : List (Nat × Tree)} {i : Nat} {p : List Nat} (h : Wq_ T i p = false) : i ∈ ids T := by
 simpa [Wq_] using h
theorem WD_ (ho : Owns cx H w ι F) : ∀ {l : List (Nat × Tree)}, (Aw.ids l).Nodup → (∀ p ∈ l, find H p.1 = some p.2) → (xW_ l F).Nodup
 | [], _, _ => by simp [xW_]
 | p :: l, hn, hl => by
  simp only [Aw.ids, List.map_cons, List.nodup_cons] at hn
  rw [ym_, List.nodup_append]
  refine ⟨xu_ ho (hl p (List.mem_cons_self ..)), WD_ ho hn.2 (fun q hq => hl q (List.mem_cons_of_mem _ hq)), fun a ha c hc e => ?_⟩
  subst e
  obtain ⟨q, hq, hb⟩ := mem_foot.1 hc
  exact yc_ ho (hl p (List.mem_cons_self ..)) (hl q (List.mem_cons_of_mem _ hq)) (fun e => hn.1 (e ▸ List.mem_map.2 ⟨q, hq, rfl⟩)) ha hb
theorem ac9 (ho : Owns cx H w ι F) {T : List (Nat × Tree)} (hn : (Aw.ids T).Nodup) (hf : ∀ p ∈ T, find H p.1 = some p.2) (hc : z2_ T) (k : Fx) (u : Nat → Value) :
  Owns (Xf_ w T F (imm cx w H F) k u) T w ι F ∧ ((mem cx w H ι F).less (Wq_ T)).le (mem (Xf_ w T F (imm cx w H F) k u) w T ι F) := by
 have hsub : ∀ b, b ∈ xW_ T F → b ∈ xW_ H F := fun b hb => by
  obtain ⟨p, hp, hb⟩ := mem_foot.1 hb
  exact mem_foot.2 ⟨_, xc_ (hf p hp), hb⟩
 have hle : ((mem cx w H ι F).less (Wq_ T)).le (mem (Xf_ w T F (imm cx w H F) k u) w T ι F) := by
  refine ⟨fun b hb => ⟨⟨.inl hb, hb.2.1, fun hm => hb.2.2 (hsub b hm)⟩, rfl⟩, fun i p hd => ?_⟩
  obtain ⟨hd, hq⟩ := hd
  have hi := aL0 hq
  obtain ⟨p0, hp0, rfl⟩ := List.mem_map.1 hi
  simp only [mem] at hd ⊢
  rw [hf p0 hp0] at hd
  rw [x5_ hn hp0]
  exact ⟨hd, rfl, fun v hv => hv⟩
 refine ⟨⟨⟨rfl, rfl, rfl, Nat.le_refl _, fun _ _ _ => rfl, ho.globOk.glOk fun b hb => ho.noGl (hsub b hb)⟩, fun p hp => ?_, WD_ ho hn hf, fun b hb => ⟨(ho.mine b (hsub b hb)).1, .inr hb⟩, hn, Nat.le_refl _⟩, hle⟩
 have h1 := y0_ (q := Wq_ T) (ho.trees _ (xc_ (hf p hp)))
 rw [hc p hp] at h1
 exact h1.le hle (fun b _ => rfl)
end
structure OwnCall (P : Program) (f : FuncId) (args : List AV) (T T' : List (Nat × Tree)) (r : AV) (X : List Nat) : Prop where
 enter : ∀ args w, (callFunc f args).run P w = .ok (.enter f args) w
 keep : ∀ i ∈ X, i ∈ Aw.ids T'
 runs : ∀ (us : List Value) (w : World) (S : Nat → Prop) (ι : Nat → Value) (F : Nat → List Nat), Owns (Xf_ w T F S 0 (fun _ => undef)) T w ι F → reps (mem (Xf_ w T F S 0 (fun _ => undef)) w T ι F) args us →
  Calls P f us.toArray w fun e w' => ∃ v ι' F', e = .returned v ∧ Owns (Xf_ w T F S 0 (fun _ => undef)) T' w' ι' F' ∧ rep (mem (Xf_ w T F S 0 (fun _ => undef)) w' T' ι' F') r v ∧ ∀ i ∈ X, ι' i = ι i
def ax0 (P : Program) (H : List (Nat × Tree)) (f : FuncId) (args : List AV) (r : AV) (all subs : List Nat) (H' : List (Nat × Tree)) : Prop :=
 ∃ (T T' : List (Nat × Tree)), OwnCall P f args T T' r subs ∧ (Aw.ids T).Nodup ∧ (∀ p ∈ T, find H p.1 = some p.2) ∧ z2_ T ∧ xA_ (Wq_ T) args = args ∧ (∀ i ∈ Aw.ids T', i ∈ Aw.ids T ∨ i ∉ Aw.ids H) ∧
  all = (Aw.ids T).filter (fun i => !subs.contains i) ∧ H' = T' ++ xt_ (qOf all subs) (rmT (Aw.ids T) H)
section
variable {P : Program} {cx : Cx} {H : List (Nat × Tree)} {w w' : World} {ι : Nat → Value} {F : Nat → List Nat}
theorem Q6_ {t : Option Tree} (h : t.isSome = true) : xq_ t [] = true := by
 cases t with
 | none => cases h
 | some t => cases t <;> rfl
theorem Zr_ (ho : Owns cx H w ι F) {f : FuncId} {args : List AV} {r : AV} {all X : List Nat} {H' : List (Nat × Tree)} (h : ax0 P H f args r all X H') {us : List Value} (hr : reps (mem cx w H ι F) args us) :
  (∀ args w, (callFunc f args).run P w = .ok (.enter f args) w) ∧ Calls P f us.toArray w fun e w' => ∃ u ι' F', e = .returned u ∧ Owns cx H' w' ι' F' ∧ rep (mem cx w' H' ι' F') r u ∧
   ∀ av v, rep (mem cx w H ι F) av v → rep (mem cx w' H' ι' F') (xp_ (qOf all X) av) v := by
 obtain ⟨T, T', hC, hn, hf, hc, ha, hfr, rfl, rfl⟩ := h
 obtain ⟨ho1, hle0⟩ := ac9 ho hn hf hc 0 (fun _ => undef)
 have har : reps (mem (Xf_ w T F (imm cx w H F) 0 (fun _ => undef)) w T ι F) args us := by
  have h1 := y5_ (q := Wq_ T) args us hr
  rw [ha] at h1
  rw [xw_] at h1 ⊢
  exact h1.mono fun _ _ => rep.le hle0 _ _
 refine ⟨hC.enter, (hC.runs us w (imm cx w H F) ι F ho1 har).mono fun e w' ⟨v, ι', F', he, hO, hv, hX⟩ => ?_⟩
 have hsub : ∀ b, b ∈ xW_ T F → b ∈ xW_ H F := fun b hb => by
  obtain ⟨p, hp, hb⟩ := mem_foot.1 hb
  exact mem_foot.2 ⟨_, xc_ (hf p hp), hb⟩
 have hw : Turned w w' (xW_ T F) := ⟨hO.keep.os, hO.keep.tape, hO.keep.output, hO.keep.size, fun k hk hkn => hO.keep.block k hk hkn⟩
 have hconT : ∀ {i}, i ∉ Aw.ids T → (Aw.ids T).contains i = false := fun {i} h => by simpa using h
 have hcon : ∀ {i}, (Aw.ids T').contains i = true ↔ i ∈ Aw.ids T' := fun {i} => by simp
 have hcon' : ∀ {i}, i ∈ Aw.ids H → i ∉ Aw.ids T → (Aw.ids T').contains i = false := fun {i} hH hT => by
  have : i ∉ Aw.ids T' := fun h => (hfr i h).elim hT (fun h => h hH)
  simpa using this
 have hTin : ∀ p ∈ T', (Aw.ids T').contains p.1 = true := fun p hp => hcon.2 (List.mem_map.2 ⟨p, hp, rfl⟩)
 have hnew : ∀ b ∈ xW_ T' F', b < w'.heap.size ∧ (b ∈ xW_ T F ∨ w.heap.size ≤ b) := fun b hb => ⟨(hO.mine b hb).1, (hO.mine b hb).2.symm⟩
 have hq1 : xW_ T' (fun i => if (Aw.ids T').contains i then F' i else F i) = xW_ T' F' := yM_ (fun p hp => by simp only [hTin p hp, if_true])
 have hq2 : xW_ (xt_ (qOf ((Aw.ids T).filter (fun i => !X.contains i)) X) (rmT (Aw.ids T) H)) (fun i => if (Aw.ids T').contains i then F' i else F i) = xW_ (rmT (Aw.ids T) H) F := by
  rw [y1_]
  exact yM_ (fun p hp => by rw [mem_rmT] at hp; simp only [hcon' (List.mem_map.2 ⟨p, hp.1, rfl⟩) hp.2, Bool.false_eq_true, if_false])
 have hfoot : xW_ (T' ++ xt_ (qOf ((Aw.ids T).filter (fun i => !X.contains i)) X) (rmT (Aw.ids T) H)) (fun i => if (Aw.ids T').contains i then F' i else F i) = xW_ T' F' ++ xW_ (rmT (Aw.ids T) H) F := by rw [wj_, hq1, hq2]
 have hrm : ∀ b, b ∈ xW_ (rmT (Aw.ids T) H) F → b ∈ xW_ H F ∧ b ∉ xW_ T F := fun b hb => by
  obtain ⟨p, hp, hb⟩ := mem_foot.1 hb
  rw [mem_rmT] at hp
  refine ⟨mem_foot.2 ⟨p, hp.1, hb⟩, fun h => ?_⟩
  obtain ⟨p', hp', hb'⟩ := mem_foot.1 h
  exact yc_ ho (x5_ ho.ids hp.1) (hf p' hp') (fun e => hp.2 (e ▸ List.mem_map.2 ⟨p', hp', rfl⟩)) hb hb'
 have hfindT : ∀ i, i ∈ Aw.ids T' → find (T' ++ xt_ (qOf ((Aw.ids T).filter (fun i => !X.contains i)) X) (rmT (Aw.ids T) H)) i = find T' i := fun i hi => by
  obtain ⟨p, hp, rfl⟩ := List.mem_map.1 hi
  rw [zc_, x5_ hO.ids hp]
 have hfind : ∀ i, i ∈ Aw.ids H → i ∉ Aw.ids T → find (T' ++ xt_ (qOf ((Aw.ids T).filter (fun i => !X.contains i)) X) (rmT (Aw.ids T) H)) i = (find H i).map (x4_ (qOf ((Aw.ids T).filter (fun i => !X.contains i)) X)) := fun i hH hi => by
  rw [zc_, find_none.2 (fun h => (hfr i h).elim hi (fun h => h hH)), zg_, XX_, hconT hi]
  rfl
 have hother : ∀ p ∈ H, p.1 ∉ Aw.ids T → ∀ b ∈ F p.1, w'.heap[b]? = w.heap[b]? := fun p hp hi b hb =>
  hw.block b (ho.mine b (mem_foot.2 ⟨p, hp, hb⟩)).1 (hrm b (mem_foot.2 ⟨p, mem_rmT.2 ⟨hp, hi⟩, hb⟩)).2
 have hnotin : ∀ b, imm cx w H F b → b ∉ xW_ T' F' ++ xW_ (rmT (Aw.ids T) H) F := fun b hb hm => by
  rcases List.mem_append.1 hm with hm | hm
  ·rcases (hnew b hm).2 with h | h
   ·exact hb.2.2 (hsub b h)
   ·exact absurd h (Nat.not_le.2 hb.2.1)
  ·exact hb.2.2 (hrm b hm).1
 have hle1 : ((mem cx w H ι F).less (qOf ((Aw.ids T).filter (fun i => !X.contains i)) X)).le (mem cx w' (T' ++ xt_ (qOf ((Aw.ids T).filter (fun i => !X.contains i)) X) (rmT (Aw.ids T) H)) (fun i => if (Aw.ids T').contains i then ι' i else ι i) (fun i => if (Aw.ids T').contains i then F' i else F i)) := by
  refine ⟨fun b hb => ⟨⟨hb.1, Nat.lt_of_lt_of_le hb.2.1 hw.size, fun hm => ?_⟩, hw.block b hb.2.1 (fun h => hb.2.2 (hsub b h))⟩, fun i p hd => ?_⟩
  ·rw [hfoot] at hm
   exact hnotin b hb hm
  ·obtain ⟨hd, hqf⟩ := hd
   simp only [mem] at hd ⊢
   by_cases hi : i ∈ Aw.ids T
   ·simp only [qOf, Bool.or_eq_false_iff] at hqf
    have hiX : i ∈ X := by
     have h1 := hqf.1
     simp only [List.contains_eq_mem, List.mem_filter, Bool.not_eq_true', decide_eq_false_iff_not, not_and] at h1
     have h2 := h1 hi
     simpa using h2
    have hp : p = [] := by
     have h1 := hqf.2
     have h2 : X.contains i = true := by simpa using hiX
     rw [h2, Bool.true_and] at h1
     simpa using h1
    subst hp
    rw [hfindT i (hC.keep i hiX)]
    have e1 : (if (Aw.ids T').contains i = true then ι' i else ι i) = ι i := by rw [if_pos (hcon.2 (hC.keep i hiX))]; exact hX i hiX
    refine ⟨Q6_ ?_, e1, fun v hv => by simpa [xl_] using hv⟩
    obtain ⟨p, hp, rfl⟩ := List.mem_map.1 (hC.keep i hiX)
    rw [x5_ hO.ids hp]; rfl
   ·have hH : i ∈ Aw.ids H := by
     refine Classical.byContradiction fun hni => ?_
     rw [find_none.2 hni] at hd
     simp [xq_] at hd
    rw [hfind i hH hi]
    have e1 : (if (Aw.ids T').contains i = true then ι' i else ι i) = ι i := if_neg (by rw [hcon' hH hi]; simp)
    refine ⟨by rw [yO_]; exact hd, e1, fun v hv => ?_⟩
    cases hcf : find H i with
    | none => rw [hcf] at hd; simp [xq_] at hd
    | some t => exact ZU_ ho hd (hother _ (xc_ hcf) hi) hv
 have hle2 : (mem (Xf_ w T F (imm cx w H F) 0 (fun _ => undef)) w' T' ι' F').le (mem cx w' (T' ++ xt_ (qOf ((Aw.ids T).filter (fun i => !X.contains i)) X) (rmT (Aw.ids T) H)) (fun i => if (Aw.ids T').contains i then ι' i else ι i) (fun i => if (Aw.ids T').contains i then F' i else F i)) := by
  refine ⟨fun b hb => ⟨⟨?_, hb.2.1, fun hm => ?_⟩, rfl⟩, fun i p hd => ?_⟩
  ·rcases hb.1 with h | h | h
   ·exact h.1
   ·exact .inr (.inl (Nat.le_trans ho.old h))
   ·exact .inr (ho.mine b (hsub b h)).2
  ·rw [hfoot] at hm
   rcases List.mem_append.1 hm with hm | hm
   ·exact hb.2.2 hm
   ·rcases hb.1 with h | h | h
    ·exact h.2.2 (hrm b hm).1
    ·exact absurd (ho.mine b (hrm b hm).1).1 (Nat.not_lt.2 h)
    ·exact (hrm b hm).2 h
  ·simp only [mem] at hd ⊢
   have hi : i ∈ Aw.ids T' := by
    refine Classical.byContradiction fun hni => ?_
    rw [find_none.2 hni] at hd
    simp [xq_] at hd
   rw [hfindT i hi, if_pos (hcon.2 hi)]
   exact ⟨hd, rfl, fun v hv => hv⟩
 have hnd : (Aw.ids (T' ++ xt_ (qOf ((Aw.ids T).filter (fun i => !X.contains i)) X) (rmT (Aw.ids T) H))).Nodup := by
  rw [w4_, zq_, List.nodup_append]
  refine ⟨hO.ids, ZT_ ho.ids, fun i hi j hj e => ?_⟩
  subst e
  obtain ⟨p, hp, rfl⟩ := List.mem_map.1 hj
  exact (hfr _ hi).elim (mem_rmT.1 hp).2 (fun h => h (List.mem_map.2 ⟨p, (mem_rmT.1 hp).1, rfl⟩))
 refine ⟨v, _, _, he, ⟨ho.keep.turned ho.old hw (fun b hb => (ho.mine b (hsub b hb)).2), fun p hp => ?_, ?_, fun b hb => ?_, hnd, Nat.le_trans ho.old hw.size⟩, rep.le hle2 r v hv, fun av v h => rep.le hle1 _ _ (zo_ av v h)⟩
 ·rcases List.mem_append.1 hp with hp | hp
  ·simp only [hTin p hp, if_true]
   exact (hO.trees p hp).le hle2 (fun b _ => rfl)
  ·simp only [xt_, List.mem_map] at hp
   obtain ⟨p0, hp0, rfl⟩ := hp
   rw [mem_rmT] at hp0
   simp only [hcon' (List.mem_map.2 ⟨p0, hp0.1, rfl⟩) hp0.2, Bool.false_eq_true, if_false]
   exact (y0_ (ho.trees p0 hp0.1)).le hle1 (hother p0 hp0.1 hp0.2)
 ·rw [hfoot, List.nodup_append]
  refine ⟨hO.nodup, ho.nodup.sublist (yK_ _ F H), fun a ha c hcm e => ?_⟩
  subst e
  obtain ⟨k1, k2⟩ := hrm a hcm
  rcases (hnew a ha).2 with h | h
  ·exact k2 h
  ·exact absurd (ho.mine a k1).1 (Nat.not_lt.2 h)
 ·rw [hfoot] at hb
  rcases List.mem_append.1 hb with h | h
  ·refine ⟨(hnew b h).1, ?_⟩
   rcases (hnew b h).2 with k | k
   ·exact (ho.mine b (hsub b k)).2
   ·exact .inl (Nat.le_trans ho.old k)
  ·exact ⟨Nat.lt_of_lt_of_le (ho.mine b (hrm b h).1).1 hw.size, (ho.mine b (hrm b h).1).2⟩
end
mutual
def QQ_ (H : List (Nat × Tree)) (R : List Nat) : AV → AV
 | .ref i [] => if R.contains i then (match find H i with
  | some (.t1 xs) => .l1 xs
  | some (.t2 xs) => .l2 xs
  | some (.t3 xs) => .l3 xs
  | some (.lv vs) => .lv (xA_ (qOf R []) vs)
  | _ => .junk) else .ref i []
 | .agg vs => .agg (Zs_ H R vs)
 | .int n => .int n
 | .bool b => .bool b
 | .nil => .nil
 | .l1 xs => .l1 xs
 | .l2 xs => .l2 xs
 | .l3 xs => .l3 xs
 | _ => .junk
def Zs_ (H : List (Nat × Tree)) (R : List Nat) : List AV → List AV
 | [] => []
 | a :: as => QQ_ H R a :: Zs_ H R as
end
section
variable {P : Program} {cx : Cx} {H : List (Nat × Tree)} {w w' : World} {ι : Nat → Value} {F : Nat → List Nat}
theorem yE_ (ho : Owns cx H w ι F) {R : List Nat} : (∀ b, imm cx w H F b → imm cx w (xt_ (qOf R []) (rmT R H)) F b) ∧ ∀ i t, i ∈ R → find H i = some t → ∀ b ∈ F i, imm cx w (xt_ (qOf R []) (rmT R H)) F b := by
 constructor
 ·intro b hb
  refine ⟨hb.1, hb.2.1, fun hm => ?_⟩
  rw [y1_] at hm
  exact hb.2.2 ((yK_ R F H).subset hm)
 ·intro i t hi hf b hb
  have hm := ho.mine b (mem_foot.2 ⟨_, xc_ hf, hb⟩)
  refine ⟨.inr hm.2, hm.1, fun hm2 => ?_⟩
  rw [y1_] at hm2
  obtain ⟨p, hp, hb2⟩ := mem_foot.1 hm2
  rw [mem_rmT] at hp
  exact yc_ ho (x5_ ho.ids hp.1) hf (fun e => hp.2 (e ▸ hi)) hb2 hb
mutual
theorem ax1 (ho : Owns cx H w ι F) {R : List Nat} : ∀ (av : AV) (u : Value), rep (mem cx w H ι F) av u → rep (mem cx w (xt_ (qOf R []) (rmT R H)) ι F) (QQ_ H R av) u
 | .ref i [], u, h => by
  unfold QQ_
  split
  ·rename_i hc
   have hi : i ∈ R := by simpa using hc
   simp only [rep, mem, xl_, Option.some.injEq] at h
   split
   ·rename_i xs hf
    have ht := ho.trees _ (xc_ hf)
    simp only [treeRep, mem] at ht
    rw [h.2] at ht
    simp only [rep]
    exact ht.l1 ((yE_ ho).2 i _ hi hf)
   ·rename_i xs hf
    have ht := ho.trees _ (xc_ hf)
    simp only [treeRep, mem] at ht
    rw [h.2] at ht
    simp only [rep]
    exact ht.l2 ((yE_ ho).2 i _ hi hf)
   ·rename_i xs hf
    have ht := ho.trees _ (xc_ hf)
    simp only [treeRep, mem] at ht
    rw [h.2] at ht
    simp only [rep]
    exact ht.l3 ((yE_ ho).2 i _ hi hf)
   ·rename_i vs hf
    have ht := ho.trees _ (xc_ hf)
    simp only [treeRep, mem] at ht
    rw [h.2] at ht
    obtain ⟨us, h1, h2⟩ := ht
    have h3 := (ho.drop R).2 (.agg vs) (.agg us.toArray) (by simp only [rep]; exact ⟨us, rfl, h2⟩)
    simp only [xp_, rep] at h3
    obtain ⟨us', e, h3⟩ := h3
    obtain rfl : us = us' := by simpa using e
    simp only [rep]
    exact ⟨us, h1.slC ((yE_ ho).2 i _ hi hf), h3⟩
   ·simp only [rep]
  ·rename_i hc
   have hq : qOf R [] i [] = false := by simpa [qOf] using hc
   have := (ho.drop R).2 (.ref i []) u h
   simpa only [xp_, hq, Bool.false_eq_true, if_false] using this
 | .ref i (_ :: _), u, h => by simp only [QQ_, rep]
 | .agg vs, u, h => by
  simp only [rep, QQ_] at h ⊢
  obtain ⟨us, rfl, h1⟩ := h
  exact ⟨us, rfl, Y7_ ho vs us h1⟩
 | .int _, u, h | .bool _, u, h | .nil, u, h => by simpa only [rep, QQ_] using h
 | .l1 xs, u, h => by
  simp only [rep, QQ_] at h ⊢
  exact L1.le (fun b hb => ⟨(yE_ ho).1 b hb, rfl⟩) h
 | .l2 xs, u, h => by
  simp only [rep, QQ_] at h ⊢
  exact L2.le (fun b hb => ⟨(yE_ ho).1 b hb, rfl⟩) h
 | .l3 xs, u, h => by
  simp only [rep, QQ_] at h ⊢
  exact L3.le (fun b hb => ⟨(yE_ ho).1 b hb, rfl⟩) h
 | .flt _, u, h | .ik _ _, u, h | .str _, u, h | .nilfn, u, h | .lp _ _, u, h | .val _, u, h | .lv _, u, h | .tup _, u, h | .fn _ _, u, h | .eptr _ _, u, h | .cptr _ _, u, h
 | .sub _ _ _ _, u, h | .eref _ _ _, u, h | .bptr _ _, u, h | .when _ _, u, h | .junk, u, h => by simp only [QQ_, rep]
theorem Y7_ (ho : Owns cx H w ι F) {R : List Nat} : ∀ (as : List AV) (us : List Value), reps (mem cx w H ι F) as us → reps (mem cx w (xt_ (qOf R []) (rmT R H)) ι F) (Zs_ H R as) us
 | [], us, h => by simpa only [reps, Zs_] using h
 | a :: as, us, h => by
  simp only [reps, Zs_] at h ⊢
  obtain ⟨u, us', rfl, h1, h2⟩ := h
  exact ⟨u, us', rfl, ax1 ho a u h1, Y7_ ho as us' h2⟩
end
end
mutual
theorem Yg_ {q1 q2 q3 : Nat → List Nat → Bool} (h : ∀ i p, q3 i p = (q1 i p || q2 i p)) : ∀ (v : AV), xp_ q2 (xp_ q1 v) = xp_ q3 v
 | .ref i p | .sub i p _ _ | .eref i p _ => by
  simp only [xp_, h]
  cases h1 : q1 i p
  ·simp [xp_]
  ·simp [xp_]
 | .bptr i _ => by
  simp only [xp_, h]
  cases h1 : q1 i []
  ·simp [xp_]
  ·simp [xp_]
 | .lv vs | .agg vs | .tup vs | .fn _ vs | .cptr vs _ => by simp only [xp_, Zt_ h vs]
 | .eptr v _ | .when _ v => by simp only [xp_, Yg_ h v]
 | .int _ | .flt _ | .ik _ _ | .bool _ | .str _ | .nil | .nilfn | .l1 _ | .l2 _ | .l3 _ | .lp _ _ | .val _ | .junk => by simp only [xp_]
theorem Zt_ {q1 q2 q3 : Nat → List Nat → Bool} (h : ∀ i p, q3 i p = (q1 i p || q2 i p)) : ∀ (vs : List AV), xA_ q2 (xA_ q1 vs) = xA_ q3 vs
 | [] => rfl
 | a :: as => by simp only [xA_, Yg_ h a, Zt_ h as]
end
theorem ad0 {R all subs : List Nat} (i : Nat) (p : List Nat) : qOf (R ++ all) subs i p = (qOf R [] i p || qOf all subs i p) := by
 simp [qOf, Bool.or_assoc]
end Go.Aw
namespace Go.Aw
open Go.RowKit
structure RowCall (P : Program) (f : FuncId) (ds : List AV) (xs ys : List Int) (r : AV) : Prop where
 enter : ∀ args w, (callFunc f args).run P w = .ok (.enter f args) w
 free : zw_ r = true
 runs : ∀ (x : Value) (us : List Value) (w : World) (S : Nat → Prop) (g : List Nat), O1 w g xs x → g.Nodup → (∀ b ∈ g, b < w.heap.size ∧ aZ5 b ∧ ¬ S b) → (∀ b, S b → b < w.heap.size) → GlobOk w → All2 (Rd w S) ds us →
  Calls P f (x :: us).toArray w fun e w' => ∃ v G, e = .returned v ∧ Turned w w' g ∧ O1 w' G ys x ∧ G.Nodup ∧ (∀ b ∈ G, b < w'.heap.size ∧ (b ∈ g ∨ w.heap.size ≤ b)) ∧ rep ⟨w', fun _ => False, fun _ => undef, fun _ _ => False⟩ r v
def RowOf (P : Program) (H : List (Nat × Tree)) (f : FuncId) (args : List AV) (r : AV) (H' : List (Nat × Tree)) : Prop :=
 ∃ (id i j : Nat) (as : List AV) (xss : List (List (List Int))) (ys : List Int), args = .ref id [i, j] :: as ∧ yd_ as = true ∧ find H id = some (.t3 xss) ∧ i < xss.length ∧ j < (xss.getD i []).length ∧
  RowCall P f as ((xss.getD i []).getD j []) ys r ∧ H' = x8_ H id (.t3 (xss.set i ((xss.getD i []).set j ys)))
section
variable {P : Program} {cx : Cx} {H : List (Nat × Tree)} {w w' : World} {ι : Nat → Value} {F : Nat → List Nat}
theorem Tm_ (ho : Owns cx H w ι F) {f : FuncId} {args : List AV} {r : AV} {H' : List (Nat × Tree)} (h : RowOf P H f args r H') {us : List Value} (hr : reps (mem cx w H ι F) args us) :
  (∀ args w, (callFunc f args).run P w = .ok (.enter f args) w) ∧ Calls P f us.toArray w fun e w' => ∃ u ι' F', e = .returned u ∧ Owns cx H' w' ι' F' ∧ rep (mem cx w' H' ι' F') r u ∧ ∀ av v, rep (mem cx w H ι F) av v → rep (mem cx w' H' ι' F') (xp_ (qOf [] []) av) v := by
 obtain ⟨id, i, j, as, xss, ys, rfl, hd, hfd, hi, hj, hc, rfl⟩ := h
 simp only [reps] at hr
 obtain ⟨x, us', rfl, hx, hr⟩ := hr
 simp only [rep] at hx
 have hx2 := hx.2
 have ht : ON O2 w (F id) xss (ι id) := by have := ho.trees _ (xc_ hfd); simp only [treeRep, mem] at this; exact this
 obtain ⟨vs, f0, fs, h1, h2, h3⟩ := ht
 obtain ⟨xr, hxr, hp⟩ := h1.row hx2
 obtain ⟨fr, c, hfr, hcc, hmat⟩ := h2.get i _ (getD_some (d := []) hi)
 rw [hxr] at hcc; cases hcc
 obtain ⟨vs2, f02, fs2, q1, q2, q3⟩ := hmat
 obtain ⟨x', hx', hp2⟩ := q1.row hp
 simp only [xl_, Option.some.injEq] at hp2; subst hp2
 obtain ⟨g, c, hg, hcc, hrow⟩ := q2.get j _ (getD_some (d := []) hj)
 rw [hx'] at hcc; cases hcc
 have hnF : (f0 ++ fs.flatten).Nodup := by rw [← h3]; exact xu_ ho hfd
 have hnr : fr.Nodup := x9_ (List.nodup_append.1 hnF).2.1 hfr
 have hg_r : ∀ b ∈ g, b ∈ fr := fun b hb => by rw [q3]; exact List.mem_append.2 (.inr (List.mem_flatten.2 ⟨g, List.mem_of_getElem? hg, hb⟩))
 have hr_F : ∀ b ∈ fr, b ∈ F id := fun b hb => by rw [h3]; exact List.mem_append.2 (.inr (List.mem_flatten.2 ⟨fr, List.mem_of_getElem? hfr, hb⟩))
 have hF_lt : ∀ b ∈ F id, b < w.heap.size := fun b hb => (ho.mine b (mem_foot.2 ⟨_, xc_ hfd, hb⟩)).1
 have hsub : ∀ b ∈ g, b ∈ xW_ H F := fun b hb => mem_foot.2 ⟨_, xc_ hfd, hr_F b (hg_r b hb)⟩
 have hdat : All2 (Rd w (imm cx w H F)) as us' := by
  have := y4_ (m := mem cx w H ι F) (m' := ⟨w, imm cx w H F, fun _ => undef, fun _ _ => False⟩) rfl (fun b hb => hb) _ _ hd hr
  rw [xw_] at this
  exact this
 refine ⟨hc.enter, (hc.runs x' us' w (imm cx w H F) g hrow ?_ (fun b hb => ⟨(ho.mine b (hsub b hb)).1, ho.noGl (hsub b hb), fun hs => hs.2.2 (hsub b hb)⟩) (fun b hb => hb.2.1) ho.globOk hdat).mono fun e w' ⟨v, G, k1, k2, k3, k4, k5, k6⟩ => ?_⟩
 ·rw [q3] at hnr; exact x9_ (List.nodup_append.1 hnr).2.1 hg
 ·have hnr2 : (f02 ++ fs2.flatten).Nodup := by rw [← q3]; exact hnr
  obtain ⟨m1, m2, m3, m4⟩ := Tl_ (R := O1) (fun h h' => O1.heap h h') q1 q2 hnr2 (fun b hb => hF_lt b (hr_F b (by rw [q3]; exact hb))) hg hx' k2 k4 (fun b hb => (k5 b hb).2) k3
  have kT : Turned w w' fr := ⟨k2.os, k2.tape, k2.output, k2.size, fun k hk hkn => k2.block k hk (fun h => hkn (hg_r k h))⟩
  have hO2 : O2 w' (f02 ++ (fs2.set j G).flatten) ((xss.getD i []).set j ys) xr := ⟨vs2, f02, _, m1, m2, rfl⟩
  obtain ⟨n1, n2, n3, n4⟩ := Tl_ (R := O2) (fun h h' => O2.heap h h') h1 h2 hnF (fun b hb => hF_lt b (by rw [h3]; exact hb)) hfr hxr kT m3 (fun b hb => by rw [q3]; exact m4 b hb) hO2
  have hwF : ∀ k, k < w.heap.size → k ∉ g → w'.heap[k]? = w.heap[k]? := fun k hk hkn => k2.block k hk hkn
  have hup : ∀ b ∈ f0 ++ (fs.set i (f02 ++ (fs2.set j G).flatten)).flatten, b < w'.heap.size := fun b hb => by
   have old : ∀ b ∈ F id, b < w'.heap.size := fun b hb => Nat.lt_of_lt_of_le (hF_lt b hb) k2.size
   rcases List.mem_append.1 hb with hb | hb
   ·exact old b (by rw [h3]; exact List.mem_append.2 (.inl hb))
   ·rcases xO_ hb with hb | hb
    ·rcases List.mem_append.1 hb with hb | hb
     ·exact old b (hr_F b (by rw [q3]; exact List.mem_append.2 (.inl hb)))
     ·rcases xO_ hb with hb | hb
      ·exact (k5 b hb).1
      ·exact old b (hr_F b (by rw [q3]; exact List.mem_append.2 (.inr hb)))
    ·exact old b (by rw [h3]; exact List.mem_append.2 (.inr hb))
  have hf0 : ∀ b ∈ f0, w'.heap[b]? = w.heap[b]? := fun b hb => hwF b (hF_lt b (by rw [h3]; exact List.mem_append.2 (.inl hb))) fun hbg =>
   (List.nodup_append.1 hnF).2.2 b hb b (List.mem_flatten.2 ⟨fr, List.mem_of_getElem? hfr, hg_r b hbg⟩) rfl
  have path1 : ∀ k p u, xl_ w (ι id) (k :: p) = some u → ∃ y, vs[k]? = some y ∧ xl_ w y p = some u ∧ ∀ u', xl_ w' y p = some u' → xl_ w' (ι id) (k :: p) = some u' := fun k p u hu => by
   obtain ⟨b', off, n, cap, y, e, hi', hc', hy⟩ := xB_ hu
   rw [e] at h1
   have ha := h1.at
   obtain ⟨y2, hy2, hc2⟩ := ha.2.2.1 k hi'
   rw [hc'] at hc2; cases hc2
   refine ⟨y, hy2, hy, fun u' hu' => ?_⟩
   rw [e, xJ_ hi' (by rw [cell_of_heap (hf0 b' (by rw [ha.1]; exact List.mem_singleton.2 rfl))]; exact hc')]
   exact hu'
  have key := ho.put (w' := w') [] id (.t3 (xss.set i ((xss.getD i []).set j ys))) (ι id) (f0 ++ (fs.set i (f02 ++ (fs2.set j G).flatten)).flatten) (qOf [] [])
   (ho.keep.turned ho.old k2 (fun b hb => (ho.mine b (hsub b hb)).2)) k2.size
   (fun b hb hno => hwF b hb (fun hbg => hno id (.inl rfl) (List.mem_map.2 ⟨_, xc_ hfd, rfl⟩) (hr_F b (hg_r b hbg))))
   n3
   (fun b hb => ⟨hup b hb, (n4 b hb).imp (fun h => ⟨id, .inl rfl, List.mem_map.2 ⟨_, xc_ hfd, rfl⟩, by rw [h3]; exact h⟩) (fun h => h)⟩)
   (fun r hr => by simp at hr)
   (fun p _ hl => by
    rw [hfd] at hl
    match p, hl with
    | [], _ => exact ⟨rfl, rfl, fun u hu => by simpa [xl_] using hu⟩
    | [k], _ =>
     refine ⟨rfl, rfl, fun u hu => ?_⟩
     obtain ⟨y, _, hy, hb⟩ := path1 k [] u hu
     exact hb u (by simpa [xl_] using hy)
    | [k, l], _ =>
     refine ⟨rfl, rfl, fun u hu => ?_⟩
     obtain ⟨y, hy1, hy, hb⟩ := path1 k [l] u hu
     refine hb u ?_
     obtain ⟨b2, off, n, cap, z, e, hi', hc', hz⟩ := xB_ hy
     have hkl : k < xss.length := by rw [h2.length.2]; exact (List.getElem?_eq_some_iff.1 hy1).1
     obtain ⟨fk, c, hfk, hcc, hmk⟩ := h2.get k _ (getD_some (d := []) hkl)
     rw [hy1] at hcc; cases hcc
     obtain ⟨vk, fk0, fks, a1, a2, a3⟩ := hmk
     rw [e] at a1
     have hfk0 : fk0 = [b2] := a1.at.1
     have hb2k : b2 ∈ fk := by rw [a3, hfk0]; exact List.mem_append.2 (.inl (List.mem_singleton.2 rfl))
     have hb2 : b2 ∉ g := fun hbg => by
      by_cases hik : k = i
      ·subst hik
       rw [hxr] at hy1; cases hy1
       rw [e] at q1
       have h02 : f02 = [b2] := q1.at.1
       exact (List.nodup_append.1 hnr2).2.2 b2 (by rw [h02]; exact List.mem_singleton.2 rfl) b2 (List.mem_flatten.2 ⟨g, List.mem_of_getElem? hg, hbg⟩) rfl
      ·exact yj_ (List.nodup_append.1 hnF).2.1 hfk hfr hik hb2k (hg_r b2 hbg)
     have hb2F : b2 ∈ F id := by rw [h3]; exact List.mem_append.2 (.inr (List.mem_flatten.2 ⟨fk, List.mem_of_getElem? hfk, hb2k⟩))
     rw [e, xJ_ hi' (by rw [cell_of_heap (hwF b2 (hF_lt b2 hb2F) hb2)]; exact hc')]
     simpa [xl_] using hz
    | _ :: _ :: _ :: _, hl => simp [xq_] at hl)
   (fun _ => by simp only [treeRep, mem]; exact ⟨vs, f0, _, n1, n2, rfl⟩)
  rw [yL_, yH_] at key
  exact ⟨v, _, _, k1, key.1, yU_ hc.free k6, key.2⟩
end
end Go.Aw
namespace Go.Aw
open Go.RowKit
def XG_ (P : Program) (H : List (Nat × Tree)) (f : FuncId) (args : List AV) (K : AV → List Nat → List Nat → List (Nat × Tree) → Prop) : Prop :=
 (∃ v, UG_ P H f args v ∧ K v [] [] H) ∨
 (∃ ds d v es, Xc_ H args = some ds ∧ FreshCall P f ds d ∧ thaw (xR_ H) d = some (v, es) ∧ K v [] [] (es ++ H)) ∨
 (∃ r subs H', as4 P H f args r subs H' ∧ K r [] subs H') ∨
 ((∃ r id H', Q5_ P H f args r id H' ∧ K r [] [id] H') ∨ (∃ r H', RowOf P H f args r H' ∧ K r [] [] H')) ∨
 (∃ r all subs H', ax0 P H f args r all subs H' ∧ K r all subs H') ∨
 (∃ R v, PureCall P f (Zs_ H R args) v ∧ yd_ (Zs_ H R args) = true ∧ K v R [] (xt_ (qOf R []) (rmT R H))) ∨
 (∃ R r all subs H', ax0 P (xt_ (qOf R []) (rmT R H)) f (Zs_ H R args) r all subs H' ∧ K r (R ++ all) subs H')
@[congr] theorem ax2 {P : Program} {H H2 : List (Nat × Tree)} {f : FuncId} {args args2 : List AV} {K : AV → List Nat → List Nat → List (Nat × Tree) → Prop} (h : args = args2) (h2 : H = H2) : XG_ P H f args K = XG_ P H2 f args2 K := by rw [h, h2]
section
variable {P : Program} {cx : Cx} {H : List (Nat × Tree)} {w w' : World} {ι : Nat → Value} {F : Nat → List Nat}
theorem Tn_ (ho : Owns cx H w ι F) {f : FuncId} {args : List AV} {K : AV → List Nat → List Nat → List (Nat × Tree) → Prop} (h : XG_ P H f args K) {us : List Value} (hr : reps (mem cx w H ι F) args us) :
  (∀ args w, (callFunc f args).run P w = .ok (.enter f args) w) ∧ Calls P f us.toArray w fun e w' => ∃ u v all subs H' ι' F', e = .returned u ∧ K v all subs H' ∧ Owns cx H' w' ι' F' ∧ rep (mem cx w' H' ι' F') v u ∧
   ∀ av x, rep (mem cx w H ι F) av x → rep (mem cx w' H' ι' F') (xp_ (qOf all subs) av) x := by
 rcases h with ⟨v, h1, h2⟩ | ⟨ds, d, v, es, h1, h2, h3, h4⟩ | ⟨r, subs, H', h1, h2⟩ | (⟨r, id, H', h1, h2⟩ | ⟨r, H', h1, h2⟩) | ⟨r, all, subs, H', h1, h2⟩ | ⟨R, v, h1, h2, h3⟩ | ⟨R, r, all, subs, H', h1, h2⟩
 ·obtain ⟨k1, k2⟩ := Xm_ ho h1 hr
  exact ⟨k1, k2.mono fun e w' ⟨u, j1, j2, j3⟩ => ⟨u, v, [], [], H, ι, F, j1, h2, ho.ext j2, j3, fun av x h => by rw [yl_]; exact rep.le (zd_ j2) _ _ h⟩⟩
 ·have hv := ZM_ ho args ds us h1 hr
  refine ⟨h2.enter, (h2.runs us w (zK_ cx w) ⟨fun b hb => hb.1, ho.globOk⟩ hv).mono fun e w' ⟨u, fp, k1, k2, k3, k4, k5⟩ => ?_⟩
  obtain ⟨G, J, t1, t2⟩ := SD_ d (xR_ H) fp u v es k3 h3
  obtain ⟨j1, j2, j3⟩ := ho.adds k2 t1 k4 k5
  exact ⟨u, v, [], [], _, _, _, k1, h4, j1, t2 _ rfl j3, fun av x h => by rw [yl_]; exact j2 _ _ h⟩
 ·obtain ⟨k1, k2⟩ := Um_ ho h1 hr
  exact ⟨k1, k2.mono fun e w' ⟨u, F', j1, j2, j3, j4⟩ => ⟨u, r, [], subs, H', ι, F', j1, h2, j2, j3, j4⟩⟩
 ·obtain ⟨k1, k2⟩ := Vd_ ho h1 hr
  exact ⟨k1, k2.mono fun e w' ⟨u, F', j1, j2, j3, j4⟩ => ⟨u, r, [], [id], H', ι, F', j1, h2, j2, j3, j4⟩⟩
 ·obtain ⟨k1, k2⟩ := Tm_ ho h1 hr
  exact ⟨k1, k2.mono fun e w' ⟨u, ι', F', j1, j2, j3, j4⟩ => ⟨u, r, [], [], H', ι', F', j1, h2, j2, j3, j4⟩⟩
 ·obtain ⟨k1, k2⟩ := Zr_ ho h1 hr
  exact ⟨k1, k2.mono fun e w' ⟨u, ι', F', j1, j2, j3, j4⟩ => ⟨u, r, all, subs, H', ι', F', j1, h2, j2, j3, j4⟩⟩
 ·have ho2 := ho.drop R
  obtain ⟨k1, k2⟩ := Xm_ ho2.1 (xg_ h1 h2) (Y7_ ho args us hr)
  exact ⟨k1, k2.mono fun e w' ⟨u, j1, j2, j3⟩ => ⟨u, v, R, [], _, ι, F, j1, h3, ho2.1.ext j2, j3, fun av x hav => rep.le (zd_ j2) _ _ (ho2.2 av x hav)⟩⟩
 ·have ho2 := ho.drop R
  obtain ⟨k1, k2⟩ := Zr_ ho2.1 h1 (Y7_ ho args us hr)
  exact ⟨k1, k2.mono fun e w' ⟨u, ι', F', j1, j2, j3, j4⟩ => ⟨u, r, R ++ all, subs, H', ι', F', j1, h2, j2, j3, fun av x hav => by
   rw [← Yg_ (q1 := qOf R []) (q2 := qOf all subs) ad0]
   exact j4 _ _ (ho2.2 av x hav)⟩⟩
end
def Q7_ (all subs : List Nat) (s : List (Nat × AV)) : List (Nat × AV) :=
 match all, subs with
 | [], [] => s
 | _, _ => x2_ all subs s
theorem Sv_ (all subs : List Nat) (s : List (Nat × AV)) : Q7_ all subs s = x2_ all subs s := by
 cases all with
 | nil =>
  cases subs with
  | nil =>
   simp only [Q7_, x2_, yl_]
   simp
  | cons _ _ => rfl
 | cons _ _ => cases subs <;> rfl
def ys_ (P : Program) (ops : Array Oper) (n : Nat) (st : St) (o : Oper) (K : St → Prop) : Prop :=
 match o.op, o.guard with
 | .call { callee := .value g, args, .. }, none =>
  (match o.dst with
   | some d => d < n
   | none => True) ∧
  (match strip (evF st.get g) with
   | .fn f caps => okG true (evF st.get g) ∧ Qf_ true (args.toList.map (evF st.get)) ∧ XG_ P st.H f ((args.toList.map (evF st.get)).map strip ++ caps) (fun v all subs H' => K ⟨Yl_ o.dst v (Q7_ all subs st.s), H'⟩)
   | _ => False)
 | _, _ => Xj_ P ops n st o K
@[congr] theorem ax3 {P : Program} {ops : Array Oper} {n : Nat} {st st2 : St} {o : Oper} {K : St → Prop} (h : st = st2) : ys_ P ops n st o K = ys_ P ops n st2 o K := by rw [h]
def as5 (P : Program) (ops : Array Oper) (n : Nat) : List Oper → St → (St → Prop) → Prop
 | [], st, K => K st
 | o :: r, st, K => ys_ P ops n st o (fun st' => as5 P ops n r st' K)
section
variable {P : Program} {cx : Cx} {n : Nat} {ops : Array Oper} {o : Oper} {st : St} {tmps : Array Value} {w : World}
theorem Zu_ (hs : SimF cx n st.get st.H tmps w) (hx : ∀ d, o.dst = some d → cx.fix d = false) {K : St → Prop} (h : ys_ P ops n st o K) {Q : Exit → Act → World → Prop} :
  if Region.wanted o (yielded ops tmps) then o.wpIn (Fr cx.rd) 0 P ⟨tmps, cx.ds⟩ w (After cx n (Vp_ K)) Q else After cx n (Vp_ K) ((⟨tmps, cx.ds⟩ : Act).put o.dst undef) w := by
 unfold ys_ at h
 split at h
 ·rename_i g args ts hop hgd
  obtain ⟨h1, h2⟩ := h
  have hd : UA_ cx.fix n o := fun d hd => ⟨hx d hd, by rw [hd] at h1; exact h1⟩
  rw [if_pos (by simp [Region.wanted, hgd])]
  obtain ⟨hsz, ι, F, ho, hr⟩ := hs
  have hdst : ∀ d, o.dst = some d → d < tmps.size := fun d h => by rw [hsz.1]; exact (hd d h).2
  have hρ := SB_ (ds := cx.ds) hr
  have hg := hρ g
  split at h2 <;> first | exact h2.elim | skip
  rename_i f caps hsf
  obtain ⟨g1, g2, g3⟩ := h2
  have hgs := xH_ rfl g1 hg
  rw [hsf] at hgs
  simp only [rep] at hgs
  obtain ⟨cs, hcv, hcr⟩ := hgs
  have hok : ∀ (l : List Operand), Qf_ true (l.map (evF st.get)) → reps (mem cx w st.H ι F) ((l.map (evF st.get)).map strip) (l.map (⟨tmps, cx.ds⟩ : Act).eval) := by
   intro l
   induction l with
   | nil => intro _; simp [reps]
   | cons x l ih =>
    intro h
    simp only [List.map_cons, Qf_] at h
    simp only [List.map_cons, reps]
    exact ⟨_, _, rfl, xH_ rfl h.1 (hρ x), ih h.2⟩
  have har := ZA_ (hok _ g2) hcr
  obtain ⟨k1, k2⟩ := Tn_ ho g3 har
  refine ZD_ (by rw [hop]; intro c h; cases h) ?_
  have hrun : (execOp (⟨tmps, cx.ds⟩ : Act).eval o).run P w = .ok (.enter f (args.toList.map (⟨tmps, cx.ds⟩ : Act).eval ++ cs).toArray) w := by
   unfold execOp
   simp only [hop, resolve, Sem.run_bind]
   rw [hcv]
   simp [Deferred.ofValue, invoke, k1]
  rw [hrun, Oper.uponIn_enter]
  refine ⟨fun _ => by simp_all [Fr, Fence.wide], WJ_ ?_⟩
  refine k2.mono fun e w' ⟨u, v, all, subs, H', ι', F', j1, j2, j3, j4, j5⟩ => ?_
  subst j1
  refine ⟨(XL_ _ _).2, _, _, ⟨_, rfl, rfl, j2⟩, ZC_ hsz hd _, ι', F', j3, ?_⟩
  have := ZB_ (ds := cx.ds) (m := mem cx w' H' ι' F') (g := fun k => xp_ (qOf all subs) (st.get k)) (tmps := tmps) (fun k => j5 _ _ (hr k)) hdst j4
  intro k
  have hk := this k
  show rep _ (xh_ (Yl_ o.dst v (Q7_ all subs st.s)) k) _
  rw [Sv_]
  have e1 := congrFun (get_put ⟨x2_ all subs st.s, H'⟩ o.dst v) k
  rw [e1]
  show rep _ (upd (fun k => xh_ (x2_ all subs st.s) k) o.dst v k) _
  rw [zm_]
  exact hk
 ·exact zH_ hs (Xk_ hx h)
end
end Go.Aw
namespace Go.Aw
open Go.RowKit
section
variable {P : Program} {cx : Cx} {n : Nat} {ops : Array Oper}
theorem WE_ {K : St → Prop} {Q' : Exit → Act → World → Prop} (hQ : ∀ a w, After cx n (Vp_ K) a w → Q' .normal a w) : ∀ (l : List Oper) {st : St} {tmps : Array Value} {w : World}, (∀ o ∈ l, ∀ d, o.dst = some d → cx.fix d = false) →
  SimF cx n st.get st.H tmps w → as5 P ops n l st K → wpListIn (Fr cx.rd) 0 P ops Q' l ⟨tmps, cx.ds⟩ w
 | [], st, tmps, w, _, hs, h => hQ _ _ ⟨rfl, _, _, ⟨st, rfl, rfl, h⟩, hs⟩
 | o :: l, st, tmps, w, hx, hs, h => by
  have := Zu_ (Q := Q') hs (hx o (List.mem_cons_self ..)) h
  have next : ∀ a w, After cx n (Vp_ (fun st' => as5 P ops n l st' K)) a w → wpListIn (Fr cx.rd) 0 P ops Q' l a w := by
   rintro a w ⟨hd, g', H', ⟨st', rfl, rfl, hK⟩, hs'⟩
   rw [zv_ hd]
   exact WE_ hQ l (fun o ho => hx o (List.mem_cons_of_mem _ ho)) hs' hK
  unfold wpListIn
  split
  ·rename_i hw
   rw [if_pos hw] at this
   exact Oper.wpIn_mono next this
  ·rename_i hw
   rw [if_neg hw] at this
   exact ⟨fun _ _ => trivial, next _ _ this⟩
theorem AT.run {Q : SQ} {st : St} {id : Nat} {l : List Oper} (hx : ∀ o ∈ l, ∀ d, o.dst = some d → cx.fix d = false) (h : as5 P l.toArray n l st (fun st' => Q .normal st')) : AT P cx n (.region id l.toArray false) Q st := by
 intro tmps w hs
 refine wpIn_region_list ?_
 have : wpListIn (Fr cx.rd) 0 P l.toArray _ l ⟨tmps, cx.ds⟩ w := WE_ (Q' := fun e a w' => a.defers = cx.ds ∧ ∃ st', Q e st' ∧ SimF cx n st'.get st'.H a.tmps w') (K := fun st' => Q .normal st')
  (fun a w' ⟨h1, g, H, ⟨st', e1, e2, h2⟩, h3⟩ => by subst e1; subst e2; exact ⟨h1, st', h2, h3⟩) l hx hs h
 simpa using this
theorem ax4 {Q : SQ} {st : St} {cs : List Code} {id : Nat} {l : List Oper} (hx : ∀ o ∈ l, ∀ d, o.dst = some d → cx.fix d = false) (h : ∀ K : St → Prop, (∀ s, ATs P cx n cs Q s → K s) → as5 P l.toArray n l st K) : ATs P cx n (.region id l.toArray false :: cs) Q st :=
 AT.run hx (h _ fun _ h => h)
theorem xi_ {H : List (Nat × Tree)} {f : FuncId} {args : List AV} {v : AV} {K : AV → List Nat → List Nat → List (Nat × Tree) → Prop} (h : PureCall P f args v) (hd : yd_ args = true) (k : K v [] [] H) : XG_ P H f args K := .inl ⟨v, xg_ h hd, k⟩
theorem xM_ {H : List (Nat × Tree)} {f : FuncId} {args ds : List AV} {v : AV} {K : AV → List Nat → List Nat → List (Nat × Tree) → Prop} (hv : Xc_ H args = some ds) (hm : zw_ v = true) (h : PureCall P f ds v) (k : K v [] [] H) : XG_ P H f args K := .inl ⟨v, xG_ hv hm h, k⟩
theorem x3_ {H : List (Nat × Tree)} {f : FuncId} {args ds : List AV} {v : AV} {K : AV → List Nat → List Nat → List (Nat × Tree) → Prop} (hv : Xc_ H args = some ds) (h : FreshCall P f ds v) (k : K v [] [] H) : XG_ P H f args K := .inl ⟨v, xP_ hv h, k⟩
theorem xK_ {H : List (Nat × Tree)} {f : FuncId} {args ds : List AV} {d v : AV} {es : List (Nat × Tree)} {K : AV → List Nat → List Nat → List (Nat × Tree) → Prop} (hv : Xc_ H args = some ds) (h : FreshCall P f ds d) (ht : thaw (xR_ H) d = some (v, es)) (k : K v [] [] (es ++ H)) : XG_ P H f args K :=
 .inr (.inl ⟨ds, d, v, es, hv, h, ht, k⟩)
mutual
def refsOf : AV → List Nat
 | .ref i [] => [i]
 | .agg vs => Zv_ vs
 | _ => []
def Zv_ : List AV → List Nat
 | [] => []
 | a :: as => refsOf a ++ Zv_ as
end
mutual
theorem WF_ {m m' : Mem} : ∀ (a : AV) (u : Value), rep m a u → rep m' a u → ∀ i ∈ refsOf a, m'.ι i = m.ι i
 | .ref i [], u, h, h', j, hj => by
  simp only [refsOf, List.mem_singleton] at hj; subst hj
  simp only [rep, xl_, Option.some.injEq] at h h'
  rw [h.2, h'.2]
 | .ref i (_ :: _), _, _, _, j, hj => by simp [refsOf] at hj
 | .agg vs, u, h, h', j, hj => by
  simp only [refsOf] at hj
  simp only [rep] at h h'
  obtain ⟨us, rfl, h1⟩ := h
  obtain ⟨us', e, h2⟩ := h'
  have : us' = us := by
   simp only [Value.agg.injEq] at e
   exact (congrArg Array.toList e).symm
  subst this
  exact Zw_ vs _ h1 h2 j hj
 | .int _, _, _, _, _, hj | .bool _, _, _, _, _, hj | .str _, _, _, _, _, hj | .nil, _, _, _, _, hj | .tup _, _, _, _, _, hj
 | .flt _, _, _, _, _, hj | .ik _ _, _, _, _, _, hj | .nilfn, _, _, _, _, hj | .lv _, _, _, _, _, hj | .fn _ _, _, _, _, _, hj | .eptr _ _, _, _, _, _, hj | .cptr _ _, _, _, _, _, hj
 | .sub _ _ _ _, _, _, _, _, hj | .eref _ _ _, _, _, _, _, hj | .bptr _ _, _, _, _, _, hj | .when _ _, _, _, _, _, hj | .junk, _, _, _, _, hj | .l1 _, _, _, _, _, hj | .l2 _, _, _, _, _, hj | .l3 _, _, _, _, _, hj | .lp _ _, _, _, _, _, hj | .val _, _, _, _, _, hj => by simp [refsOf] at hj
theorem Zw_ {m m' : Mem} : ∀ (as : List AV) (us : List Value), reps m as us → reps m' as us → ∀ i ∈ Zv_ as, m'.ι i = m.ι i
 | [], _, _, _, j, hj => by simp [Zv_] at hj
 | a :: as, us, h, h', j, hj => by
  simp only [Zv_, List.mem_append] at hj
  simp only [reps] at h h'
  obtain ⟨u, us1, rfl, h1, h2⟩ := h
  obtain ⟨u', us2, e, h3, h4⟩ := h'
  cases e
  rcases hj with hj | hj
  ·exact WF_ a _ h1 h3 j hj
  ·exact Zw_ as _ h2 h4 j hj
end
theorem XH_ {H : List (Nat × Tree)} {w : World} {ι : Nat → Value} {F : Nat → List Nat} (ho : Owns cx H w ι F) : ∀ {l : List (Nat × Tree)}, (Aw.ids l).Nodup → (∀ p ∈ l, find H p.1 = some p.2) → (xW_ l F).Nodup
 | [], _, _ => by simp [xW_]
 | p :: l, hn, hl => by
  simp only [Aw.ids, List.map_cons, List.nodup_cons] at hn
  rw [ym_, List.nodup_append]
  refine ⟨xu_ ho (hl p (List.mem_cons_self ..)), XH_ ho hn.2 (fun q hq => hl q (List.mem_cons_of_mem _ hq)), fun a ha c hc e => ?_⟩
  subst e
  obtain ⟨q, hq, hb⟩ := mem_foot.1 hc
  exact yc_ ho (hl p (List.mem_cons_self ..)) (hl q (List.mem_cons_of_mem _ hq)) (fun e => hn.1 (e ▸ List.mem_map.2 ⟨q, hq, rfl⟩)) ha hb
theorem TurnCall.intro {f : FuncId} {fn : Func} {c : Code} {rs : List ResultVar} {a0 : AV} {as : List AV} {T T' : List (Nat × Tree)} {r : AV} (hcall : ∀ args w, (callFunc f args).run P w = .ok (.enter f args) w) (hf : P.funcs[f]? = some fn) (hb : fn.body = some c)
  (hn : fn.ntmps = n) (hrs : fn.results = rs.toArray) (hl : (a0 :: as).length ≤ n) (hids : Aw.ids T' = Aw.ids T) (hnd : (Aw.ids T).Nodup) (hflat : (T'.all fun p => Ru_ p.2) = true) (hfree : zw_ r = true) (href : ((Aw.ids T).all fun i => (refsOf a0).contains i) = true)
  (h : ∀ cx, cx.fix = 1 → AT P cx n c (fun e st => Ends e ∧ wg_ P st rs r ∧ st.get 0 = a0 ∧ ∀ p ∈ T', find st.H p.1 = some p.2) ⟨xD_ 0 (a0 :: as), T⟩) : TurnCall P f (a0 :: as) T T' r := by
 refine ⟨hcall, hids, hfree, fun us w ι G hT hGn hGb' hr => calls_of_wp hf hb ?_⟩
 have hGb := fun b hb => (hGb'.1 b hb).1
 rw [hn]
 have hr0 := hr
 rw [xw_] at hr
 have hlen := hr.length
 let u0 : Value := us.headD undef
 let cx : Cx := ⟨w.heap.size, fun b => b ∈ xW_ T G, fun _ => False, w, 1, fun _ => u0, none, []⟩
 have hget : ∀ k, (us.toArray ++ Array.replicate (n - us.toArray.size) undef).getD k undef = (us[k]?).getD undef := by
  intro k
  rw [Array.getD_eq_getD_getElem?]
  by_cases hk : k < us.length
  ·rw [Array.getElem?_append_left (by simpa using hk)]; simp
  ·rw [Array.getElem?_append_right (by simpa using hk)]
   rw [List.getElem?_eq_none (by omega)]
   simp only [Array.getElem?_replicate]
   split <;> rfl
 have hu0 : us[0]?.getD undef = u0 := by
  cases us with
  | nil => rfl
  | cons a l => rfl
 have ho : Owns cx T w ι G := ⟨⟨rfl, rfl, rfl, Nat.le_refl _, fun _ _ _ => rfl, hGb'.2.glOk fun b hb => (hGb'.1 b hb).2⟩, fun p hp => (hT p hp).tree rfl, hGn, fun b hb => ⟨hGb b hb, .inr hb⟩, hnd, Nat.le_refl _⟩
 have hm : All2 (rep (mem cx w T ι G)) (a0 :: as) us := hr.mono fun d v hdv =>
  rep.le (m := ⟨w, fun _ => False, ι, fun id path => xq_ (find T id) path = true⟩) (m' := mem cx w T ι G) ⟨fun b hb => hb.elim, fun i p hd => ⟨hd, rfl, fun v hv => hv⟩⟩ _ _ hdv
 have hs : SimF cx n (St.mk (xD_ 0 (a0 :: as)) T).get T (us.toArray ++ Array.replicate (n - us.toArray.size) undef) w := by
  refine ⟨⟨by simp only [List.size_toArray, Array.size_append, Array.size_replicate]; omega, fun j hj => ?_⟩, ι, G, ho, fun k => ?_⟩
  ·have : j = 0 := Nat.lt_one_iff.1 (of_decide_eq_true hj)
   subst this
   rw [hget]; exact hu0
  ·have := yI_ 0 hm k
   simp only [Nat.not_lt_zero, if_false, Nat.sub_zero] at this
   rw [hget]
   exact this
 refine wp_mono (wpIn_wide.1 (h cx rfl _ w hs)) ?_
 rintro e a w' ⟨h1, st', ⟨he, hv, hg0, hfd⟩, ⟨hsz, hfx⟩, ι', F', ho', hr'⟩
 obtain ⟨u, k1, k2⟩ := yT_ (P := P) hrs ho' hr' hv
 have hin : ∀ p ∈ T', p.1 ∈ refsOf a0 := fun p hp => by
  have : p.1 ∈ Aw.ids T := by rw [← hids]; exact List.mem_map.2 ⟨p, hp, rfl⟩
  have := (List.all_eq_true.1 href) _ this
  simpa using this
 have hι : ∀ p ∈ T', ι' p.1 = ι p.1 := fun p hp => by
  have r0 := hr' 0
  rw [hg0, hfx 0 (by rfl)] at r0
  have r1 : rep ⟨w, fun _ => False, ι, fun id path => xq_ (find T id) path = true⟩ a0 u0 := by
   simp only [reps] at hr0
   obtain ⟨u, us', rfl, q1, _⟩ := hr0
   exact q1
  exact WF_ a0 u0 r1 r0 _ (hin p hp)
 have hfin : ∃ x, (results fn a.tmps).run P w' = .ok x w' ∧ ∃ v G', Ending.returned x = .returned v ∧ Turned w w' (xW_ T G) ∧ (∀ p ∈ T', flatRep w' (G' p.1) p.2 (ι p.1)) ∧ (xW_ T' G').Nodup ∧
   (∀ b ∈ xW_ T' G', b < w'.heap.size ∧ (b ∈ xW_ T G ∨ w.heap.size ≤ b)) ∧ rep ⟨w', fun _ => False, fun _ => undef, fun _ _ => False⟩ r v := by
  refine ⟨u, k1, u, F', rfl, ⟨ho'.keep.os, ho'.keep.tape, ho'.keep.output, ho'.keep.size, fun k hk hkn => ho'.keep.block k hk hkn⟩, fun p hp => ?_, XH_ ho' (by rw [hids]; exact hnd) hfd, fun b hb => ?_, yU_ hfree k2⟩
  ·rw [← hι p hp]
   exact XF_ (m := mem cx w' st'.H ι' F') ((List.all_eq_true.1 hflat) p hp) (ho'.trees _ (xc_ (hfd p hp)))
  ·obtain ⟨p, hp, hb⟩ := mem_foot.1 hb
   have := ho'.mine b (mem_foot.2 ⟨_, xc_ (hfd p hp), hb⟩)
   exact ⟨this.1, this.2.symm⟩
 rcases he with rfl | rfl
 ·exact ⟨h1, hfin⟩
 ·exact ⟨h1, hfin⟩
end
end Go.Aw
namespace Go.Aw
open Go.RowKit
theorem Un_ (pl : List (Nat × Nat)) (zs : List AV) : zn_ pl [] zs = some zs := rfl
theorem Ve_ (pl : List (Nat × Nat)) (i : Nat) (a : AV) (r : List (Nat × AV)) (zs : List AV) : zn_ pl ((i, a) :: r) zs = (match pl[i]? with
  | some (off, sz) => (match a with
   | .agg ws => if ws.length = sz ∧ off + sz ≤ zs.length then zn_ pl r (zs.take off ++ ws ++ zs.drop (off + sz)) else none
   | a => if sz = 1 ∧ off < zs.length then zn_ pl r (zs.set off a) else none)
  | none => none) := rfl
theorem Q8_ (n : Int) : strip (.int n : AV) = (.int n : AV) := rfl
theorem ax5 (γ : Bool) (n : Int) : okG γ (.int n : AV) = True := rfl
theorem Q9_ (b : Nat) : strip (.flt b : AV) = (.flt b : AV) := rfl
theorem ax6 (γ : Bool) (b : Nat) : okG γ (.flt b : AV) = True := rfl
theorem ad1 (k : IntKind) (n : Int) : strip (.ik k n : AV) = (.ik k n : AV) := rfl
theorem aL1 (γ : Bool) (k : IntKind) (n : Int) : okG γ (.ik k n : AV) = True := rfl
theorem Rv_ (b : Bool) : strip (.bool b : AV) = (.bool b : AV) := rfl
theorem ad2 (γ : Bool) (b : Bool) : okG γ (.bool b : AV) = True := rfl
theorem Ka_ (s : ByteArray) : strip (.str s : AV) = (.str s : AV) := rfl
theorem ax7 (γ : Bool) (s : ByteArray) : okG γ (.str s : AV) = True := rfl
theorem strip_nil  : strip (.nil : AV) = (.nil : AV) := rfl
theorem ax8 (γ : Bool)  : okG γ (.nil : AV) = True := rfl
theorem To_  : strip (.nilfn : AV) = (.nilfn : AV) := rfl
theorem Kb_ (γ : Bool)  : okG γ (.nilfn : AV) = True := rfl
theorem ad3 (xs : List Int) : strip (.l1 xs : AV) = (.l1 xs : AV) := rfl
theorem aL2 (γ : Bool) (xs : List Int) : okG γ (.l1 xs : AV) = True := rfl
theorem ad4 (xs : List (List Int)) : strip (.l2 xs : AV) = (.l2 xs : AV) := rfl
theorem aL3 (γ : Bool) (xs : List (List Int)) : okG γ (.l2 xs : AV) = True := rfl
theorem Kc_ (x : Value) : strip (.val x : AV) = (.val x : AV) := rfl
theorem ax9 (γ : Bool) (x : Value) : okG γ (.val x : AV) = True := rfl
theorem ad5 (xs : List (Int × Int)) (o : Option Nat) : strip (.lp xs o : AV) = (.lp xs o : AV) := rfl
theorem aL4 (γ : Bool) (xs : List (Int × Int)) (o : Option Nat) : okG γ (.lp xs o : AV) = True := rfl
theorem ad6 (xs : List (List (List Int))) : strip (.l3 xs : AV) = (.l3 xs : AV) := rfl
theorem aL5 (γ : Bool) (xs : List (List (List Int))) : okG γ (.l3 xs : AV) = True := rfl
theorem ad7 (vs : List AV) : strip (.lv vs : AV) = (.lv vs : AV) := rfl
theorem aL6 (γ : Bool) (vs : List AV) : okG γ (.lv vs : AV) = True := rfl
theorem Kd_ (vs : List AV) : strip (.agg vs : AV) = (.agg vs : AV) := rfl
theorem ay0 (γ : Bool) (vs : List AV) : okG γ (.agg vs : AV) = True := rfl
theorem Ke_ (vs : List AV) : strip (.tup vs : AV) = (.tup vs : AV) := rfl
theorem ay1 (γ : Bool) (vs : List AV) : okG γ (.tup vs : AV) = True := rfl
theorem ad8 (f : Nat) (caps : List AV) : strip (.fn f caps : AV) = (.fn f caps : AV) := rfl
theorem aL7 (γ : Bool) (f : Nat) (caps : List AV) : okG γ (.fn f caps : AV) = True := rfl
theorem Rw_ (av : AV) (i : Nat) : strip (.eptr av i : AV) = (.eptr av i : AV) := rfl
theorem ad9 (γ : Bool) (av : AV) (i : Nat) : okG γ (.eptr av i : AV) = True := rfl
theorem Rx_ (vs : List AV) (off : Nat) : strip (.cptr vs off : AV) = (.cptr vs off : AV) := rfl
theorem ae0 (γ : Bool) (vs : List AV) (off : Nat) : okG γ (.cptr vs off : AV) = True := rfl
theorem Kf_ (id : Nat) (path : List Nat) : strip (.ref id path : AV) = (.ref id path : AV) := rfl
theorem ay2 (γ : Bool) (id : Nat) (path : List Nat) : okG γ (.ref id path : AV) = True := rfl
theorem Kg_ (id : Nat) (path : List Nat) (lo hi : Nat) : strip (.sub id path lo hi : AV) = (.sub id path lo hi : AV) := rfl
theorem ay3 (γ : Bool) (id : Nat) (path : List Nat) (lo hi : Nat) : okG γ (.sub id path lo hi : AV) = True := rfl
theorem Ry_ (id : Nat) (path : List Nat) (i : Nat) : strip (.eref id path i : AV) = (.eref id path i : AV) := rfl
theorem ae1 (γ : Bool) (id : Nat) (path : List Nat) (i : Nat) : okG γ (.eref id path i : AV) = True := rfl
theorem Rz_ (id : Nat) (off : Nat) : strip (.bptr id off : AV) = (.bptr id off : AV) := rfl
theorem ae2 (γ : Bool) (id : Nat) (off : Nat) : okG γ (.bptr id off : AV) = True := rfl
theorem RA_  : strip (.junk : AV) = (.junk : AV) := rfl
theorem ae3 (γ : Bool)  : okG γ (.junk : AV) = True := rfl
theorem RB_ (g : Bool) (v : AV) : strip (.when g v) = v := rfl
theorem ae4 (γ g : Bool) (v : AV) : okG γ (.when g v) = (γ = true → g = true) := rfl
theorem Kh_ (H : List (Nat × Tree)) (n : Int) : xI_ H (.int n : AV) = some (.int n : AV) := rfl
theorem Ki_ (H : List (Nat × Tree)) (n : Int) : ze_ H (.int n : AV) = some (.int n : AV) := rfl
theorem ae5 (H : List (Nat × Tree)) (n : Int) : view H (.int n : AV) = some (.int n : AV) := rfl
theorem RC_ (H : List (Nat × Tree)) (n : Int) : cellsA H (.int n : AV) = some [(.int n : AV)] := rfl
theorem ae6 (H : List (Nat × Tree)) (n : Int) : wh_ H (.int n : AV) = true := rfl
theorem Kj_ (q : Nat → List Nat → Bool) (n : Int) : xp_ q (.int n : AV) = (.int n : AV) := rfl
theorem Kk_ (H : List (Nat × Tree)) (b : Nat) : xI_ H (.flt b : AV) = some (.flt b : AV) := rfl
theorem Kl_ (H : List (Nat × Tree)) (b : Nat) : ze_ H (.flt b : AV) = some (.flt b : AV) := rfl
theorem ae7 (H : List (Nat × Tree)) (b : Nat) : view H (.flt b : AV) = some (.flt b : AV) := rfl
theorem RD_ (H : List (Nat × Tree)) (b : Nat) : cellsA H (.flt b : AV) = some [(.flt b : AV)] := rfl
theorem ae8 (H : List (Nat × Tree)) (b : Nat) : wh_ H (.flt b : AV) = true := rfl
theorem Km_ (q : Nat → List Nat → Bool) (b : Nat) : xp_ q (.flt b : AV) = (.flt b : AV) := rfl
theorem ae9 (H : List (Nat × Tree)) (k : IntKind) (n : Int) : xI_ H (.ik k n : AV) = some (.ik k n : AV) := rfl
theorem af0 (H : List (Nat × Tree)) (k : IntKind) (n : Int) : ze_ H (.ik k n : AV) = some (.ik k n : AV) := rfl
theorem ay4 (H : List (Nat × Tree)) (k : IntKind) (n : Int) : view H (.ik k n : AV) = some (.ik k n : AV) := rfl
theorem Kn_ (H : List (Nat × Tree)) (k : IntKind) (n : Int) : cellsA H (.ik k n : AV) = some [(.ik k n : AV)] := rfl
theorem ay5 (H : List (Nat × Tree)) (k : IntKind) (n : Int) : wh_ H (.ik k n : AV) = true := rfl
theorem af1 (q : Nat → List Nat → Bool) (k : IntKind) (n : Int) : xp_ q (.ik k n : AV) = (.ik k n : AV) := rfl
theorem RE_ (H : List (Nat × Tree)) (b : Bool) : xI_ H (.bool b : AV) = some (.bool b : AV) := rfl
theorem RF_ (H : List (Nat × Tree)) (b : Bool) : ze_ H (.bool b : AV) = some (.bool b : AV) := rfl
theorem Ko_ (H : List (Nat × Tree)) (b : Bool) : view H (.bool b : AV) = some (.bool b : AV) := rfl
theorem Tp_ (H : List (Nat × Tree)) (b : Bool) : cellsA H (.bool b : AV) = some [(.bool b : AV)] := rfl
theorem Kp_ (H : List (Nat × Tree)) (b : Bool) : wh_ H (.bool b : AV) = true := rfl
theorem RG_ (q : Nat → List Nat → Bool) (b : Bool) : xp_ q (.bool b : AV) = (.bool b : AV) := rfl
theorem Kq_ (H : List (Nat × Tree)) (s : ByteArray) : xI_ H (.str s : AV) = some (.str s : AV) := rfl
theorem Kr_ (H : List (Nat × Tree)) (s : ByteArray) : ze_ H (.str s : AV) = some (.str s : AV) := rfl
theorem af2 (H : List (Nat × Tree)) (s : ByteArray) : view H (.str s : AV) = some (.str s : AV) := rfl
theorem RH_ (H : List (Nat × Tree)) (s : ByteArray) : cellsA H (.str s : AV) = some [(.str s : AV)] := rfl
theorem af4 (H : List (Nat × Tree)) (s : ByteArray) : wh_ H (.str s : AV) = true := rfl
theorem Ks_ (q : Nat → List Nat → Bool) (s : ByteArray) : xp_ q (.str s : AV) = (.str s : AV) := rfl
theorem Kt_ (H : List (Nat × Tree))  : xI_ H (.nil : AV) = some (.nil : AV) := rfl
theorem Ku_ (H : List (Nat × Tree))  : ze_ H (.nil : AV) = some (.nil : AV) := rfl
theorem af5 (H : List (Nat × Tree))  : view H (.nil : AV) = some (.nil : AV) := rfl
theorem RI_ (H : List (Nat × Tree))  : cellsA H (.nil : AV) = some [(.nil : AV)] := rfl
theorem af6 (H : List (Nat × Tree))  : wh_ H (.nil : AV) = true := rfl
theorem Kv_ (q : Nat → List Nat → Bool)  : xp_ q (.nil : AV) = (.nil : AV) := rfl
theorem Tq_ (H : List (Nat × Tree))  : xI_ H (.nilfn : AV) = some (.nilfn : AV) := rfl
theorem Tr_ (H : List (Nat × Tree))  : ze_ H (.nilfn : AV) = some (.nilfn : AV) := rfl
theorem RJ_ (H : List (Nat × Tree))  : view H (.nilfn : AV) = some (.nilfn : AV) := rfl
theorem Uo_ (H : List (Nat × Tree))  : cellsA H (.nilfn : AV) = some [(.nilfn : AV)] := rfl
theorem RK_ (H : List (Nat × Tree))  : wh_ H (.nilfn : AV) = true := rfl
theorem Ts_ (q : Nat → List Nat → Bool)  : xp_ q (.nilfn : AV) = (.nilfn : AV) := rfl
theorem af7 (H : List (Nat × Tree)) (xs : List Int) : xI_ H (.l1 xs : AV) = some (.l1 xs : AV) := rfl
theorem af8 (H : List (Nat × Tree)) (xs : List Int) : ze_ H (.l1 xs : AV) = some (.l1 xs : AV) := rfl
theorem ay6 (H : List (Nat × Tree)) (xs : List Int) : view H (.l1 xs : AV) = some (.l1 xs : AV) := rfl
theorem Kw_ (H : List (Nat × Tree)) (xs : List Int) : cellsA H (.l1 xs : AV) = some [(.l1 xs : AV)] := rfl
theorem ay7 (H : List (Nat × Tree)) (xs : List Int) : wh_ H (.l1 xs : AV) = true := rfl
theorem af9 (q : Nat → List Nat → Bool) (xs : List Int) : xp_ q (.l1 xs : AV) = (.l1 xs : AV) := rfl
theorem ag0 (H : List (Nat × Tree)) (xs : List (List Int)) : xI_ H (.l2 xs : AV) = some (.l2 xs : AV) := rfl
theorem ag1 (H : List (Nat × Tree)) (xs : List (List Int)) : ze_ H (.l2 xs : AV) = some (.l2 xs : AV) := rfl
theorem ay8 (H : List (Nat × Tree)) (xs : List (List Int)) : view H (.l2 xs : AV) = some (.l2 xs : AV) := rfl
theorem Kx_ (H : List (Nat × Tree)) (xs : List (List Int)) : cellsA H (.l2 xs : AV) = some [(.l2 xs : AV)] := rfl
theorem ay9 (H : List (Nat × Tree)) (xs : List (List Int)) : wh_ H (.l2 xs : AV) = true := rfl
theorem ag2 (q : Nat → List Nat → Bool) (xs : List (List Int)) : xp_ q (.l2 xs : AV) = (.l2 xs : AV) := rfl
theorem Ky_ (H : List (Nat × Tree)) (x : Value) : xI_ H (.val x : AV) = none := rfl
theorem Kz_ (H : List (Nat × Tree)) (x : Value) : ze_ H (.val x : AV) = none := rfl
theorem ag3 (H : List (Nat × Tree)) (x : Value) : view H (.val x : AV) = none := rfl
theorem RL_ (H : List (Nat × Tree)) (x : Value) : cellsA H (.val x : AV) = none := rfl
theorem ag4 (H : List (Nat × Tree)) (x : Value) : wh_ H (.val x : AV) = false := rfl
theorem KA_ (q : Nat → List Nat → Bool) (x : Value) : xp_ q (.val x : AV) = (.val x : AV) := rfl
theorem ag5 (H : List (Nat × Tree)) (xs : List (Int × Int)) (o : Option Nat) : xI_ H (.lp xs o : AV) = some (.lp xs o : AV) := rfl
theorem ag6 (H : List (Nat × Tree)) (xs : List (Int × Int)) (o : Option Nat) : ze_ H (.lp xs o : AV) = some (.lp xs o : AV) := rfl
theorem az0 (H : List (Nat × Tree)) (xs : List (Int × Int)) (o : Option Nat) : view H (.lp xs o : AV) = some (.lp xs o : AV) := rfl
theorem KB_ (H : List (Nat × Tree)) (xs : List (Int × Int)) (o : Option Nat) : cellsA H (.lp xs o : AV) = some [(.lp xs o : AV)] := rfl
theorem az1 (H : List (Nat × Tree)) (xs : List (Int × Int)) (o : Option Nat) : wh_ H (.lp xs o : AV) = true := rfl
theorem ag7 (q : Nat → List Nat → Bool) (xs : List (Int × Int)) (o : Option Nat) : xp_ q (.lp xs o : AV) = (.lp xs o : AV) := rfl
theorem ag8 (H : List (Nat × Tree)) (xs : List (List (List Int))) : xI_ H (.l3 xs : AV) = some (.l3 xs : AV) := rfl
theorem ag9 (H : List (Nat × Tree)) (xs : List (List (List Int))) : ze_ H (.l3 xs : AV) = some (.l3 xs : AV) := rfl
theorem az2 (H : List (Nat × Tree)) (xs : List (List (List Int))) : view H (.l3 xs : AV) = some (.l3 xs : AV) := rfl
theorem KC_ (H : List (Nat × Tree)) (xs : List (List (List Int))) : cellsA H (.l3 xs : AV) = some [(.l3 xs : AV)] := rfl
theorem az3 (H : List (Nat × Tree)) (xs : List (List (List Int))) : wh_ H (.l3 xs : AV) = true := rfl
theorem ah0 (q : Nat → List Nat → Bool) (xs : List (List (List Int))) : xp_ q (.l3 xs : AV) = (.l3 xs : AV) := rfl
theorem RM_ (q : Nat → List Nat → Bool) : xp_ q (.junk : AV) = .junk := rfl
theorem KD_ (q : Nat → List Nat → Bool) (id : Nat) (p : List Nat) : xp_ q (.ref id p) = if q id p then .junk else .ref id p := rfl
theorem KE_ (q : Nat → List Nat → Bool) (id : Nat) (p : List Nat) (lo hi : Nat) : xp_ q (.sub id p lo hi) = if q id p then .junk else .sub id p lo hi := rfl
theorem RN_ (q : Nat → List Nat → Bool) (id : Nat) (p : List Nat) (i : Nat) : xp_ q (.eref id p i) = if q id p then .junk else .eref id p i := rfl
theorem RO_ (q : Nat → List Nat → Bool) (id : Nat) (off : Nat) : xp_ q (.bptr id off) = if q id [] then .junk else .bptr id off := rfl
theorem ah1 (q : Nat → List Nat → Bool) (vs : List AV) : xp_ q (.lv vs) = .lv (xA_ q vs) := rfl
theorem KF_ (q : Nat → List Nat → Bool) (vs : List AV) : xp_ q (.agg vs) = .agg (xA_ q vs) := rfl
theorem KG_ (q : Nat → List Nat → Bool) (vs : List AV) : xp_ q (.tup vs) = .tup (xA_ q vs) := rfl
theorem ah2 (q : Nat → List Nat → Bool) (f : Nat) (vs : List AV) : xp_ q (.fn f vs) = .fn f (xA_ q vs) := rfl
theorem RP_ (q : Nat → List Nat → Bool) (f : Nat) (vs : List AV) : xp_ q (.cptr vs f) = .cptr (xA_ q vs) f := rfl
theorem RQ_ (q : Nat → List Nat → Bool) (i : Nat) (v : AV) : xp_ q (.eptr v i) = .eptr (xp_ q v) i := rfl
theorem RR_ (q : Nat → List Nat → Bool) (g : Bool) (v : AV) : xp_ q (.when g v) = .when g (xp_ q v) := rfl
theorem az4 (q : Nat → List Nat → Bool) : (∀ x, x4_ q (.t1 x) = .t1 x) ∧ (∀ x, x4_ q (.t2 x) = .t2 x) ∧ (∀ x, x4_ q (.t3 x) = .t3 x) ∧ (∀ x, x4_ q (.r2 x) = .r2 x) ∧ (∀ x, x4_ q (.r3 x) = .r3 x) ∧ (∀ x s, x4_ q (.a3 x s) = .a3 x s) ∧ (∀ x, x4_ q (.tp x) = .tp x) ∧ (∀ x L, x4_ q (.tq x L) = .tq x L) ∧ (∀ x i j u v, x4_ q (.mx x i j u v) = .mx x i j (xp_ q u) (xp_ q v)) ∧ (∀ vs, x4_ q (.lv vs) = .lv (xA_ q vs)) ∧ (∀ vs, x4_ q (.bx vs) = .bx (xA_ q vs)) :=
 ⟨fun _ => rfl, fun _ => rfl, fun _ => rfl, fun _ => rfl, fun _ => rfl, fun _ _ => rfl, fun _ => rfl, fun _ _ => rfl, fun _ _ _ _ _ => rfl, fun _ => rfl, fun _ => rfl⟩
theorem KH_ (H : List (Nat × Tree)) (id : Nat) (p : List Nat) : xI_ H (.ref id p) = ZK_ (find H id) p := rfl
theorem KI_ (H : List (Nat × Tree)) (id : Nat) (p : List Nat) (lo hi : Nat) : xI_ H (.sub id p lo hi) = (ZK_ (find H id) p).bind (yR_ lo hi) := rfl
theorem KJ_ (H : List (Nat × Tree)) (vs : List AV) : xI_ H (.agg vs) = (zJ_ H vs).map .agg := rfl
theorem KK_ (H : List (Nat × Tree)) (vs : List AV) : xI_ H (.tup vs) = (zJ_ H vs).map .tup := rfl
theorem KL_ (H : List (Nat × Tree)) (id : Nat) (p : List Nat) : ze_ H (.ref id p) = xI_ H (.ref id p) := rfl
theorem ah3 (H : List (Nat × Tree)) (id : Nat) (p : List Nat) : view H (.ref id p) = xI_ H (.ref id p) := rfl
theorem KM_ (H : List (Nat × Tree)) (id : Nat) (p : List Nat) (lo hi : Nat) : ze_ H (.sub id p lo hi) = xI_ H (.sub id p lo hi) := rfl
theorem ah4 (H : List (Nat × Tree)) (id : Nat) (p : List Nat) (lo hi : Nat) : view H (.sub id p lo hi) = xI_ H (.sub id p lo hi) := rfl
theorem KN_ (H : List (Nat × Tree)) (vs : List AV) : ze_ H (.agg vs) = xI_ H (.agg vs) := rfl
theorem ah5 (H : List (Nat × Tree)) (vs : List AV) : view H (.agg vs) = xI_ H (.agg vs) := rfl
theorem KO_ (H : List (Nat × Tree)) (vs : List AV) : ze_ H (.tup vs) = xI_ H (.tup vs) := rfl
theorem ah6 (H : List (Nat × Tree)) (vs : List AV) : view H (.tup vs) = xI_ H (.tup vs) := rfl
theorem RS_ (H : List (Nat × Tree)) (vs : List AV) (o : Nat) : ze_ H (.cptr vs o) = xI_ H (.cptr vs o) := rfl
theorem KP_ (H : List (Nat × Tree)) (vs : List AV) (o : Nat) : view H (.cptr vs o) = xI_ H (.cptr vs o) := rfl
theorem ah7 (H : List (Nat × Tree)) (vs : List AV) : ze_ H (.lv vs) = xI_ H (.lv vs) := rfl
theorem az5 (H : List (Nat × Tree)) (vs : List AV) : view H (.lv vs) = xI_ H (.lv vs) := rfl
theorem RT_ (H : List (Nat × Tree)) (id off : Nat) : ze_ H (.bptr id off) = match find H id with | some (.bx vs) => (zJ_ H vs).map (.cptr · off) | _ => none := rfl
theorem KQ_ (H : List (Nat × Tree)) (id off : Nat) : view H (.bptr id off) = ze_ H (.bptr id off) := rfl
theorem az6 (H : List (Nat × Tree)) (f : Nat) (caps : List AV) : view H (.fn f caps) = (wD_ H caps).map (.fn f) := rfl
theorem ah8 (H : List (Nat × Tree)) (vs : List AV) : xI_ H (.lv vs) = if isData (.lv vs) then some (.lv vs) else none := rfl
theorem ah9 (H : List (Nat × Tree)) (f : Nat) (vs : List AV) : xI_ H (.fn f vs) = if isData (.fn f vs) then some (.fn f vs) else none := rfl
theorem RU_ (H : List (Nat × Tree)) (f : Nat) (vs : List AV) : xI_ H (.cptr vs f) = if isData (.cptr vs f) then some (.cptr vs f) else none := rfl
theorem RV_ (H : List (Nat × Tree)) (vs : List AV) : cellsA H (.agg vs) = some vs := rfl
theorem RW_ (H : List (Nat × Tree)) (id : Nat) (p : List Nat) : cellsA H (.ref id p) = if ZN_ H id p then some [.ref id p] else none := rfl
theorem RX_ (H : List (Nat × Tree)) (id : Nat) (p : List Nat) (lo hi : Nat) : cellsA H (.sub id p lo hi) = some [.sub id p lo hi] := rfl
theorem KR_ (H : List (Nat × Tree)) (vs : List AV) : cellsA H (.lv vs) = some [.lv vs] := rfl
theorem KS_ (H : List (Nat × Tree)) (f : Nat) (vs : List AV) : cellsA H (.fn f vs) = some [.fn f vs] := rfl
theorem Tt_ (H : List (Nat × Tree)) (f : Nat) (vs : List AV) : cellsA H (.cptr vs f) = some [.cptr vs f] := rfl
theorem Tu_ (H : List (Nat × Tree)) (i : Nat) (v : AV) : cellsA H (.eptr v i) = some [.eptr v i] := rfl
theorem Tv_ (H : List (Nat × Tree)) (i f : Nat) : cellsA H (.bptr i f) = some [.bptr i f] := rfl
theorem ai0 (H : List (Nat × Tree)) (vs : List AV) : wh_ H (.agg vs) = false := rfl
theorem ai1 (H : List (Nat × Tree)) (id : Nat) (p : List Nat) : wh_ H (.ref id p) = ZN_ H id p := by unfold wh_ cellsA; cases h : ZN_ H id p <;> simp [h]
theorem ai2 (H : List (Nat × Tree)) (id : Nat) (p : List Nat) (lo hi : Nat) : wh_ H (.sub id p lo hi) = true := rfl
theorem az7 (H : List (Nat × Tree)) (vs : List AV) : wh_ H (.lv vs) = true := rfl
theorem az8 (H : List (Nat × Tree)) (f : Nat) (vs : List AV) : wh_ H (.fn f vs) = true := rfl
theorem KT_ (H : List (Nat × Tree)) (i f : Nat) : wh_ H (.bptr i f) = true := rfl
section
variable {P : Program} {ops : Array Oper} {n : Nat} {st : St} {K : St → Prop}
def Ws_ (n : Nat) : Option Nat → Prop
 | some d => d < n
 | none => True
theorem RY_ (n d : Nat) : Ws_ n (some d) = (d < n) := rfl
theorem RZ_ (n : Nat) : Ws_ n none = True := rfl
def za_ (P : Program) (ops : Array Oper) (n : Nat) (st : St) (d : Option Nat) (op : Op) (gd : Option (Nat × Bool)) (K : St → Prop) : Prop :=
 Ws_ n d ∧ match gd with
 | none => Yl (fun v => V9_ P st.H true (evF st.get) op v) (fun v => K ⟨Yl_ d v st.s, st.H⟩)
 | some (j, want) => match (ops[j]?).bind (·.dst) with
  | some e => match wc_ (st.get e) with
   | some (gg, b) => Yl (fun v => V9_ P st.H (gg && (b == want)) (evF st.get) op v) (fun v => K ⟨Yl_ d (.when (gg && (b == want)) v) st.s, st.H⟩)
   | none => False
  | none => False
@[congr] theorem az9 {d : Option Nat} {op : Op} {gd : Option (Nat × Bool)} {st2 : St} (h : st = st2) : za_ P ops n st d op gd K = za_ P ops n st2 d op gd K := by rw [h]
theorem xX_ {d : Option Nat} {op : Op} {ty : TypeId} {pos : String} {af : Array Edge} {gd : Option (Nat × Bool)} (hp : yw_ op = true) : Xj_ P ops n st ⟨d, op, ty, pos, af, gd⟩ K = za_ P ops n st d op gd K := by
 unfold Xj_ za_ gam
 simp only [hp, if_true]
 congr 1
 cases gd with
 | none => rfl
 | some g =>
  obtain ⟨j, want⟩ := g
  simp only
  cases (ops[j]?).bind (·.dst) with
  | none => rfl
  | some e =>
   simp only
   cases wc_ (st.get e) with
   | none => rfl
   | some q => rfl
def YY_ (P : Program) (n : Nat) (st : St) (d : Option Nat) (op : Op) (K : St → Prop) : Prop := Ws_ n d ∧ wx_ P st.H (evF st.get) op (fun v all subs H' => K ⟨Yl_ d v (x2_ all subs st.s), H'⟩)
@[congr] theorem aA0 {d : Option Nat} {op : Op} {st2 : St} (h : st = st2) : YY_ P n st d op K = YY_ P n st2 d op K := by rw [h]
theorem yW_ {d : Option Nat} {op : Op} {ty : TypeId} {pos : String} {af : Array Edge} (hp : yw_ op = false) : Xj_ P ops n st ⟨d, op, ty, pos, af, none⟩ K = YY_ P n st d op K := by
 unfold Xj_ YY_ gam
 simp only [hp, Bool.false_eq_true, if_false, true_and]
 rfl
theorem aA1 {d : Option Nat} {ty : TypeId} {pos : String} {af : Array Edge} {gd : Option (Nat × Bool)} (x : Operand) : ys_ P ops n st ⟨d, (.move x), ty, pos, af, gd⟩ K = za_ P ops n st d (.move x) gd K := xX_ rfl
theorem KU_ {d : Option Nat} {ty : TypeId} {pos : String} {af : Array Edge} {gd : Option (Nat × Bool)} (x : Operand) : ys_ P ops n st ⟨d, (.assign x), ty, pos, af, gd⟩ K = za_ P ops n st d (.assign x) gd K := xX_ rfl
theorem aA2 {d : Option Nat} {ty : TypeId} {pos : String} {af : Array Edge} {gd : Option (Nat × Bool)} (c a b : Operand) : ys_ P ops n st ⟨d, (.pick c a b), ty, pos, af, gd⟩ K = za_ P ops n st d (.pick c a b) gd K := xX_ rfl
theorem aA3 {d : Option Nat} {ty : TypeId} {pos : String} {af : Array Edge} {gd : Option (Nat × Bool)} (t : TypeId) (p : Operand) : ys_ P ops n st ⟨d, (.load t p), ty, pos, af, gd⟩ K = za_ P ops n st d (.load t p) gd K := xX_ rfl
theorem Up_ {d : Option Nat} {ty : TypeId} {pos : String} {af : Array Edge} {gd : Option (Nat × Bool)} (t : TypeId) (x i : Operand) : ys_ P ops n st ⟨d, (.indexAddr t x i), ty, pos, af, gd⟩ K = za_ P ops n st d (.indexAddr t x i) gd K := xX_ rfl
theorem Uq_ {d : Option Nat} {ty : TypeId} {pos : String} {af : Array Edge} {gd : Option (Nat × Bool)} (t : TypeId) (p : Operand) (f : Nat) : ys_ P ops n st ⟨d, (.fieldAddr t p f), ty, pos, af, gd⟩ K = za_ P ops n st d (.fieldAddr t p f) gd K := xX_ rfl
theorem aL8 {d : Option Nat} {ty : TypeId} {pos : String} {af : Array Edge} {gd : Option (Nat × Bool)} (t : TypeId) (parts : Array (Nat × Operand)) : ys_ P ops n st ⟨d, (.build t parts), ty, pos, af, gd⟩ K = za_ P ops n st d (.build t parts) gd K := xX_ rfl
theorem ai3 {d : Option Nat} {ty : TypeId} {pos : String} {af : Array Edge} {gd : Option (Nat × Bool)} (t : TypeId) (p : Operand) (f : Nat) : ys_ P ops n st ⟨d, (.field t p f), ty, pos, af, gd⟩ K = za_ P ops n st d (.field t p f) gd K := xX_ rfl
theorem ai4 {d : Option Nat} {ty : TypeId} {pos : String} {af : Array Edge} {gd : Option (Nat × Bool)} (b : BinOp) (t : TypeId) (x y : Operand) (t' : TypeId) : ys_ P ops n st ⟨d, (.binOp b t x y t'), ty, pos, af, gd⟩ K = za_ P ops n st d (.binOp b t x y t') gd K := xX_ rfl
theorem aA4 {d : Option Nat} {ty : TypeId} {pos : String} {af : Array Edge} {gd : Option (Nat × Bool)} (u : UnOp) (t : TypeId) (x : Operand) : ys_ P ops n st ⟨d, (.unOp u t x), ty, pos, af, gd⟩ K = za_ P ops n st d (.unOp u t x) gd K := xX_ rfl
theorem Tw_ {d : Option Nat} {ty : TypeId} {pos : String} {af : Array Edge} {gd : Option (Nat × Bool)} (x : Operand) : ys_ P ops n st ⟨d, (.nilCheck x), ty, pos, af, gd⟩ K = za_ P ops n st d (.nilCheck x) gd K := xX_ rfl
theorem R0_ {d : Option Nat} {ty : TypeId} {pos : String} {af : Array Edge} {gd : Option (Nat × Bool)} (s d' : TypeId) (x : Operand) : ys_ P ops n st ⟨d, (.convert s d' x), ty, pos, af, gd⟩ K = za_ P ops n st d (.convert s d' x) gd K := xX_ rfl
theorem R1_ {d : Option Nat} {ty : TypeId} {pos : String} {af : Array Edge} {gd : Option (Nat × Bool)} (x : Operand) (i : Nat) : ys_ P ops n st ⟨d, (.extract x i), ty, pos, af, gd⟩ K = za_ P ops n st d (.extract x i) gd K := xX_ rfl
theorem ai5 {d : Option Nat} {ty : TypeId} {pos : String} {af : Array Edge} {gd : Option (Nat × Bool)} (t : TypeId) (x : Operand) (lo hi mx : Option Operand) : ys_ P ops n st ⟨d, (.slice t x lo hi mx), ty, pos, af, gd⟩ K = za_ P ops n st d (.slice t x lo hi mx) gd K := xX_ rfl
theorem Tx_ {d : Option Nat} {ty : TypeId} {pos : String} {af : Array Edge} {gd : Option (Nat × Bool)} (g : Fn) (first : Array Operand) (caps : Array Operand) : ys_ P ops n st ⟨d, (.makeFunc g first caps), ty, pos, af, gd⟩ K = za_ P ops n st d (.makeFunc g first caps) gd K := xX_ rfl
theorem aL9 {d : Option Nat} {ty : TypeId} {pos : String} {af : Array Edge} {gd : Option (Nat × Bool)} (args : Array Operand) (ts : Array TypeId) : ys_ P ops n st ⟨d, (.call ⟨.builtin .len, args, ts⟩), ty, pos, af, gd⟩ K = za_ P ops n st d (.call ⟨.builtin .len, args, ts⟩) gd K := xX_ rfl
theorem aM0 {d : Option Nat} {ty : TypeId} {pos : String} {af : Array Edge} {gd : Option (Nat × Bool)} (args : Array Operand) (ts : Array TypeId) : ys_ P ops n st ⟨d, (.call ⟨.builtin .cap, args, ts⟩), ty, pos, af, gd⟩ K = za_ P ops n st d (.call ⟨.builtin .cap, args, ts⟩) gd K := xX_ rfl
theorem aM1 {d : Option Nat} {ty : TypeId} {pos : String} {af : Array Edge} {gd : Option (Nat × Bool)} (args : Array Operand) (ts : Array TypeId) : ys_ P ops n st ⟨d, (.call ⟨.builtin .max, args, ts⟩), ty, pos, af, gd⟩ K = za_ P ops n st d (.call ⟨.builtin .max, args, ts⟩) gd K := xX_ rfl
theorem aM2 {d : Option Nat} {ty : TypeId} {pos : String} {af : Array Edge} {gd : Option (Nat × Bool)} (args : Array Operand) (ts : Array TypeId) : ys_ P ops n st ⟨d, (.call ⟨.builtin .min, args, ts⟩), ty, pos, af, gd⟩ K = za_ P ops n st d (.call ⟨.builtin .min, args, ts⟩) gd K := xX_ rfl
theorem ai6 {d : Option Nat} {ty : TypeId} {pos : String} {af : Array Edge} (t : TypeId) : ys_ P ops n st ⟨d, (.alloc t), ty, pos, af, none⟩ K = YY_ P n st d (.alloc t) K := yW_ (ops := ops) rfl
theorem aM3 {d : Option Nat} {ty : TypeId} {pos : String} {af : Array Edge} (t : TypeId) (x : Operand) : ys_ P ops n st ⟨d, (.box t x), ty, pos, af, none⟩ K = YY_ P n st d (.box t x) K := yW_ (ops := ops) rfl
theorem ai7 {d : Option Nat} {ty : TypeId} {pos : String} {af : Array Edge} (t : TypeId) (len : Nat) (parts : Array (Nat × Operand)) : ys_ P ops n st ⟨d, (.buildSlice t len parts), ty, pos, af, none⟩ K = YY_ P n st d (.buildSlice t len parts) K := yW_ (ops := ops) rfl
theorem aA5 {d : Option Nat} {ty : TypeId} {pos : String} {af : Array Edge} (t : TypeId) (l c : Operand) : ys_ P ops n st ⟨d, (.makeSlice t l c), ty, pos, af, none⟩ K = YY_ P n st d (.makeSlice t l c) K := yW_ (ops := ops) rfl
theorem ai8 {d : Option Nat} {ty : TypeId} {pos : String} {af : Array Edge} (t : TypeId) (p v : Operand) : ys_ P ops n st ⟨d, (.store t p v), ty, pos, af, none⟩ K = YY_ P n st d (.store t p v) K := yW_ (ops := ops) rfl
theorem KV_ {d : Option Nat} {ty : TypeId} {pos : String} {af : Array Edge} (args : Array Operand) (ts : Array TypeId) : ys_ P ops n st ⟨d, (.call ⟨.builtin .append, args, ts⟩), ty, pos, af, none⟩ K = YY_ P n st d (.call ⟨.builtin .append, args, ts⟩) K := yW_ (ops := ops) rfl
theorem aA6 {d : Option Nat} {ty : TypeId} {pos : String} {af : Array Edge} (args : Array Operand) (ts : Array TypeId) : ys_ P ops n st ⟨d, (.call ⟨.builtin .copy, args, ts⟩), ty, pos, af, none⟩ K = YY_ P n st d (.call ⟨.builtin .copy, args, ts⟩) K := yW_ (ops := ops) rfl
theorem ai9 {d : Option Nat} {ty : TypeId} {pos : String} {af : Array Edge} {gd : Nat × Bool} (g : Operand) (args : Array Operand) (ts : Array TypeId) : ys_ P ops n st ⟨d, .call ⟨.value g, args, ts⟩, ty, pos, af, some gd⟩ K = za_ P ops n st d (.call ⟨.value g, args, ts⟩) (some gd) K := xX_ rfl
end
def ldB (k : TK) (b : Option Tree) (off : Nat) (v : AV) : Prop :=
 match b with
 | some (.bx vs) => if k.one then off < vs.length ∧ v = vs.getD off .junk else (match k with
  | .st _ sz => off + sz ≤ vs.length ∧ v = .agg ((vs.drop off).take sz)
  | _ => False)
 | _ => False
theorem aM4 (k : TK) (vs : List AV) (off : Nat) (v : AV) : ldB k (some (.bx vs)) off v = (if k.one then off < vs.length ∧ v = vs.getD off .junk else (match k with
  | .st _ sz => off + sz ≤ vs.length ∧ v = .agg ((vs.drop off).take sz)
  | _ => False)) := rfl
theorem aM5 (e : Nat) : TK.one (.sp e) = true := rfl
theorem aM6 (n : Nat) : TK.one (.ar n) = false := rfl
theorem aM7 (e : Nat) : TK.one (.sl e) = true := rfl
theorem aA7 : TK.one .int = true := rfl
theorem aA8 : TK.one .flt = true := rfl
theorem aM8 (k : IntKind) : TK.one (.ik k) = true := rfl
theorem aj0 : TK.one .bool = true := rfl
theorem aA9 : TK.one .str = true := rfl
theorem one_cell : TK.one .cell = true := rfl
theorem aM9 (fs : List (Nat × Nat)) (sz : Nat) : TK.one (.st fs sz) = false := rfl
section
variable {P : Program} {H : List (Nat × Tree)}
theorem aB0 (t : TypeId) (id off : Nat) (v : AV) : wy_ P H t (.bptr id off) v = ldB (xz_ P t) (find H id) off v := by
 unfold wy_
 cases xz_ P t <;> (cases hf : find H id with
  | none => simp [hf, ldB]
  | some t => cases t <;> simp [hf, TK.one, ldB])
theorem aB1 (t : TypeId) (vs : List AV) (off : Nat) (v : AV) : wy_ P H t (.cptr vs off) v = ldB (xz_ P t) (some (.bx vs)) off v := by
 unfold wy_ ldB
 cases xz_ P t <;> first | rfl | simp [TK.one]
def ldE (k : TK) (e : Option (Nat × (Nat → AV))) (i : Nat) (v : AV) : Prop := k.one = true ∧ match e with
 | some (_, f) => v = f i
 | none => False
theorem aj1 (k : TK) (n : Nat) (f : Nat → AV) (i : Nat) (v : AV) : ldE k (some (n, f)) i v = (k.one = true ∧ v = f i) := rfl
theorem aB2 (t : TypeId) (av : AV) (i : Nat) (v : AV) : wy_ P H t (.eptr av i) v = ldE (xz_ P t) (elemsOf av) i v := by
 unfold wy_ ldE
 cases xz_ P t <;> (cases he : elemsOf av with
  | none => simp [he, TK.one]
  | some q => simp [he, TK.one])
theorem aB3 (t : TypeId) (id : Nat) (p : List Nat) (i : Nat) (v : AV) : wy_ P H t (.eref id p i) v = ldE (xz_ P t) (x0_ H id p) i v := by
 unfold wy_ ldE
 cases xz_ P t <;> (cases he : x0_ H id p with
  | none => simp [he, TK.one]
  | some q => simp [he, TK.one])
def TK.isSl : TK → Bool
 | .sl _ => true
 | _ => false
theorem aB4 (e : Nat) : TK.isSl (.sl e) = true := rfl
def ixE (k : TK) (γ : Bool) (e : Option (Nat × (Nat → AV))) (i : Int) (r v : AV) : Prop := k.isSl = true ∧ match e with
 | some (n, _) => (γ = true → 0 ≤ i ∧ i < n) ∧ v = r
 | none => False
theorem aj2 (k : TK) (γ : Bool) (n : Nat) (f : Nat → AV) (i : Int) (r v : AV) : ixE k γ (some (n, f)) i r v = (k.isSl = true ∧ (γ = true → 0 ≤ i ∧ i < n) ∧ v = r) := rfl
theorem be0 (γ : Bool) (t : TypeId) (xs : List Int) (i : Int) (v : AV) : xT_ P H γ t (.l1 xs) (.int i) v = ixE (xz_ P t) γ (some (xs.length, fun i => .int (xs.getD i 0))) i (.eptr (.l1 xs) i.toNat) v := by
 unfold xT_ ixE; cases xz_ P t <;> simp [TK.isSl, elemsOf]
theorem be1 (γ : Bool) (t : TypeId) (xs : List (List Int)) (i : Int) (v : AV) : xT_ P H γ t (.l2 xs) (.int i) v = ixE (xz_ P t) γ (some (xs.length, fun i => .l1 (xs.getD i []))) i (.eptr (.l2 xs) i.toNat) v := by
 unfold xT_ ixE; cases xz_ P t <;> simp [TK.isSl, elemsOf]
theorem be3 (γ : Bool) (t : TypeId) (xs : List (List (List Int))) (i : Int) (v : AV) : xT_ P H γ t (.l3 xs) (.int i) v = ixE (xz_ P t) γ (some (xs.length, fun i => .l2 (xs.getD i []))) i (.eptr (.l3 xs) i.toNat) v := by
 unfold xT_ ixE; cases xz_ P t <;> simp [TK.isSl, elemsOf]
theorem be5 (γ : Bool) (t : TypeId) (xs : List AV) (i : Int) (v : AV) : xT_ P H γ t (.lv xs) (.int i) v = ixE (xz_ P t) γ (some (xs.length, fun i => xs.getD i .junk)) i (.eptr (.lv xs) i.toNat) v := by
 unfold xT_ ixE; cases xz_ P t <;> simp [TK.isSl, elemsOf]
theorem aN0 (γ : Bool) (t : TypeId) (id : Nat) (p : List Nat) (i : Int) (v : AV) : xT_ P H γ t (.ref id p) (.int i) v = ixE (xz_ P t) γ (x0_ H id p) i (.eref id p i.toNat) v := by
 unfold xT_ ixE; cases xz_ P t <;> (cases he : x0_ H id p with | none => simp [he, TK.isSl] | some q => simp [he, TK.isSl])
theorem aN1 (γ : Bool) (t : TypeId) (id : Nat) (p : List Nat) (lo hi : Nat) (i : Int) (v : AV) : xT_ P H γ t (.sub id p lo hi) (.int i) v = (match xz_ P t with
 | .sl _ => (match x0_ H id p with
  | some _ => (γ = true → 0 ≤ i ∧ i < (hi : Int) - lo) ∧ v = .eref id p (lo + i.toNat)
  | none => False)
 | _ => False) := by
 unfold xT_; cases xz_ P t <;> rfl
def TK.isSp : TK → Bool
 | .sp _ => true
 | _ => false
theorem aB5 (e : Nat) : TK.isSp (.sp e) = true := rfl
def TK.isAr (n : Nat) : TK → Bool
 | .ar m => m == n
 | _ => false
def TK.arLen : TK → Nat
 | .ar m => m
 | _ => 0
theorem aj3 (n : Nat) : TK.arLen (.ar n) = n := rfl
theorem aB6 (m n : Nat) : TK.isAr n (.ar m) = (m == n) := rfl
theorem be6 (γ : Bool) (t : TypeId) (ps : List (Int × Int)) (i : Int) (v : AV) : xT_ P H γ t (.lp ps none) (.int i) v = ((xz_ P t).isSp = true ∧ (γ = true → 0 ≤ i ∧ i < ps.length) ∧ v = .lp ps (some i.toNat)) := by
 unfold xT_; cases xz_ P t <;> simp [TK.isSp, elemsOf]
theorem be7 (γ : Bool) (t : TypeId) (id off : Nat) (i : Int) (v : AV) : xT_ P H γ t (.bptr id off) (.int i) v = (TK.isAr (TK.arLen (xz_ P t)) (xz_ P t) = true ∧ (γ = true → 0 ≤ i ∧ i < (TK.arLen (xz_ P t) : Nat)) ∧ v = .bptr id (off + i.toNat)) := by
 unfold xT_; cases xz_ P t <;> simp [TK.isAr, TK.arLen, elemsOf]
theorem aN2 (t : TypeId) (ps : List (Int × Int)) (v : AV) : Y9_ P H t (.lp ps none) v = ((xz_ P t).isSp = true ∧ v = .int ps.length) := by unfold Y9_; cases xz_ P t <;> simp [TK.isSp, elemsOf]
theorem be8 (t : TypeId) (ps : List (Int × Int)) (i : Nat) (v : AV) : wy_ P H t (.lp ps (some i)) v = (TK.isAr 2 (xz_ P t) = true ∧ v = .agg [.int (ps.getD i (0, 0)).1, .int (ps.getD i (0, 0)).2]) := by
 unfold wy_; cases xz_ P t <;> simp [TK.isAr]
theorem aN3 (t : TypeId) (xs : List Int) (v : AV) : Y9_ P H t (.l1 xs) v = ((xz_ P t).isSl = true ∧ v = .int xs.length) := by unfold Y9_; cases xz_ P t <;> simp [TK.isSl, elemsOf]
theorem aN4 (t : TypeId) (xs : List (List Int)) (v : AV) : Y9_ P H t (.l2 xs) v = ((xz_ P t).isSl = true ∧ v = .int xs.length) := by unfold Y9_; cases xz_ P t <;> simp [TK.isSl, elemsOf]
theorem aN5 (t : TypeId) (xs : List (List (List Int))) (v : AV) : Y9_ P H t (.l3 xs) v = ((xz_ P t).isSl = true ∧ v = .int xs.length) := by unfold Y9_; cases xz_ P t <;> simp [TK.isSl, elemsOf]
theorem aN6 (t : TypeId) (xs : List AV) (v : AV) : Y9_ P H t (.lv xs) v = ((xz_ P t).isSl = true ∧ v = .int xs.length) := by unfold Y9_; cases xz_ P t <;> simp [TK.isSl, elemsOf]
theorem len_nil (t : TypeId) (v : AV) : Y9_ P H t .nil v = ((xz_ P t).isSl = true ∧ v = .int 0) := by unfold Y9_; cases xz_ P t <;> simp [TK.isSl]
theorem aB7 (t : TypeId) (id : Nat) (p : List Nat) (lo hi : Nat) (v : AV) : Y9_ P H t (.sub id p lo hi) v = ((xz_ P t).isSl = true ∧ v = .int ((hi - lo : Nat))) := by unfold Y9_; cases xz_ P t <;> simp [TK.isSl]
theorem aB8 (t : TypeId) (id : Nat) (p : List Nat) (v : AV) : Y9_ P H t (.ref id p) v = ((xz_ P t).isSl = true ∧ match x0_ H id p with
 | some (n, _) => v = .int n
 | none => False) := by unfold Y9_; cases xz_ P t <;> (cases he : x0_ H id p with | none => simp [he, TK.isSl] | some q => simp [he, TK.isSl])
theorem aB9 (t : TypeId) (s : ByteArray) (v : AV) : Y9_ P H t (.str s) v = (match xz_ P t with
 | .str => v = .int s.size
 | _ => False) := by unfold Y9_; cases xz_ P t <;> rfl
def aN7 (k : TK) (f : Nat) (r : Nat → AV) (v : AV) : Prop :=
 match k with
 | .st fs _ => match fs[f]? with
  | some (o, sz) => sz ≠ 0 ∧ v = r o
  | none => False
 | _ => False
theorem aC0 (fs : List (Nat × Nat)) (sz f : Nat) (r : Nat → AV) (v : AV) : aN7 (.st fs sz) f r v = (match fs[f]? with
  | some (o, sz) => sz ≠ 0 ∧ v = r o
  | none => False) := rfl
theorem aC1 (t : TypeId) (id off f : Nat) (v : AV) : zf_ P t (.bptr id off) f v = aN7 (xz_ P t) f (fun o => .bptr id (off + o)) v := by unfold zf_ aN7; cases xz_ P t <;> rfl
theorem aC2 (t : TypeId) (vs : List AV) (off f : Nat) (v : AV) : zf_ P t (.cptr vs off) f v = aN7 (xz_ P t) f (fun o => .cptr vs (off + o)) v := by unfold zf_ aN7; cases xz_ P t <;> rfl
def V7_ (γ : Bool) (b : BinOp) (p q : Int) (v : AV) : Prop :=
 match b with
  | .and => v = .int (bg5 p q)
  | .or => v = .int (orI p q)
  | .xor => v = .int (bg6 p q)
  | .andNot => v = .int (anI p q)
  | .shl => (γ = true → 0 ≤ q) ∧ v = .int (aT3 p q)
  | .shr => (γ = true → 0 ≤ q) ∧ v = .int (aF2 p q)
  | .add => (γ = true → InR (p + q)) ∧ v = .int (p + q)
  | .sub => (γ = true → InR (p - q)) ∧ v = .int (p - q)
  | .mul => (γ = true → InR (p * q)) ∧ v = .int (p * q)
  | .quo => (γ = true → q ≠ 0 ∧ InR (p.tdiv q)) ∧ v = .int (p.tdiv q)
  | .rem => (γ = true → q ≠ 0 ∧ InR (p.tmod q)) ∧ v = .int (p.tmod q)
  | .eql => v = .bool (decide (p = q))
  | .neq => v = .bool (!decide (p = q))
  | .lss => v = .bool (decide (p < q))
  | .leq => v = .bool (decide (p ≤ q))
  | .gtr => v = .bool (decide (q < p))
  | .geq => v = .bool (decide (q ≤ p))
theorem aC3 (γ : Bool) (b : BinOp) (t : TypeId) (p q : Int) (v : AV) : Xy_ P H γ b t (.int p) (.int q) v = V7_ γ b p q v := rfl
theorem aN8 (γ : Bool) (p q : Int) (v : AV) : V7_ γ .add p q v = ((γ = true → InR (p + q)) ∧ v = .int (p + q)) := rfl
theorem aN9 (γ : Bool) (p q : Int) (v : AV) : V7_ γ .sub p q v = ((γ = true → InR (p - q)) ∧ v = .int (p - q)) := rfl
theorem aO0 (γ : Bool) (p q : Int) (v : AV) : V7_ γ .mul p q v = ((γ = true → InR (p * q)) ∧ v = .int (p * q)) := rfl
theorem aO1 (γ : Bool) (p q : Int) (v : AV) : V7_ γ .quo p q v = ((γ = true → q ≠ 0 ∧ InR (p.tdiv q)) ∧ v = .int (p.tdiv q)) := rfl
theorem aO2 (γ : Bool) (p q : Int) (v : AV) : V7_ γ .rem p q v = ((γ = true → q ≠ 0 ∧ InR (p.tmod q)) ∧ v = .int (p.tmod q)) := rfl
theorem aO3 (γ : Bool) (p q : Int) (v : AV) : V7_ γ .and p q v = (v = .int (bg5 p q)) := rfl
theorem be9 (γ : Bool) (p q : Int) (v : AV) : V7_ γ .or p q v = (v = .int (orI p q)) := rfl
theorem aO4 (γ : Bool) (p q : Int) (v : AV) : V7_ γ .xor p q v = (v = .int (bg6 p q)) := rfl
theorem bf0 (γ : Bool) (p q : Int) (v : AV) : V7_ γ .andNot p q v = (v = .int (anI p q)) := rfl
theorem aO5 (γ : Bool) (p q : Int) (v : AV) : V7_ γ .shl p q v = ((γ = true → 0 ≤ q) ∧ v = .int (aT3 p q)) := rfl
theorem aO6 (γ : Bool) (p q : Int) (v : AV) : V7_ γ .shr p q v = ((γ = true → 0 ≤ q) ∧ v = .int (aF2 p q)) := rfl
theorem aO7 (γ : Bool) (t : TypeId) (p q : Int) (k : IntKind) (v : AV) : Xy_ P H γ .shl t (.int p) (.ik k q) v = ((γ = true → 0 ≤ q) ∧ v = .int (aT3 p q)) := rfl
theorem aO8 (γ : Bool) (t : TypeId) (p q : Int) (k : IntKind) (v : AV) : Xy_ P H γ .shr t (.int p) (.ik k q) v = ((γ = true → 0 ≤ q) ∧ v = .int (aF2 p q)) := rfl
theorem aO9 (γ : Bool) (p q : Int) (v : AV) : V7_ γ .eql p q v = (v = .bool (decide (p = q))) := rfl
theorem aP0 (γ : Bool) (p q : Int) (v : AV) : V7_ γ .neq p q v = (v = .bool (!decide (p = q))) := rfl
theorem aP1 (γ : Bool) (p q : Int) (v : AV) : V7_ γ .lss p q v = (v = .bool (decide (p < q))) := rfl
theorem aP2 (γ : Bool) (p q : Int) (v : AV) : V7_ γ .leq p q v = (v = .bool (decide (p ≤ q))) := rfl
theorem aP3 (γ : Bool) (p q : Int) (v : AV) : V7_ γ .gtr p q v = (v = .bool (decide (q < p))) := rfl
theorem aP4 (γ : Bool) (p q : Int) (v : AV) : V7_ γ .geq p q v = (v = .bool (decide (q ≤ p))) := rfl
def Sw_ (γ : Bool) (k : IntKind) (b : BinOp) (p q : Int) (v : AV) : Prop :=
 match b with
  | .add => v = .ik k (k.wrap (p + q))
  | .sub => v = .ik k (k.wrap (p - q))
  | .mul => v = .ik k (k.wrap (p * q))
  | .and => v = .ik k (k.wrap (BitVec.ofInt k.bits p &&& BitVec.ofInt k.bits q).toNat)
  | .or => v = .ik k (k.wrap (BitVec.ofInt k.bits p ||| BitVec.ofInt k.bits q).toNat)
  | .andNot => v = .ik k (k.wrap (BitVec.ofInt k.bits p &&& ~~~ BitVec.ofInt k.bits q).toNat)
  | .eql => v = .bool (decide (p = q))
  | .neq => v = .bool (!decide (p = q))
  | .shr => (γ = true → 0 ≤ q) ∧ v = .ik k (p.fdiv (2 ^ min q.toNat k.bits))
  | .lss => v = .bool (decide (p < q))
  | .leq => v = .bool (decide (p ≤ q))
  | .gtr => v = .bool (decide (q < p))
  | .geq => v = .bool (decide (q ≤ p))
  | _ => False
theorem aP5 (γ : Bool) (b : BinOp) (t : TypeId) (k k' : IntKind) (p q : Int) (v : AV) : Xy_ P H γ b t (.ik k p) (.ik k' q) v = (k = k' ∧ Sw_ γ k b p q v) := rfl
theorem bf1 (γ : Bool) (k : IntKind) (p q : Int) (v : AV) : Sw_ γ k .or p q v = (v = .ik k (k.wrap (BitVec.ofInt k.bits p ||| BitVec.ofInt k.bits q).toNat)) := rfl
theorem bf2 (γ : Bool) (k : IntKind) (p q : Int) (v : AV) : Sw_ γ k .andNot p q v = (v = .ik k (k.wrap (BitVec.ofInt k.bits p &&& ~~~ BitVec.ofInt k.bits q).toNat)) := rfl
theorem aP6 (γ : Bool) (k : IntKind) (p q : Int) (v : AV) : Sw_ γ k .eql p q v = (v = .bool (decide (p = q))) := rfl
theorem aP7 (γ : Bool) (k : IntKind) (p q : Int) (v : AV) : Sw_ γ k .neq p q v = (v = .bool (!decide (p = q))) := rfl
theorem aC4 (γ : Bool) (b : BinOp) (t : TypeId) (xs ys : List AV) (v : AV) : Xy_ P H γ b t (.agg xs) (.agg ys) v = Jb_ P b t (Y0_ xs) (Y0_ ys) v := rfl
theorem aj6 (t : TypeId) (a c : List Int) (v : AV) : Jb_ P .eql t (some a) (some c) v = (a.length = c.length ∧ stI P t a.length = true ∧ v = .bool (decide (a = c))) := rfl
theorem aj7 (t : TypeId) (a c : List Int) (v : AV) : Jb_ P .neq t (some a) (some c) v = (a.length = c.length ∧ stI P t a.length = true ∧ v = .bool (!decide (a = c))) := rfl
theorem KW_ : Y0_ [] = some [] := rfl
theorem R2_ (n : Int) (as : List AV) : Y0_ (.int n :: as) = (Y0_ as).map (n :: ·) := rfl
theorem aP8 (γ : Bool) (t : TypeId) (p q : Nat) (v : AV) : Xy_ P H γ .add t (.flt p) (.flt q) v = ((γ = true → YN_ .add p q) ∧ v = .flt (an5 .add p q)) := rfl
theorem aP9 (γ : Bool) (t : TypeId) (p q : Nat) (v : AV) : Xy_ P H γ .sub t (.flt p) (.flt q) v = ((γ = true → YN_ .sub p q) ∧ v = .flt (an5 .sub p q)) := rfl
theorem aQ0 (γ : Bool) (t : TypeId) (p q : Nat) (v : AV) : Xy_ P H γ .mul t (.flt p) (.flt q) v = ((γ = true → YN_ .mul p q) ∧ v = .flt (an5 .mul p q)) := rfl
theorem aQ1 (γ : Bool) (t : TypeId) (p q : Nat) (v : AV) : Xy_ P H γ .quo t (.flt p) (.flt q) v = ((γ = true → YN_ .quo p q) ∧ v = .flt (an5 .quo p q)) := rfl
theorem aQ2 (γ : Bool) (k : IntKind) (p q : Int) (v : AV) : Sw_ γ k .add p q v = (v = .ik k (k.wrap (p + q))) := rfl
theorem aQ3 (γ : Bool) (k : IntKind) (p q : Int) (v : AV) : Sw_ γ k .sub p q v = (v = .ik k (k.wrap (p - q))) := rfl
theorem aQ4 (γ : Bool) (k : IntKind) (p q : Int) (v : AV) : Sw_ γ k .mul p q v = (v = .ik k (k.wrap (p * q))) := rfl
def bi6 (k : IntKind) (p q : Int) : Int := k.wrap (BitVec.ofInt k.bits p &&& BitVec.ofInt k.bits q).toNat
theorem aC5 (γ : Bool) (k : IntKind) (p q : Int) (v : AV) : Sw_ γ k .and p q v = (v = .ik k (bi6 k p q)) := rfl
theorem aQ5 (γ : Bool) (k : IntKind) (p q : Int) (v : AV) : Sw_ γ k .shr p q v = ((γ = true → 0 ≤ q) ∧ v = .ik k (p.fdiv (2 ^ min q.toNat k.bits))) := rfl
theorem aQ6 (γ : Bool) (k : IntKind) (p q : Int) (v : AV) : Sw_ γ k .lss p q v = (v = .bool (decide (p < q))) := rfl
theorem aQ7 (γ : Bool) (k : IntKind) (p q : Int) (v : AV) : Sw_ γ k .leq p q v = (v = .bool (decide (p ≤ q))) := rfl
theorem aQ8 (γ : Bool) (k : IntKind) (p q : Int) (v : AV) : Sw_ γ k .gtr p q v = (v = .bool (decide (q < p))) := rfl
theorem aQ9 (γ : Bool) (k : IntKind) (p q : Int) (v : AV) : Sw_ γ k .geq p q v = (v = .bool (decide (q ≤ p))) := rfl
theorem wrap_u64 (n : Int) : IntKind.wrap .u64 n = n % 18446744073709551616 := by simp [IntKind.wrap, IntKind.signed, IntKind.bits]
theorem aj8 : IntKind.bits .u64 = 64 := rfl
def ab7 (k : TK) (γ : Bool) (b : BinOp) (e : Option (Nat × (Nat → AV))) (v : AV) : Prop := k.isSl = true ∧ match e with
 | some (n, _) => (match b with
  | .eql => (γ = true → 0 < n) ∧ v = .bool false
  | .neq => (γ = true → 0 < n) ∧ v = .bool true
  | _ => False)
 | none => False
theorem aj9 (k : TK) (γ : Bool) (n : Nat) (f : Nat → AV) (v : AV) : ab7 k γ .eql (some (n, f)) v = (k.isSl = true ∧ (γ = true → 0 < n) ∧ v = .bool false) := rfl
theorem ak0 (k : TK) (γ : Bool) (n : Nat) (f : Nat → AV) (v : AV) : ab7 k γ .neq (some (n, f)) v = (k.isSl = true ∧ (γ = true → 0 < n) ∧ v = .bool true) := rfl
theorem aR0 (γ : Bool) (b : BinOp) (t : TypeId) (xs : List Int) (v : AV) : Xy_ P H γ b t (.l1 xs) .nil v = ab7 (xz_ P t) γ b (some (xs.length, fun i => .int (xs.getD i 0))) v := by
 unfold Xy_ ab7; cases xz_ P t <;> cases b <;> simp [TK.isSl, elemsOf]
theorem aR1 (γ : Bool) (b : BinOp) (t : TypeId) (xs : List (List Int)) (v : AV) : Xy_ P H γ b t (.l2 xs) .nil v = ab7 (xz_ P t) γ b (some (xs.length, fun i => .l1 (xs.getD i []))) v := by
 unfold Xy_ ab7; cases xz_ P t <;> cases b <;> simp [TK.isSl, elemsOf]
theorem aR2 (γ : Bool) (b : BinOp) (t : TypeId) (xs : List (List (List Int))) (v : AV) : Xy_ P H γ b t (.l3 xs) .nil v = ab7 (xz_ P t) γ b (some (xs.length, fun i => .l2 (xs.getD i []))) v := by
 unfold Xy_ ab7; cases xz_ P t <;> cases b <;> simp [TK.isSl, elemsOf]
theorem aC6 (γ : Bool) (b : BinOp) (t : TypeId) (id : Nat) (p : List Nat) (v : AV) : Xy_ P H γ b t (.ref id p) .nil v = ab7 (xz_ P t) γ b (x0_ H id p) v := by
 unfold Xy_ ab7; cases xz_ P t <;> (cases he : x0_ H id p with | none => cases b <;> simp [he, TK.isSl] | some q => cases b <;> simp [he, TK.isSl])
theorem Ty_ (γ : Bool) (t : TypeId) (v : AV) : Xy_ P H γ .eql t .nil .nil v = ((xz_ P t).isSl = true ∧ v = .bool true) := by
 unfold Xy_; cases xz_ P t <;> simp [TK.isSl]
theorem Tz_ (γ : Bool) (t : TypeId) (v : AV) : Xy_ P H γ .neq t .nil .nil v = ((xz_ P t).isSl = true ∧ v = .bool false) := by
 unfold Xy_; cases xz_ P t <;> simp [TK.isSl]
theorem aC7 (γ : Bool) (b : BinOp) (t : TypeId) (p q : ByteArray) (v : AV) : Xy_ P H γ b t (.str p) (.str q) v = (match b with
  | .add => (γ = true → p.size + q.size ≤ 1099511627776) ∧ v = .str (p ++ q)
  | .eql => v = .bool (p.toList == q.toList)
  | .neq => v = .bool (!(p.toList == q.toList))
  | _ => False) := rfl
theorem ak1 (γ : Bool) (b : BinOp) (t : TypeId) (p q : Bool) (v : AV) : Xy_ P H γ b t (.bool p) (.bool q) v = (match xz_ P t with
  | .bool => (match b with
   | .eql => v = .bool (p == q)
   | .neq => v = .bool (!(p == q))
   | _ => False)
  | _ => False) := by unfold Xy_; cases xz_ P t <;> cases b <;> rfl
theorem aR3 (γ : Bool) (b : Bool) (v : AV) : AUn γ .not (.bool b) v = (v = .bool (!b)) := rfl
theorem aR4 (γ : Bool) (n : Int) (v : AV) : AUn γ .neg (.int n) v = ((γ = true → InR (0 - n)) ∧ v = .int (0 - n)) := rfl
theorem TA_ (b : Bool) : wc_ (.bool b) = some (true, b) := rfl
theorem TB_ (g b : Bool) : wc_ (.when g (.bool b)) = some (g, b) := rfl
end
end Go.Aw
namespace Go.Aw
open Go.RowKit
def y3_ (b : Bool) (P : Program) (ops : Array Oper) (n : Nat) (l : List Oper) (st : St) (K : St → Prop) : Prop :=
 match b with
 | true => as5 P ops n l st K
 | false => am5 P ops n l st K
def wrp (w : Option Bool) (v : AV) : AV :=
 match w with
 | none => v
 | some γ => .when γ v
theorem ak2 (v : AV) : wrp none v = v := rfl
theorem ak3 (γ : Bool) (v : AV) : wrp (some γ) v = .when γ v := rfl
def YR (b : Bool) (P : Program) (ops : Array Oper) (n : Nat) (r : List Oper) (st : St) (d : Option Nat) (w : Option Bool) (K : St → Prop) (p : AV → Prop) : Prop := ∃ v, p v ∧ y3_ b P ops n r ⟨Yl_ d (wrp w v) st.s, st.H⟩ K
def MK (b : Bool) (P : Program) (ops : Array Oper) (n : Nat) (r : List Oper) (st : St) (d : Option Nat) (K : St → Prop) (v : AV) (all subs : List Nat) (H' : List (Nat × Tree)) : Prop := y3_ b P ops n r ⟨Yl_ d v (x2_ all subs st.s), H'⟩ K
def FK (P : Program) (ops : Array Oper) (n : Nat) (r : List Oper) (st : St) (d : Option Nat) (K : St → Prop) (v : AV) (all subs : List Nat) (H' : List (Nat × Tree)) : Prop := y3_ true P ops n r ⟨Yl_ d v (Q7_ all subs st.s), H'⟩ K
section
variable {b : Bool} {P : Program} {ops : Array Oper} {n : Nat} {r : List Oper} {st : St} {K : St → Prop}
theorem bf3 {d : Option Nat} {w : Option Bool} (a : AV) : YR b P ops n r st d w K (fun v => v = a) = y3_ b P ops n r ⟨Yl_ d (wrp w a) st.s, st.H⟩ K := propext ⟨fun ⟨_, h, k⟩ => h ▸ k, fun k => ⟨a, rfl, k⟩⟩
theorem aR5 {d : Option Nat} {w : Option Bool} (c : Prop) (p : AV → Prop) : YR b P ops n r st d w K (fun v => c ∧ p v) = (c ∧ YR b P ops n r st d w K p) := propext ⟨fun ⟨v, ⟨h1, h2⟩, k⟩ => ⟨h1, v, h2, k⟩, fun ⟨h1, v, h2, k⟩ => ⟨v, ⟨h1, h2⟩, k⟩⟩
theorem xe_ {d : Option Nat} {w : Option Bool} {p : AV → Prop} {v : AV} (h : p v) (k : y3_ b P ops n r ⟨Yl_ d (wrp w v) st.s, st.H⟩ K) : YR b P ops n r st d w K p := ⟨v, h, k⟩
theorem bf4 {d : Option Nat} (v : AV) (H' : List (Nat × Tree)) : MK b P ops n r st d K v [] [] H' = y3_ b P ops n r ⟨Yl_ d v st.s, H'⟩ K := by
 unfold MK; rw [← Sv_]; rfl
theorem bf5 {d : Option Nat} (v : AV) (i : Nat) (H' : List (Nat × Tree)) : MK b P ops n r st d K v [i] [] H' = y3_ b P ops n r ⟨Yl_ d v (x2_ [i] [] st.s), H'⟩ K := rfl
theorem bf6 {d : Option Nat} (v : AV) (i : Nat) (H' : List (Nat × Tree)) : MK b P ops n r st d K v [] [i] H' = y3_ b P ops n r ⟨Yl_ d v (x2_ [] [i] st.s), H'⟩ K := rfl
theorem bf7 {d : Option Nat} (v : AV) (i j : Nat) (H' : List (Nat × Tree)) : MK b P ops n r st d K v [i] [j] H' = y3_ b P ops n r ⟨Yl_ d v (x2_ [i] [j] st.s), H'⟩ K := rfl
theorem bf8 {d : Option Nat} (v : AV) (i j : Nat) (H' : List (Nat × Tree)) : MK b P ops n r st d K v [i, j] [] H' = y3_ b P ops n r ⟨Yl_ d v (x2_ [i, j] [] st.s), H'⟩ K := rfl
theorem ce4 {d : Option Nat} (v : AV) (H' : List (Nat × Tree)) : FK P ops n r st d K v [] [] H' = y3_ true P ops n r ⟨Yl_ d v st.s, H'⟩ K := rfl
theorem ce5 {d : Option Nat} (v : AV) (i : Nat) (is : List Nat) (H' : List (Nat × Tree)) : FK P ops n r st d K v [] (i :: is) H' = y3_ true P ops n r ⟨Yl_ d v (x2_ [] (i :: is) st.s), H'⟩ K := rfl
theorem ce6 {d : Option Nat} (v : AV) (i : Nat) (is subs : List Nat) (H' : List (Nat × Tree)) : FK P ops n r st d K v (i :: is) subs H' = y3_ true P ops n r ⟨Yl_ d v (x2_ (i :: is) subs st.s), H'⟩ K := by cases subs <;> rfl
theorem ak4 : y3_ b P ops n [] st K = K st := by cases b <;> rfl
def YL_ (b : Bool) (P : Program) (ops : Array Oper) (n : Nat) (r : List Oper) (st : St) (d : Option Nat) (op : Op) (gd : Option (Nat × Bool)) (K : St → Prop) : Prop :=
 Ws_ n d ∧ match gd with
 | none => YR b P ops n r st d none K (fun v => V9_ P st.H true (evF st.get) op v)
 | some (j, want) => match (ops[j]?).bind (·.dst) with
  | some e => match wc_ (st.get e) with
   | some (gg, q) => YR b P ops n r st d (some (gg && (q == want))) K (fun v => V9_ P st.H (gg && (q == want)) (evF st.get) op v)
   | none => False
  | none => False
theorem KX_ (d : Option Nat) (op : Op) : YL_ b P ops n r st d op none K = (Ws_ n d ∧ YR b P ops n r st d none K (fun v => V9_ P st.H true (evF st.get) op v)) := rfl
theorem KY_ (d : Option Nat) (op : Op) (j : Nat) (want : Bool) : YL_ b P ops n r st d op (some (j, want)) K = (Ws_ n d ∧ match (ops[j]?).bind (·.dst) with
  | some e => match wc_ (st.get e) with
   | some (gg, q) => YR b P ops n r st d (some (gg && (q == want))) K (fun v => V9_ P st.H (gg && (q == want)) (evF st.get) op v)
   | none => False
  | none => False) := rfl
theorem aC8 {d : Option Nat} {op : Op} {gd : Option (Nat × Bool)} : za_ P ops n st d op gd (fun st' => y3_ b P ops n r st' K) = YL_ b P ops n r st d op gd K := by
 unfold za_ YL_
 congr 1
def ak5 (b : Bool) (P : Program) (ops : Array Oper) (n : Nat) (r : List Oper) (st : St) (d : Option Nat) (op : Op) (K : St → Prop) : Prop := Ws_ n d ∧ wx_ P st.H (evF st.get) op (MK b P ops n r st d K)
theorem ak6 (d : Option Nat) (op : Op) : ak5 b P ops n r st d op K = (Ws_ n d ∧ wx_ P st.H (evF st.get) op (MK b P ops n r st d K)) := rfl
theorem x6_ {d : Option Nat} {op : Op} {ty : TypeId} {pos : String} {af : Array Edge} {gd : Option (Nat × Bool)} (hp : yw_ op = true) (hc : b = true → ∀ K, ys_ P ops n st ⟨d, op, ty, pos, af, gd⟩ K = za_ P ops n st d op gd K) :
  y3_ b P ops n (⟨d, op, ty, pos, af, gd⟩ :: r) st K = YL_ b P ops n r st d op gd K := by
 rw [← aC8]
 cases b with
 | true =>
  show ys_ P ops n st ⟨d, op, ty, pos, af, gd⟩ (fun st' => as5 P ops n r st' K) = _
  exact hc rfl _
 | false =>
  show Xj_ P ops n st ⟨d, op, ty, pos, af, gd⟩ (fun st' => am5 P ops n r st' K) = _
  exact xX_ hp
theorem zG_ {d : Option Nat} {op : Op} {ty : TypeId} {pos : String} {af : Array Edge} (hp : yw_ op = false) (hc : ∀ K, ys_ P ops n st ⟨d, op, ty, pos, af, none⟩ K = YY_ P n st d op K) :
  y3_ b P ops n (⟨d, op, ty, pos, af, none⟩ :: r) st K = ak5 b P ops n r st d op K := by
 cases b with
 | true =>
  show ys_ P ops n st ⟨d, op, ty, pos, af, none⟩ (fun st' => as5 P ops n r st' K) = _
  exact hc _
 | false =>
  show Xj_ P ops n st ⟨d, op, ty, pos, af, none⟩ (fun st' => am5 P ops n r st' K) = _
  exact yW_ (ops := ops) hp
theorem aC9 {d : Option Nat} {ty : TypeId} {pos : String} {af : Array Edge} {gd : Option (Nat × Bool)} (x : Operand) : y3_ b P ops n (⟨d, (.move x), ty, pos, af, gd⟩ :: r) st K = YL_ b P ops n r st d (.move x) gd K := x6_ rfl (fun _ _ => aA1 ..)
theorem KZ_ {d : Option Nat} {ty : TypeId} {pos : String} {af : Array Edge} {gd : Option (Nat × Bool)} (x : Operand) : y3_ b P ops n (⟨d, (.assign x), ty, pos, af, gd⟩ :: r) st K = YL_ b P ops n r st d (.assign x) gd K := x6_ rfl (fun _ _ => KU_ ..)
theorem aD0 {d : Option Nat} {ty : TypeId} {pos : String} {af : Array Edge} {gd : Option (Nat × Bool)} (c a q : Operand) : y3_ b P ops n (⟨d, (.pick c a q), ty, pos, af, gd⟩ :: r) st K = YL_ b P ops n r st d (.pick c a q) gd K := x6_ rfl (fun _ _ => aA2 ..)
theorem aD1 {d : Option Nat} {ty : TypeId} {pos : String} {af : Array Edge} {gd : Option (Nat × Bool)} (t : TypeId) (p : Operand) : y3_ b P ops n (⟨d, (.load t p), ty, pos, af, gd⟩ :: r) st K = YL_ b P ops n r st d (.load t p) gd K := x6_ rfl (fun _ _ => aA3 ..)
theorem Ur_ {d : Option Nat} {ty : TypeId} {pos : String} {af : Array Edge} {gd : Option (Nat × Bool)} (t : TypeId) (x i : Operand) : y3_ b P ops n (⟨d, (.indexAddr t x i), ty, pos, af, gd⟩ :: r) st K = YL_ b P ops n r st d (.indexAddr t x i) gd K := x6_ rfl (fun _ _ => Up_ ..)
theorem Us_ {d : Option Nat} {ty : TypeId} {pos : String} {af : Array Edge} {gd : Option (Nat × Bool)} (t : TypeId) (p : Operand) (f : Nat) : y3_ b P ops n (⟨d, (.fieldAddr t p f), ty, pos, af, gd⟩ :: r) st K = YL_ b P ops n r st d (.fieldAddr t p f) gd K := x6_ rfl (fun _ _ => Uq_ ..)
theorem ak7 {d : Option Nat} {ty : TypeId} {pos : String} {af : Array Edge} {gd : Option (Nat × Bool)} (t : TypeId) (p : Operand) (f : Nat) : y3_ b P ops n (⟨d, (.field t p f), ty, pos, af, gd⟩ :: r) st K = YL_ b P ops n r st d (.field t p f) gd K := x6_ rfl (fun _ _ => ai3 ..)
theorem aR6 {d : Option Nat} {ty : TypeId} {pos : String} {af : Array Edge} {gd : Option (Nat × Bool)} (t : TypeId) (parts : Array (Nat × Operand)) : y3_ b P ops n (⟨d, (.build t parts), ty, pos, af, gd⟩ :: r) st K = YL_ b P ops n r st d (.build t parts) gd K := x6_ rfl (fun _ _ => aL8 ..)
theorem ak8 {d : Option Nat} {ty : TypeId} {pos : String} {af : Array Edge} {gd : Option (Nat × Bool)} (bo : BinOp) (t : TypeId) (x y : Operand) (t' : TypeId) : y3_ b P ops n (⟨d, (.binOp bo t x y t'), ty, pos, af, gd⟩ :: r) st K = YL_ b P ops n r st d (.binOp bo t x y t') gd K := x6_ rfl (fun _ _ => ai4 ..)
theorem aD2 {d : Option Nat} {ty : TypeId} {pos : String} {af : Array Edge} {gd : Option (Nat × Bool)} (u : UnOp) (t : TypeId) (x : Operand) : y3_ b P ops n (⟨d, (.unOp u t x), ty, pos, af, gd⟩ :: r) st K = YL_ b P ops n r st d (.unOp u t x) gd K := x6_ rfl (fun _ _ => aA4 ..)
theorem TC_ {d : Option Nat} {ty : TypeId} {pos : String} {af : Array Edge} {gd : Option (Nat × Bool)} (x : Operand) : y3_ b P ops n (⟨d, (.nilCheck x), ty, pos, af, gd⟩ :: r) st K = YL_ b P ops n r st d (.nilCheck x) gd K := x6_ rfl (fun _ _ => Tw_ ..)
theorem R3_ {d : Option Nat} {ty : TypeId} {pos : String} {af : Array Edge} {gd : Option (Nat × Bool)} (s d' : TypeId) (x : Operand) : y3_ b P ops n (⟨d, (.convert s d' x), ty, pos, af, gd⟩ :: r) st K = YL_ b P ops n r st d (.convert s d' x) gd K := x6_ rfl (fun _ _ => R0_ ..)
theorem R4_ {d : Option Nat} {ty : TypeId} {pos : String} {af : Array Edge} {gd : Option (Nat × Bool)} (x : Operand) (i : Nat) : y3_ b P ops n (⟨d, (.extract x i), ty, pos, af, gd⟩ :: r) st K = YL_ b P ops n r st d (.extract x i) gd K := x6_ rfl (fun _ _ => R1_ ..)
theorem ak9 {d : Option Nat} {ty : TypeId} {pos : String} {af : Array Edge} {gd : Option (Nat × Bool)} (t : TypeId) (x : Operand) (lo hi mx : Option Operand) : y3_ b P ops n (⟨d, (.slice t x lo hi mx), ty, pos, af, gd⟩ :: r) st K = YL_ b P ops n r st d (.slice t x lo hi mx) gd K := x6_ rfl (fun _ _ => ai5 ..)
theorem TD_ {d : Option Nat} {ty : TypeId} {pos : String} {af : Array Edge} {gd : Option (Nat × Bool)} (g : Fn) (first : Array Operand) (caps : Array Operand) : y3_ b P ops n (⟨d, (.makeFunc g first caps), ty, pos, af, gd⟩ :: r) st K = YL_ b P ops n r st d (.makeFunc g first caps) gd K := x6_ rfl (fun _ _ => Tx_ ..)
theorem aR7 {d : Option Nat} {ty : TypeId} {pos : String} {af : Array Edge} {gd : Option (Nat × Bool)} (args : Array Operand) (ts : Array TypeId) : y3_ b P ops n (⟨d, (.call ⟨.builtin .len, args, ts⟩), ty, pos, af, gd⟩ :: r) st K = YL_ b P ops n r st d (.call ⟨.builtin .len, args, ts⟩) gd K := x6_ rfl (fun _ _ => aL9 ..)
theorem aR8 {d : Option Nat} {ty : TypeId} {pos : String} {af : Array Edge} {gd : Option (Nat × Bool)} (args : Array Operand) (ts : Array TypeId) : y3_ b P ops n (⟨d, (.call ⟨.builtin .cap, args, ts⟩), ty, pos, af, gd⟩ :: r) st K = YL_ b P ops n r st d (.call ⟨.builtin .cap, args, ts⟩) gd K := x6_ rfl (fun _ _ => aM0 ..)
theorem aR9 {d : Option Nat} {ty : TypeId} {pos : String} {af : Array Edge} {gd : Option (Nat × Bool)} (args : Array Operand) (ts : Array TypeId) : y3_ b P ops n (⟨d, (.call ⟨.builtin .max, args, ts⟩), ty, pos, af, gd⟩ :: r) st K = YL_ b P ops n r st d (.call ⟨.builtin .max, args, ts⟩) gd K := x6_ rfl (fun _ _ => aM1 ..)
theorem aS0 {d : Option Nat} {ty : TypeId} {pos : String} {af : Array Edge} {gd : Option (Nat × Bool)} (args : Array Operand) (ts : Array TypeId) : y3_ b P ops n (⟨d, (.call ⟨.builtin .min, args, ts⟩), ty, pos, af, gd⟩ :: r) st K = YL_ b P ops n r st d (.call ⟨.builtin .min, args, ts⟩) gd K := x6_ rfl (fun _ _ => aM2 ..)
theorem al0 {d : Option Nat} {ty : TypeId} {pos : String} {af : Array Edge} (t : TypeId) : y3_ b P ops n (⟨d, (.alloc t), ty, pos, af, none⟩ :: r) st K = ak5 b P ops n r st d (.alloc t) K := zG_ rfl (fun _ => ai6 ..)
theorem aS1 {d : Option Nat} {ty : TypeId} {pos : String} {af : Array Edge} (t : TypeId) (x : Operand) : y3_ b P ops n (⟨d, (.box t x), ty, pos, af, none⟩ :: r) st K = ak5 b P ops n r st d (.box t x) K := zG_ rfl (fun _ => aM3 ..)
theorem al1 {d : Option Nat} {ty : TypeId} {pos : String} {af : Array Edge} (t : TypeId) (len : Nat) (parts : Array (Nat × Operand)) : y3_ b P ops n (⟨d, (.buildSlice t len parts), ty, pos, af, none⟩ :: r) st K = ak5 b P ops n r st d (.buildSlice t len parts) K := zG_ rfl (fun _ => ai7 ..)
theorem aD3 {d : Option Nat} {ty : TypeId} {pos : String} {af : Array Edge} (t : TypeId) (l c : Operand) : y3_ b P ops n (⟨d, (.makeSlice t l c), ty, pos, af, none⟩ :: r) st K = ak5 b P ops n r st d (.makeSlice t l c) K := zG_ rfl (fun _ => aA5 ..)
theorem al2 {d : Option Nat} {ty : TypeId} {pos : String} {af : Array Edge} (t : TypeId) (p v : Operand) : y3_ b P ops n (⟨d, (.store t p v), ty, pos, af, none⟩ :: r) st K = ak5 b P ops n r st d (.store t p v) K := zG_ rfl (fun _ => ai8 ..)
theorem K0_ {d : Option Nat} {ty : TypeId} {pos : String} {af : Array Edge} (args : Array Operand) (ts : Array TypeId) : y3_ b P ops n (⟨d, (.call ⟨.builtin .append, args, ts⟩), ty, pos, af, none⟩ :: r) st K = ak5 b P ops n r st d (.call ⟨.builtin .append, args, ts⟩) K := zG_ rfl (fun _ => KV_ ..)
theorem aD4 {d : Option Nat} {ty : TypeId} {pos : String} {af : Array Edge} (args : Array Operand) (ts : Array TypeId) : y3_ b P ops n (⟨d, (.call ⟨.builtin .copy, args, ts⟩), ty, pos, af, none⟩ :: r) st K = ak5 b P ops n r st d (.call ⟨.builtin .copy, args, ts⟩) K := zG_ rfl (fun _ => aA6 ..)
theorem al3 {d : Option Nat} {ty : TypeId} {pos : String} {af : Array Edge} {gd : Nat × Bool} (g : Operand) (args : Array Operand) (ts : Array TypeId) : y3_ b P ops n (⟨d, .call ⟨.value g, args, ts⟩, ty, pos, af, some gd⟩ :: r) st K = YL_ b P ops n r st d (.call ⟨.value g, args, ts⟩) (some gd) K :=
 x6_ rfl (fun _ _ => ai9 ..)
theorem al4 {d : Option Nat} {ty : TypeId} {pos : String} {af : Array Edge} {gd : Option (Nat × Bool)} (g : Operand) (args : Array Operand) (ts : Array TypeId) : y3_ false P ops n (⟨d, .call ⟨.value g, args, ts⟩, ty, pos, af, gd⟩ :: r) st K = YL_ false P ops n r st d (.call ⟨.value g, args, ts⟩) gd K :=
 x6_ rfl (fun h => by cases h)
def bf9 (P : Program) (ops : Array Oper) (n : Nat) (r : List Oper) (st : St) (d : Option Nat) (K : St → Prop) (args : List AV) (g : AV) : Prop :=
 match strip g with
 | .fn f caps => okG true g ∧ Qf_ true args ∧ XG_ P st.H f (args.map strip ++ caps) (FK P ops n r st d K)
 | _ => False
theorem aD5 {d : Option Nat} (args : List AV) (f : Nat) (caps : List AV) : bf9 P ops n r st d K args (.fn f caps) = (Qf_ true args ∧ XG_ P st.H f (args.map strip ++ caps) (FK P ops n r st d K)) := by
 simp only [bf9, strip, okG, true_and]
theorem aD6 {d : Option Nat} {ty : TypeId} {pos : String} {af : Array Edge} (g : Operand) (args : Array Operand) (ts : Array TypeId) : y3_ true P ops n (⟨d, .call ⟨.value g, args, ts⟩, ty, pos, af, none⟩ :: r) st K = (Ws_ n d ∧ bf9 P ops n r st d K (args.toList.map (evF st.get)) (evF st.get g)) := rfl
end
section
variable {P : Program} {cx : Cx} {n : Nat} {Q : SQ} {st : St} {cs : List Code}
theorem xr_ {id : Nat} {l : List Oper} (hx : ∀ o ∈ l, ∀ d, o.dst = some d → cx.fix d = false) (h : ∀ K : St → Prop, (∀ s, ATs P cx n cs Q s → K s) → y3_ true P l.toArray n l st K) : ATs P cx n (.region id l.toArray false :: cs) Q st := ax4 hx h
theorem xV_ {id : Nat} {l : List Oper} (hx : ∀ o ∈ l, ∀ d, o.dst = some d → cx.fix d = false) (hm : P.follows .mixedOrders = true) (hB : UD_ l.toArray = true) (h : ∀ K : St → Prop, (∀ s, ATs P cx n cs Q s → K s) → y3_ false P l.toArray n l st K) : ATs P cx n (.region id l.toArray true :: cs) Q st := am7 hx hm hB h
theorem aD7 {x : Operand} {a b : Code} (hx : strip (evF st.get x) = .bool true) (hg : okG true (evF st.get x)) (h : ATs P cx n (a :: cs) Q st) : ATs P cx n (.cond x a b :: cs) Q st := XR_ hx hg (fun _ => h) (fun h => by cases h)
theorem aS2 {x : Operand} {a b : Code} (hx : strip (evF st.get x) = .bool false) (hg : okG true (evF st.get x)) (h : ATs P cx n (b :: cs) Q st) : ATs P cx n (.cond x a b :: cs) Q st := XR_ hx hg (fun h => by cases h) (fun _ => h)
end
def Ut_ : Code → List Code
 | .seq a b => Ut_ a ++ Ut_ b
 | c => [c]
def nth (k : Nat) (o : Option Code) : Code :=
 match o with
 | some c => (Ut_ c).getD k .skip
 | none => .skip
section
variable {P : Program} {cx : Cx} {n : Nat} {Q : SQ} {st : St} {cs : List Code}
theorem XI_ {c c' : Code} (h : c = c') (hx : ATs P cx n (c' :: cs) Q st) : ATs P cx n (c :: cs) Q st := by rw [h]; exact hx
end
end Go.Aw
namespace Go.Aw
theorem aI {a b : Prop} (ha : a := by first | omega | (intro hq; first | omega | (simp at hq <;> omega) | (simp_all <;> omega))) (hb : b) : a ∧ b := ⟨ha, hb⟩
theorem leS : (∀ st, xN_ st [] = True) ∧ (∀ st k v r, xN_ st ((k, v) :: r) = (st.get k = v ∧ xN_ st r)) ∧ (∀ s H k, St.get ⟨s, H⟩ k = xh_ s k) ∧ (∀ j v r k, xh_ ((j, v) :: r) k = if j = k then v else xh_ r k) ∧ (∀ k, xh_ [] k = .junk) ∧
  (∀ a b, (AV.int a = AV.int b) = (a = b)) ∧ (∀ a b, (AV.bool a = AV.bool b) = (a = b)) ∧ (∀ a b, (AV.l1 a = AV.l1 b) = (a = b)) ∧ (∀ a b, (AV.l2 a = AV.l2 b) = (a = b)) ∧ (∀ a b, (AV.l3 a = AV.l3 b) = (a = b)) :=
 ⟨fun _ => rfl, fun _ _ _ _ => rfl, fun _ _ _ => rfl, fun _ _ _ _ => rfl, fun _ => rfl, fun _ _ => by simp, fun _ _ => by simp, fun _ _ => by simp, fun _ _ => by simp, fun _ _ => by simp⟩
attribute [go_sem] aM5 aM6 ZN_ Kc_ ax9 Ky_ Kz_ ag3 RL_ ag4 KA_ ad5 aL4 ag5 ag6 az0 KB_ az1 ag7 be6 be7 aN2 be8 aB5 aB6 aj3 Vh_ al7 YO_ aR6 Un_ Ve_ Xn_ V9_ an6 TV_ byteOf bytesOf TK.num XT_ XU_ Qf_ elemsOf x0_ wx_ WI_ wu_ UM_ aS6 Zx_ Xh_ TM_ TL_ aZ3 target Vf_ aJ9 aD8 aE0 aE1 Yi_ yR_ evF aT2 ofV find x8_ xA_ az4 xt_ rmT Xc_ wD_ zJ_ ZK_ isData yd_ ab8 QR_ aD9 bg1 isInt zx_ inOrder xR_ xD_ xh_ St.get Yl_ x2_ qOf InR SF_ Q8_ ax5 Q9_ ax6 ad1 aL1 Rv_ ad2 Ka_ ax7 strip_nil ax8 To_ Kb_ ad3 aL2 ad4 aL3 ad6 aL5 ad7 aL6 Kd_ ay0 Ke_ ay1 ad8 aL7 Rw_ ad9 Rx_ ae0 Kf_ ay2 Kg_ ay3 Ry_ ae1 Rz_ ae2 RA_ ae3 RB_ ae4 Kh_ Ki_ ae5 RC_ ae6 Kj_ Kk_ Kl_ ae7 RD_ ae8 Km_ ae9 af0 ay4 Kn_ ay5 af1 RE_ RF_ Ko_ Tp_ Kp_ RG_ Kq_ Kr_ af2 RH_ af4 Ks_ Kt_ Ku_ af5 RI_ af6 Kv_ Tq_ Tr_ RJ_ Uo_ RK_ Ts_ af7 af8 ay6 Kw_ ay7 af9 ag0 ag1 ay8 Kx_ ay9 ag2 ag8 ag9 az2 KC_ az3 ah0 RM_ KD_ KE_ RN_ RO_ ah1 KF_ KG_ ah2 RP_ RQ_ RR_ KH_ KI_ KJ_ KK_ KL_ ah3 KM_ ah4 KN_ ah5 KO_ ah6 RS_ KP_ ah7 az5 RT_ KQ_ az6 ah8 ah9 RU_ RV_ RW_ RX_ KR_ KS_ Tt_ Tu_ Tv_ ai0 ai1 ai2 az7 az8 KT_ RY_ RZ_ aO3 be9 aO4 bf0 aO5 aO6 aO7 aO8 aN8 aN9 aO0 aO1 aO2 aO9 aP0 aP1 aP2 aP3 aP4 aM4 aM7 aA7 aA8 aM8 aj0 aA9 one_cell aM9 aB0 aB1 aj1 aB2 aB3 aB4 aj2 be0 be1 be3 be5 aN0 aN1 aN3 aN4 aN5 aN6 len_nil aB7 aB8 aB9 aC0 aC1 aC2 aC3 aP5 bf1 bf2 aP6 aP7 aC4 aj6 aj7 KW_ R2_ Option.map_some aP8 aP9 aQ0 aQ1 aQ2 aQ3 aQ4 aC5 aQ5 aQ6 aQ7 aQ8 aQ9 wrap_u64 aj8 aj9 ak0 aR0 aR1 aR2 aC6 Ty_ Tz_ aC7 ak1 aR3 aR4 TA_ TB_ ak2 ak3 bf3 aR5 bf4 bf5 bf6 bf7 bf8 ce4 ce5 ce6 ak4 KX_ KY_ ak6 aC9 KZ_ aD0 aD1 Ur_ Us_ ak7 ak8 aD2 TC_ Qg_ Qh_ R3_ R4_ ak9 TD_ aR7 aR8 aR9 aS0 al0 aS1 al1 aD3 al2 K0_ aD4 al3 al4 aD5 aD6
attribute [go_sem] List.isEmpty List.filter_cons List.filter_nil List.map_cons List.map_nil List.all_cons List.all_nil List.any_cons List.any_nil List.contains_cons List.contains_nil List.getD_cons_zero List.getD_cons_succ List.set_cons_zero List.set_cons_succ List.length_cons List.length_nil List.toList_toArray List.getElem?_toArray List.getElem?_cons_zero List.getElem?_cons_succ Option.bind_some Option.bind_none Option.map_some Option.map_none Option.isSome_some Option.some.injEq and_assoc and_true true_and if_true if_false ite_true ite_false exists_and_left exists_eq_left exists_eq_left' exists_eq_right forall_const Bool.not_true Bool.not_false Bool.true_and Bool.and_true Bool.false_and Bool.and_false Bool.or_true Bool.or_false Bool.true_or Bool.false_or Bool.false_eq_true Bool.true_eq_false Int.toNat_natCast Int.toNat_zero Int.toNat_one Int.sub_zero Nat.zero_add Nat.add_zero List.isEmpty_nil List.isEmpty_cons beq_self_eq_true Nat.max_def ne_eq not_false_eq_true bne_self_eq_false cond_true cond_false List.append_nil List.nil_append List.cons_append List.take_zero List.take_succ_cons List.take_nil List.drop_zero List.drop_succ_cons List.drop_nil imp_self implies_true ce9 cf0 Bool.not_eq_true' Bool.cond_true_left Bool.cond_false_right
end Go.Aw
namespace Go.Aw
open Go.ChangeShapes Go.WideShapes Go.RowKit Go.Deep
section
variable {H : Type} {enc : TypeId × Value → H} {P : Program} {w : World} {held : Bool}
theorem aS3 {a : Addr} {len cap : Nat} {V : Nat → Value} (hl : len ≤ cap) (hm : cap ≤ maxLen) (hx : ∀ i, i < cap → w.cell? (a.add i) = some (V i)) :
  SlC w (lower w) ((List.range len).map V) (.slice (some a) len cap) := by
 by_cases hc : cap = 0
 ·subst hc
  obtain rfl : len = 0 := by omega
  exact .inl ⟨⟨some a, rfl⟩, rfl⟩
 ·have h0 := hx 0 (by omega)
  have hs : a.spot = none := by
   simp only [Addr.add, if_true, World.cell?] at h0
   split at h0
   ·split at h0
    ·cases h0
    ·rename_i hn; simpa using hn
   ·cases h0
  obtain ⟨b, off, s⟩ := a
  simp only at hs
  subst hs
  have hadd : ∀ i, Addr.add ⟨b, off, none⟩ i = ⟨b, off + i, none⟩ := fun i => by
   unfold Addr.add
   split
   ·simp_all
   ·rfl
  have hb : b < w.heap.size := cell_lt (by rw [hadd] at h0; exact h0)
  refine .inr ⟨b, off, cap, by simp, by simpa using hl, hm, hb, fun i u hu => ?_⟩
  have hi : i < len := by
   have := (List.getElem?_eq_some_iff.1 hu).1
   simpa using this
  simp only [List.getElem?_map, List.getElem?_range hi, Option.map_some, Option.some.injEq] at hu
  subst hu
  rw [← hadd]
  exact hx i (by omega)
theorem WG_ {α β : Type} {R : α → β → Prop} {V : Nat → β} : ∀ {n : Nat}, (∀ i, i < n → ∃ x, R x (V i)) → ∃ xs : List α, All2 R xs ((List.range n).map V)
 | 0, _ => ⟨[], trivial⟩
 | n + 1, h => by
  obtain ⟨xs, hxs⟩ := WG_ (n := n) (fun i hi => h i (by omega))
  obtain ⟨x, hx⟩ := h n (by omega)
  refine ⟨xs ++ [x], ?_⟩
  rw [List.range_succ, List.map_append]
  exact hxs.append ⟨hx, trivial⟩
theorem bg0 {α : Type} {R : α → Value → Prop} {t e : TypeId} {n : Nat} {v : Value} {x : DataW H × List MemPlace} (ht : P.underlying t = some (.slice e)) (hc : P.cellsOf e = 1)
  (each : ∀ (m : Nat) (u : Value) (y : DataW H × List MemPlace), DataW.trod enc P w 0 (fun _ => true) held m e [u] = some y → ∃ a, R a u)
  (h : DataW.trod enc P w 0 (fun _ => true) held n t [v] = some x) : ∃ (xs : List α) (us : List Value), SlC w (lower w) us v ∧ All2 R xs us := by
 rcases open_slice1 ht hc h with ⟨h1, _⟩ | ⟨a, len, cap, m, n', V, D, Pl, h1, _, hl, hm, hmm, _, hx⟩
 ·cases h1
  exact ⟨[], [], .inl ⟨⟨none, rfl⟩, rfl⟩, trivial⟩
 ·obtain rfl := List.singleton_inj.1 h1
  have hx : ∀ i, i < cap → w.cell? (a.add i) = some (V i) ∧ DataW.trod enc P w 0 (fun _ => true) held n' e [V i] = some (D i, Pl i) := fun i hi => hx i (by simpa [hmm] using hi)
  obtain ⟨xs, hxs⟩ := WG_ (n := len) (V := V) (fun i hi => each _ _ _ (hx i (by omega)).2)
  exact ⟨xs, _, aS3 hl hm (fun i hi => (hx i hi).1), hxs⟩
theorem aS4 {n : Int} (h : (Lit.int .i64 n).wf = true) : InR n := by
 simpa [Lit.wf, IntKind.min, IntKind.max, IntKind.signed, IntKind.bits, InR] using h
theorem rd1 {t e : TypeId} (ht : P.underlying t = some (.slice e)) (he : P.underlying e = some (.int .i64)) (hc : P.cellsOf e = 1) (n : Nat) (v : Value) (x : DataW H × List MemPlace)
  (h : DataW.trod enc P w 0 (fun _ => true) held n t [v] = some x) : ∃ xs, L1 w (lower w) xs v := by
 obtain ⟨xs, us, h1, h2⟩ := bg0 (R := fun (z : Int) u => u = .int .i64 z ∧ InR z) ht hc (fun m u y hy => by
  obtain ⟨z, hz, _, hw⟩ := DataW.trod_int he hy
  exact ⟨z, List.singleton_inj.1 hz, aS4 hw⟩) h
 have hu : us = ints xs := by
  clear h1
  revert us
  induction xs with
  | nil => intro us h2; cases us with
   | nil => rfl
   | cons _ _ => exact h2.elim
  | cons z zs ih => intro us h2; cases us with
   | nil => exact h2.elim
   | cons u us => rw [h2.1.1, ih us h2.2]; rfl
 have hr : ∀ z ∈ xs, InR z := fun z hz => by
  obtain ⟨i, hi⟩ := List.getElem?_of_mem hz
  obtain ⟨u, _, hu⟩ := h2.get i z hi
  exact hu.2
 exact ⟨xs, hu ▸ h1, hr⟩
theorem rd2 {t e f : TypeId} (ht : P.underlying t = some (.slice e)) (hc : P.cellsOf e = 1) (he : P.underlying e = some (.slice f)) (hf : P.underlying f = some (.int .i64)) (hcf : P.cellsOf f = 1) (n : Nat) (v : Value) (x : DataW H × List MemPlace)
  (h : DataW.trod enc P w 0 (fun _ => true) held n t [v] = some x) : ∃ xs, L2 w (lower w) xs v :=
 let ⟨xs, us, h1, h2⟩ := bg0 (R := L1 w (lower w)) ht hc (rd1 he hf hcf) h
 ⟨xs, us, h1, h2⟩
theorem rd3 {t e f g : TypeId} (ht : P.underlying t = some (.slice e)) (hc : P.cellsOf e = 1) (he : P.underlying e = some (.slice f)) (hcf : P.cellsOf f = 1) (hf : P.underlying f = some (.slice g)) (hg : P.underlying g = some (.int .i64)) (hcg : P.cellsOf g = 1) (n : Nat) (v : Value) (x : DataW H × List MemPlace)
  (h : DataW.trod enc P w 0 (fun _ => true) held n t [v] = some x) : ∃ xs, L3 w (lower w) xs v :=
 let ⟨xs, us, h1, h2⟩ := bg0 (R := L2 w (lower w)) ht hc (rd2 he hcf hf hg hcg) h
 ⟨xs, us, h1, h2⟩
theorem al5 {t : TypeId} {fs : Array Field} {base : Nat} {v : Value} {d : DataW H} {p : List MemPlace} (ht : P.underlying t = some (.struct fs)) (hv : Value.okWide P w .any base t v) (h : DataW.Trod enc P w 0 (fun _ => true) held t v d p) :
  ∃ us : List Value, v = .agg us.toArray ∧ us.length = P.cellsOf t ∧ ∃ n, ∀ (i : Nat) (f : Field), fs[i]? = some f → ∃ y, DataW.trod enc P w 0 (fun _ => true) held n f.type ((us.drop f.offset).take (P.cellsOf f.type)) = some y := by
 simp only [Value.okWide, ht] at hv
 obtain ⟨cs, rfl, hs, _⟩ := hv
 obtain ⟨fuel, h⟩ := h
 obtain ⟨xs, n, _, _, hl, hlen, hf⟩ := DataW.trod_struct ht h
 refine ⟨cs.toList, by simp, by simpa using hs, n, fun i f hif => ?_⟩
 have hi : i < fs.size := by
  have := (Array.getElem?_eq_some_iff.1 hif).1
  exact this
 have := hf i f hif
 rw [List.getElem?_eq_getElem (by omega)] at this
 exact ⟨_, this⟩
theorem K1_ {t : TypeId} {f0 : Field} {base : Nat} {v : Value} {d : DataW H} {p : List MemPlace} (ht : P.underlying t = some (.struct #[f0])) (h0 : f0.offset = 0) (hc : P.cellsOf f0.type = 1) (hct : P.cellsOf t = 1) (hv : Value.okWide P w .any base t v) (h : DataW.Trod enc P w 0 (fun _ => true) held t v d p) :
  ∃ u n y, v = .agg #[u] ∧ DataW.trod enc P w 0 (fun _ => true) held n f0.type [u] = some y := by
 obtain ⟨us, rfl, hl, n, hf⟩ := al5 ht hv h
 rw [hct] at hl
 match us, hl with
 | [u], _ =>
  obtain ⟨y, hy⟩ := hf 0 f0 rfl
  rw [h0, hc] at hy
  exact ⟨u, n, y, rfl, hy⟩
theorem aS5 {u : Value} {xs : List (List (List Int))} (h : L3 w (lower w) xs u) : Rd w (lower w) (.agg [.l3 xs]) (.agg #[u]) := by
 simp only [Rd, rep]
 exact ⟨[u], rfl, by simp only [reps, rep]; exact ⟨u, [], rfl, h, rfl⟩⟩
theorem XJ_ (hl : laidOutB P = true) {W W' : World} {sp' : Nat → Bool} : ∀ {ts : List TypeId} {vs : List Value} {ds : List (DataW H)} {ps : List MemPlace},
  ts.all (fun t => P.readableRec t && decide (t < P.types.size)) = true → DataW.TrodAll enc P W 0 (fun _ => true) true ts vs ds ps → (∀ p ∈ ps, W.sameAt W' p) → (∀ p ∈ ps, sp' p.block = true) → DataW.TrodAll enc P W' 0 sp' true ts vs ds ps
 | [], _, _, _, _, h, _, _ => by
  obtain ⟨rfl, rfl, rfl⟩ := trodAll_nil h
  exact rfl
 | t :: ts, _, _, _, hr, h, hs, hp => by
  obtain ⟨v, vs, d, ds, p, q, rfl, rfl, rfl, h1, h2⟩ := trodAll_cons h
  simp only [List.all_cons, Bool.and_eq_true, decide_eq_true_eq] at hr
  exact ⟨p, q, Go.WideElems.Trod_stays hl hr.1.1 hr.1.2 h1 (fun x hx => hs x (by simp [hx])) (fun x hx => hp x (by simp [hx])), XJ_ hl hr.2 h2 (fun x hx => hs x (by simp [hx])) (fun x hx => hp x (by simp [hx])), rfl⟩
theorem TE_ {W W' : World} (e : Ext W W') (may : MemPlace → Prop) : W.keptBut W' may := by
 refine ⟨e.os, e.output, fun i hi => ?_⟩
 rw [e.block i hi]
 cases h : W.heap[i]? with
 | none => trivial
 | some o => cases o <;> simp
theorem R5_ {W W' : World} (e : Ext W W') {b off : Nat} (hb : b < W.heap.size) : W'.frozen? ⟨b, off, none⟩ = W.frozen? ⟨b, off, none⟩ := by
 simp only [World.frozen?, e.block b hb]
theorem al6 {f : Func} {s : ChangeSpec} {apart fresh handsOn again : Bool} {W W' : World} {args : Array Value} {ds gs : List (DataW H)} {before : List MemPlace} {tb : TypeId}
  (hl : laidOutB P = true) (hsv : s.vars = []) (hr : f.resultTypes = #[tb]) (htb : P.underlying tb = some .bool) (hp : f.params.toList.all (fun t => P.readableRec t && decide (t < P.types.size)) = true)
  (hW : DataW.Whole enc P f.params.toList s.vars apart W args.toList ds gs before)
  (hres : (s.fn H (ds ++ gs)).results = [.lit (.bool true)]) (hargs : (s.fn H (ds ++ gs)).args = ds) (hvars : (s.fn H (ds ++ gs)).vars = []) (e : Ext W W') :
  s.post enc P f apart fresh handsOn again W args (.bool true) W' := by
 have hlt := hW.lt
 have hW0 := hW
 obtain ⟨p, q, hA, hV, hpq, hfz, hnd⟩ := hW
 rw [hsv] at hV
 obtain ⟨rfl, rfl⟩ := trodVars_none hV
 rw [List.append_nil] at hpq
 subst hpq
 have hsame : ∀ x ∈ before, W.sameAt W' x := fun x hx => by
  have hb := hlt x hx
  cases x with
  | cell b off => simp only [World.sameAt]; exact cell_of_heap (e.block b hb) _ _
  | map b => simp only [World.sameAt]; exact e.block b hb
 have ha : ∀ sp : Nat → Bool, (∀ x ∈ before, sp x.block = true) → DataW.TrodAll enc P W' 0 sp true f.params.toList args.toList ds before := fun sp hsp => XJ_ hl hp hA hsame hsp
 have hb : ∀ (b : Nat) (sp : Nat → Bool) (hd : Bool), DataW.TrodAll enc P W' b sp hd f.resultTypes.toList ((Value.bool true).resultList f.resultTypes.size) [.lit (.bool true)] [] := fun b sp hd => by
  rw [hr]
  exact trodAll_cons_mk (shut_bool htb _) trodAll_mk0
 refine ⟨ds, [], before, [], before, [], hW0, ?_, ?_, ?_, TE_ e _, fun _ => ⟨?_, [.lit (.bool true)] ++ ds, [], before, ⟨before, [], trodAll_append (ha _ (fun _ _ => rfl)) (hb _ _ _), ?_, by simp, ?_, hnd⟩, fun x hx _ => hx⟩⟩
 ·rw [hres]; exact hb _ _ _
 ·rw [hargs]; exact ha _ (fun x hx => by simpa using hlt x hx)
 ·rw [hvars, hsv]; exact rfl
 ·exact ok_one hr rfl (okWide_bool_mk htb _)
 ·rw [hsv]; exact rfl
 ·intro b off hx
  have h1 := hlt _ hx
  simp only [MemPlace.block] at h1
  rw [R5_ e h1]
  exact hfz b off hx
end
end Go.Aw
namespace Go.Aw
structure Hd (Y : Prop) : Prop where
 y : Y
theorem gA {X Y : Prop} (y : Y) (s : Hd Y → X := by intro hy; (repeat refine xa_ ?_); refine xr_ (by first | exact xZ_ hcx | exact yQ_ hcx rfl) fun K hK => ?_; simp only [go_sem, seval]; refine hK _ ?_; clear hK K; exact hy.y) : X := s ⟨y⟩
theorem gB {X Y : Prop} (y : Y) (s : Hd Y → X := by intro hy; (repeat refine xa_ ?_); refine xr_ (by first | exact xZ_ hcx | exact yQ_ hcx rfl) fun K hK => ?_; simp only [go_sem, seval]; (repeat refine aI (hb := ?_)); refine hK _ ?_; clear hK K; exact hy.y) : X := s ⟨y⟩
theorem gC {X : Prop} {Φ : (St → Prop) → Prop} {Y : ∀ K : St → Prop, Φ K → Prop} (y : ∀ K hK, Y K hK) (s : (∀ K hK, Y K hK) → X := by intro hy; (repeat refine xa_ ?_); refine xr_ (by first | exact xZ_ hcx | exact yQ_ hcx rfl) fun K hK => ?_; simp only [go_sem, seval]; exact hy K hK) : X := s y
theorem gI {X Y Z p q : Prop} (y : p → Y) (z : q → Z) (s : (p → Y) → (q → Z) → X := by intro hy hz; (repeat refine xa_ ?_); first | (refine aF1 (p := _) rfl trivial (fun h => ?_) (fun h => ?_); exact hy h; exact hz h) | (refine aF0 (p := _) rfl trivial (fun h => ?_) (fun h => ?_); exact hy h; exact hz h) | (refine XR_ rfl trivial (fun h => ?_) (fun h => ?_); exact hy h; exact hz h)) : X := s y z
end Go.Aw
namespace Go.Aw
open Go.RowKit
theorem gPC {P : Program} (n : Nat) {f : FuncId} {fn : Func} {c : Code} (rs : List ResultVar) {ds : List AV} {r : AV} (hcall : ∀ args w, (callFunc f args).run P w = .ok (.enter f args) w) (hf : P.funcs[f]? = some fn) (k : ∀ cx, cx.fix = 0 → ATs P cx n [c] (fun e st => Ends e ∧ ∃ v, wg_ P st rs v ∧ xI_ st.H v = some r) ⟨xD_ 0 ds, []⟩) (hb : fn.body = some c := by exact rfl) (hn : fn.ntmps = n := by exact rfl) (hrs : fn.results = rs.toArray := by exact rfl) (hl : ds.length ≤ n := by simp only [List.length_cons, List.length_nil]; omega) : PureCall P f ds r := PureCall.intro hcall hf hb hn hrs hl fun cx h => yY_ (k cx h)
theorem gFC {P : Program} (n : Nat) {f : FuncId} {fn : Func} {c : Code} (rs : List ResultVar) {ds : List AV} {r : AV} (hcall : ∀ args w, (callFunc f args).run P w = .ok (.enter f args) w) (hf : P.funcs[f]? = some fn) (k : ∀ cx, cx.fix = 0 → ATs P cx n [c] (fun e st => Ends e ∧ ∃ v is, wg_ P st rs v ∧ zI_ st.H v = some (r, is) ∧ is.Nodup) ⟨xD_ 0 ds, []⟩) (hb : fn.body = some c := by exact rfl) (hn : fn.ntmps = n := by exact rfl) (hrs : fn.results = rs.toArray := by exact rfl) (hl : ds.length ≤ n := by simp only [List.length_cons, List.length_nil]; omega) : FreshCall P f ds r := FreshCall.intro hcall hf hb hn hrs hl fun cx h => yY_ (k cx h)
theorem gE {X Y : Prop} (y : Y) (s : Hd Y → X := by intro hy; simp only [xD_, Nat.zero_add, Nat.reduceAdd]; exact hy.y) : X := s ⟨y⟩
theorem gO {X Y : Prop} (y : Y) (s : Hd Y → X := by intro hy; (repeat refine xa_ ?_); refine K6_ ?_; exact hy.y) : X := s ⟨y⟩
theorem gQ {X Y : Prop} (y : Y) (s : Hd Y → X := by intro hy; (repeat refine xa_ ?_); refine aS2 rfl trivial ?_; exact hy.y) : X := s ⟨y⟩
theorem gR {X Y : Prop} (y : Y) (s : Hd Y → X := by intro hy; (repeat refine xa_ ?_); refine aD7 rfl trivial ?_; exact hy.y) : X := s ⟨y⟩
theorem gW {X Y : Prop} (y : Y) (s : Hd Y → X := by intro hy; simp only [go_sem, seval]; (repeat refine aI (hb := ?_)); exact hy.y) : X := s ⟨y⟩
theorem gU {X Y : Prop} (y : Y) (s : Hd Y → X := by intro hy; (repeat refine aI (hb := ?_)); exact hy.y) : X := s ⟨y⟩
theorem gV {X Y : Prop} (y : Y) (s : Hd Y → X := by intro hy; simp only [go_sem, seval]; exact hy.y) : X := s ⟨y⟩
theorem gZ {α : Type} (a : α) : ∃ z, z = a := ⟨_, rfl⟩
theorem gH {X : Prop} (x : X := by simp only [leS, Nat.reduceEqDiff, ↓reduceIte, true_and, and_true]; omega) : X := x
theorem gM {X : Prop} (x : X := by refine And.intro ?_ rfl; simp only [leS, Nat.reduceEqDiff, ↓reduceIte, true_and, and_true]) : X := x
theorem gLp {P : Program} {cx : Cx} {n : Nat} {id : Nat} {c : Code} {cs : List Code} {Q : SQ} {st : St} (I : Nat → St) (u : Nat) (round : ∀ x, x ≤ u → ATs P cx n [c] (lq id (fun st' => ∃ y, y ≤ u ∧ u - y < u - x ∧ Lq st' (I y)) (ATs P cx n cs Q) Q) (I x)) (hst : Le st (I 0) := by refine And.intro ?_ rfl; simp only [leS, Nat.reduceEqDiff, ↓reduceIte, true_and, and_true]; repeat' (first | rfl | with_reducible refine And.intro ?_ ?_ | omega)) : ATs P cx n (.block id (.loop c) :: cs) Q st := xo_ I (fun x => x ≤ u) (fun x => u - x) 0 (Nat.zero_le _) hst round
end Go.Aw
namespace Go.Aw
theorem gK0 {X : Prop} (x : X := by simp only [x2_, List.map_cons, List.map_nil, xp_, xA_, qOf, rmT, xt_, x4_, List.filter_cons, List.filter_nil, List.contains_cons, List.contains_nil, xN_, St.get, xh_, Nat.reduceEqDiff, Nat.reduceBEq, Bool.or_false, Bool.or_true, Bool.false_and, Bool.not_true, Bool.not_false, Bool.false_eq_true, ↓reduceIte, if_true, if_false, AV.int.injEq, AV.bool.injEq, AV.l1.injEq, AV.l2.injEq, AV.l3.injEq, true_and, and_true]; omega) : X := x
theorem cg8 {X : Prop} (x : X := by simp only [x2_, List.map_cons, List.map_nil, xp_, xA_, qOf, rmT, xt_, x4_, List.filter_cons, List.filter_nil, List.contains_cons, List.contains_nil, xN_, St.get, xh_, Nat.reduceEqDiff, Nat.reduceBEq, Bool.or_false, Bool.or_true, Bool.false_and, Bool.not_true, Bool.not_false, Bool.false_eq_true, ↓reduceIte, if_true, if_false, AV.int.injEq, AV.bool.injEq, AV.l1.injEq, AV.l2.injEq, AV.l3.injEq, true_and, and_true]; (try rfl)) : X := x
theorem aJ8 {X Y : Prop} (y : Y) (s : Hd Y → X := by intro hy; simp only [x2_, List.map_cons, List.map_nil, xp_, xA_, qOf, rmT, xt_, x4_, List.filter_cons, List.filter_nil, List.contains_cons, List.contains_nil, xN_, St.get, xh_, Nat.reduceEqDiff, Nat.reduceBEq, Bool.or_false, Bool.or_true, Bool.false_and, Bool.not_true, Bool.not_false, Bool.false_eq_true, ↓reduceIte, if_true, if_false, AV.int.injEq, AV.bool.injEq, AV.l1.injEq, AV.l2.injEq, AV.l3.injEq, true_and, and_true]; exact hy.y) : X := s ⟨y⟩
end Go.Aw
