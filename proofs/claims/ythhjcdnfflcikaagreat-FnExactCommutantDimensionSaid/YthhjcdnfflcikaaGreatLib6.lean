import Derived.Test.YthhjcdnfflcikaaGreatLib5
import Derived.RangeFuncLeaves
import Derived.RangeFuncCalls
set_option linter.unusedSimpArgs false
set_option linter.unusedVariables false
namespace Go.Aw
open Go.RowKit
def sw (a b i : Nat) : Nat := if i = a then b else if i = b then a else i
theorem sw_sw (a b i : Nat) : sw a b (sw a b i) = i := by
 unfold sw
 repeat' split
 all_goals omega
mutual
def rn (σ : Nat → Nat) : AV → AV
 | .ref i p => .ref (σ i) p
 | .sub i p lo hi => .sub (σ i) p lo hi
 | .eref i p j => .eref (σ i) p j
 | .bptr i o => .bptr (σ i) o
 | .lv vs => .lv (rns σ vs)
 | .agg vs => .agg (rns σ vs)
 | .tup vs => .tup (rns σ vs)
 | .fn f vs => .fn f (rns σ vs)
 | .cptr vs o => .cptr (rns σ vs) o
 | .eptr v i => .eptr (rn σ v) i
 | .when g v => .when g (rn σ v)
 | .int n => .int n
 | .ik k n => .ik k n
 | .flt b => .flt b
 | .bool b => .bool b
 | .str s => .str s
 | .nil => .nil
 | .nilfn => .nilfn
 | .l1 x => .l1 x
 | .l2 x => .l2 x
 | .l3 x => .l3 x
 | .junk => .junk
def rns (σ : Nat → Nat) : List AV → List AV
 | [] => []
 | a :: as => rn σ a :: rns σ as
end
def rnT (σ : Nat → Nat) : Tree → Tree
 | .lv vs => .lv (rns σ vs)
 | .bx vs => .bx (rns σ vs)
 | .t1 x => .t1 x
 | .t2 x => .t2 x
 | .t3 x => .t3 x
 | .r2 x => .r2 x
 | .r3 x => .r3 x
 | .a3 x s => .a3 x s
 | .mx x i j u v => .mx x i j (rn σ u) (rn σ v)
def rnH (σ : Nat → Nat) (H : List (Nat × Tree)) : List (Nat × Tree) := H.map fun p => (σ p.1, rnT σ p.2)
def rnL (σ : Nat → Nat) (s : List (Nat × AV)) : List (Nat × AV) := s.map fun p => (p.1, rn σ p.2)
def Mem.sw (m : Mem) (σ : Nat → Nat) : Mem := ⟨m.w, m.S, fun i => m.ι (σ i), fun i p => m.D (σ i) p⟩
section
variable {m : Mem} {σ : Nat → Nat}
mutual
theorem rn_rep (hσ : ∀ i, σ (σ i) = i) : ∀ (a : AV) (v : Value), rep m a v → rep (m.sw σ) (rn σ a) v
 | .ref i p, v, h | .sub i p lo hi, v, h | .eref i p j, v, h | .bptr i o, v, h => by simpa only [rn, rep, Mem.sw, hσ] using h
 | .int _, v, h | .flt _, v, h | .ik _ _, v, h | .bool _, v, h | .str _, v, h | .nil, v, h | .nilfn, v, h | .l1 _, v, h | .l2 _, v, h | .l3 _, v, h | .junk, v, h => by simp only [rn, rep, Mem.sw] at h ⊢; try exact h
 | .lv vs, v, h => by
  simp only [rn, rep] at h ⊢
  obtain ⟨us, h1, h2⟩ := h
  exact ⟨us, h1, rns_rep hσ vs us h2⟩
 | .agg vs, v, h => by
  simp only [rn, rep] at h ⊢
  obtain ⟨us, h1, h2⟩ := h
  exact ⟨us, h1, rns_rep hσ vs us h2⟩
 | .tup vs, v, h => by
  simp only [rn, rep] at h ⊢
  obtain ⟨us, h1, h2⟩ := h
  exact ⟨us, h1, rns_rep hσ vs us h2⟩
 | .fn f vs, v, h => by
  simp only [rn, rep] at h ⊢
  obtain ⟨us, h1, h2⟩ := h
  exact ⟨us, h1, rns_rep hσ vs us h2⟩
 | .cptr vs o, v, h => by
  simp only [rn, rep] at h ⊢
  obtain ⟨b, us, h1, h2, h3, h4⟩ := h
  exact ⟨b, us, h1, h2, h3, rns_rep hσ vs us h4⟩
 | .eptr a i, v, h => by
  simp only [rn, rep] at h ⊢
  obtain ⟨b, off, k, cap, h1, h2⟩ := h
  exact ⟨b, off, k, cap, rn_rep hσ a _ h1, h2⟩
 | .when g a, v, h => by
  simp only [rn, rep] at h ⊢
  exact ⟨fun hg => rn_rep hσ a _ (h.1 hg), h.2⟩
theorem rns_rep (hσ : ∀ i, σ (σ i) = i) : ∀ (vs : List AV) (us : List Value), reps m vs us → reps (m.sw σ) (rns σ vs) us
 | [], us, h => by simpa only [rns, reps] using h
 | a :: as, us, h => by
  simp only [rns, reps] at h ⊢
  obtain ⟨u, us', h1, h2, h3⟩ := h
  exact ⟨u, us', h1, rn_rep hσ a u h2, rns_rep hσ as us' h3⟩
end
theorem rnT_rep (hσ : ∀ i, σ (σ i) = i) {fp : List Nat} : ∀ (t : Tree) (v : Value), treeRep m fp t v → treeRep (m.sw σ) fp (rnT σ t) v
 | .t1 _, _, h | .t2 _, _, h | .t3 _, _, h | .r2 _, _, h | .r3 _, _, h | .a3 _ _, _, h => h
 | .mx _ _ _ _ _, _, ⟨us, f0, fs, h1, h2, h3, h4, h5, h6, h7⟩ => ⟨us, f0, fs, h1, h2, h3, h4, h5, fun y hy => rn_rep hσ _ _ (h6 y hy), fun y hy => rn_rep hσ _ _ (h7 y hy)⟩
 | .lv vs, v, h => by
  simp only [rnT, treeRep] at h ⊢
  obtain ⟨us, h1, h2⟩ := h
  exact ⟨us, h1, rns_rep hσ vs us h2⟩
 | .bx vs, v, h => by
  simp only [rnT, treeRep] at h ⊢
  obtain ⟨b, us, E, h1, h2, h3, h4⟩ := h
  exact ⟨b, us, E, h1, h2, h3, rns_rep hσ vs us h4⟩
theorem live_rnT (t : Tree) (p : List Nat) : livePath (some (rnT σ t)) p = livePath (some t) p := by
 cases t <;> (rcases p with _ | ⟨a, _ | ⟨b, _ | _⟩⟩ <;> rfl)
theorem find_rnH (hσ : ∀ i, σ (σ i) = i) : ∀ (H : List (Nat × Tree)) (i : Nat), find (rnH σ H) i = (find H (σ i)).map (rnT σ)
 | [], _ => rfl
 | (k, t) :: r, i => by
  have ih := find_rnH hσ r i
  simp only [rnH, List.map_cons, find] at ih ⊢
  by_cases h : σ k = i
  ·have h' : k = σ i := by rw [← h, hσ]
   rw [if_pos h, if_pos h']; rfl
  ·have h' : ¬ k = σ i := fun e => h (by rw [e, hσ])
   rw [if_neg h, if_neg h']; exact ih
theorem foot_rnH (hσ : ∀ i, σ (σ i) = i) (H : List (Nat × Tree)) (F : Nat → List Nat) : foot (rnH σ H) (fun i => F (σ i)) = foot H F := by
 simp only [foot, rnH, List.map_map, Function.comp_def, hσ]
theorem ids_rnH (H : List (Nat × Tree)) : ids (rnH σ H) = (ids H).map σ := by simp [ids, rnH]
theorem slotGet_rnL (s : List (Nat × AV)) (k : Nat) : slotGet (rnL σ s) k = rn σ (slotGet s k) := by
 induction s with
 | nil => simp [rnL, slotGet, rn]
 | cons p r ih =>
  obtain ⟨j, v⟩ := p
  simp only [rnL, List.map_cons, slotGet] at ih ⊢
  split
  ·rfl
  ·exact ih
theorem mem_rnH (hσ : ∀ i, σ (σ i) = i) (cx : Cx) (w : World) (H : List (Nat × Tree)) (ι : Nat → Value) (F : Nat → List Nat) : mem cx w (rnH σ H) (fun i => ι (σ i)) (fun i => F (σ i)) = (mem cx w H ι F).sw σ := by
 unfold mem Mem.sw
 have e1 : imm cx w (rnH σ H) (fun i => F (σ i)) = imm cx w H F := by
  unfold imm
  rw [foot_rnH hσ]
 have e2 : (fun id path => livePath (find (rnH σ H) id) path = true) = fun i p => livePath (find H (σ i)) p = true := by
  funext i p
  rw [find_rnH hσ]
  cases h : find H (σ i) with
  | none => rfl
  | some t => rw [Option.map_some, live_rnT]
 rw [e1, e2]
theorem Owns.rn {cx : Cx} {H : List (Nat × Tree)} {w : World} {ι : Nat → Value} {F : Nat → List Nat} (hσ : ∀ i, σ (σ i) = i) (ho : Owns cx H w ι F) : Owns cx (rnH σ H) w (fun i => ι (σ i)) (fun i => F (σ i)) := by
 refine ⟨ho.keep, fun p hp => ?_, by rw [foot_rnH hσ]; exact ho.nodup, fun b hb => ho.mine b (by rw [foot_rnH hσ] at hb; exact hb), ?_, ho.old⟩
 ·simp only [rnH, List.mem_map] at hp
  obtain ⟨q, hq, rfl⟩ := hp
  rw [mem_rnH hσ]
  simp only [hσ]
  exact rnT_rep hσ _ _ (ho.trees q hq)
 ·rw [ids_rnH]
  exact List.Pairwise.map σ (fun a b h e => h (by rw [← hσ a, e, hσ])) ho.ids
theorem ghost_rn {cx : Cx} {n : Nat} {st : St} (hσ : ∀ i, σ (σ i) = i) : Ghost cx n st ⟨rnL σ st.s, rnH σ st.H⟩ := by
 intro tmps w ⟨h1, ι, F, h2, h3⟩
 refine ⟨h1, _, _, h2.rn hσ, fun k => ?_⟩
 show rep _ (slotGet (rnL σ st.s) k) _
 rw [slotGet_rnL, mem_rnH hσ]
 exact rn_rep hσ _ _ (h3 k)
end
section
variable {P : Program} {cx : Cx} {n : Nat} {Q : SQ} {st : St} {cs : List Code}
end
end Go.Aw
namespace Go.Aw
open Go.RowKit
def insH (p : Nat × Tree) : List (Nat × Tree) → List (Nat × Tree)
 | [] => [p]
 | q :: r => if p.1 ≤ q.1 then p :: q :: r else q :: insH p r
def sortH : List (Nat × Tree) → List (Nat × Tree)
 | [] => []
 | p :: r => insH p (sortH r)
theorem insH_perm (p : Nat × Tree) : ∀ l, (insH p l).Perm (p :: l)
 | [] => List.Perm.refl _
 | q :: r => by
  simp only [insH]
  split
  ·exact List.Perm.refl _
  ·exact ((insH_perm p r).cons q).trans (List.Perm.swap p q r)
theorem sortH_perm : ∀ l, (sortH l).Perm l
 | [] => List.Perm.refl _
 | p :: r => (insH_perm p (sortH r)).trans ((sortH_perm r).cons p)
theorem find_perm {H H' : List (Nat × Tree)} (hn : (ids H).Nodup) (hp : H'.Perm H) (i : Nat) : find H' i = find H i := by
 have hn' : (ids H').Nodup := (hp.map _).nodup_iff.2 hn
 by_cases hi : i ∈ ids H
 ·simp only [ids, List.mem_map] at hi
  obtain ⟨p, hp1, rfl⟩ := hi
  rw [find_of_mem hn hp1, find_of_mem hn' (hp.mem_iff.2 hp1)]
 ·have hi' : i ∉ ids H' := fun h => hi ((hp.map _).mem_iff.1 h)
  rw [find_none.2 hi, find_none.2 hi']
section
variable {cx : Cx} {n : Nat}
theorem foot_perm {H H' : List (Nat × Tree)} (hp : H'.Perm H) (F : Nat → List Nat) : (foot H' F).Perm (foot H F) := (hp.map _).flatten
theorem mem_perm {H H' : List (Nat × Tree)} (hn : (ids H).Nodup) (hp : H'.Perm H) (w : World) (ι : Nat → Value) (F : Nat → List Nat) : mem cx w H' ι F = mem cx w H ι F := by
 unfold mem
 have e1 : imm cx w H' F = imm cx w H F := by
  unfold imm
  funext b
  rw [(foot_perm hp F).mem_iff]
 have e2 : (fun id path => livePath (find H' id) path = true) = fun id path => livePath (find H id) path = true := by
  funext i p
  rw [find_perm hn hp]
 rw [e1, e2]
theorem ghost_perm {s : List (Nat × AV)} {H H' : List (Nat × Tree)} (hp : H'.Perm H) : Ghost cx n ⟨s, H⟩ ⟨s, H'⟩ := by
 intro tmps w ⟨h1, ι, F, ho, h3⟩
 have hm := mem_perm (cx := cx) ho.ids hp w ι F
 refine ⟨h1, ι, F, ⟨ho.keep, fun p hp' => ?_, (foot_perm hp F).nodup_iff.2 ho.nodup, fun b hb => ho.mine b ((foot_perm hp F).mem_iff.1 hb), (hp.map _).nodup_iff.2 ho.ids, ho.old⟩, fun k => ?_⟩
 ·rw [hm]
  exact ho.trees p (hp.mem_iff.1 hp')
 ·rw [hm]
  exact h3 k
def rnLs : List (Nat × Nat) → List (Nat × AV) → List (Nat × AV)
 | [], s => s
 | (a, b) :: r, s => rnLs r (rnL (sw a b) s)
def rnHs : List (Nat × Nat) → List (Nat × Tree) → List (Nat × Tree)
 | [], H => H
 | (a, b) :: r, H => rnHs r (rnH (sw a b) H)
theorem ghost_trans {a b c : St} (h1 : Ghost cx n a b) (h2 : Ghost cx n b c) : Ghost cx n a c := fun tmps w h => h2 tmps w (h1 tmps w h)
theorem ghost_rns : ∀ (σs : List (Nat × Nat)) (s : List (Nat × AV)) (H : List (Nat × Tree)), Ghost cx n ⟨s, H⟩ ⟨rnLs σs s, rnHs σs H⟩
 | [], _, _ => fun _ _ h => h
 | (a, b) :: r, s, H => ghost_trans (ghost_rn (st := ⟨s, H⟩) (sw_sw a b)) (ghost_rns r (rnL (sw a b) s) (rnH (sw a b) H))
theorem slotsLe_any {s : List (Nat × AV)} {H1 H2 : List (Nat × Tree)} : ∀ {l : List (Nat × AV)}, SlotsLe ⟨s, H1⟩ l → SlotsLe ⟨s, H2⟩ l
 | [], _ => trivial
 | _ :: _, h => ⟨h.1, slotsLe_any h.2⟩
theorem ghost_can (σs : List (Nat × Nat)) {s z : St} (h1 : SlotsLe ⟨rnLs σs s.s, s.H⟩ z.s) (h2 : sortH (rnHs σs s.H) = z.H) : Ghost cx n s z :=
 ghost_trans (ghost_rns σs s.s s.H) (ghost_trans (ghost_perm (sortH_perm _)) fun tmps w h => Le.sim (st := ⟨rnLs σs s.s, sortH (rnHs σs s.H)⟩) ⟨slotsLe_any h1, h2⟩ h)
theorem ghost_drop (R : List Nat) {s : List (Nat × AV)} {H : List (Nat × Tree)} : Ghost cx n ⟨s, H⟩ ⟨killL R [] s, killH (qOf R []) (rmT R H)⟩ := by
 intro tmps w ⟨hsz, ι, F, ho, hr⟩
 obtain ⟨k1, k2⟩ := ho.drop R
 refine ⟨hsz, ι, F, k1, fun k => ?_⟩
 have e := congrFun (get_kill ⟨s, H⟩ R []) k
 show rep _ (slotGet (killL R [] s) k) _
 rw [e]
 exact k2 _ _ (hr k)
section
variable {P : Program} {Q : SQ} {st : St} {cs : List Code}
theorem AT.weakG {c : Code} (h : AT P cx n c (fun e s => ∃ z, Ghost cx n s z ∧ Q e z) st) : AT P cx n c Q st :=
 fun tmps w hs => wpIn_mono (h tmps w hs) fun _ _ _ ⟨h1, _, ⟨z, hl, hq⟩, h3⟩ => ⟨h1, z, hq, hl _ _ h3⟩
theorem ats_planG (own : List Nat) (p : Plan) (z : St) {id : Nat} {l : List Oper} (hx : ∀ o ∈ l, ∀ d, o.dst = some d → cx.fix d = false) (hm : P.follows .mixedOrders = true) (hB : drawPl P own p l.toArray = true) (h : ∀ K : St → Prop, (∀ s, Ghost cx n s z → K s) → plRun P l.toArray n own p st K) (hz : ATs P cx n cs Q z) : ATs P cx n (.region id l.toArray true :: cs) Q st :=
 AT.weakG (AT.drawPl hx hm hB (h _ fun s hl => ⟨z, hl, hz⟩))
end
end
end Go.Aw
namespace Go.Aw
open Go.RowKit
section
variable {P : Program} {cx : Cx} {n : Nat} {c : Code} {cs : List Code} {Q : SQ} {st : St}
theorem ats_cutT (k id : Nat) {lo hi : Nat} {t t' : Tree} (hk : st.get k = .sub id [] lo hi) (hf : find st.H id = some t) (hc : cutTree lo hi t = some t') (hfl : flatT t' = true)
  (h : ATs P cx n (c :: cs) Q ⟨(k, .ref id []) :: killL [id] [] st.s, putT (killH (qOf [id] []) st.H) id t'⟩) : ATs P cx n (c :: cs) Q st := by
 intro tmps w hs
 obtain ⟨hsz, ι, F, ho, hr⟩ := hs
 have h1 := hr k
 rw [hk] at h1
 obtain ⟨fp, k1, k2, k3⟩ := target_rep (P := P) (e := 0) ho (s := .sub id [] lo hi) (t0 := t') (id := id) (by simp [target, hf, hc]) h1
 have hlt : ∀ b ∈ fp, b < w.heap.size := fun b hb => by
  obtain ⟨j1, j2⟩ := k3 b hb
  obtain ⟨p, hp, rfl⟩ := List.mem_map.1 j1
  exact (ho.mine b (mem_foot.2 ⟨p, hp, j2⟩)).1
 obtain ⟨v, all, subs, H', ι', F', ⟨rfl, rfl, rfl, rfl⟩, g1, g2, g3⟩ := ho.grow (R := []) (id := id) (t' := t') (v' := tmps.getD k undef) (fp := []) (fp' := fp) (w' := w) (by simp) ⟨rfl, rfl, rfl, Nat.le_refl _, fun _ _ _ => rfl⟩ k2
  (fun b hb => ⟨hlt b hb, .inl (k3 b hb)⟩) (fun m hm _ => (flatT_rep hfl k1).tree hm) (fun vs e => by rw [e] at hfl; cases hfl)
  (K := fun v all subs H' => v = .ref id [] ∧ all = [id] ∧ subs = [] ∧ H' = putT (killH (qOf [id] []) st.H) id t') ⟨rfl, rfl, rfl, by rw [rmT_no]; rfl⟩
 refine h tmps w ⟨hsz, ι', F', g1, fun j => ?_⟩
 show rep _ (slotGet ((k, AV.ref id []) :: killL [id] [] st.s) j) _
 unfold slotGet
 split
 ·rename_i e
  subst e
  exact g2
 ·have e := congrFun (get_kill ⟨st.s, st.H⟩ [id] []) j
  rw [e]
  exact g3 _ _ (hr j)
end
end Go.Aw
namespace Go.Aw
open Go.RowKit
section
variable {P : Program} {cx : Cx} {n : Nat}
theorem owns_fix {w w0 : World} {T H : List (Nat × Tree)} {ι : Nat → Value} {F F0 : Nat → List Nat} {S : Nat → Prop} {k k' : Fx} {u u' : Nat → Value} (ho : Owns (ownCx w0 T F0 S k u) H w ι F) : Owns (ownCx w0 T F0 S k' u') H w ι F :=
 ⟨⟨ho.keep.os, ho.keep.tape, ho.keep.output, ho.keep.size, ho.keep.block, ⟨ho.keep.gl.at0, ho.keep.gl.low⟩⟩, ho.trees, ho.nodup, ho.mine, ho.ids, ho.old⟩
mutual
/-- The objects whose roots a value tells. -/
def rootsA : AV → List Nat
 | .bptr i _ => [i]
 | .ref i [] => [i]
 | .fn _ vs => rootsAs vs
 | .cptr vs _ => rootsAs vs
 | _ => []
def rootsAs : List AV → List Nat
 | [] => []
 | a :: as => rootsA a ++ rootsAs as
end
mutual
theorem roots_agree {m m' : Mem} (hS : ∀ b, m.S b → m'.w.heap[b]? = m.w.heap[b]?) : ∀ (a : AV) (u : Value), rep m a u → rep m' a u → ∀ i ∈ rootsA a, m'.ι i = m.ι i
 | .bptr j _, u, h, h', i, hi => by
  simp only [rootsA, List.mem_singleton] at hi; subst hi
  simp only [rep] at h h'
  obtain ⟨_, b, j1, j2⟩ := h
  obtain ⟨_, b', j3, j4⟩ := h'
  rw [j2] at j4
  simp only [Value.pointer.injEq, Option.some.injEq, Addr.mk.injEq, true_and, and_true] at j4
  subst j4
  rw [j1, j3]
 | .ref j [], u, h, h', i, hi => by
  simp only [rootsA, List.mem_singleton] at hi; subst hi
  simp only [rep, pathV, Option.some.injEq] at h h'
  rw [h.2, h'.2]
 | .ref j (_ :: _), u, h, h', i, hi => by simp [rootsA] at hi
 | .fn _ vs, u, h, h', i, hi => by
  simp only [rootsA] at hi
  simp only [rep] at h h'
  obtain ⟨us, rfl, h1⟩ := h
  obtain ⟨us', e, h2⟩ := h'
  have : us' = us := by
   simp only [Value.func.injEq, true_and] at e
   exact (congrArg Array.toList e).symm
  subst this
  exact rootss_agree hS vs _ h1 h2 i hi
 | .cptr vs _, u, h, h', i, hi => by
  simp only [rootsA] at hi
  simp only [rep] at h h'
  obtain ⟨b, us, rfl, h1, h2, h3⟩ := h
  obtain ⟨b', us', e, h4, h5, h6⟩ := h'
  simp only [Value.pointer.injEq, Option.some.injEq, Addr.mk.injEq, and_true] at e
  subst e
  have hl : us.length = us'.length := by
   rw [reps_all2] at h3 h6
   rw [← h3.length, ← h6.length]
  have : us' = us := by
   refine List.ext_getElem hl.symm (fun k k1 k2 => ?_)
   have a1 := h2 k us[k] (List.getElem?_eq_getElem k2)
   have a2 := h5 k us'[k] (List.getElem?_eq_getElem k1)
   rw [cell_of_heap (hS b h1)] at a2
   rw [a1] at a2
   exact (Option.some.inj a2).symm
  subst this
  exact rootss_agree hS vs _ h3 h6 i hi
 | .int _, _, _, _, _, hi | .bool _, _, _, _, _, hi | .str _, _, _, _, _, hi | .nil, _, _, _, _, hi | .tup _, _, _, _, _, hi | .agg _, _, _, _, _, hi
 | .flt _, _, _, _, _, hi | .ik _ _, _, _, _, _, hi | .nilfn, _, _, _, _, hi | .lv _, _, _, _, _, hi | .eptr _ _, _, _, _, _, hi
 | .sub _ _ _ _, _, _, _, _, hi | .eref _ _ _, _, _, _, _, hi | .when _ _, _, _, _, _, hi | .junk, _, _, _, _, hi | .l1 _, _, _, _, _, hi | .l2 _, _, _, _, _, hi | .l3 _, _, _, _, _, hi => by simp [rootsA] at hi
theorem rootss_agree {m m' : Mem} (hS : ∀ b, m.S b → m'.w.heap[b]? = m.w.heap[b]?) : ∀ (as : List AV) (us : List Value), reps m as us → reps m' as us → ∀ i ∈ rootsAs as, m'.ι i = m.ι i
 | [], _, _, _, i, hi => by simp [rootsAs] at hi
 | a :: as, us, h, h', i, hi => by
  simp only [rootsAs, List.mem_append] at hi
  simp only [reps] at h h'
  obtain ⟨u, us1, rfl, h1, h2⟩ := h
  obtain ⟨u', us2, e, h3, h4⟩ := h'
  cases e
  rcases hi with hi | hi
  ·exact roots_agree hS a _ h1 h3 i hi
  ·exact rootss_agree hS as _ h2 h4 i hi
end
theorem OwnCall.intro {f : FuncId} {fn : Func} {c : Code} {rs : List ResultVar} {args : List AV} {T T' : List (Nat × Tree)} {r : AV} (k : Nat) (J : List Nat) {X : List Nat} (hcall : ∀ args w, (callFunc f args).run P w = .ok (.enter f args) w) (hf : P.funcs[f]? = some fn) (hb : fn.body = some c)
  (hn : fn.ntmps = n) (hrs : fn.results = rs.toArray) (hl : args.length ≤ n) (hX : ∀ i ∈ X, i ∈ Aw.ids T' ∧ ∃ j ∈ J, j < k ∧ i ∈ rootsA (slotGet (argSlots 0 args) j))
  (h : ∀ cx, cx.fix = below k → AT P cx n c (fun e st => Ends e ∧ resL P st rs r ∧ (∀ j ∈ J, st.get j = slotGet (argSlots 0 args) j) ∧ st.H = T') ⟨argSlots 0 args, T⟩) : OwnCall P f args T T' r X := by
 refine ⟨hcall, fun i hi => (hX i hi).1, fun us w S ι F ho0 hr => calls_of_wp hf hb ?_⟩
 rw [hn]
 rw [reps_all2] at hr
 have hlen := hr.length
 let cx : Cx := ownCx w T F S (below k) (fun j => (us[j]?).getD undef)
 have ho : Owns cx T w ι F := owns_fix ho0
 have hget : ∀ k, (us.toArray ++ Array.replicate (n - us.toArray.size) undef).getD k undef = (us[k]?).getD undef := by
  intro k
  rw [Array.getD_eq_getD_getElem?]
  by_cases hk : k < us.length
  ·rw [Array.getElem?_append_left (by simpa using hk)]; simp
  ·rw [Array.getElem?_append_right (by simpa using hk)]
   rw [List.getElem?_eq_none (by omega)]
   simp only [Array.getElem?_replicate]
   split <;> rfl
 have hs : SimF cx n (St.mk (argSlots 0 args) T).get T (us.toArray ++ Array.replicate (n - us.toArray.size) undef) w := by
  refine ⟨⟨by simp only [List.size_toArray, Array.size_append, Array.size_replicate]; omega, fun j _ => hget j⟩, ι, F, ho, fun j => ?_⟩
  have := argSlots_get 0 hr j
  simp only [Nat.not_lt_zero, if_false, Nat.sub_zero] at this
  rw [hget]
  exact this
 have hr0 : ∀ j, rep (mem cx w T ι F) (slotGet (argSlots 0 args) j) ((us[j]?).getD undef) := fun j => by
  have := hs.2
  have h1 := argSlots_get 0 hr j
  simp only [Nat.not_lt_zero, if_false, Nat.sub_zero] at h1
  exact h1
 refine wp_mono (wpIn_wide.1 (h cx rfl _ w hs)) ?_
 rintro e a w' ⟨h1, st', ⟨he, hv, hg0, hH⟩, ⟨hsz, hfx⟩, ι', F', ho', hr'⟩
 obtain ⟨u, k1, k2⟩ := results_run (P := P) hrs ho' hr' hv
 subst hH
 have hι : ∀ i ∈ X, ι' i = ι i := fun i hi => by
  obtain ⟨q1, j, q2, q3, q4⟩ := hX i hi
  have r1 := hr' j
  rw [hg0 j q2, hfx j (by show decide (j < k) = true; simpa using q3)] at r1
  refine roots_agree (m := mem cx w T ι F) (m' := mem cx w' st'.H ι' F') (fun b hb => ?_) _ _ (hr0 j) r1 i q4
  exact ho'.keep.block b hb.2.1 hb.2.2
 have hfin : ∃ x, (results fn a.tmps).run P w' = .ok x w' ∧ ∃ v ι' F', Ending.returned x = .returned v ∧ Owns (ownCx w T F S 0 (fun _ => undef)) st'.H w' ι' F' ∧ rep (mem (ownCx w T F S 0 (fun _ => undef)) w' st'.H ι' F') r v ∧ ∀ i ∈ X, ι' i = ι i :=
  ⟨u, k1, u, ι', F', rfl, owns_fix ho', k2, hι⟩
 rcases he with rfl | rfl
 ·exact ⟨h1, hfin⟩
 ·exact ⟨h1, hfin⟩
theorem fixN {k : Fx} {l : List Oper} (h : cx.fix = k) (hl : (l.all fun o => match o.dst with | some d => !k d | none => true) = true) : ∀ o ∈ l, ∀ d, o.dst = some d → cx.fix d = false := fun o ho d hd => by
 have := (List.all_eq_true.1 hl) o ho
 rw [hd] at this
 rw [h]
 simpa using this
end
end Go.Aw
namespace Go.Aw
open Go.RowKit
structure Reb (cx cx' : Cx) : Prop where
 fix : cx'.fix = cx.fix
 fixv : cx'.fixv = cx.fixv
 rd : cx'.rd = cx.rd
 B : cx.B0 ≤ cx'.B0
 os : cx'.w0.os = cx.w0.os
 tape : cx'.w0.tape = cx.w0.tape
 output : cx'.w0.output = cx.w0.output
 size : cx.w0.heap.size ≤ cx'.w0.heap.size
 keep : ∀ k, k < cx.B0 → ¬ cx.A0 k → cx'.w0.heap[k]? = cx.w0.heap[k]? ∧ ¬ cx'.A0 k
 S : ∀ b, cx'.S0 b → cx.S0 b ∨ cx.B0 ≤ b ∨ cx.A0 b
 A : ∀ b, cx'.A0 b → cx.B0 ≤ b ∨ cx.A0 b
 gl : GlOk cx' → GlOk cx
theorem Reb.refl (cx : Cx) : Reb cx cx := ⟨rfl, rfl, rfl, Nat.le_refl _, rfl, rfl, rfl, Nat.le_refl _, fun _ _ h => ⟨rfl, h⟩, fun _ h => .inl h, fun _ h => .inr h, id⟩
theorem Reb.trans {a b c : Cx} (h : Reb a b) (k : Reb b c) : Reb a c :=
 ⟨k.fix.trans h.fix, k.fixv.trans h.fixv, k.rd.trans h.rd, Nat.le_trans h.B k.B, k.os.trans h.os, k.tape.trans h.tape, k.output.trans h.output, Nat.le_trans h.size k.size,
  fun j hj ha => by
  have h1 := h.keep j hj ha
  have h2 := k.keep j (Nat.lt_of_lt_of_le hj h.B) h1.2
  exact ⟨h2.1.trans h1.1, h2.2⟩,
  fun j hj => by
  rcases k.S j hj with h1 | h1 | h1
  ·exact h.S j h1
  ·exact .inr (.inl (Nat.le_trans h.B h1))
  ·exact .inr (h.A j h1),
  fun j hj => by
  rcases k.A j hj with h1 | h1
  ·exact .inl (Nat.le_trans h.B h1)
  ·exact h.A j h1, fun h1 => h.gl (k.gl h1)⟩
section
variable {P : Program} {cx cx' : Cx} {n : Nat} {H : List (Nat × Tree)} {w W : World} {ι : Nat → Value} {F : Nat → List Nat} {g : Nat → AV} {tmps : Array Value}
theorem mem_sub (h : ∀ b, imm cx' w H F b → imm cx w H F b) : (mem cx' w H ι F).le (mem cx w H ι F) := ⟨fun b hb => ⟨h b hb, rfl⟩, fun _ _ hid => ⟨hid, rfl, fun _ hp => hp⟩⟩
theorem Reb.imm (h : Reb cx cx') : ∀ b, Aw.imm cx' w H F b → Aw.imm cx w H F b := fun b hb => ⟨by
 rcases hb.1 with h1 | h1 | h1
 ·exact h.S b h1
 ·exact .inr (.inl (Nat.le_trans h.B h1))
 ·exact .inr (h.A b h1), hb.2⟩
theorem Reb.owns (h : Reb cx cx') (ho : Owns cx' H w ι F) : Owns cx H w ι F where
 keep := ⟨ho.keep.os.trans h.os, ho.keep.tape.trans h.tape, ho.keep.output.trans h.output, Nat.le_trans h.size ho.keep.size, fun k hk ha => (ho.keep.block k (Nat.lt_of_lt_of_le hk h.B) (h.keep k hk ha).2).trans (h.keep k hk ha).1, h.gl ho.keep.gl⟩
 trees := fun p hp => (ho.trees p hp).le (mem_sub h.imm) (fun _ _ => rfl)
 nodup := ho.nodup
 mine := fun b hb => ⟨(ho.mine b hb).1, (ho.mine b hb).2.elim (fun h1 => .inl (Nat.le_trans h.B h1)) (fun h1 => h.A b h1)⟩
 ids := ho.ids
 old := Nat.le_trans h.B ho.old
theorem Reb.sim (h : Reb cx cx') (hs : SimF cx' n g H tmps w) : SimF cx n g H tmps w := by
 obtain ⟨⟨h1, h2⟩, ι, F, ho, hr⟩ := hs
 refine ⟨⟨h1, fun j hj => ?_⟩, ι, F, h.owns ho, fun k => rep.le (mem_sub h.imm) _ _ (hr k)⟩
 rw [← h.fixv]
 exact h2 j (by rw [h.fix]; exact hj)
theorem Owns.other {k : Fx} {fv : Nat → Value} {rd : Option Nat} {ds : List Deferred} (ho : Owns cx H w ι F) : Owns { cx with fix := k, fixv := fv, rd := rd, ds := ds } H w ι F :=
 ⟨⟨ho.keep.os, ho.keep.tape, ho.keep.output, ho.keep.size, ho.keep.block, ⟨ho.keep.gl.at0, ho.keep.gl.low⟩⟩, ho.trees, ho.nodup, ho.mine, ho.ids, ho.old⟩
def mark (D : Nat) : Deferred := { target := .collected D, args := #[] }
def DOk (cx cx' : Cx) : Prop := ∃ Ds : List Nat, cx'.ds = Ds.map mark ∧ Ds.Nodup ∧ ∀ D ∈ Ds, cx.B0 ≤ D ∧ D < cx'.B0 ∧ ¬ cx'.A0 D ∧ ¬ cx'.S0 D ∧ cx'.w0.heap[D]? = some (.deferred (some []))
def ATD (P : Program) (cx : Cx) (n : Nat) (c : Code) (Q : SQ) (st : St) : Prop :=
 ∀ cx', Reb cx cx' → DOk cx cx' → ∀ tmps w, SimF cx' n st.get st.H tmps w →
  c.wpIn (Fr cx'.rd) 0 P (fun e a w' => ∃ cx'', Reb cx cx'' ∧ DOk cx cx'' ∧ a.defers = cx''.ds ∧ ∃ st', Q e st' ∧ SimF cx'' n st'.get st'.H a.tmps w') ⟨tmps, cx'.ds⟩ w
variable {Q : SQ} {st : St}
theorem ATD.conseq {c : Code} {Q' : SQ} (h : ATD P cx n c Q' st) (hq : ∀ e s, Q' e s → Q e s) : ATD P cx n c Q st :=
 fun cx' hr hd tmps w hs => wpIn_mono (h cx' hr hd tmps w hs) fun _ _ _ ⟨c2, h1, h2, h3, st', h4, h5⟩ => ⟨c2, h1, h2, h3, st', hq _ _ h4, h5⟩
theorem ATD.ghost {c : Code} {st' : St} (hl : ∀ cx', cx'.fix = cx.fix → Ghost cx' n st st') (h : ATD P cx n c Q st') : ATD P cx n c Q st := fun cx' hr hd tmps w hs => h cx' hr hd tmps w (hl cx' hr.fix tmps w hs)
theorem ATD.seq {a b : Code} (h : ATD P cx n a (thn (ATD P cx n b Q) Q) st) : ATD P cx n (.seq a b) Q st := by
 intro cx' hr hd tmps w hs
 refine wpIn_seq (wpIn_mono (h cx' hr hd tmps w hs) ?_)
 rintro e a w' ⟨c2, h1, h2, h3, st', h4, h5⟩
 cases e with
 | normal =>
  have := h4 c2 h1 h2 a.tmps w' h5
  rw [← act_eta h3] at this
  rw [show cx'.rd = c2.rd from hr.rd.trans h1.rd.symm]
  exact this
 | exit id => exact ⟨c2, h1, h2, h3, st', h4, h5⟩
 | goto l => exact ⟨c2, h1, h2, h3, st', h4, h5⟩
 | ret => exact ⟨c2, h1, h2, h3, st', h4, h5⟩
 | panic ch => exact ⟨c2, h1, h2, h3, st', h4, h5⟩
 | outgrown => exact ⟨c2, h1, h2, h3, st', h4, h5⟩
theorem ATD.block {id : Nat} {c : Code} (h : ATD P cx n c (inBl id Q) st) : ATD P cx n (.block id c) Q st := by
 intro cx' hr hd tmps w hs
 refine wpIn_block (wpIn_mono (h cx' hr hd tmps w hs) ?_)
 rintro e a w' ⟨c2, h1, h2, h3, st', h4, h5⟩
 cases e with
 | exit id' =>
  simp only [inBl, Exit.inBlock] at h4 ⊢
  split
  ·rename_i hh; rw [if_pos hh] at h4; exact ⟨c2, h1, h2, h3, st', h4, h5⟩
  ·rename_i hh; rw [if_neg hh] at h4; exact ⟨c2, h1, h2, h3, st', h4, h5⟩
 | normal => exact ⟨c2, h1, h2, h3, st', h4, h5⟩
 | goto l => exact ⟨c2, h1, h2, h3, st', h4, h5⟩
 | ret => exact ⟨c2, h1, h2, h3, st', h4, h5⟩
 | panic ch => exact ⟨c2, h1, h2, h3, st', h4, h5⟩
 | outgrown => exact ⟨c2, h1, h2, h3, st', h4, h5⟩
theorem ATD.loop {c : Code} {σ : Type} (I : σ → St) (inv : σ → Prop) (μ : σ → Nat) (x0 : σ) (h0 : inv x0) (hst : Le st (I x0))
  (round : ∀ x, inv x → ATD P cx n c (thn (fun st' => ∃ y, inv y ∧ μ y < μ x ∧ Lq st' (I y)) Q) (I x)) : ATD P cx n (.loop c) Q st := by
 intro cx' hr hd tmps w hs
 refine wpIn_loop_low (fun m a w => ∃ c2, Reb cx c2 ∧ DOk cx c2 ∧ a.defers = c2.ds ∧ ∃ x, μ x = m ∧ inv x ∧ SimF c2 n (I x).get (I x).H a.tmps w) (μ x0) ⟨cx', hr, hd, rfl, x0, rfl, h0, hst.sim hs⟩ ?_
 rintro m a w ⟨c2, hr2, hd2, hda, x, hm, hx, hsx⟩
 have := round x hx c2 hr2 hd2 a.tmps w hsx
 rw [← act_eta hda] at this
 rw [show cx'.rd = c2.rd from hr.rd.trans hr2.rd.symm]
 refine wpIn_mono this ?_
 rintro e a₁ w₁ ⟨c3, h1, h2, h3, st', hq, hs'⟩
 cases e with
 | normal =>
  obtain ⟨y, hy, hlt, hle⟩ := hq
  exact ⟨μ y, hm ▸ hlt, c3, h1, h2, h3, y, rfl, hy, hle.sim hs'⟩
 | exit id => exact ⟨c3, h1, h2, h3, st', hq, hs'⟩
 | goto l => exact ⟨c3, h1, h2, h3, st', hq, hs'⟩
 | ret => exact ⟨c3, h1, h2, h3, st', hq, hs'⟩
 | panic ch => exact ⟨c3, h1, h2, h3, st', hq, hs'⟩
 | outgrown => exact ⟨c3, h1, h2, h3, st', hq, hs'⟩
end
end Go.Aw
namespace Go.Aw
open Go.RowKit
def ElAt (W : World) (bb N j : Nat) (v : Value) : Prop := ∃ b off cap, W.cell? ⟨bb, 0, none⟩ = some (.slice (some ⟨b, off, none⟩) N cap) ∧ W.cell? ⟨b, off + j, none⟩ = some v
theorem ElAt.one {W : World} {bb N j : Nat} {v u : Value} (h : ElAt W bb N j v) (k : ElAt W bb N j u) : v = u := by
 obtain ⟨b, off, cap, h1, h2⟩ := h
 obtain ⟨b', off', cap', k1, k2⟩ := k
 rw [h1] at k1
 cases k1
 rw [h2] at k2
 exact Option.some.inj k2
section
variable {P : Program} {cx cx' : Cx} {n : Nat} {w W : World} {Q : SQ}
theorem Reb.turn {l : Nat} {o : Obj} {ds : List Deferred} (h : Reb cx cx') (hl : cx.B0 ≤ l) (hoc : o.isCells = false := by rfl) : Reb cx { cx' with w0 := cx'.w0.putObj l o, ds := ds } :=
 ⟨h.fix, h.fixv, h.rd, h.B, h.os, h.tape, h.output, by show cx.w0.heap.size ≤ (cx'.w0.putObj l o).heap.size; rw [World.putObj_size]; exact h.size,
  fun k hk ha => ⟨by
  show (cx'.w0.putObj l o).heap[k]? = _
  rw [World.putObj_heap_other (by omega)]
  exact (h.keep k hk ha).1, (h.keep k hk ha).2⟩, h.S, h.A, fun g => h.gl ⟨fun p hp => by
  obtain ⟨q, x, h1⟩ := g.at0 p hp
  refine ⟨q, x, ?_⟩
  by_cases e : p.1 = l
  ·have hsz := GlobOk.lt g.at0 hp
   have hsz' : p.1 < (cx'.w0.putObj l o).heap.size := hsz
   rw [World.putObj_size, e] at hsz'
   have h2 : (cx'.w0.putObj l o).heap[p.1]? = some o := by rw [e]; exact World.putObj_heap_same hsz'
   have h3 : (cx'.w0.putObj l o).heap[p.1]? = some (.cells p.2.toArray q x) := h1
   rw [h2] at h3
   obtain rfl := Option.some.inj h3
   cases hoc
  ·exact (World.putObj_heap_other e).symm.trans h1, g.low⟩⟩
end
end Go.Aw
namespace Go.Aw
open Go.RowKit
section
variable {P : Program} {cx : Cx} {n : Nat} {Q : SQ} {st : St} {g : Nat → AV} {H : List (Nat × Tree)} {tmps : Array Value} {w : World}
variable {cs : List Code}
end
section
variable {P : Program} {cx : Cx} {n : Nat} {Q : SQ} {st : St} {cs : List Code}
end
section
variable {P : Program} {cx : Cx} {n : Nat} {Q : SQ} {st : St}
end
end Go.Aw
namespace Go.Aw
theorem gAN {X Y : Prop} (y : Y) (s : Hd Y → X := by intro hy; (repeat refine ats_seq ?_); refine ats_go (by first | exact fix0 hcx | exact fix1 hcx rfl | exact fixN hcx rfl) fun K hK => ?_; simp only [go_sem, seval]; refine hK _ ?_; clear hK K; exact hy.y) : X := s ⟨y⟩
theorem gBN {X Y : Prop} (y : Y) (s : Hd Y → X := by intro hy; (repeat refine ats_seq ?_); refine ats_go (by first | exact fix0 hcx | exact fix1 hcx rfl | exact fixN hcx rfl) fun K hK => ?_; simp only [go_sem, seval]; (repeat refine aI (hb := ?_)); refine hK _ ?_; clear hK K; exact hy.y) : X := s ⟨y⟩
theorem gCN {X : Prop} {Φ : (St → Prop) → Prop} {Y : ∀ K : St → Prop, Φ K → Prop} (y : ∀ K hK, Y K hK) (s : (∀ K hK, Y K hK) → X := by intro hy; (repeat refine ats_seq ?_); refine ats_go (by first | exact fix0 hcx | exact fix1 hcx rfl | exact fixN hcx rfl) fun K hK => ?_; simp only [go_sem, seval]; exact hy K hK) : X := s y
end Go.Aw
