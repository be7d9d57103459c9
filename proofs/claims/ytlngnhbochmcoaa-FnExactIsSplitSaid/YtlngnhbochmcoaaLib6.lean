import Derived.Test.YtlngnhbochmcoaaLib5
import Derived.RangeFuncLeaves
import Derived.RangeFuncCalls
set_option linter.unusedSimpArgs false
set_option linter.unusedVariables false
namespace Go.Aw
open Go.RowKit
def sw (a b i : Nat) : Nat := if i = a then b else if i = b then a else i
theorem bh1 (a b i : Nat) : sw a b (sw a b i) = i := by
 unfold sw
 repeat' split
 all_goals omega
mutual
def rn (σ : Nat → Nat) : AV → AV
 | .ref i p => .ref (σ i) p
 | .sub i p lo hi => .sub (σ i) p lo hi
 | .eref i p j => .eref (σ i) p j
 | .bptr i o => .bptr (σ i) o
 | .lv vs => .lv (rns σ vs)
 | .agg vs => .agg (rns σ vs)
 | .tup vs => .tup (rns σ vs)
 | .fn f vs => .fn f (rns σ vs)
 | .cptr vs o => .cptr (rns σ vs) o
 | .eptr v i => .eptr (rn σ v) i
 | .when g v => .when g (rn σ v)
 | .int n => .int n
 | .ik k n => .ik k n
 | .flt b => .flt b
 | .bool b => .bool b
 | .str s => .str s
 | .nil => .nil
 | .nilfn => .nilfn
 | .l1 x => .l1 x
 | .l2 x => .l2 x
 | .l3 x => .l3 x
 | .lp x o => .lp x o
 | .val x => .val x
 | .junk => .junk
def rns (σ : Nat → Nat) : List AV → List AV
 | [] => []
 | a :: as => rn σ a :: rns σ as
end
def rnT (σ : Nat → Nat) : Tree → Tree
 | .lv vs => .lv (rns σ vs)
 | .bx vs => .bx (rns σ vs)
 | .t1 x => .t1 x
 | .t2 x => .t2 x
 | .t3 x => .t3 x
 | .r2 x => .r2 x
 | .r3 x => .r3 x
 | .a3 x s => .a3 x s
 | .tp x => .tp x
 | .tq x L => .tq x L
 | .mx x i j u v => .mx x i j (rn σ u) (rn σ v)
def rnH (σ : Nat → Nat) (H : List (Nat × Tree)) : List (Nat × Tree) := H.map fun p => (σ p.1, rnT σ p.2)
def rnL (σ : Nat → Nat) (s : List (Nat × AV)) : List (Nat × AV) := s.map fun p => (p.1, rn σ p.2)
def Mem.sw (m : Mem) (σ : Nat → Nat) : Mem := ⟨m.w, m.S, fun i => m.ι (σ i), fun i p => m.D (σ i) p⟩
section
variable {m : Mem} {σ : Nat → Nat}
mutual
theorem W0_ (hσ : ∀ i, σ (σ i) = i) : ∀ (a : AV) (v : Value), rep m a v → rep (m.sw σ) (rn σ a) v
 | .ref i p, v, h | .sub i p lo hi, v, h | .eref i p j, v, h | .bptr i o, v, h => by simpa only [rn, rep, Mem.sw, hσ] using h
 | .int _, v, h | .flt _, v, h | .ik _ _, v, h | .bool _, v, h | .str _, v, h | .nil, v, h | .nilfn, v, h | .l1 _, v, h | .l2 _, v, h | .l3 _, v, h | .lp _ _, v, h | .val _, v, h | .junk, v, h => by simp only [rn, rep, Mem.sw] at h ⊢; try exact h
 | .lv vs, v, h => by
  simp only [rn, rep] at h ⊢
  obtain ⟨us, h1, h2⟩ := h
  exact ⟨us, h1, wR_ hσ vs us h2⟩
 | .agg vs, v, h => by
  simp only [rn, rep] at h ⊢
  obtain ⟨us, h1, h2⟩ := h
  exact ⟨us, h1, wR_ hσ vs us h2⟩
 | .tup vs, v, h => by
  simp only [rn, rep] at h ⊢
  obtain ⟨us, h1, h2⟩ := h
  exact ⟨us, h1, wR_ hσ vs us h2⟩
 | .fn f vs, v, h => by
  simp only [rn, rep] at h ⊢
  obtain ⟨us, h1, h2⟩ := h
  exact ⟨us, h1, wR_ hσ vs us h2⟩
 | .cptr vs o, v, h => by
  simp only [rn, rep] at h ⊢
  obtain ⟨b, us, h1, h2, h3, h4⟩ := h
  exact ⟨b, us, h1, h2, h3, wR_ hσ vs us h4⟩
 | .eptr a i, v, h => by
  simp only [rn, rep] at h ⊢
  obtain ⟨b, off, k, cap, h1, h2⟩ := h
  exact ⟨b, off, k, cap, W0_ hσ a _ h1, h2⟩
 | .when g a, v, h => by
  simp only [rn, rep] at h ⊢
  exact ⟨fun hg => W0_ hσ a _ (h.1 hg), h.2⟩
theorem wR_ (hσ : ∀ i, σ (σ i) = i) : ∀ (vs : List AV) (us : List Value), reps m vs us → reps (m.sw σ) (rns σ vs) us
 | [], us, h => by simpa only [rns, reps] using h
 | a :: as, us, h => by
  simp only [rns, reps] at h ⊢
  obtain ⟨u, us', h1, h2, h3⟩ := h
  exact ⟨u, us', h1, W0_ hσ a u h2, wR_ hσ as us' h3⟩
end
theorem aF8 (hσ : ∀ i, σ (σ i) = i) {fp : List Nat} : ∀ (t : Tree) (v : Value), treeRep m fp t v → treeRep (m.sw σ) fp (rnT σ t) v
 | .t1 _, _, h | .t2 _, _, h | .t3 _, _, h | .r2 _, _, h | .r3 _, _, h | .a3 _ _, _, h | .tp _, _, h | .tq _ _, _, h => h
 | .mx _ _ _ _ _, _, ⟨us, f0, fs, h1, h2, h3, h4, h5, h6, h7⟩ => ⟨us, f0, fs, h1, h2, h3, h4, h5, fun y hy => W0_ hσ _ _ (h6 y hy), fun y hy => W0_ hσ _ _ (h7 y hy)⟩
 | .lv vs, v, h => by
  simp only [rnT, treeRep] at h ⊢
  obtain ⟨us, h1, h2⟩ := h
  exact ⟨us, h1, wR_ hσ vs us h2⟩
 | .bx vs, v, h => by
  simp only [rnT, treeRep] at h ⊢
  obtain ⟨b, us, E, h1, h2, h3, h4⟩ := h
  exact ⟨b, us, E, h1, h2, h3, wR_ hσ vs us h4⟩
theorem ap3 (t : Tree) (p : List Nat) : xq_ (some (rnT σ t)) p = xq_ (some t) p := by
 cases t <;> (rcases p with _ | ⟨a, _ | ⟨b, _ | _⟩⟩ <;> rfl)
theorem SW_ (hσ : ∀ i, σ (σ i) = i) : ∀ (H : List (Nat × Tree)) (i : Nat), find (rnH σ H) i = (find H (σ i)).map (rnT σ)
 | [], _ => rfl
 | (k, t) :: r, i => by
  have ih := SW_ hσ r i
  simp only [rnH, List.map_cons, find] at ih ⊢
  by_cases h : σ k = i
  ·have h' : k = σ i := by rw [← h, hσ]
   rw [if_pos h, if_pos h']; rfl
  ·have h' : ¬ k = σ i := fun e => h (by rw [e, hσ])
   rw [if_neg h, if_neg h']; exact ih
theorem VL_ (hσ : ∀ i, σ (σ i) = i) (H : List (Nat × Tree)) (F : Nat → List Nat) : xW_ (rnH σ H) (fun i => F (σ i)) = xW_ H F := by
 simp only [xW_, rnH, List.map_map, Function.comp_def, hσ]
theorem aF9 (H : List (Nat × Tree)) : ids (rnH σ H) = (ids H).map σ := by simp [ids, rnH]
theorem T7_ (s : List (Nat × AV)) (k : Nat) : xh_ (rnL σ s) k = rn σ (xh_ s k) := by
 induction s with
 | nil => simp [rnL, xh_, rn]
 | cons p r ih =>
  obtain ⟨j, v⟩ := p
  simp only [rnL, List.map_cons, xh_] at ih ⊢
  split
  ·rfl
  ·exact ih
theorem JB_ (hσ : ∀ i, σ (σ i) = i) (cx : Cx) (w : World) (H : List (Nat × Tree)) (ι : Nat → Value) (F : Nat → List Nat) : mem cx w (rnH σ H) (fun i => ι (σ i)) (fun i => F (σ i)) = (mem cx w H ι F).sw σ := by
 unfold mem Mem.sw
 have e1 : imm cx w (rnH σ H) (fun i => F (σ i)) = imm cx w H F := by
  unfold imm
  rw [VL_ hσ]
 have e2 : (fun id path => xq_ (find (rnH σ H) id) path = true) = fun i p => xq_ (find H (σ i)) p = true := by
  funext i p
  rw [SW_ hσ]
  cases h : find H (σ i) with
  | none => rfl
  | some t => rw [Option.map_some, ap3]
 rw [e1, e2]
theorem Owns.rn {cx : Cx} {H : List (Nat × Tree)} {w : World} {ι : Nat → Value} {F : Nat → List Nat} (hσ : ∀ i, σ (σ i) = i) (ho : Owns cx H w ι F) : Owns cx (rnH σ H) w (fun i => ι (σ i)) (fun i => F (σ i)) := by
 refine ⟨ho.keep, fun p hp => ?_, by rw [VL_ hσ]; exact ho.nodup, fun b hb => ho.mine b (by rw [VL_ hσ] at hb; exact hb), ?_, ho.old⟩
 ·simp only [rnH, List.mem_map] at hp
  obtain ⟨q, hq, rfl⟩ := hp
  rw [JB_ hσ]
  simp only [hσ]
  exact aF8 hσ _ _ (ho.trees q hq)
 ·rw [aF9]
  exact List.Pairwise.map σ (fun a b h e => h (by rw [← hσ a, e, hσ])) ho.ids
theorem ap4 {cx : Cx} {n : Nat} {st : St} (hσ : ∀ i, σ (σ i) = i) : yp_ cx n st ⟨rnL σ st.s, rnH σ st.H⟩ := by
 intro tmps w ⟨h1, ι, F, h2, h3⟩
 refine ⟨h1, _, _, h2.rn hσ, fun k => ?_⟩
 show rep _ (xh_ (rnL σ st.s) k) _
 rw [T7_, JB_ hσ]
 exact W0_ hσ _ _ (h3 k)
end
section
variable {P : Program} {cx : Cx} {n : Nat} {Q : SQ} {st : St} {cs : List Code}
end
end Go.Aw
namespace Go.Aw
open Go.RowKit
def aV8 (p : Nat × Tree) : List (Nat × Tree) → List (Nat × Tree)
 | [] => [p]
 | q :: r => if p.1 ≤ q.1 then p :: q :: r else q :: aV8 p r
def UX_ : List (Nat × Tree) → List (Nat × Tree)
 | [] => []
 | p :: r => aV8 p (UX_ r)
theorem UY_ (p : Nat × Tree) : ∀ l, (aV8 p l).Perm (p :: l)
 | [] => List.Perm.refl _
 | q :: r => by
  simp only [aV8]
  split
  ·exact List.Perm.refl _
  ·exact ((UY_ p r).cons q).trans (List.Perm.swap p q r)
theorem W1_ : ∀ l, (UX_ l).Perm l
 | [] => List.Perm.refl _
 | p :: r => (UY_ p (UX_ r)).trans ((W1_ r).cons p)
theorem JC_ {H H' : List (Nat × Tree)} (hn : (ids H).Nodup) (hp : H'.Perm H) (i : Nat) : find H' i = find H i := by
 have hn' : (ids H').Nodup := (hp.map _).nodup_iff.2 hn
 by_cases hi : i ∈ ids H
 ·simp only [ids, List.mem_map] at hi
  obtain ⟨p, hp1, rfl⟩ := hi
  rw [x5_ hn hp1, x5_ hn' (hp.mem_iff.2 hp1)]
 ·have hi' : i ∉ ids H' := fun h => hi ((hp.map _).mem_iff.1 h)
  rw [find_none.2 hi, find_none.2 hi']
section
variable {cx : Cx} {n : Nat}
theorem Z9_ {H H' : List (Nat × Tree)} (hp : H'.Perm H) (F : Nat → List Nat) : (xW_ H' F).Perm (xW_ H F) := (hp.map _).flatten
theorem ap5 {H H' : List (Nat × Tree)} (hn : (ids H).Nodup) (hp : H'.Perm H) (w : World) (ι : Nat → Value) (F : Nat → List Nat) : mem cx w H' ι F = mem cx w H ι F := by
 unfold mem
 have e1 : imm cx w H' F = imm cx w H F := by
  unfold imm
  funext b
  rw [(Z9_ hp F).mem_iff]
 have e2 : (fun id path => xq_ (find H' id) path = true) = fun id path => xq_ (find H id) path = true := by
  funext i p
  rw [JC_ hn hp]
 rw [e1, e2]
theorem QB_ {s : List (Nat × AV)} {H H' : List (Nat × Tree)} (hp : H'.Perm H) : yp_ cx n ⟨s, H⟩ ⟨s, H'⟩ := by
 intro tmps w ⟨h1, ι, F, ho, h3⟩
 have hm := ap5 (cx := cx) ho.ids hp w ι F
 refine ⟨h1, ι, F, ⟨ho.keep, fun p hp' => ?_, (Z9_ hp F).nodup_iff.2 ho.nodup, fun b hb => ho.mine b ((Z9_ hp F).mem_iff.1 hb), (hp.map _).nodup_iff.2 ho.ids, ho.old⟩, fun k => ?_⟩
 ·rw [hm]
  exact ho.trees p (hp.mem_iff.1 hp')
 ·rw [hm]
  exact h3 k
def aK3 : List (Nat × Nat) → List (Nat × AV) → List (Nat × AV)
 | [], s => s
 | (a, b) :: r, s => aK3 r (rnL (sw a b) s)
def aK4 : List (Nat × Nat) → List (Nat × Tree) → List (Nat × Tree)
 | [], H => H
 | (a, b) :: r, H => aK4 r (rnH (sw a b) H)
theorem wp_ {a b c : St} (h1 : yp_ cx n a b) (h2 : yp_ cx n b c) : yp_ cx n a c := fun tmps w h => h2 tmps w (h1 tmps w h)
theorem UZ_ : ∀ (σs : List (Nat × Nat)) (s : List (Nat × AV)) (H : List (Nat × Tree)), yp_ cx n ⟨s, H⟩ ⟨aK3 σs s, aK4 σs H⟩
 | [], _, _ => fun _ _ h => h
 | (a, b) :: r, s, H => wp_ (ap4 (st := ⟨s, H⟩) (bh1 a b)) (UZ_ r (rnL (sw a b) s) (rnH (sw a b) H))
theorem Wa_ {s : List (Nat × AV)} {H1 H2 : List (Nat × Tree)} : ∀ {l : List (Nat × AV)}, xN_ ⟨s, H1⟩ l → xN_ ⟨s, H2⟩ l
 | [], _ => trivial
 | _ :: _, h => ⟨h.1, Wa_ h.2⟩
theorem wS_ (σs : List (Nat × Nat)) {s z : St} (h1 : xN_ ⟨aK3 σs s.s, s.H⟩ z.s) (h2 : UX_ (aK4 σs s.H) = z.H) : yp_ cx n s z :=
 wp_ (UZ_ σs s.s s.H) (wp_ (QB_ (W1_ _)) fun tmps w h => Le.sim (st := ⟨aK3 σs s.s, UX_ (aK4 σs s.H)⟩) ⟨Wa_ h1, h2⟩ h)
theorem QC_ (R : List Nat) {s : List (Nat × AV)} {H : List (Nat × Tree)} : yp_ cx n ⟨s, H⟩ ⟨x2_ R [] s, xt_ (qOf R []) (rmT R H)⟩ := by
 intro tmps w ⟨hsz, ι, F, ho, hr⟩
 obtain ⟨k1, k2⟩ := ho.drop R
 refine ⟨hsz, ι, F, k1, fun k => ?_⟩
 have e := congrFun (zm_ ⟨s, H⟩ R []) k
 show rep _ (xh_ (x2_ R [] s) k) _
 rw [e]
 exact k2 _ _ (hr k)
section
variable {P : Program} {Q : SQ} {st : St} {cs : List Code}
theorem AT.weakG {c : Code} (h : AT P cx n c (fun e s => ∃ z, yp_ cx n s z ∧ Q e z) st) : AT P cx n c Q st :=
 fun tmps w hs => wpIn_mono (h tmps w hs) fun _ _ _ ⟨h1, _, ⟨z, hl, hq⟩, h3⟩ => ⟨h1, z, hq, hl _ _ h3⟩
end
end
end Go.Aw
namespace Go.Aw
open Go.RowKit
section
variable {P : Program} {cx : Cx} {n : Nat} {c : Code} {cs : List Code} {Q : SQ} {st : St}
theorem ap6 (k id : Nat) {lo hi : Nat} {t t' : Tree} (hk : st.get k = .sub id [] lo hi) (hf : find st.H id = some t) (hc : Yi_ lo hi t = some t') (hfl : Ru_ t' = true)
  (h : ATs P cx n (c :: cs) Q ⟨(k, .ref id []) :: x2_ [id] [] st.s, x8_ (xt_ (qOf [id] []) st.H) id t'⟩) : ATs P cx n (c :: cs) Q st := by
 intro tmps w hs
 obtain ⟨hsz, ι, F, ho, hr⟩ := hs
 have h1 := hr k
 rw [hk] at h1
 obtain ⟨fp, k1, k2, k3⟩ := wb_ (P := P) (e := 0) ho (s := .sub id [] lo hi) (t0 := t') (id := id) (by simp [target, hf, hc]) h1
 have hlt : ∀ b ∈ fp, b < w.heap.size := fun b hb => by
  obtain ⟨j1, j2⟩ := k3 b hb
  obtain ⟨p, hp, rfl⟩ := List.mem_map.1 j1
  exact (ho.mine b (mem_foot.2 ⟨p, hp, j2⟩)).1
 obtain ⟨v, all, subs, H', ι', F', ⟨rfl, rfl, rfl, rfl⟩, g1, g2, g3⟩ := ho.grow (R := []) (id := id) (t' := t') (v' := tmps.getD k undef) (fp := []) (fp' := fp) (w' := w) (by simp) ⟨rfl, rfl, rfl, Nat.le_refl _, fun _ _ _ => rfl⟩ k2
  (fun b hb => ⟨hlt b hb, .inl (k3 b hb)⟩) (fun m hm _ => (XF_ hfl k1).tree hm) (fun vs e => by rw [e] at hfl; cases hfl)
  (K := fun v all subs H' => v = .ref id [] ∧ all = [id] ∧ subs = [] ∧ H' = x8_ (xt_ (qOf [id] []) st.H) id t') ⟨rfl, rfl, rfl, by rw [yL_]; rfl⟩
 refine h tmps w ⟨hsz, ι', F', g1, fun j => ?_⟩
 show rep _ (xh_ ((k, AV.ref id []) :: x2_ [id] [] st.s) j) _
 unfold xh_
 split
 ·rename_i e
  subst e
  exact g2
 ·have e := congrFun (zm_ ⟨st.s, st.H⟩ [id] []) j
  rw [e]
  exact g3 _ _ (hr j)
end
end Go.Aw
namespace Go.Aw
open Go.RowKit
section
variable {P : Program} {cx : Cx} {n : Nat}
theorem Ze_ {w w0 : World} {T H : List (Nat × Tree)} {ι : Nat → Value} {F F0 : Nat → List Nat} {S : Nat → Prop} {k k' : Fx} {u u' : Nat → Value} (ho : Owns (Xf_ w0 T F0 S k u) H w ι F) : Owns (Xf_ w0 T F0 S k' u') H w ι F :=
 ⟨⟨ho.keep.os, ho.keep.tape, ho.keep.output, ho.keep.size, ho.keep.block, ⟨ho.keep.gl.at0, ho.keep.gl.low⟩⟩, ho.trees, ho.nodup, ho.mine, ho.ids, ho.old⟩
mutual
/-- The objects whose roots a value tells. -/
def y9_ : AV → List Nat
 | .bptr i _ => [i]
 | .ref i [] => [i]
 | .fn _ vs => zk_ vs
 | .cptr vs _ => zk_ vs
 | _ => []
def zk_ : List AV → List Nat
 | [] => []
 | a :: as => y9_ a ++ zk_ as
end
mutual
theorem Xs_ {m m' : Mem} (hS : ∀ b, m.S b → m'.w.heap[b]? = m.w.heap[b]?) : ∀ (a : AV) (u : Value), rep m a u → rep m' a u → ∀ i ∈ y9_ a, m'.ι i = m.ι i
 | .bptr j _, u, h, h', i, hi => by
  simp only [y9_, List.mem_singleton] at hi; subst hi
  simp only [rep] at h h'
  obtain ⟨_, b, j1, j2⟩ := h
  obtain ⟨_, b', j3, j4⟩ := h'
  rw [j2] at j4
  simp only [Value.pointer.injEq, Option.some.injEq, Addr.mk.injEq, true_and, and_true] at j4
  subst j4
  rw [j1, j3]
 | .ref j [], u, h, h', i, hi => by
  simp only [y9_, List.mem_singleton] at hi; subst hi
  simp only [rep, xl_, Option.some.injEq] at h h'
  rw [h.2, h'.2]
 | .ref j (_ :: _), u, h, h', i, hi => by simp [y9_] at hi
 | .fn _ vs, u, h, h', i, hi => by
  simp only [y9_] at hi
  simp only [rep] at h h'
  obtain ⟨us, rfl, h1⟩ := h
  obtain ⟨us', e, h2⟩ := h'
  have : us' = us := by
   simp only [Value.func.injEq, true_and] at e
   exact (congrArg Array.toList e).symm
  subst this
  exact wT_ hS vs _ h1 h2 i hi
 | .cptr vs _, u, h, h', i, hi => by
  simp only [y9_] at hi
  simp only [rep] at h h'
  obtain ⟨b, us, rfl, h1, h2, h3⟩ := h
  obtain ⟨b', us', e, h4, h5, h6⟩ := h'
  simp only [Value.pointer.injEq, Option.some.injEq, Addr.mk.injEq, and_true] at e
  subst e
  have hl : us.length = us'.length := by
   rw [xw_] at h3 h6
   rw [← h3.length, ← h6.length]
  have : us' = us := by
   refine List.ext_getElem hl.symm (fun k k1 k2 => ?_)
   have a1 := h2 k us[k] (List.getElem?_eq_getElem k2)
   have a2 := h5 k us'[k] (List.getElem?_eq_getElem k1)
   rw [cell_of_heap (hS b h1)] at a2
   rw [a1] at a2
   exact (Option.some.inj a2).symm
  subst this
  exact wT_ hS vs _ h3 h6 i hi
 | .int _, _, _, _, _, hi | .bool _, _, _, _, _, hi | .str _, _, _, _, _, hi | .nil, _, _, _, _, hi | .tup _, _, _, _, _, hi | .agg _, _, _, _, _, hi
 | .flt _, _, _, _, _, hi | .ik _ _, _, _, _, _, hi | .nilfn, _, _, _, _, hi | .lv _, _, _, _, _, hi | .eptr _ _, _, _, _, _, hi
 | .sub _ _ _ _, _, _, _, _, hi | .eref _ _ _, _, _, _, _, hi | .when _ _, _, _, _, _, hi | .junk, _, _, _, _, hi | .l1 _, _, _, _, _, hi | .l2 _, _, _, _, _, hi | .l3 _, _, _, _, _, hi | .lp _ _, _, _, _, _, hi | .val _, _, _, _, _, hi => by simp [y9_] at hi
theorem wT_ {m m' : Mem} (hS : ∀ b, m.S b → m'.w.heap[b]? = m.w.heap[b]?) : ∀ (as : List AV) (us : List Value), reps m as us → reps m' as us → ∀ i ∈ zk_ as, m'.ι i = m.ι i
 | [], _, _, _, i, hi => by simp [zk_] at hi
 | a :: as, us, h, h', i, hi => by
  simp only [zk_, List.mem_append] at hi
  simp only [reps] at h h'
  obtain ⟨u, us1, rfl, h1, h2⟩ := h
  obtain ⟨u', us2, e, h3, h4⟩ := h'
  cases e
  rcases hi with hi | hi
  ·exact Xs_ hS a _ h1 h3 i hi
  ·exact wT_ hS as _ h2 h4 i hi
end
theorem OwnCall.intro {f : FuncId} {fn : Func} {c : Code} {rs : List ResultVar} {args : List AV} {T T' : List (Nat × Tree)} {r : AV} (k : Nat) (J : List Nat) {X : List Nat} (hcall : ∀ args w, (callFunc f args).run P w = .ok (.enter f args) w) (hf : P.funcs[f]? = some fn) (hb : fn.body = some c)
  (hn : fn.ntmps = n) (hrs : fn.results = rs.toArray) (hl : args.length ≤ n) (hX : ∀ i ∈ X, i ∈ Aw.ids T' ∧ ∃ j ∈ J, j < k ∧ i ∈ y9_ (xh_ (xD_ 0 args) j))
  (h : ∀ cx, cx.fix = below k → AT P cx n c (fun e st => Ends e ∧ wg_ P st rs r ∧ (∀ j ∈ J, st.get j = xh_ (xD_ 0 args) j) ∧ st.H = T') ⟨xD_ 0 args, T⟩) : OwnCall P f args T T' r X := by
 refine ⟨hcall, fun i hi => (hX i hi).1, fun us w S ι F ho0 hr => calls_of_wp hf hb ?_⟩
 rw [hn]
 rw [xw_] at hr
 have hlen := hr.length
 let cx : Cx := Xf_ w T F S (below k) (fun j => (us[j]?).getD undef)
 have ho : Owns cx T w ι F := Ze_ ho0
 have hget : ∀ k, (us.toArray ++ Array.replicate (n - us.toArray.size) undef).getD k undef = (us[k]?).getD undef := by
  intro k
  rw [Array.getD_eq_getD_getElem?]
  by_cases hk : k < us.length
  ·rw [Array.getElem?_append_left (by simpa using hk)]; simp
  ·rw [Array.getElem?_append_right (by simpa using hk)]
   rw [List.getElem?_eq_none (by omega)]
   simp only [Array.getElem?_replicate]
   split <;> rfl
 have hs : SimF cx n (St.mk (xD_ 0 args) T).get T (us.toArray ++ Array.replicate (n - us.toArray.size) undef) w := by
  refine ⟨⟨by simp only [List.size_toArray, Array.size_append, Array.size_replicate]; omega, fun j _ => hget j⟩, ι, F, ho, fun j => ?_⟩
  have := yI_ 0 hr j
  simp only [Nat.not_lt_zero, if_false, Nat.sub_zero] at this
  rw [hget]
  exact this
 have hr0 : ∀ j, rep (mem cx w T ι F) (xh_ (xD_ 0 args) j) ((us[j]?).getD undef) := fun j => by
  have := hs.2
  have h1 := yI_ 0 hr j
  simp only [Nat.not_lt_zero, if_false, Nat.sub_zero] at h1
  exact h1
 refine wp_mono (wpIn_wide.1 (h cx rfl _ w hs)) ?_
 rintro e a w' ⟨h1, st', ⟨he, hv, hg0, hH⟩, ⟨hsz, hfx⟩, ι', F', ho', hr'⟩
 obtain ⟨u, k1, k2⟩ := yT_ (P := P) hrs ho' hr' hv
 subst hH
 have hι : ∀ i ∈ X, ι' i = ι i := fun i hi => by
  obtain ⟨q1, j, q2, q3, q4⟩ := hX i hi
  have r1 := hr' j
  rw [hg0 j q2, hfx j (by show decide (j < k) = true; simpa using q3)] at r1
  refine Xs_ (m := mem cx w T ι F) (m' := mem cx w' st'.H ι' F') (fun b hb => ?_) _ _ (hr0 j) r1 i q4
  exact ho'.keep.block b hb.2.1 hb.2.2
 have hfin : ∃ x, (results fn a.tmps).run P w' = .ok x w' ∧ ∃ v ι' F', Ending.returned x = .returned v ∧ Owns (Xf_ w T F S 0 (fun _ => undef)) st'.H w' ι' F' ∧ rep (mem (Xf_ w T F S 0 (fun _ => undef)) w' st'.H ι' F') r v ∧ ∀ i ∈ X, ι' i = ι i :=
  ⟨u, k1, u, ι', F', rfl, Ze_ ho', k2, hι⟩
 rcases he with rfl | rfl
 ·exact ⟨h1, hfin⟩
 ·exact ⟨h1, hfin⟩
theorem wU_ {H : List (Nat × Tree)} {f : FuncId} {args : List AV} {T T' : List (Nat × Tree)} {r : AV} {X : List Nat} {K : AV → List Nat → List Nat → List (Nat × Tree) → Prop} (h : OwnCall P f args T T' r X) (hn : (Aw.ids T).Nodup) (hm : ∀ p ∈ T, find H p.1 = some p.2)
  (hc : z2_ T) (ha : xA_ (Wq_ T) args = args) (hfr : ∀ i ∈ Aw.ids T', i ∈ Aw.ids T ∨ i ∉ Aw.ids H) (k : K r ((Aw.ids T).filter (fun i => !X.contains i)) X (T' ++ xt_ (qOf ((Aw.ids T).filter (fun i => !X.contains i)) X) (rmT (Aw.ids T) H))) : XG_ P H f args K :=
 .inr (.inr (.inr (.inr (.inl ⟨r, _, _, _, ⟨T, T', h, hn, hm, hc, ha, hfr, rfl, rfl⟩, k⟩))))
theorem QD_ {H H1 : List (Nat × Tree)} {f : FuncId} {args as : List AV} {T T' : List (Nat × Tree)} {r : AV} {X : List Nat} {K : AV → List Nat → List Nat → List (Nat × Tree) → Prop} (R : List Nat) (h : OwnCall P f as T T' r X) (e : Zs_ H R args = as) (eH : xt_ (qOf R []) (rmT R H) = H1) (hn : (Aw.ids T).Nodup) (hm : ∀ p ∈ T, find H1 p.1 = some p.2)
  (hc : z2_ T) (ha : xA_ (Wq_ T) as = as) (hfr : ∀ i ∈ Aw.ids T', i ∈ Aw.ids T ∨ i ∉ Aw.ids H1) (k : K r (R ++ (Aw.ids T).filter (fun i => !X.contains i)) X (T' ++ xt_ (qOf ((Aw.ids T).filter (fun i => !X.contains i)) X) (rmT (Aw.ids T) H1))) : XG_ P H f args K := by
 subst e
 subst eH
 exact .inr (.inr (.inr (.inr (.inr (.inr ⟨R, r, _, _, _, ⟨T, T', h, hn, hm, hc, ha, hfr, rfl, rfl⟩, k⟩)))))
theorem zE_ {k : Fx} {l : List Oper} (h : cx.fix = k) (hl : (l.all fun o => match o.dst with | some d => !k d | none => true) = true) : ∀ o ∈ l, ∀ d, o.dst = some d → cx.fix d = false := fun o ho d hd => by
 have := (List.all_eq_true.1 hl) o ho
 rw [hd] at this
 rw [h]
 simpa using this
end
end Go.Aw
namespace Go.Aw
open Go.RowKit
structure Reb (cx cx' : Cx) : Prop where
 fix : cx'.fix = cx.fix
 fixv : cx'.fixv = cx.fixv
 rd : cx'.rd = cx.rd
 B : cx.B0 ≤ cx'.B0
 os : cx'.w0.os = cx.w0.os
 tape : cx'.w0.tape = cx.w0.tape
 output : cx'.w0.output = cx.w0.output
 size : cx.w0.heap.size ≤ cx'.w0.heap.size
 keep : ∀ k, k < cx.B0 → ¬ cx.A0 k → cx'.w0.heap[k]? = cx.w0.heap[k]? ∧ ¬ cx'.A0 k
 S : ∀ b, cx'.S0 b → cx.S0 b ∨ cx.B0 ≤ b ∨ cx.A0 b
 A : ∀ b, cx'.A0 b → cx.B0 ≤ b ∨ cx.A0 b
 gl : GlOk cx' → GlOk cx
theorem Reb.refl (cx : Cx) : Reb cx cx := ⟨rfl, rfl, rfl, Nat.le_refl _, rfl, rfl, rfl, Nat.le_refl _, fun _ _ h => ⟨rfl, h⟩, fun _ h => .inl h, fun _ h => .inr h, id⟩
theorem Reb.trans {a b c : Cx} (h : Reb a b) (k : Reb b c) : Reb a c :=
 ⟨k.fix.trans h.fix, k.fixv.trans h.fixv, k.rd.trans h.rd, Nat.le_trans h.B k.B, k.os.trans h.os, k.tape.trans h.tape, k.output.trans h.output, Nat.le_trans h.size k.size,
  fun j hj ha => by
  have h1 := h.keep j hj ha
  have h2 := k.keep j (Nat.lt_of_lt_of_le hj h.B) h1.2
  exact ⟨h2.1.trans h1.1, h2.2⟩,
  fun j hj => by
  rcases k.S j hj with h1 | h1 | h1
  ·exact h.S j h1
  ·exact .inr (.inl (Nat.le_trans h.B h1))
  ·exact .inr (h.A j h1),
  fun j hj => by
  rcases k.A j hj with h1 | h1
  ·exact .inl (Nat.le_trans h.B h1)
  ·exact h.A j h1, fun h1 => h.gl (k.gl h1)⟩
section
variable {P : Program} {cx cx' : Cx} {n : Nat} {H : List (Nat × Tree)} {w W : World} {ι : Nat → Value} {F : Nat → List Nat} {g : Nat → AV} {tmps : Array Value}
theorem VM_ (h : ∀ b, imm cx' w H F b → imm cx w H F b) : (mem cx' w H ι F).le (mem cx w H ι F) := ⟨fun b hb => ⟨h b hb, rfl⟩, fun _ _ hid => ⟨hid, rfl, fun _ hp => hp⟩⟩
theorem Reb.imm (h : Reb cx cx') : ∀ b, Aw.imm cx' w H F b → Aw.imm cx w H F b := fun b hb => ⟨by
 rcases hb.1 with h1 | h1 | h1
 ·exact h.S b h1
 ·exact .inr (.inl (Nat.le_trans h.B h1))
 ·exact .inr (h.A b h1), hb.2⟩
theorem Reb.owns (h : Reb cx cx') (ho : Owns cx' H w ι F) : Owns cx H w ι F where
 keep := ⟨ho.keep.os.trans h.os, ho.keep.tape.trans h.tape, ho.keep.output.trans h.output, Nat.le_trans h.size ho.keep.size, fun k hk ha => (ho.keep.block k (Nat.lt_of_lt_of_le hk h.B) (h.keep k hk ha).2).trans (h.keep k hk ha).1, h.gl ho.keep.gl⟩
 trees := fun p hp => (ho.trees p hp).le (VM_ h.imm) (fun _ _ => rfl)
 nodup := ho.nodup
 mine := fun b hb => ⟨(ho.mine b hb).1, (ho.mine b hb).2.elim (fun h1 => .inl (Nat.le_trans h.B h1)) (fun h1 => h.A b h1)⟩
 ids := ho.ids
 old := Nat.le_trans h.B ho.old
theorem Reb.sim (h : Reb cx cx') (hs : SimF cx' n g H tmps w) : SimF cx n g H tmps w := by
 obtain ⟨⟨h1, h2⟩, ι, F, ho, hr⟩ := hs
 refine ⟨⟨h1, fun j hj => ?_⟩, ι, F, h.owns ho, fun k => rep.le (VM_ h.imm) _ _ (hr k)⟩
 rw [← h.fixv]
 exact h2 j (by rw [h.fix]; exact hj)
theorem Owns.other {k : Fx} {fv : Nat → Value} {rd : Option Nat} {ds : List Deferred} (ho : Owns cx H w ι F) : Owns { cx with fix := k, fixv := fv, rd := rd, ds := ds } H w ι F :=
 ⟨⟨ho.keep.os, ho.keep.tape, ho.keep.output, ho.keep.size, ho.keep.block, ⟨ho.keep.gl.at0, ho.keep.gl.low⟩⟩, ho.trees, ho.nodup, ho.mine, ho.ids, ho.old⟩
theorem aV9 {o : Obj} {l : Nat} (h : w.heap[l]? = some o) (hc : o.isCells = false) (i : Nat) : w.cell? ⟨l, i, none⟩ = none := by
 unfold World.cell?
 simp only [h]
 cases o <;> simp_all [Obj.isCells]
theorem Owns.turnB {l : Nat} {o0 : Obj} (o : Obj) (ho : Owns cx H W ι F) (hl : l < cx.B0) (hA : ¬ cx.A0 l) (hS : ¬ cx.S0 l) (h0 : cx.w0.heap[l]? = some o0) (hc : o0.isCells = false) :
  Owns { cx with w0 := cx.w0.putObj l o } H (W.putObj l o) ι F ∧ (mem cx W H ι F).le (mem { cx with w0 := cx.w0.putObj l o } (W.putObj l o) H ι F) := by
 have hW : W.heap[l]? = some o0 := (ho.keep.block l hl hA).trans h0
 have hlW : l < W.heap.size := (Array.getElem?_eq_some_iff.1 hW).1
 have hl0 : l < cx.w0.heap.size := (Array.getElem?_eq_some_iff.1 h0).1
 have hsame : ∀ b, b ≠ l → (W.putObj l o).heap[b]? = W.heap[b]? := fun b hb => World.putObj_heap_other hb
 have himm : ∀ b, Aw.imm cx W H F b → b ≠ l := fun b hb e => by
  subst e
  rcases hb.1 with h1 | h1 | h1
  ·exact hS h1
  ·omega
  ·exact hA h1
 have hfoot : ∀ b, b ∈ xW_ H F → b ≠ l := fun b hb e => by
  subst e
  rcases (ho.mine b hb).2 with h1 | h1
  ·omega
  ·exact hA h1
 have hle : (mem cx W H ι F).le (mem { cx with w0 := cx.w0.putObj l o } (W.putObj l o) H ι F) :=
  ⟨fun b hb => ⟨⟨hb.1, by simpa using hb.2.1, hb.2.2⟩, hsame b (himm b hb)⟩, fun _ _ hid => ⟨hid, rfl, fun _ hp => Yn_ _ _ _ (fun b ⟨i, x, hx⟩ => hsame b (fun e => by subst e; rw [aV9 hW hc] at hx; cases hx)) hp⟩⟩
 refine ⟨⟨⟨ho.keep.os, ho.keep.tape, ho.keep.output, by simpa using ho.keep.size, fun k hk ha => ?_, ⟨fun p hp => ?_, ho.keep.gl.low⟩⟩, fun p hp => (ho.trees p hp).le hle (fun b hb => hsame b (hfoot b (xL_ hp hb))), ho.nodup, fun b hb => ⟨by simpa using (ho.mine b hb).1, (ho.mine b hb).2⟩, ho.ids, by simpa using ho.old⟩, hle⟩
 by_cases e : k = l
 ·subst e
  show (W.putObj k o).heap[k]? = (cx.w0.putObj k o).heap[k]?
  rw [World.putObj_heap_same hlW, World.putObj_heap_same hl0]
 ·show (W.putObj l o).heap[k]? = (cx.w0.putObj l o).heap[k]?
  rw [World.putObj_heap_other e, World.putObj_heap_other e]
  exact ho.keep.block k hk ha
 ·obtain ⟨e, x, h1⟩ := ho.keep.gl.at0 p hp
  refine ⟨e, x, (World.putObj_heap_other fun q => ?_).trans h1⟩
  rw [q, h0] at h1
  obtain rfl := Option.some.inj h1
  cases hc
theorem SimF.turnB {l : Nat} {o0 : Obj} (o : Obj) (hs : SimF cx n g H tmps W) (hl : l < cx.B0) (hA : ¬ cx.A0 l) (hS : ¬ cx.S0 l) (h0 : cx.w0.heap[l]? = some o0) (hc : o0.isCells = false) :
  SimF { cx with w0 := cx.w0.putObj l o } n g H tmps (W.putObj l o) := by
 obtain ⟨h1, ι, F, ho, hr⟩ := hs
 obtain ⟨h2, h3⟩ := ho.turnB o hl hA hS h0 hc
 exact ⟨h1, ι, F, h2, fun k => rep.le h3 _ _ (hr k)⟩
theorem SimF.anew {w1 : World} (hs : SimF cx n g H tmps w) (e : Ext w w1) :
  ∃ A S : Nat → Prop, Reb cx ⟨w1.heap.size, A, S, w1, cx.fix, cx.fixv, cx.rd, cx.ds⟩ ∧ SimF ⟨w1.heap.size, A, S, w1, cx.fix, cx.fixv, cx.rd, cx.ds⟩ n g H tmps w1 ∧ (∀ b, A b → b < w.heap.size) ∧ (∀ b, S b → b < w.heap.size) ∧
   ∀ D, D < cx.B0 → ¬ cx.A0 D → ¬ cx.S0 D → ¬ A D ∧ ¬ S D := by
 obtain ⟨h1, ι, F, ho, hr⟩ := hs
 have hb : ∀ b, b ∈ xW_ H F → b < w.heap.size := fun b h => (ho.mine b h).1
 refine ⟨fun b => b ∈ xW_ H F, Aw.imm cx w H F, ?_, ?_, hb, fun b h => h.2.1, ?_⟩
 ·refine ⟨rfl, rfl, rfl, Nat.le_trans ho.old e.size, e.os.trans ho.keep.os, e.tape.trans ho.keep.tape, e.output.trans ho.keep.output, Nat.le_trans ho.keep.size e.size, fun k hk ha => ⟨(e.block k (Nat.lt_of_lt_of_le hk ho.old)).trans (ho.keep.block k hk ha), fun hf => ?_⟩, fun b h => h.1, fun b h => (ho.mine b h).2, fun _ => ho.keep.gl⟩
  rcases (ho.mine k hf).2 with h2 | h2
  ·omega
  ·exact ha h2
 ·have hle : (mem cx w H ι F).le (mem ⟨w1.heap.size, fun b => b ∈ xW_ H F, Aw.imm cx w H F, w1, cx.fix, cx.fixv, cx.rd, cx.ds⟩ w1 H ι F) :=
   ⟨fun b hb => ⟨⟨.inl hb, Nat.lt_of_lt_of_le hb.2.1 e.size, hb.2.2⟩, e.block b hb.2.1⟩, fun _ _ hid => ⟨hid, rfl, fun _ hp => ZJ_ e hp⟩⟩
  exact ⟨h1, ι, F, ⟨⟨rfl, rfl, rfl, Nat.le_refl _, fun _ _ _ => rfl, (ho.globOk.ext e).glOk fun b h => ho.noGl h⟩, fun p hp => (ho.trees p hp).le hle (fun b h => e.block b (hb b (xL_ hp h))), ho.nodup, fun b h => ⟨Nat.lt_of_lt_of_le (hb b h) e.size, .inr h⟩, ho.ids, Nat.le_refl _⟩, fun k => rep.le hle _ _ (hr k)⟩
 ·intro D hD hA hS
  constructor
  ·intro hf
   rcases (ho.mine D hf).2 with h2 | h2
   ·omega
   ·exact hA h2
  ·intro hf
   rcases hf.1 with h2 | h2 | h2
   ·exact hS h2
   ·omega
   ·exact hA h2
def mark (D : Nat) : Deferred := { target := .collected D, args := #[] }
def DOk (cx cx' : Cx) : Prop := ∃ Ds : List Nat, cx'.ds = Ds.map mark ∧ Ds.Nodup ∧ ∀ D ∈ Ds, cx.B0 ≤ D ∧ D < cx'.B0 ∧ ¬ cx'.A0 D ∧ ¬ cx'.S0 D ∧ cx'.w0.heap[D]? = some (.deferred (some []))
def ATD (P : Program) (cx : Cx) (n : Nat) (c : Code) (Q : SQ) (st : St) : Prop :=
 ∀ cx', Reb cx cx' → DOk cx cx' → ∀ tmps w, SimF cx' n st.get st.H tmps w →
  c.wpIn (Fr cx'.rd) 0 P (fun e a w' => ∃ cx'', Reb cx cx'' ∧ DOk cx cx'' ∧ a.defers = cx''.ds ∧ ∃ st', Q e st' ∧ SimF cx'' n st'.get st'.H a.tmps w') ⟨tmps, cx'.ds⟩ w
variable {Q : SQ} {st : St}
theorem ATD.of_AT {c : Code} (h : ∀ cx', cx'.fix = cx.fix → AT P cx' n c Q st) : ATD P cx n c Q st :=
 fun cx' hr hd tmps w hs => wpIn_mono (h cx' hr.fix tmps w hs) fun e a w' ⟨h1, st', h2, h3⟩ => ⟨cx', hr, hd, h1, st', h2, h3⟩
theorem ATD.conseq {c : Code} {Q' : SQ} (h : ATD P cx n c Q' st) (hq : ∀ e s, Q' e s → Q e s) : ATD P cx n c Q st :=
 fun cx' hr hd tmps w hs => wpIn_mono (h cx' hr hd tmps w hs) fun _ _ _ ⟨c2, h1, h2, h3, st', h4, h5⟩ => ⟨c2, h1, h2, h3, st', hq _ _ h4, h5⟩
theorem ATD.ghost {c : Code} {st' : St} (hl : ∀ cx', cx'.fix = cx.fix → yp_ cx' n st st') (h : ATD P cx n c Q st') : ATD P cx n c Q st := fun cx' hr hd tmps w hs => h cx' hr hd tmps w (hl cx' hr.fix tmps w hs)
theorem ATD.seq {a b : Code} (h : ATD P cx n a (thn (ATD P cx n b Q) Q) st) : ATD P cx n (.seq a b) Q st := by
 intro cx' hr hd tmps w hs
 refine wpIn_seq (wpIn_mono (h cx' hr hd tmps w hs) ?_)
 rintro e a w' ⟨c2, h1, h2, h3, st', h4, h5⟩
 cases e with
 | normal =>
  have := h4 c2 h1 h2 a.tmps w' h5
  rw [← zv_ h3] at this
  rw [show cx'.rd = c2.rd from hr.rd.trans h1.rd.symm]
  exact this
 | exit id => exact ⟨c2, h1, h2, h3, st', h4, h5⟩
 | goto l => exact ⟨c2, h1, h2, h3, st', h4, h5⟩
 | ret => exact ⟨c2, h1, h2, h3, st', h4, h5⟩
 | panic ch => exact ⟨c2, h1, h2, h3, st', h4, h5⟩
 | outgrown => exact ⟨c2, h1, h2, h3, st', h4, h5⟩
theorem ATD.block {id : Nat} {c : Code} (h : ATD P cx n c (aE8 id Q) st) : ATD P cx n (.block id c) Q st := by
 intro cx' hr hd tmps w hs
 refine wpIn_block (wpIn_mono (h cx' hr hd tmps w hs) ?_)
 rintro e a w' ⟨c2, h1, h2, h3, st', h4, h5⟩
 cases e with
 | exit id' =>
  simp only [aE8, Exit.inBlock] at h4 ⊢
  split
  ·rename_i hh; rw [if_pos hh] at h4; exact ⟨c2, h1, h2, h3, st', h4, h5⟩
  ·rename_i hh; rw [if_neg hh] at h4; exact ⟨c2, h1, h2, h3, st', h4, h5⟩
 | normal => exact ⟨c2, h1, h2, h3, st', h4, h5⟩
 | goto l => exact ⟨c2, h1, h2, h3, st', h4, h5⟩
 | ret => exact ⟨c2, h1, h2, h3, st', h4, h5⟩
 | panic ch => exact ⟨c2, h1, h2, h3, st', h4, h5⟩
 | outgrown => exact ⟨c2, h1, h2, h3, st', h4, h5⟩
theorem ATD.loop {c : Code} {σ : Type} (I : σ → St) (inv : σ → Prop) (μ : σ → Nat) (x0 : σ) (h0 : inv x0) (hst : Le st (I x0))
  (round : ∀ x, inv x → ATD P cx n c (thn (fun st' => ∃ y, inv y ∧ μ y < μ x ∧ Lq st' (I y)) Q) (I x)) : ATD P cx n (.loop c) Q st := by
 intro cx' hr hd tmps w hs
 refine XP_ (fun m a w => ∃ c2, Reb cx c2 ∧ DOk cx c2 ∧ a.defers = c2.ds ∧ ∃ x, μ x = m ∧ inv x ∧ SimF c2 n (I x).get (I x).H a.tmps w) (μ x0) ⟨cx', hr, hd, rfl, x0, rfl, h0, hst.sim hs⟩ ?_
 rintro m a w ⟨c2, hr2, hd2, hda, x, hm, hx, hsx⟩
 have := round x hx c2 hr2 hd2 a.tmps w hsx
 rw [← zv_ hda] at this
 rw [show cx'.rd = c2.rd from hr.rd.trans hr2.rd.symm]
 refine wpIn_mono this ?_
 rintro e a₁ w₁ ⟨c3, h1, h2, h3, st', hq, hs'⟩
 cases e with
 | normal =>
  obtain ⟨y, hy, hlt, hle⟩ := hq
  exact ⟨μ y, hm ▸ hlt, c3, h1, h2, h3, y, rfl, hy, hle.sim hs'⟩
 | exit id => exact ⟨c3, h1, h2, h3, st', hq, hs'⟩
 | goto l => exact ⟨c3, h1, h2, h3, st', hq, hs'⟩
 | ret => exact ⟨c3, h1, h2, h3, st', hq, hs'⟩
 | panic ch => exact ⟨c3, h1, h2, h3, st', hq, hs'⟩
 | outgrown => exact ⟨c3, h1, h2, h3, st', hq, hs'⟩
end
end Go.Aw
namespace Go.Aw
open Go.RowKit
def ap7 (W : World) (bb N : Nat) : Prop := ∃ a cap, W.cell? ⟨bb, 0, none⟩ = some (.slice a N cap)
def ElAt (W : World) (bb N j : Nat) (v : Value) : Prop := ∃ b off cap, W.cell? ⟨bb, 0, none⟩ = some (.slice (some ⟨b, off, none⟩) N cap) ∧ W.cell? ⟨b, off + j, none⟩ = some v
theorem ElAt.one {W : World} {bb N j : Nat} {v u : Value} (h : ElAt W bb N j v) (k : ElAt W bb N j u) : v = u := by
 obtain ⟨b, off, cap, h1, h2⟩ := h
 obtain ⟨b', off', cap', k1, k2⟩ := k
 rw [h1] at k1
 cases k1
 rw [h2] at k2
 exact Option.some.inj k2
def au9 (P : Program) (fB : Nat) : Prop := ∀ (l bb N : Nat) (J : Nat → World → Prop) (W : World), N ≤ maxLen →
 (∀ x W, x ≤ N → J x W → ap7 W bb N) → (∀ x W, x < N → J x W → ∃ v, ElAt W bb N (N - 1 - x) v) →
 (∀ x W v, x < N → J x W → ElAt W bb N (N - 1 - x) v → YieldAt Fence.wide 0 P l #[.int .i64 ((N - 1 - x : Nat) : Int), v] W fun e W' => e = .returned (.bool true) ∧ J (x + 1) W') →
 J 0 W → CallsIn Fence.wide 0 P fB #[.func (.yield l) #[] #[], .pointer (some ⟨bb, 0, none⟩)] W fun e W' => (∃ v, e = .returned v) ∧ J N W'
section
variable {P : Program} {cx cx' : Cx} {n : Nat} {w W : World} {Q : SQ}
theorem T8_ {w : World} {l : Nat} {o : Obj} (h : w.heap[l]? = some o) (a : Obj) : (w.putObj l a).putObj l o = w := by
 have hl := (Array.getElem?_eq_some_iff.1 h).1
 have : ((w.heap.setIfInBounds l a).setIfInBounds l o) = w.heap := by
  apply Array.ext_getElem?
  intro i
  by_cases e : i = l
  ·subst e
   rw [Array.getElem?_setIfInBounds_self_of_lt (by simpa using hl), h]
  ·rw [Array.getElem?_setIfInBounds_ne (Ne.symm e), Array.getElem?_setIfInBounds_ne (Ne.symm e)]
 unfold World.putObj
 simp only [this]
theorem Reb.turn {l : Nat} {o : Obj} {ds : List Deferred} (h : Reb cx cx') (hl : cx.B0 ≤ l) (hoc : o.isCells = false := by rfl) : Reb cx { cx' with w0 := cx'.w0.putObj l o, ds := ds } :=
 ⟨h.fix, h.fixv, h.rd, h.B, h.os, h.tape, h.output, by show cx.w0.heap.size ≤ (cx'.w0.putObj l o).heap.size; rw [World.putObj_size]; exact h.size,
  fun k hk ha => ⟨by
  show (cx'.w0.putObj l o).heap[k]? = _
  rw [World.putObj_heap_other (by omega)]
  exact (h.keep k hk ha).1, (h.keep k hk ha).2⟩, h.S, h.A, fun g => h.gl ⟨fun p hp => by
  obtain ⟨q, x, h1⟩ := g.at0 p hp
  refine ⟨q, x, ?_⟩
  by_cases e : p.1 = l
  ·have hsz := GlobOk.lt g.at0 hp
   have hsz' : p.1 < (cx'.w0.putObj l o).heap.size := hsz
   rw [World.putObj_size, e] at hsz'
   have h2 : (cx'.w0.putObj l o).heap[p.1]? = some o := by rw [e]; exact World.putObj_heap_same hsz'
   have h3 : (cx'.w0.putObj l o).heap[p.1]? = some (.cells p.2.toArray q x) := h1
   rw [h2] at h3
   obtain rfl := Option.some.inj h3
   cases hoc
  ·exact (World.putObj_heap_other e).symm.trans h1, g.low⟩⟩
theorem z6_ {fx : Fx} : ∀ (s : List (Nat × AV)) {j : Nat}, fx j = true → xh_ (s.filter fun p => fx p.1) j = xh_ s j
 | [], _, _ => rfl
 | (k, v) :: s, j, h => by
  rw [List.filter_cons]
  by_cases hk : k = j
  ·subst hk
   rw [if_pos h]
   simp [xh_]
  ·by_cases hf : fx k = true
   ·rw [if_pos hf]
    simp only [xh_, if_neg hk]
    exact z6_ s h
   ·rw [if_neg hf]
    simp only [xh_, if_neg hk]
    exact z6_ s h
theorem YR_ {fx : Fx} : ∀ (s : List (Nat × AV)), (s.all fun p => fx p.1 || zw_ p.2) = true → ∀ {j : Nat}, fx j = false → zw_ (xh_ s j) = true
 | [], _, _, _ => rfl
 | (k, v) :: s, h, j, hj => by
  simp only [List.all_cons, Bool.and_eq_true, Bool.or_eq_true] at h
  by_cases hk : k = j
  ·subst hk
   simp only [xh_, if_true]
   rcases h.1 with h1 | h1
   ·rw [hj] at h1; cases h1
   ·exact h1
  ·simp only [xh_, if_neg hk]
   exact YR_ s h.2 hj
theorem ATD.back {fB : Nat} (hB : au9 P fB) (henter : ∀ args w, (callFunc fB args).run P w = .ok (.enter fB args) w) (hrd : cx.rd = none)
  {gs p0 p1 : Nat} {assign body : Code} {s : List (Nat × AV)} (N : Nat) (H : Nat → List (Nat × Tree)) (el : Nat → Int) (fx : Fx)
  (hN : N ≤ maxLen) (hfree : (s.all fun p => fx p.1 || zw_ p.2) = true) (hp0 : fx p0 = false) (hp1 : fx p1 = false) (hne : p0 ≠ p1) (hp0n : p0 < n) (hp1n : p1 < n)
  (hcap : ∀ m v, rep m (xh_ s gs) v → ∃ bb, v = .func (.func fB) #[] #[.pointer (some ⟨bb, 0, none⟩)])
  (hel : ∀ x, x ≤ N → ∀ (c : Cx) (ι : Nat → Value) (F : Nat → List Nat) (W : World) (bb : Nat), Owns c (H x) W ι F → rep (mem c W (H x) ι F) (xh_ s gs) (.func (.func fB) #[] #[.pointer (some ⟨bb, 0, none⟩)]) →
   ap7 W bb N ∧ (x < N → ElAt W bb N (N - 1 - x) (.int .i64 (el x)) ∧ InR (el x)))
  (hround : ∀ x, x < N → ∀ c : Cx, c.fix = fx → AT P c n assign (fun e st1 => e = .normal ∧ ∀ c' : Cx, c'.fix = fx → AT P c' n body (fun e st2 => e = .normal ∧ Le st2 ⟨s.filter fun p => fx p.1, H (x + 1)⟩) st1)
   ⟨(p0, .int ((N - 1 - x : Nat) : Int)) :: (p1, .int (el x)) :: s, H x⟩)
  (hdone : Q .normal ⟨s, H N⟩) : ATD P cx n (.rangeFunc (.tmp gs) #[p0, p1] assign body) Q ⟨s, H 0⟩ := by
 intro cx' hr hd tmps w hs
 have hrd' : cx'.rd = none := hr.rd.trans hrd
 obtain ⟨⟨hsz, hfx0⟩, ι, F, ho, hrep⟩ := id hs
 obtain ⟨bb, hbb⟩ := hcap _ _ (hrep gs)
 have hold := ho.old
 have hkeep := ho.keep
 refine wpIn_rangeFunc ?_
 intro fn hfn
 obtain ⟨rec, hrec⟩ : ∃ rec : LoopState → Option Code → Loop, rec = fun st pe => { state := st, pending := pe, fn, tmps := tmps, params := #[p0, p1], assign, body, defers := w.heap.size } := ⟨_, rfl⟩
 obtain ⟨w1, hw1⟩ : ∃ w1, (w.alloc (.deferred (some []))).alloc (.loop (rec .ready none)) = w1 := ⟨_, rfl⟩
 have hext : Ext w w1 := by rw [← hw1]; exact ((Below.refl _ w).alloc (Nat.le_refl _) _).alloc (by simp) _
 have hsz1 : w1.heap.size = w.heap.size + 2 := by rw [← hw1]; simp
 have hL1 : w1.heap[w.heap.size + 1]? = some (.loop (rec .ready none)) := by
  rw [← hw1]; have := World.alloc_heap_new (w.alloc (.deferred (some []))) (.loop (rec .ready none)); rwa [World.size_alloc] at this
 have hD1 : w1.heap[w.heap.size]? = some (.deferred (some [])) := by
  rw [← hw1]; exact (Below.heap_alloc _ _ _ (by simp)).trans (World.alloc_heap_new w _)
 obtain ⟨A, S, hreb, hs1, hAl, hSl, hkept⟩ := hs.anew hext
 have hl0 : w.heap.size + 1 < w1.heap.size := by omega
 have hlA : ¬ A (w.heap.size + 1) := fun h => by have := hAl _ h; omega
 have hlS : ¬ S (w.heap.size + 1) := fun h => by have := hSl _ h; omega
 obtain ⟨cx1, hcx1⟩ : ∃ cx1 : Cx, (⟨w1.heap.size, A, S, w1, cx'.fix, cx'.fixv, cx'.rd, cx'.ds⟩ : Cx) = cx1 := ⟨_, rfl⟩
 rw [hcx1] at hreb hs1
 have hg1 : GlOk cx1 := by obtain ⟨_, _, _, hoo, _⟩ := hs1; exact hoo.keep.gl
 have hB1 : cx1.B0 = w1.heap.size := by rw [← hcx1]
 have hA1 : ¬ cx1.A0 (w.heap.size + 1) := by rw [← hcx1]; exact hlA
 have hS1 : ¬ cx1.S0 (w.heap.size + 1) := by rw [← hcx1]; exact hlS
 have hw01 : cx1.w0 = w1 := by rw [← hcx1]
 have hfix1 : cx1.fix = cx'.fix := by rw [← hcx1]
 have hfixv1 : cx1.fixv = cx'.fixv := by rw [← hcx1]
 have hL : cx1.w0.heap[w.heap.size + 1]? = some (.loop (rec .ready none)) := by rw [hw01]; exact hL1
 have hlt : w.heap.size + 1 < cx1.B0 := by rw [hB1]; exact hl0
 rw [hrd']
 refine ⟨w.heap.size + 1, [mark w.heap.size], w1, { target := .fn (.func fB) #[.pointer (some ⟨bb, 0, none⟩)], args := #[.func (.yield (w.heap.size + 1)) #[] #[]] }, w1, fB,
  #[.func (.yield (w.heap.size + 1)) #[] #[]] ++ #[.pointer (some ⟨bb, 0, none⟩)], w1, ?_, ?_, fun _ _ => trivial, ?_, fun h => by simp_all [Fr, Fence.wide], ?_⟩
 ·rw [← hw1, hrec]; exact run_enterLoop_outer _ _ _ _ _
 ·have hev : (⟨tmps, cx'.ds⟩ : Act).eval (.tmp gs) = .func (.func fB) #[] #[.pointer (some ⟨bb, 0, none⟩)] := hbb
  simp only [resolve, hev]
  simp [go_sem]
 ·simp [invoke, go_sem, henter]
 ·refine (hB (w.heap.size + 1) bb N (fun x W => SimF cx1 n (xh_ s) (H x) tmps W) w1 hN ?_ ?_ ?_ hs1).mono ?_
  ·rintro x W hx ⟨_, ι, F, ho, hrep⟩
   have := hrep gs
   rw [hbb] at this
   exact (hel x hx cx1 ι F W bb ho this).1
  ·rintro x W hx ⟨_, ι, F, ho, hrep⟩
   have := hrep gs
   rw [hbb] at this
   exact ⟨_, ((hel x (by omega) cx1 ι F W bb ho this).2 hx).1⟩
  ·rintro x W v hx ⟨hzz, ι, F, ho, hrep⟩ hv
   have hgs := hrep gs
   rw [hbb] at hgs
   obtain ⟨hel1, hel2⟩ := (hel x (by omega) cx1 ι F W bb ho hgs).2 hx
   obtain rfl := hv.one hel1
   have hl : W.heap[w.heap.size + 1]? = some (.loop (rec .ready none)) := (ho.keep.block _ hlt hA1).trans hL
   have hy := run_yield (P := P) (args := #[.int .i64 ((N - 1 - x : Nat) : Int), .int .i64 (el x)]) hl (by rw [hrec]; rfl)
   rw [hrec] at hy
   refine ⟨fn, _, assign, body, hy, ?_⟩
   obtain ⟨tR, htR⟩ : ∃ tR : Array Value, (tmps.setIfInBounds p0 (.int .i64 ((N - 1 - x : Nat) : Int))).setIfInBounds p1 (.int .i64 (el x)) = tR := ⟨_, rfl⟩
   have hfold : ((#[p0, p1].zip #[Value.int .i64 ((N - 1 - x : Nat) : Int), Value.int .i64 (el x)]).foldl (fun tmps (p : Tmp × Value) => tmps.setIfInBounds p.1 p.2) tmps) = tR := by
    rw [← htR]; simp
   have hget : ∀ j, j ≠ p0 → j ≠ p1 → tR.getD j undef = tmps.getD j undef := by
    intro j h0 h1
    rw [← htR]
    simp only [Array.getD_eq_getD_getElem?]
    rw [Array.getElem?_setIfInBounds_ne (Ne.symm h1), Array.getElem?_setIfInBounds_ne (Ne.symm h0)]
   have hget0 : tR.getD p0 undef = .int .i64 ((N - 1 - x : Nat) : Int) := by
    rw [← htR]
    simp only [Array.getD_eq_getD_getElem?]
    rw [Array.getElem?_setIfInBounds_ne (Ne.symm hne), Array.getElem?_setIfInBounds_self_of_lt (by rw [hzz.1]; exact hp0n)]
    rfl
   have hget1 : tR.getD p1 undef = .int .i64 (el x) := by
    rw [← htR]
    simp only [Array.getD_eq_getD_getElem?]
    rw [Array.getElem?_setIfInBounds_self_of_lt (by simpa [hzz.1] using hp1n)]
    rfl
   have hszR : tR.size = n := by rw [← htR]; simpa using hzz.1
   obtain ⟨c3, hc3⟩ : ∃ c3 : Cx, ({ cx1 with fix := fx, fixv := fun j => tmps.getD j undef, rd := some (w.heap.size + 1), ds := [] } : Cx) = c3 := ⟨_, rfl⟩
   have hsR : SimF c3 n (xh_ ((p0, .int ((N - 1 - x : Nat) : Int)) :: (p1, .int (el x)) :: s)) (H x) tR W := by
    rw [← hc3]
    refine ⟨⟨hszR, fun j (hj : fx j = true) => hget j (fun e => by subst e; rw [hp0] at hj; cases hj) (fun e => by subst e; rw [hp1] at hj; cases hj)⟩, ι, F, ho.other, fun k => ?_⟩
    simp only [xh_]
    by_cases e0 : p0 = k
    ·subst e0
     rw [if_pos rfl, hget0]
     simp only [rep]
     refine ⟨trivial, ?_⟩
     unfold InR
     unfold maxLen at hN
     omega
    ·rw [if_neg e0]
     by_cases e1 : p1 = k
     ·subst e1
      rw [if_pos rfl, hget1]
      simp only [rep]
      exact ⟨trivial, hel2⟩
     ·rw [if_neg e1, hget k (Ne.symm e0) (Ne.symm e1)]
      exact hrep k
   have hB3 : c3.B0 = cx1.B0 := by rw [← hc3]
   have hA3 : ¬ c3.A0 (w.heap.size + 1) := by rw [← hc3]; exact hA1
   have hS3 : ¬ c3.S0 (w.heap.size + 1) := by rw [← hc3]; exact hS1
   have hw3 : c3.w0 = w1 := by rw [← hc3]; exact hw01
   have hrd3 : c3.rd = some (w.heap.size + 1) := by rw [← hc3]
   have hds3 : c3.ds = [] := by rw [← hc3]
   have hfx3 : c3.fix = fx := by rw [← hc3]
   have hfv3 : c3.fixv = fun j => tmps.getD j undef := by rw [← hc3]
   refine roundIn_of_wpIn (n := 0) hfn ?_
   have h1 := hround x hx c3 hfx3 tR W hsR
   rw [hrd3, hds3] at h1
   rw [show (fun (x : Array Value) (x_1 : Tmp × Value) => x.setIfInBounds x_1.1 x_1.2) = (fun tmps (p : Tmp × Value) => tmps.setIfInBounds p.1 p.2) from rfl, hfold]
   refine wpIn_mono h1 ?_
   rintro e a W2 ⟨hda, st1, ⟨rfl, hbody⟩, hs2⟩
   have hl2 : W2.heap[w.heap.size + 1]? = some (.loop (rec .ready none)) := by
    obtain ⟨_, ι2, F2, ho2, _⟩ := hs2
    exact (ho2.keep.block _ (by rw [hB3]; exact hlt) hA3).trans (by rw [hw3]; exact hL1)
   refine ⟨_, run_beginRound hl2 (by rw [hrec]), ?_⟩
   have hs3 := hs2.turnB (.loop { rec .ready none with state := .busy }) (by rw [hB3]; exact hlt) hA3 hS3 (by rw [hw3]; exact hL1) rfl
   have h2 := hbody _ (by exact hfx3) a.tmps _ hs3
   have e4 : ({ c3 with w0 := c3.w0.putObj (w.heap.size + 1) (.loop { rec .ready none with state := .busy }) } : Cx).rd = some (w.heap.size + 1) := hrd3
   have e5 : ({ c3 with w0 := c3.w0.putObj (w.heap.size + 1) (.loop { rec .ready none with state := .busy }) } : Cx).ds = [] := hds3
   rw [e4, e5] at h2
   rw [zv_ hda]
   refine wpIn_mono h2 ?_
   rintro e a3 W3 ⟨hda3, st2, ⟨rfl, hle⟩, hs4⟩
   have hl1 : (c3.w0.putObj (w.heap.size + 1) (.loop { rec .ready none with state := .busy })).heap[w.heap.size + 1]? = some (.loop { rec .ready none with state := .busy }) := by
    rw [hw3]; exact World.putObj_heap_same hl0
   have hl3 : W3.heap[w.heap.size + 1]? = some (.loop { rec .ready none with state := .busy }) := by
    obtain ⟨_, ι2, F2, ho2, _⟩ := hs4
    exact (ho2.keep.block _ (by show _ < c3.B0; rw [hB3]; exact hlt) hA3).trans hl1
   refine ⟨_, _, run_endRound none hl3, rfl, ?_⟩
   have hs5 := (hle.sim hs4).turnB (.loop (rec .ready none)) (by show _ < c3.B0; rw [hB3]; exact hlt) hA3 hS3 hl1 rfl
   have hrr : (.loop { ({ rec .ready none with state := .busy } : Loop) with state := if (none : Option Code).isNone then .ready else .done, pending := none } : Obj) = .loop (rec .ready none) := by rw [hrec]; rfl
   rw [hrr]
   have hww : (c3.w0.putObj (w.heap.size + 1) (.loop { rec .ready none with state := .busy })).putObj (w.heap.size + 1) (.loop (rec .ready none)) = w1 := by rw [hw3]; exact T8_ hL1 _
   obtain ⟨⟨_, hfv⟩, ι5, F5, ho5, hr5⟩ := hs5
   have hle6 : ∀ (c : Cx) (W5 : World), c.B0 = cx1.B0 → c.A0 = cx1.A0 → c.S0 = cx1.S0 → ∀ b, imm c W5 (H (x + 1)) F5 b → imm cx1 W5 (H (x + 1)) F5 b := fun c W5 h1 h2 h3 b hb => by
    unfold imm at hb ⊢
    rw [h1, h2, h3] at hb
    exact hb
   have hle5 := hle6 { c3 with w0 := (c3.w0.putObj (w.heap.size + 1) (.loop { rec .ready none with state := .busy })).putObj (w.heap.size + 1) (.loop (rec .ready none)) } (W3.putObj (w.heap.size + 1) (.loop (rec .ready none))) hB3 (by rw [← hc3]) (by rw [← hc3])
   refine ⟨hzz, ι5, F5, ?_, fun k => ?_⟩
   ·have k1 := ho5.keep
    refine ⟨⟨?_, ?_, ?_, ?_, ?_, hg1⟩, ?_, ho5.nodup, ?_, ho5.ids, ?_⟩
    ·have := k1.os; rw [hw01, ← hww]; exact this
    ·have := k1.tape; rw [hw01, ← hww]; exact this
    ·have := k1.output; rw [hw01, ← hww]; exact this
    ·have := k1.size; rw [hw01, ← hww]; exact this
    ·intro j hj ha
     have := k1.block j (by show j < c3.B0; rw [hB3]; exact hj) (by show ¬ c3.A0 j; rw [← hc3]; exact ha)
     rw [hw01, ← hww]; exact this
    ·exact fun p hp => (ho5.trees p hp).le (VM_ hle5) (fun _ _ => rfl)
    ·intro b hb
     have := ho5.mine b hb
     rw [← hc3] at this
     exact this
    ·have := ho5.old
     rw [← hc3] at this
     exact this
   ·cases hk : fx k with
    | true =>
     have r1 := hr5 k
     have r2 : a3.tmps.getD k undef = tmps.getD k undef := by
      have := hfv k (by show c3.fix k = true; rw [hfx3]; exact hk)
      refine this.trans ?_
      show c3.fixv k = _
      rw [hfv3]
     rw [r2] at r1
     have r3 : (St.mk (s.filter fun p => fx p.1) (H (x + 1))).get k = xh_ s k := z6_ s hk
     rw [r3] at r1
     exact rep.le (VM_ hle5) _ _ r1
    | false => exact yU_ (YR_ s hfree hk) (hrep k)
  ·rintro e W2 ⟨⟨v, rfl⟩, hsN⟩
   have hl2 : W2.heap[w.heap.size + 1]? = some (.loop (rec .ready none)) := by
    obtain ⟨_, ι2, F2, ho2, _⟩ := hsN
    exact (ho2.keep.block _ hlt hA1).trans hL
   have he := run_endLoop (P := P) hl2 (by rw [hrec]; simp)
   refine ⟨none, W2.putObj (w.heap.size + 1) (.loop { rec .ready none with state := .exhausted }), he.trans (by rw [hrec]), ?_⟩
   have hsE := hsN.turnB (.loop { rec .ready none with state := .exhausted }) hlt hA1 hS1 hL rfl
   have hcB : cx.B0 ≤ w.heap.size := Nat.le_trans hr.B hold
   refine ⟨{ cx1 with w0 := cx1.w0.putObj (w.heap.size + 1) (.loop { rec .ready none with state := .exhausted }), ds := mark w.heap.size :: cx'.ds }, (hr.trans hreb).turn (by omega), ?_, rfl, ⟨s, H N⟩, hdone, ?_⟩
   ·obtain ⟨Ds, d1, d2, d3⟩ := hd
    have hlow : ∀ D ∈ Ds, D < w.heap.size := fun D hD => Nat.lt_of_lt_of_le (d3 D hD).2.1 hold
    refine ⟨w.heap.size :: Ds, by rw [d1]; rfl, List.nodup_cons.2 ⟨fun h => Nat.lt_irrefl _ (hlow _ h), d2⟩, fun D hD => ?_⟩
    rcases List.mem_cons.1 hD with rfl | hD
    ·refine ⟨hcB, by show _ < cx1.B0; rw [hB1]; omega, ?_, ?_, ?_⟩
     ·show ¬ cx1.A0 _; rw [← hcx1]; exact fun h => Nat.lt_irrefl _ (hAl _ h)
     ·show ¬ cx1.S0 _; rw [← hcx1]; exact fun h => Nat.lt_irrefl _ (hSl _ h)
     ·show (cx1.w0.putObj _ _).heap[_]? = _
      rw [World.putObj_heap_other (by omega), hw01]; exact hD1
    ·obtain ⟨q1, q2, q3, q4, q5⟩ := d3 D hD
     have hDw := hlow D hD
     have hk2 := hkept D q2 q3 q4
     refine ⟨q1, by show _ < cx1.B0; rw [hB1]; omega, ?_, ?_, ?_⟩
     ·show ¬ cx1.A0 _; rw [← hcx1]; exact hk2.1
     ·show ¬ cx1.S0 _; rw [← hcx1]; exact hk2.2
     ·show (cx1.w0.putObj _ _).heap[_]? = _
      rw [World.putObj_heap_other (by omega), hw01, hext.block D hDw, hkeep.block D q2 q3]
      exact q5
   ·obtain ⟨g1, ι5, F5, g2, g3⟩ := hsE
    have g4 := g2.other (k := cx1.fix) (fv := cx1.fixv) (rd := cx1.rd) (ds := mark w.heap.size :: cx'.ds)
    exact ⟨g1, ι5, F5, g4, g3⟩
end
end Go.Aw
namespace Go.Aw
open Go.RowKit
section
variable {P : Program} {cx : Cx} {n : Nat} {Q : SQ} {st : St} {g : Nat → AV} {H : List (Nat × Tree)} {tmps : Array Value} {w : World}
theorem U0_ {fn : Func} {R : Ending → World → Prop} : ∀ (Ds : List Nat) (c : Cx) (w : World), Reb cx c → (∀ D ∈ Ds, cx.B0 ≤ D ∧ D < c.B0 ∧ ¬ c.A0 D ∧ ¬ c.S0 D ∧ c.w0.heap[D]? = some (.deferred (some []))) → Ds.Nodup →
  SimF c n g H tmps w → (∀ w', SimF cx n g H tmps w' → ∃ v, (results fn tmps).run P w' = .ok v w' ∧ R (.returned v) w') → LeavesInM Fence.wide 0 P fn tmps R (Ds.map mark) .returning w
 | [], c, w, hr, hD, hn, hs, hR => hR w (hr.sim hs)
 | D :: Ds, c, w, hr, hD, hn, hs, hR => by
  obtain ⟨q1, q2, q3, q4, q5⟩ := hD D (List.mem_cons_self ..)
  have hw : w.heap[D]? = some (.deferred (some [])) := by
   obtain ⟨_, ι, F, ho, _⟩ := hs
   exact (ho.keep.block D q2 q3).trans q5
  refine ⟨by simp, .inl ⟨D, w.putObj D (.deferred none), rfl, run_takeDeferred hw, ?_⟩⟩
  have hs2 := hs.turnB (.deferred none) q2 q3 q4 q5 rfl
  refine U0_ Ds _ _ ((hr.turn (l := D) (o := .deferred none) (ds := c.ds) q1)) (fun D' hD' => ?_) (List.nodup_cons.1 hn).2 hs2 hR
  obtain ⟨k1, k2, k3, k4, k5⟩ := hD D' (List.mem_cons_of_mem _ hD')
  refine ⟨k1, k2, k3, k4, ?_⟩
  show (c.w0.putObj D (.deferred none)).heap[D']? = _
  rw [World.putObj_heap_other (fun e => (List.nodup_cons.1 hn).1 (by rw [← e]; exact hD'))]
  exact k5
theorem wV_ {f : FuncId} {fn : Func} {c : Code} {args : Array Value} {R : Ending → World → Prop} (hf : P.funcs[f]? = some fn) (hb : fn.body = some c) (hrd : cx.rd = none) (hds : cx.ds = [])
  (h : ATD P cx n c Q st) (hs : SimF cx n st.get st.H (args ++ Array.replicate (fn.ntmps - args.size) undef) w)
  (hQ : ∀ e st', Q e st' → Ends e ∧ ∀ tmps w', SimF cx n st'.get st'.H tmps w' → ∃ v, (results fn tmps).run P w' = .ok v w' ∧ R (.returned v) w') : Calls P f args w R := by
 refine callsIn_wide.1 (callsIn_of_wp_marks (n := 0) hf hb trivial ?_)
 have h1 := h cx (Reb.refl cx) ⟨[], hds, List.nodup_nil, fun D hD => by cases hD⟩ _ w hs
 rw [hrd, hds] at h1
 refine wpIn_mono h1 ?_
 rintro e a w' ⟨c2, hr, ⟨Ds, d1, d2, d3⟩, hda, st', hq, hs'⟩
 obtain ⟨he, hfin⟩ := hQ e st' hq
 have := U0_ (fn := fn) (R := R) Ds c2 w' hr d3 d2 hs' (hfin a.tmps)
 rw [← d1, ← hda] at this
 rcases he with rfl | rfl
 ·exact this
 ·exact this
theorem PureCall.introD {f : FuncId} {fn : Func} {c : Code} {rs : List ResultVar} {ds : List AV} {r : AV} (hcall : ∀ args w, (callFunc f args).run P w = .ok (.enter f args) w) (hf : P.funcs[f]? = some fn) (hb : fn.body = some c)
  (hn : fn.ntmps = n) (hrs : fn.results = rs.toArray) (hl : ds.length ≤ n) (h : ∀ cx, cx.fix = 0 → cx.rd = none → ATD P cx n c (fun e st => Ends e ∧ ∃ v, wg_ P st rs v ∧ xI_ st.H v = some r) ⟨xD_ 0 ds, []⟩) : PureCall P f ds r := by
 refine ⟨hcall, fun vs w S hS hd => wV_ hf hb rfl rfl (h (z3_ S w) rfl rfl) (by rw [hn]; exact XQ_ hS hd hl) ?_⟩
 rintro e st' ⟨he, v, hv, hvw⟩
 refine ⟨he, ?_⟩
 rintro tmps w' ⟨hsz, ι, F, ho, hr⟩
 obtain ⟨u, k1, k2⟩ := yT_ (P := P) hrs ho hr hv
 have k3 := wF_ ho _ _ _ hvw k2
 refine ⟨u, k1, u, rfl, ho.keep.ext_of, ?_⟩
 refine rep.le (m := ⟨w', zK_ (z3_ S w) w', fun _ => undef, fun _ _ => False⟩) (m' := ⟨w', fun b => S b ∨ (w.heap.size ≤ b ∧ b < w'.heap.size), fun _ => undef, fun _ _ => False⟩) ⟨fun b hb => ⟨?_, rfl⟩, fun _ _ hd => hd.elim⟩ _ _ k3
 obtain ⟨hb1, hb2⟩ := hb
 rcases hb2 with hb2 | hb2 | hb2
 ·exact .inl hb2
 ·exact .inr ⟨hb2, hb1⟩
 ·exact hb2.elim
theorem FreshCall.introD {f : FuncId} {fn : Func} {c : Code} {rs : List ResultVar} {ds : List AV} {r : AV} (hcall : ∀ args w, (callFunc f args).run P w = .ok (.enter f args) w) (hf : P.funcs[f]? = some fn) (hb : fn.body = some c)
  (hn : fn.ntmps = n) (hrs : fn.results = rs.toArray) (hl : ds.length ≤ n) (h : ∀ cx, cx.fix = 0 → cx.rd = none → ATD P cx n c (fun e st => Ends e ∧ ∃ v is, wg_ P st rs v ∧ zI_ st.H v = some (r, is) ∧ is.Nodup) ⟨xD_ 0 ds, []⟩) : FreshCall P f ds r := by
 refine ⟨hcall, fun vs w S hS hd => wV_ hf hb rfl rfl (h (z3_ S w) rfl rfl) (by rw [hn]; exact XQ_ hS hd hl) ?_⟩
 rintro e st' ⟨he, v, is, hv, hvw, hnd⟩
 refine ⟨he, ?_⟩
 rintro tmps w' ⟨hsz, ι, F, ho, hr⟩
 obtain ⟨u, k1, k2⟩ := yT_ (P := P) hrs ho hr hv
 obtain ⟨k3, k4⟩ := ZF_ ho _ _ _ _ hvw k2
 refine ⟨u, k1, u, _, rfl, ho.keep.ext_of, k3, z4_ ho hnd k4, fun b hb => ?_⟩
 obtain ⟨l, hl, hbl⟩ := List.mem_flatten.1 hb
 obtain ⟨i, hi, rfl⟩ := List.mem_map.1 hl
 obtain ⟨p, hp, rfl⟩ := List.mem_map.1 (k4 i hi)
 have := ho.mine b (mem_foot.2 ⟨p, hp, hbl⟩)
 refine ⟨?_, this.1⟩
 rcases this.2 with h | h
 ·exact h
 ·exact h.elim
theorem OwnCall.introD {f : FuncId} {fn : Func} {c : Code} {rs : List ResultVar} {args : List AV} {T T' : List (Nat × Tree)} {r : AV} (k : Nat) (J : List Nat) {X : List Nat} (hcall : ∀ args w, (callFunc f args).run P w = .ok (.enter f args) w) (hf : P.funcs[f]? = some fn) (hb : fn.body = some c)
  (hn : fn.ntmps = n) (hrs : fn.results = rs.toArray) (hl : args.length ≤ n) (hX : ∀ i ∈ X, i ∈ Aw.ids T' ∧ ∃ j ∈ J, j < k ∧ i ∈ y9_ (xh_ (xD_ 0 args) j))
  (h : ∀ cx, cx.fix = below k → cx.rd = none → ATD P cx n c (fun e st => Ends e ∧ wg_ P st rs r ∧ (∀ j ∈ J, st.get j = xh_ (xD_ 0 args) j) ∧ st.H = T') ⟨xD_ 0 args, T⟩) : OwnCall P f args T T' r X := by
 refine ⟨hcall, fun i hi => (hX i hi).1, fun us w S ι F ho0 hr => ?_⟩
 rw [xw_] at hr
 have hlen := hr.length
 let cx : Cx := Xf_ w T F S (below k) (fun j => (us[j]?).getD undef)
 have ho : Owns cx T w ι F := Ze_ ho0
 have hget : ∀ k, (us.toArray ++ Array.replicate (n - us.toArray.size) undef).getD k undef = (us[k]?).getD undef := by
  intro k
  rw [Array.getD_eq_getD_getElem?]
  by_cases hk : k < us.length
  ·rw [Array.getElem?_append_left (by simpa using hk)]; simp
  ·rw [Array.getElem?_append_right (by simpa using hk)]
   rw [List.getElem?_eq_none (by omega)]
   simp only [Array.getElem?_replicate]
   split <;> rfl
 have hs : SimF cx n (St.mk (xD_ 0 args) T).get T (us.toArray ++ Array.replicate (n - us.toArray.size) undef) w := by
  refine ⟨⟨by simp only [List.size_toArray, Array.size_append, Array.size_replicate]; omega, fun j _ => hget j⟩, ι, F, ho, fun j => ?_⟩
  have := yI_ 0 hr j
  simp only [Nat.not_lt_zero, if_false, Nat.sub_zero] at this
  rw [hget]
  exact this
 have hr0 : ∀ j, rep (mem cx w T ι F) (xh_ (xD_ 0 args) j) ((us[j]?).getD undef) := fun j => by
  have h1 := yI_ 0 hr j
  simp only [Nat.not_lt_zero, if_false, Nat.sub_zero] at h1
  exact h1
 refine wV_ (cx := cx) hf hb rfl rfl (h cx rfl rfl) (by rw [hn]; exact hs) ?_
 rintro e st' ⟨he, hv, hg0, hH⟩
 refine ⟨he, ?_⟩
 rintro tmps w' ⟨⟨hsz, hfx⟩, ι', F', ho', hr'⟩
 obtain ⟨u, k1, k2⟩ := yT_ (P := P) hrs ho' hr' hv
 subst hH
 have hι : ∀ i ∈ X, ι' i = ι i := fun i hi => by
  obtain ⟨q1, j, q2, q3, q4⟩ := hX i hi
  have r1 := hr' j
  rw [hg0 j q2, hfx j (by show decide (j < k) = true; simpa using q3)] at r1
  refine Xs_ (m := mem cx w T ι F) (m' := mem cx w' st'.H ι' F') (fun b hb => ?_) _ _ (hr0 j) r1 i q4
  exact ho'.keep.block b hb.2.1 hb.2.2
 exact ⟨u, k1, u, ι', F', rfl, Ze_ ho', k2, hι⟩
theorem bh2 {fB ib : Nat} {s : List (Nat × AV)} {gs : Nat} (h : xh_ s gs = .fn fB [.bptr ib 0]) : ∀ m v, rep m (xh_ s gs) v → ∃ bb, v = .func (.func fB) #[] #[.pointer (some ⟨bb, 0, none⟩)] := fun m v hr => by
 rw [h] at hr
 simp only [rep, reps] at hr
 obtain ⟨us, rfl, u, us', rfl, ⟨_, b, _, rfl⟩, rfl⟩ := hr
 exact ⟨b, rfl⟩
theorem aW0 {W : World} {S : Nat → Prop} {xs : List Int} {v : Value} {bb N : Nat} (hN : xs.length = N) (hc : W.cell? ⟨bb, 0, none⟩ = some v) (h : L1 W S xs v) :
  ap7 W bb N ∧ ∀ x, x < N → ElAt W bb N (N - 1 - x) (.int .i64 (xs.getD (N - 1 - x) 0)) ∧ InR (xs.getD (N - 1 - x) 0) := by
 subst hN
 obtain ⟨h1, h2⟩ := h
 rcases h1 with ⟨⟨a, rfl⟩, he⟩ | ⟨b, off, cap, rfl, h4, h5, h6, h7⟩
 ·have : xs = [] := by simpa [ints] using he
  subst this
  exact ⟨⟨a, 0, hc⟩, fun x hx => absurd hx (by simp)⟩
 ·have hl : (ints xs).length = xs.length := by simp [ints]
  rw [hl] at hc
  refine ⟨⟨_, cap, hc⟩, fun x hx => ?_⟩
  have hj : xs.length - 1 - x < xs.length := by omega
  have he : (ints xs)[xs.length - 1 - x]? = some (.int .i64 (xs.getD (xs.length - 1 - x) 0)) := by simp [ints, List.getD, hj]
  refine ⟨⟨b, off, cap, hc, h7 _ _ he⟩, h2 _ ?_⟩
  simp [List.getD, hj]
theorem bh3 {fB ib : Nat} {xs : List Int} {s : List (Nat × AV)} {gs N : Nat} (hN : xs.length = N) (h : xh_ s gs = .fn fB [.bptr ib 0]) {H : Nat → List (Nat × Tree)} (hH : ∀ x, find (H x) ib = some (.bx [.l1 xs])) : ∀ x, x ≤ N → ∀ (c : Cx) (ι : Nat → Value) (F : Nat → List Nat) (W : World) (bb : Nat), Owns c (H x) W ι F →
  rep (mem c W (H x) ι F) (xh_ s gs) (.func (.func fB) #[] #[.pointer (some ⟨bb, 0, none⟩)]) → ap7 W bb N ∧ (x < N → ElAt W bb N (N - 1 - x) (.int .i64 (xs.getD (N - 1 - x) 0)) ∧ InR (xs.getD (N - 1 - x) 0)) := by
 intro x hx c ι F W bb ho hr
 rw [h] at hr
 simp only [rep, reps] at hr
 obtain ⟨us, e1, u, us', rfl, ⟨_, b, hib, rfl⟩, rfl⟩ := hr
 have e2 : bb = b := by simpa using e1
 subst e2
 have ht := ho.trees _ (xc_ (hH x))
 simp only [treeRep, reps] at ht
 obtain ⟨b2, us2, E, k1, k2, k3, u2, us3, rfl, hl, rfl⟩ := ht
 have hib' : ι ib = .pointer (some ⟨bb, 0, none⟩) := hib
 rw [hib'] at k1
 have e3 : bb = b2 := by simpa using k1
 subst e3
 have hc : W.cell? ⟨bb, 0, none⟩ = some u2 := by
  have k3' : W.heap[bb]? = some (.cells (List.toArray [u2]) E (0, 0)) := k3
  simp [World.cell?, k3']
 have := aW0 hN hc hl
 exact ⟨this.1, this.2 x⟩
def ab9 (P : Program) (cx : Cx) (n : Nat) : List Code → SQ → St → Prop
 | [], Q, st => Q .normal st
 | c :: cs, Q, st => ATD P cx n c (thn (ab9 P cx n cs Q) Q) st
variable {cs : List Code}
theorem JD_ {c : Code} (h : ab9 P cx n [c] Q st) : ATD P cx n c Q st := ATD.conseq h (fun e s hq => by cases e <;> exact hq)
theorem ap8 {a b : Code} (h : ab9 P cx n (a :: b :: cs) Q st) : ab9 P cx n (.seq a b :: cs) Q st :=
 ATD.seq (ATD.conseq h (fun e s hq => by cases e <;> exact hq))
theorem QE_ {id : Nat} {c : Code} (h : ab9 P cx n [c] (bq id (ab9 P cx n cs Q) Q) st) : ab9 P cx n (.block id c :: cs) Q st :=
 ATD.block (ATD.conseq (JD_ h) (fun e s hq => by
  cases e with
  | normal => exact hq
  | exit id' =>
   simp only [bq, aE8, thn] at hq ⊢
   split
   ·rename_i hh; rw [if_pos hh] at hq; exact hq
   ·rename_i hh; rw [if_neg hh] at hq; exact hq
  | goto l => exact hq
  | ret => exact hq
  | panic ch => exact hq
  | outgrown => exact hq))
theorem JE_ {c : Code} (h : ∀ cx', cx'.fix = cx.fix → AT P cx' n c Q st) : ab9 P cx n [c] Q st :=
 ATD.conseq (ATD.of_AT h) (fun e s hq => by cases e <;> exact hq)
end
def bh4 : List Code → Code → Code
 | [], c => c
 | a :: r, c => .seq a (bh4 r c)
section
variable {P : Program} {cx : Cx} {n : Nat} {Q : SQ} {st : St} {cs : List Code}
theorem ap9 (cs : List Code) {c : Code} (z : St) (h : ∀ cx' : Cx, cx'.fix = cx.fix → ATs P cx' n cs (fun e s => (e = .normal ∧ yp_ cx' n s z) ∨ (e ≠ .normal ∧ ∃ z', yp_ cx' n s z' ∧ Q e z')) st) (hz : ATD P cx n c Q z) : ATD P cx n (bh4 cs c) Q st := by
 intro cx' hr hd tmps w hs
 have key : ∀ (cs : List Code) (s : St) (tmps : Array Value) (w : World), ATs P cx' n cs (fun e s => (e = .normal ∧ yp_ cx' n s z) ∨ (e ≠ .normal ∧ ∃ z', yp_ cx' n s z' ∧ Q e z')) s → SimF cx' n s.get s.H tmps w →
   (bh4 cs c).wpIn (Fr cx'.rd) 0 P (fun e a w' => ∃ cx'', Reb cx cx'' ∧ DOk cx cx'' ∧ a.defers = cx''.ds ∧ ∃ st', Q e st' ∧ SimF cx'' n st'.get st'.H a.tmps w') ⟨tmps, cx'.ds⟩ w := by
  intro cs
  induction cs with
  | nil =>
   intro s tmps w h hs
   rcases h with ⟨_, hg⟩ | ⟨hne, _⟩
   ·exact hz cx' hr hd tmps w (hg _ _ hs)
   ·exact absurd rfl hne
  | cons a cs ih =>
   intro s tmps w h hs
   refine wpIn_seq (wpIn_mono (h tmps w hs) ?_)
   rintro e a w' ⟨h1, st', h2, h3⟩
   have hx : ∀ e : Exit, e ≠ .normal → (e = .normal ∧ yp_ cx' n st' z) ∨ (e ≠ .normal ∧ ∃ z', yp_ cx' n st' z' ∧ Q e z') → ∃ cx'', Reb cx cx'' ∧ DOk cx cx'' ∧ a.defers = cx''.ds ∧ ∃ st', Q e st' ∧ SimF cx'' n st'.get st'.H a.tmps w' := by
    rintro e hne (⟨he, _⟩ | ⟨_, z', hg, hq⟩)
    ·exact absurd he hne
    ·exact ⟨cx', hr, hd, h1, z', hq, hg _ _ h3⟩
   cases e with
   | normal =>
    have := ih st' a.tmps w' h2 h3
    rw [← zv_ h1] at this
    exact this
   | exit id => exact hx _ (by simp) h2
   | goto l => exact hx _ (by simp) h2
   | ret => exact hx _ (by simp) h2
   | panic ch => exact hx _ (by simp) h2
   | outgrown => exact hx _ (by simp) h2
 exact key cs st tmps w (h cx' hr.fix) hs
theorem JF_ {c : Code} (z : St) (h : ∀ cx' : Cx, cx'.fix = cx.fix → ATs P cx' n [c] (fun e s => (e = .normal ∧ yp_ cx' n s z) ∨ (e ≠ .normal ∧ ∃ z', yp_ cx' n s z' ∧ Q e z')) st) (hz : ab9 P cx n cs Q z) : ab9 P cx n (c :: cs) Q st := by
 intro cx' hr hd tmps w hs
 refine wpIn_mono (yY_ (h cx' hr.fix) tmps w hs) ?_
 rintro e a w' ⟨h1, st', h2, h3⟩
 rcases h2 with ⟨rfl, hl⟩ | ⟨hne, z', hg, hq⟩
 ·exact ⟨cx', hr, hd, h1, z, hz, hl _ _ h3⟩
 ·refine ⟨cx', hr, hd, h1, z', ?_, hg _ _ h3⟩
  cases e with
  | normal => exact absurd rfl hne
  | exit id => exact hq
  | goto l => exact hq
  | ret => exact hq
  | panic ch => exact hq
  | outgrown => exact hq
theorem QF_ {s : St} : yp_ cx n s s := fun _ _ h => h
end
section
variable {P : Program} {cx : Cx} {n : Nat} {Q : SQ} {st : St}
end
end Go.Aw
namespace Go.Aw
theorem gAN {X Y : Prop} (y : Y) (s : Hd Y → X := by intro hy; (repeat refine xa_ ?_); refine xr_ (by first | exact xZ_ hcx | exact yQ_ hcx rfl | exact zE_ hcx rfl) fun K hK => ?_; simp only [go_sem, seval]; refine hK _ ?_; clear hK K; exact hy.y) : X := s ⟨y⟩
theorem gBN {X Y : Prop} (y : Y) (s : Hd Y → X := by intro hy; (repeat refine xa_ ?_); refine xr_ (by first | exact xZ_ hcx | exact yQ_ hcx rfl | exact zE_ hcx rfl) fun K hK => ?_; simp only [go_sem, seval]; (repeat refine aI (hb := ?_)); refine hK _ ?_; clear hK K; exact hy.y) : X := s ⟨y⟩
theorem gCN {X : Prop} {Φ : (St → Prop) → Prop} {Y : ∀ K : St → Prop, Φ K → Prop} (y : ∀ K hK, Y K hK) (s : (∀ K hK, Y K hK) → X := by intro hy; (repeat refine xa_ ?_); refine xr_ (by first | exact xZ_ hcx | exact yQ_ hcx rfl | exact zE_ hcx rfl) fun K hK => ?_; simp only [go_sem, seval]; exact hy K hK) : X := s y
end Go.Aw
