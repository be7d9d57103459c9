import Derived.Test.YtlngnhbochmcoaaLib1
import Derived.Laws.CopyRow
import Derived.Laws.IdiomCopy
import Derived.Laws.Tables
set_option linter.unusedSimpArgs false
set_option linter.unusedVariables false
namespace Go.Aw
open Go.RowKit
def Zx_ (P : Program) (H : List (Nat × Tree)) (t : TypeId) (p v : AV) (K : List Nat → List Nat → List (Nat × Tree) → Prop) : Prop :=
 match xz_ P t, p with
 | .st _ sz, .bptr id off => match v, find H id with
  | .agg vs', some (.bx vs) => off + sz ≤ vs.length ∧ vs'.length = sz ∧ P.cellsOf t = sz ∧ vs'.all (wh_ H) = true ∧ 0 < sz ∧ K [] [] (x8_ H id (.bx (vs.take off ++ vs' ++ vs.drop (off + sz))))
  | _, _ => False
 | .st .., _ => False
 | .ar sz, .bptr id off => match v, find H id with
  | .agg vs', some (.bx vs) => off + sz ≤ vs.length ∧ vs'.length = sz ∧ P.cellsOf t = sz ∧ vs'.all (wh_ H) = true ∧ 0 < sz ∧ K [] [] (x8_ H id (.bx (vs.take off ++ vs' ++ vs.drop (off + sz))))
  | _, _ => False
 | .ar _, _ => False
 | .other, _ => False
 | _, .bptr id off => match find H id with
  | some (.bx vs) => wh_ H v = true ∧ P.cellsOf t = 1 ∧ off < vs.length ∧ K [] [] (x8_ H id (.bx (vs.set off v)))
  | _ => False
 | _, .eref id path i => P.cellsOf t = 1 ∧ match find H id, path, v with
  | some (.t1 xs), [], .int k => K [] [] (x8_ H id (.t1 (xs.set i k)))
  | some (.t2 xss), [r], .int k => K [] [] (x8_ H id (.t2 (xss.set r ((xss.getD r []).set i k))))
  | some (.tq xss L), [r], .int k => K [] [] (x8_ H id (.tq (xss.set r ((xss.getD r []).set i k)) L))
  | some (.t3 x), [r, s], .int k => K [] [] (x8_ H id (.t3 (x.set r ((x.getD r []).set s (((x.getD r []).getD s []).set i k)))))
  | some (.t2 xss), [], .ref rid [] => match find H rid with
   | some (.t1 ys) => K [rid] [id] (x8_ (xt_ (qOf [rid] [id]) (rmT [rid] H)) id (.t2 (xss.set i ys)))
   | _ => False
  | some (.t3 x), [], .ref rid [] => match find H rid with
   | some (.t2 ys) => K [rid] [id] (x8_ (xt_ (qOf [rid] [id]) (rmT [rid] H)) id (.t3 (x.set i ys)))
   | _ => False
  | some (.t3 x), [r], .ref rid [] => match find H rid with
   | some (.t1 ys) => K [rid] [id] (x8_ (xt_ (qOf [rid] [id]) (rmT [rid] H)) id (.t3 (x.set r ((x.getD r []).set i ys))))
   | _ => False
  | some (.r2 xss), [], v => match ab8 v with
   | some ys => K [] [] (x8_ H id (.r2 (xss.set i ys)))
   | none => False
  | some (.r3 x), [], v => match QR_ v with
   | some ys => K [] [] (x8_ H id (.r3 (x.set i ys)))
   | none => False
  | some (.lv vs), [], v => wh_ H v = true ∧ K [] [] (x8_ H id (.lv (vs.set i v)))
  | some (.mx xss a b p q), [], v => wh_ H v = true ∧ (i = a ∨ i = b) ∧ K [] [] (x8_ H id (.mx xss a b (if i = a then v else p) (if i = b then v else q)))
  | some (.a3 x σ), [r, s], .int k => K [] [] (x8_ H id (.a3 (x.set (σ.getD r 0) ((x.getD (σ.getD r 0) []).set s (((x.getD (σ.getD r 0) []).getD s []).set i k))) σ))
  | some (.a3 x σ), [], .ref rid [q] => rid = id ∧ K [] [id] (x8_ (xt_ (qOf [] [id]) H) id (.a3 x (σ.set i (σ.getD q 0))))
  | _, _, _ => False
 | _, _ => False
def TF_ (cx : Cx) (H : List (Nat × Tree)) (w : World) (ι : Nat → Value) (F : Nat → List Nat) (w' : World) (K : List Nat → List Nat → List (Nat × Tree) → Prop) : Prop :=
 ∃ all subs H' ι' F', K all subs H' ∧ Owns cx H' w' ι' F' ∧ ∀ av x, rep (mem cx w H ι F) av x → rep (mem cx w' H' ι' F') (xp_ (qOf all subs) av) x
section
variable {P : Program} {cx : Cx} {H : List (Nat × Tree)} {w w' : World} {ι : Nat → Value} {F : Nat → List Nat}
theorem xu_ {id : Nat} {t : Tree} (ho : Owns cx H w ι F) (hf : find H id = some t) : (F id).Nodup := by
 have : ∀ {H : List (Nat × Tree)}, (xW_ H F).Nodup → (id, t) ∈ H → (F id).Nodup := by
  intro H
  induction H with
  | nil => intro _ h; cases h
  | cons x r ih =>
   intro hn h
   rw [ym_, List.nodup_append] at hn
   rcases List.mem_cons.1 h with e | h
   ·subst e; exact hn.1
   ·exact ih hn.2.1 h
 exact this ho.nodup (xc_ hf)
theorem yc_ {i j : Nat} {t t' : Tree} (ho : Owns cx H w ι F) (hi : find H i = some t) (hj : find H j = some t') (hne : i ≠ j) {x : Nat} (h1 : x ∈ F i) (h2 : x ∈ F j) : False := by
 have : ∀ {H : List (Nat × Tree)}, (xW_ H F).Nodup → (i, t) ∈ H → (j, t') ∈ H → False := by
  intro H
  induction H with
  | nil => intro _ h; cases h
  | cons y r ih =>
   intro hn e1 e2
   rw [ym_, List.nodup_append] at hn
   rcases List.mem_cons.1 e1 with f1 | f1 <;> rcases List.mem_cons.1 e2 with f2 | f2
   ·subst f1; cases f2; exact hne rfl
   ·subst f1; exact hn.2.2 x h1 x (mem_foot.2 ⟨(j, t'), f2, h2⟩) rfl
   ·subst f2; exact hn.2.2 x h2 x (mem_foot.2 ⟨(i, t), f1, h1⟩) rfl
   ·exact ih hn.2.1 f1 f2
 exact this ho.nodup (xc_ hi) (xc_ hj)
theorem Owns.same (ho : Owns cx H w ι F) {id : Nat} {t t' : Tree} (hf : find H id = some t) {b : Nat} (hb : b ∈ F id) (hw : Turned w w' [b]) {fp' : List Nat} {all subs : List Nat} (_ : id ∉ all)
  (hfp : fp'.Nodup) (hfpm : ∀ x ∈ fp', x ∈ F id ∨ ∃ r ∈ all, r ∈ Aw.ids H ∧ x ∈ F r)
  (hlive : ∀ p, xq_ (some t) p = true → (id ∈ subs → p = []) → xq_ (some t') p = true ∧ ∀ u, xl_ w (ι id) p = some u → xl_ w' (ι id) p = some u)
  (ht : ∀ m : Mem, m.w = w' → (∀ av x, rep (mem cx w H ι F) av x → rep m (xp_ (qOf all subs) av) x) → treeRep m fp' t' (ι id))
  {K : List Nat → List Nat → List (Nat × Tree) → Prop} (hK : K all subs (x8_ (xt_ (qOf all subs) (rmT all H)) id t')) : TF_ cx H w ι F w' K := by
 have hid : id ∈ Aw.ids H := List.mem_map.2 ⟨_, xc_ hf, rfl⟩
 have hbm := ho.mine b (mem_foot.2 ⟨_, xc_ hf, hb⟩)
 have key := ho.put (w' := w') all id t' (ι id) fp' (qOf all subs) (ho.keep.turned ho.old hw (fun x hx => by simp only [List.mem_singleton] at hx; subst hx; exact hbm.2)) hw.size
  (fun x hx hno => hw.block x hx (fun he => by simp only [List.mem_singleton] at he; subst he; exact hno id (.inl rfl) hid hb))
  hfp
  (fun x hx => by
   rcases hfpm x hx with h | ⟨r, hr, hri, h⟩
   ·exact ⟨Nat.lt_of_lt_of_le (ho.mine x (mem_foot.2 ⟨_, xc_ hf, h⟩)).1 hw.size, .inl ⟨id, .inl rfl, hid, h⟩⟩
   ·obtain ⟨p, hp, rfl⟩ := List.mem_map.1 hri
    exact ⟨Nat.lt_of_lt_of_le (ho.mine x (mem_foot.2 ⟨p, hp, h⟩)).1 hw.size, .inl ⟨p.1, .inr hr, hri, h⟩⟩)
  (fun r hr p => by simp [qOf, hr])
  (fun p hq hl => by
   rw [hf] at hl
   simp only [qOf, Bool.or_eq_false_iff, Bool.and_eq_false_iff] at hq
   obtain ⟨h1, h2⟩ := hlive p hl (fun hs => by
    rcases hq.2 with h | h
    ·simp [hs] at h
    ·simpa using h)
   exact ⟨h1, rfl, h2⟩)
  (fun hr => ht _ rfl hr)
 exact ⟨all, subs, _, _, _, hK, key.1, key.2⟩
theorem Xg_ (ho : Owns cx H w ι F) {id i : Nat} {path : List Nat} {u : Value} {n : Nat} {f : Nat → AV} (he : x0_ H id path = some (n, f)) (hr : rep (mem cx w H ι F) (.eref id path i) u) :
  ∃ b off n' cap, xl_ w (ι id) path = some (.slice (some ⟨b, off, none⟩) n' cap) ∧ i < n' ∧ u = .pointer (some ⟨b, off + i, none⟩) ∧ (∃ x, w.cell? ⟨b, off + i, none⟩ = some x) ∧ w.frozen? ⟨b, off + i, none⟩ = false := by
 simp only [rep] at hr
 obtain ⟨_, b, off, n', cap, h1, h2, h3⟩ := hr
 obtain ⟨us, fp, k1, _⟩ := yN_ ho he h1
 obtain ⟨_, _, k2, k3⟩ := k1.at
 obtain ⟨x, _, hx⟩ := k2 i h2
 exact ⟨b, off, n', cap, h1, h2, h3, ⟨x, hx⟩, k3 _⟩
theorem A3.inner {fp : List Nat} {x : List (List (List Int))} {σ : List Nat} {v y : Value} (ht : A3 w fp x σ v) (hn : fp.Nodup) {r b : Nat} {a' : List (List Int)} (hp : xl_ w v [r] = some y) (hcell : ∀ q, q ≠ b → w'.heap[q]? = w.heap[q]?)
  (hin : ∀ f, f.Nodup → O2 w f (x.getD (σ.getD r 0) []) y → b ∈ f ∧ O2 w' f a' y ∧ ∀ j u, xl_ w y [j] = some u → xl_ w' y [j] = some u) :
  b ∈ fp ∧ A3 w' fp (x.set (σ.getD r 0) a') σ v ∧ ∀ p, xq_ (some (.a3 x σ)) p = true → ∀ u, xl_ w v p = some u → xl_ w' v p = some u := by
 obtain ⟨rows, f0, fs, h1, h2, h3, h4⟩ := ht
 obtain ⟨y', hy, hyp⟩ := h1.row hp
 simp only [xl_, Option.some.injEq] at hyp; subst hyp
 have hi : r < σ.length := by have := (List.getElem?_eq_some_iff.1 hy).1; simpa using this
 have hk : σ.getD r 0 < x.length := h3 _ (getD_mem hi)
 obtain ⟨f, c, hff, hc, hr⟩ := h2.get _ _ (getD_some (d := []) hk)
 have ey : y' = c := by
  rw [List.getElem?_map, getD_some (d := 0) hi] at hy
  simp only [Option.map_some, Option.some.injEq] at hy
  rw [← hy, hc]
  rfl
 subst ey
 rw [h4, List.nodup_append] at hn
 obtain ⟨g1, g2, g3⟩ := hin f (x9_ hn.2.1 hff) hr
 have hbf : b ∈ fs.flatten := List.mem_flatten.2 ⟨f, List.mem_of_getElem? hff, g1⟩
 have h0 : ∀ q ∈ f0, q ≠ b := fun q hq e => hn.2.2 q hq b hbf e
 refine ⟨by rw [h4]; exact List.mem_append_right _ hbf, ⟨rows, f0, fs, h1.heap (fun q hq => hcell q (h0 q hq)), ?_, fun k hk => by rw [List.length_set]; exact h3 k hk, h4⟩, ?_⟩
 ·refine All3.of_get (by rw [List.length_set]; exact h2.length.1) (by rw [List.length_set]; exact h2.length.2) (fun j g a u hg ha hu => ?_)
  rw [List.getElem?_set] at ha
  by_cases hjr : σ.getD r 0 = j
  ·subst hjr
   rw [if_pos rfl, if_pos hk] at ha
   cases ha
   rw [hff] at hg; cases hg
   rw [hc] at hu; cases hu
   exact g2
  ·rw [if_neg hjr] at ha
   refine O2.heap (w := w) (fun q hq => hcell q (fun e => ?_)) (h2.at hg ha hu)
   subst e
   exact yj_ hn.2.1 hg hff (fun e => hjr e.symm) hq g1
 ·have one : ∀ j z, xl_ w v [j] = some z → xl_ w' v [j] = some z := fun j z hz => by
   obtain ⟨bo, off, n, cap, z', hv, hji, hjc, hjz⟩ := xB_ hz
   subst hv
   rw [xJ_ hji (by rw [cell_of_heap (hcell bo (h0 bo (by rw [h1.at.1]; simp)))]; exact hjc)]
   simpa [xl_] using hjz
  intro p hl u hu
  match p, hl with
  | [], _ => simpa [xl_] using hu
  | [j], _ => exact one j u hu
  | [j, l], _ =>
   obtain ⟨z, hz, hzp⟩ := h1.row hu
   obtain ⟨bo, off, n, cap, z', hv, hji, hjc, hjz⟩ := xB_ hu
   subst hv
   have hz1 : xl_ w (.slice (some ⟨bo, off, none⟩) n cap) [j] = some z' := by rw [xJ_ hji hjc]; simp [xl_]
   have hz2 := one j z' hz1
   rw [xJ_ hji (by rw [cell_of_heap (hcell bo (h0 bo (by rw [h1.at.1]; simp)))]; exact hjc)]
   have ezz : z' = z := by
    obtain ⟨q, hq, hqp⟩ := h1.row hz1
    rw [hz] at hq; cases hq
    simpa [xl_] using hqp.symm
   subst ezz
   have hj : j < σ.length := by have := (List.getElem?_eq_some_iff.1 hz).1; simpa using this
   have hkj : σ.getD j 0 < x.length := h3 _ (getD_mem hj)
   obtain ⟨fj, cj, hfj, hcj, hrj⟩ := h2.get _ _ (getD_some (d := []) hkj)
   have ez : z' = cj := by
    rw [List.getElem?_map, getD_some (d := 0) hj] at hz
    simp only [Option.map_some, Option.some.injEq] at hz
    rw [← hz, hcj]
    rfl
   subst ez
   by_cases hjr : σ.getD j 0 = σ.getD r 0
   ·rw [hjr] at hcj
    rw [hc] at hcj; cases hcj
    exact g3 l u hjz
   ·obtain ⟨us2, e0, es, q1, q2, q3⟩ := hrj
    obtain ⟨b2, off2, n2, cap2, x2, rfl, hi2, hc2, hx2⟩ := xB_ hjz
    have hbne : b2 ≠ b := by
     intro e
     subst e
     exact yj_ hn.2.1 hfj hff hjr (by rw [q3, q1.at.1]; simp) g1
    rw [xJ_ hi2 (by rw [cell_of_heap (hcell b2 hbne)]; exact hc2)]
    simpa [xl_] using hx2
  | _ :: _ :: _ :: _, hl => simp [xq_] at hl
theorem R6_ (ho : Owns cx H w ι F) {t : TypeId} {p v : AV} {up uv : Value} {K : List Nat → List Nat → List (Nat × Tree) → Prop} (h : Zx_ P H t p v K) (hp : rep (mem cx w H ι F) p up) (hv : rep (mem cx w H ι F) v uv) :
  ∃ w', (Instr.storeAt t up uv).run P w = .ok () w' ∧ TF_ cx H w ι F w' K := by
 have bxat : ∀ {id off : Nat} {vs : List AV}, rep (mem cx w H ι F) (.bptr id off) up → find H id = some (.bx vs) →
   ∃ b us E, ι id = .pointer (some ⟨b, 0, none⟩) ∧ up = .pointer (some ⟨b, off, none⟩) ∧ F id = [b] ∧ w.heap[b]? = some (.cells (List.toArray us) E (0, 0)) ∧ reps (mem cx w H ι F) vs us := by
  intro id off vs hr hf
  simp only [rep] at hr
  obtain ⟨_, b, h2, h3⟩ := hr
  have ht := ho.trees _ (xc_ hf)
  simp only [treeRep] at ht
  obtain ⟨b', us, E, k1, k2, k3, k4⟩ := ht
  simp only [mem] at h2 k1 k3
  have hb := k1
  rw [h2] at k1; cases k1
  exact ⟨b, us, E, hb, h3, k2, k3, k4⟩
 unfold Zx_ at h
 generalize hk : xz_ P t = k at h
 split at h <;> first | exact h.elim | skip
 ·-- a struct into its box
  rename_i fs sz id off
  split at h <;> first | exact h.elim | skip
  rename_i vs' vs hf
  obtain ⟨h2, h1, hsz, hone, hpos, hK⟩ := h
  obtain ⟨b, us, E, hι, rfl, hF, hh, hus⟩ := bxat hp hf
  simp only [rep] at hv
  obtain ⟨us', rfl, hus'⟩ := hv
  have hl : us.length = vs.length := by have hus2 := hus; rw [xw_] at hus2; exact hus2.length.symm
  have hl' : us'.length = sz := by rw [xw_] at hus'; rw [← hus'.length, h1]
  have hones : ∀ u ∈ us', u.oneCell' = true := by
   have : ∀ {vs : List AV} {us : List Value}, vs.all (wh_ H) = true → reps (mem cx w H ι F) vs us → ∀ u ∈ us, u.oneCell' = true := by
    intro vs
    induction vs with
    | nil => intro us _ h u hu; simp only [reps] at h; subst h; simp at hu
    | cons v vs ih =>
     intro us hall h u hu
     simp only [List.all_cons, Bool.and_eq_true] at hall
     simp only [reps] at h
     obtain ⟨y, ys, rfl, hy, hys⟩ := h
     rcases List.mem_cons.1 hu with rfl | hu
     ·exact wm_ ho hall.1 hy
     ·exact ih hall.2 hys u hu
   exact this hone hus'
  obtain ⟨n, hn⟩ : ∃ n, sz = n + 1 := ⟨sz - 1, by omega⟩
  have hs := yC_ (P := P) (e := t) (n := n) (by omega) w
  have hst := run_storeCells_at P b off E us' 0 us.toArray w hh (by simp; omega) hones
  have hw : (us.toArray.toList.take (off + 0) ++ us' ++ us.toArray.toList.drop (off + 0 + us'.length)).toArray = (us.take off ++ us' ++ us.drop (off + sz)).toArray := by
   simp only [Nat.add_zero, hl']
  rw [hw] at hst
  refine ⟨w.setRow b (us.take off ++ us' ++ us.drop (off + sz)).toArray, ?_, ?_⟩
  ·simp [Instr.storeAt, Instr.sureAddr, storeVar, hs, Value.cells, hl', hn, hst]
  ·refine ho.same (t' := .bx (vs.take off ++ vs' ++ vs.drop (off + sz))) hf (b := b) (by simp [hF]) (⟨rfl, rfl, rfl, by simp, fun k _ hk => setRow_other w b k (us.take off ++ us' ++ us.drop (off + sz)).toArray (by simpa using hk)⟩ : Turned w (w.setRow b (us.take off ++ us' ++ us.drop (off + sz)).toArray) [b]) (fp' := F id) (all := []) (subs := []) (by simp) (xu_ ho hf) (fun x hx => .inl hx)
    (fun p hl _ => by
     cases p with
     | nil => exact ⟨rfl, fun u hu => by simpa [xl_] using hu⟩
     | cons _ _ => simp [xq_] at hl)
    (fun m hm hr => ?_) (by rw [yL_, yH_]; exact hK)
   simp only [treeRep]
   refine ⟨b, us.take off ++ us' ++ us.drop (off + sz), E, hι, hF, by rw [hm]; exact setRow_heap w b _ _ E _ hh, zr_ (fun av x h => by have := hr av x h; rwa [yl_] at this) ?_⟩
   rw [xw_] at hus hus' ⊢
   exact ((hus.take off).append hus').append (hus.drop (off + sz))
 ·-- an array into its box
  rename_i sz id off
  split at h <;> first | exact h.elim | skip
  rename_i vs' vs hf
  obtain ⟨h2, h1, hsz, hone, hpos, hK⟩ := h
  obtain ⟨b, us, E, hι, rfl, hF, hh, hus⟩ := bxat hp hf
  simp only [rep] at hv
  obtain ⟨us', rfl, hus'⟩ := hv
  have hl : us.length = vs.length := by have hus2 := hus; rw [xw_] at hus2; exact hus2.length.symm
  have hl' : us'.length = sz := by rw [xw_] at hus'; rw [← hus'.length, h1]
  have hones : ∀ u ∈ us', u.oneCell' = true := by
   have : ∀ {vs : List AV} {us : List Value}, vs.all (wh_ H) = true → reps (mem cx w H ι F) vs us → ∀ u ∈ us, u.oneCell' = true := by
    intro vs
    induction vs with
    | nil => intro us _ h u hu; simp only [reps] at h; subst h; simp at hu
    | cons v vs ih =>
     intro us hall h u hu
     simp only [List.all_cons, Bool.and_eq_true] at hall
     simp only [reps] at h
     obtain ⟨y, ys, rfl, hy, hys⟩ := h
     rcases List.mem_cons.1 hu with rfl | hu
     ·exact wm_ ho hall.1 hy
     ·exact ih hall.2 hys u hu
   exact this hone hus'
  obtain ⟨n, hn⟩ : ∃ n, sz = n + 1 := ⟨sz - 1, by omega⟩
  have hs := yC_ (P := P) (e := t) (n := n) (by omega) w
  have hst := run_storeCells_at P b off E us' 0 us.toArray w hh (by simp; omega) hones
  have hw : (us.toArray.toList.take (off + 0) ++ us' ++ us.toArray.toList.drop (off + 0 + us'.length)).toArray = (us.take off ++ us' ++ us.drop (off + sz)).toArray := by
   simp only [Nat.add_zero, hl']
  rw [hw] at hst
  refine ⟨w.setRow b (us.take off ++ us' ++ us.drop (off + sz)).toArray, ?_, ?_⟩
  ·simp [Instr.storeAt, Instr.sureAddr, storeVar, hs, Value.cells, hl', hn, hst]
  ·refine ho.same (t' := .bx (vs.take off ++ vs' ++ vs.drop (off + sz))) hf (b := b) (by simp [hF]) (⟨rfl, rfl, rfl, by simp, fun k _ hk => setRow_other w b k (us.take off ++ us' ++ us.drop (off + sz)).toArray (by simpa using hk)⟩ : Turned w (w.setRow b (us.take off ++ us' ++ us.drop (off + sz)).toArray) [b]) (fp' := F id) (all := []) (subs := []) (by simp) (xu_ ho hf) (fun x hx => .inl hx)
    (fun p hl _ => by
     cases p with
     | nil => exact ⟨rfl, fun u hu => by simpa [xl_] using hu⟩
     | cons _ _ => simp [xq_] at hl)
    (fun m hm hr => ?_) (by rw [yL_, yH_]; exact hK)
   simp only [treeRep]
   refine ⟨b, us.take off ++ us' ++ us.drop (off + sz), E, hι, hF, by rw [hm]; exact setRow_heap w b _ _ E _ hh, zr_ (fun av x h => by have := hr av x h; rwa [yl_] at this) ?_⟩
   rw [xw_] at hus hus' ⊢
   exact ((hus.take off).append hus').append (hus.drop (off + sz))
 all_goals (have htone : (xz_ P t).one = true := by rw [hk]; cases k <;> first | rfl | simp_all)
 ·-- one cell of a box
  rename_i id off _ _ _
  split at h <;> first | exact h.elim | skip
  rename_i vs hf
  obtain ⟨hone, h1, h2, hK⟩ := h
  obtain ⟨b, us, E, hι, rfl, hF, hh, hus⟩ := bxat hp hf
  have huv := wm_ ho hone hv
  have hl : us.length = vs.length := by rw [xw_] at hus; exact hus.length.symm
  refine ⟨_, zt_ h1 huv (x := us[off]'(by omega)) (by simp [World.cell?, hh, hl, h2]) (by simp [World.frozen?, hh]), ?_⟩
  refine ho.same (t' := .bx (vs.set off v)) hf (b := b) (by simp [hF]) (yo_ w b off uv) (fp' := F id) (all := []) (subs := []) (by simp) (xu_ ho hf) (fun x hx => .inl hx)
   (fun p hl _ => by
    cases p with
    | nil => exact ⟨rfl, fun u hu => by simpa [xl_] using hu⟩
    | cons _ _ => simp [xq_] at hl)
   (fun m hm hr => ?_) (by rw [yL_, yH_]; exact hK)
  simp only [treeRep]
  have hr' : ∀ av x, rep (mem cx w H ι F) av x → rep m av x := fun av x h => by have := hr av x h; rwa [yl_] at this
  refine ⟨b, us.set off uv, E, hι, hF, ?_, ?_⟩
  ·rw [hm, heap_setCell_same w b off _ E uv hh]
   simp
  ·have h3 := zr_ hr' hus
   rw [xw_] at h3 ⊢
   exact h3.set off (hr' _ _ hv)
 ·-- an element of a slice
  rename_i id path i _ _ _
  obtain ⟨h1, h⟩ := h
  have leaf : ∀ {t0 t' : Tree} {x k : Int} {n : Nat} {f : Nat → AV}, find H id = some t0 → x0_ H id path = some (n, f) → uv = .int .i64 k →
    K [] [] (x8_ H id t') →
    (∀ b off n' cap, xl_ w (ι id) path = some (.slice (some ⟨b, off, none⟩) n' cap) → i < n' → b ∈ F id ∧
     (∀ p, xq_ (some t0) p = true → xq_ (some t') p = true ∧ ∀ u, xl_ w (ι id) p = some u → xl_ (w.setCell ⟨b, off + i, none⟩ (.int .i64 k)) (ι id) p = some u) ∧
     ∀ m : Mem, m.w = w.setCell ⟨b, off + i, none⟩ (.int .i64 k) → treeRep m (F id) t' (ι id)) →
    ∃ w', (Instr.storeAt t up uv).run P w = .ok () w' ∧ TF_ cx H w ι F w' K := by
   intro t0 t' _ k n f hf he hk' hK hh
   subst hk'
   obtain ⟨b, off, n', cap, e1, e2, rfl, ⟨x, e3⟩, e4⟩ := Xg_ ho he hp
   obtain ⟨k1, k2, k3⟩ := hh b off n' cap e1 e2
   exact ⟨_, zt_ h1 rfl e3 e4, ho.same hf k1 (yo_ w b (off + i) _) (all := []) (subs := []) (by simp) (xu_ ho hf) (fun x hx => .inl hx) (fun p hl _ => k2 p hl) (fun m hm _ => k3 m hm) (by rw [yL_, yH_]; exact hK)⟩
  have only : ∀ {t0 t' : Tree} {w' : World}, (∀ p, xq_ (some t0) p = true → p = []) → xq_ (some t') [] = true → ∀ p, xq_ (some t0) p = true → xq_ (some t') p = true ∧ ∀ u, xl_ w (ι id) p = some u → xl_ w' (ι id) p = some u := by
   intro t0 t' w' h0 h1 p hp
   have := h0 p hp
   subst this
   exact ⟨h1, fun u hu => by simpa [xl_] using hu⟩
  have hcell : ∀ (b o : Nat) (u : Value) (k : Nat), k ≠ b → (w.setCell ⟨b, o, none⟩ u).heap[k]? = w.heap[k]? := fun b o u k hk => Below.heap_setCell _ _ _ _ (by simpa using hk)
  have row : ∀ {t0 t' : Tree} {rid n : Nat} {tr : Tree} {f : Nat → AV}, find H id = some t0 → x0_ H id path = some (n, f) → v = .ref rid [] → find H rid = some tr → rid ≠ id → (ι rid).oneCell' = true →
    K [rid] [id] (x8_ (xt_ (qOf [rid] [id]) (rmT [rid] H)) id t') → xq_ (some t') [] = true →
    (∀ b off n' cap, xl_ w (ι id) path = some (.slice (some ⟨b, off, none⟩) n' cap) → i < n' → b ∈ F id ∧
     ∃ fp', fp'.Nodup ∧ (∀ x ∈ fp', x ∈ F id ∨ x ∈ F rid) ∧ ∀ m : Mem, m.w = w.setCell ⟨b, off + i, none⟩ (ι rid) → treeRep m fp' t' (ι id)) →
    ∃ w', (Instr.storeAt t up uv).run P w = .ok () w' ∧ TF_ cx H w ι F w' K := by
   intro t0 t' rid n tr f hf he hvr hfr hne hone hK hlt hh
   subst hvr
   simp only [rep, mem] at hv
   have huv : uv = ι rid := by have := hv.2; simp only [xl_, Option.some.injEq] at this; exact this.symm
   subst huv
   obtain ⟨b, off, n', cap, e1, e2, rfl, ⟨x, e3⟩, e4⟩ := Xg_ ho he hp
   obtain ⟨k1, fp', k2, k3, k4⟩ := hh b off n' cap e1 e2
   refine ⟨_, zt_ h1 hone e3 e4, ho.same hf k1 (yo_ w b (off + i) _) (all := [rid]) (subs := [id]) (by simpa using fun e => hne e.symm) k2
    (fun x hx => Qd_ (k3 x hx) (fun h => h) (fun h => ⟨rid, by simp, List.mem_map.2 ⟨_, xc_ hfr, rfl⟩, h⟩)) (fun p _ hs => ?_) (fun m hm _ => k4 m hm) hK⟩
   have := hs (by simp)
   subst this
   exact ⟨hlt, fun u hu => by simpa [xl_] using hu⟩
  split at h <;> first | exact h.elim | skip
  ·-- t1
   rename_i xs k hf
   simp only [rep] at hv
   obtain ⟨rfl, hkr⟩ := hv
   have ht := ho.trees _ (xc_ hf)
   simp only [treeRep, mem] at ht
   refine leaf (x := 0) (n := xs.length) (f := fun i => .int (xs.getD i 0)) hf (by simp [x0_, hf]) rfl h (fun b off n' cap e1 e2 => ?_)
   simp only [xl_, Option.some.injEq] at e1
   rw [e1] at ht
   obtain ⟨k1, k2⟩ := ht.set i hkr
   exact ⟨k1, only (fun p hp => by cases p <;> first | rfl | simp [xq_] at hp) rfl, fun m hm => by simp only [treeRep]; rw [hm, e1]; exact k2⟩
  ·-- t2, an integer
   rename_i xss r k hf
   simp only [rep] at hv
   obtain ⟨rfl, hkr⟩ := hv
   have ht : ON O1 w (F id) xss (ι id) := by have := ho.trees _ (xc_ hf); simp only [treeRep, mem] at this; exact this
   refine leaf (x := 0) (n := (xss.getD r []).length) (f := fun j => .int ((xss.getD r []).getD j 0)) hf (by simp [x0_, hf]) rfl h (fun b off n' cap e1 e2 => ?_)
   obtain ⟨k1, k2, k3⟩ := zZ_ (R := O1) (w' := w.setCell ⟨b, off + i, none⟩ (.int .i64 k)) (d := []) (a' := (xss.getD r []).set i k) (fun h h' => O1.heap h h') ht (xu_ ho hf) e1 (fun q hq => hcell b _ _ q hq) (fun f _ hr => O1.set hr i hkr)
   refine ⟨k1, fun p hp => ?_, fun m hm => by simp only [treeRep]; rw [hm]; exact k2⟩
   match p, hp with
   | [], _ => exact ⟨rfl, fun u hu => by simpa [xl_] using hu⟩
   | [j], _ => exact ⟨rfl, fun u hu => k3 j u hu⟩
   | _ :: _ :: _, hp => simp [xq_] at hp
  ·-- tq, an integer
   rename_i xss L r k hf
   simp only [rep] at hv
   obtain ⟨rfl, hkr⟩ := hv
   have ht0 := ho.trees _ (xc_ hf)
   simp only [treeRep, mem] at ht0
   have ht : ON O1 w (F id) xss (ι id) := ht0.1
   refine leaf (x := 0) (n := (xss.getD r []).length) (f := fun j => .int ((xss.getD r []).getD j 0)) hf (by simp [x0_, hf]) rfl h (fun b off n' cap e1 e2 => ?_)
   obtain ⟨k1, k2, k3⟩ := zZ_ (R := O1) (w' := w.setCell ⟨b, off + i, none⟩ (.int .i64 k)) (d := []) (a' := (xss.getD r []).set i k) (fun h h' => O1.heap h h') ht (xu_ ho hf) e1 (fun q hq => hcell b _ _ q hq) (fun f _ hr => O1.set hr i hkr)
   refine ⟨k1, fun p hp => ?_, fun m hm => by simp only [treeRep]; rw [hm]; exact ⟨k2, fun q hq => k3 q.1 q.2 (ht0.2 q hq)⟩⟩
   match p, hp with
   | [], _ => exact ⟨rfl, fun u hu => by simpa [xl_] using hu⟩
   | [j], _ => exact ⟨rfl, fun u hu => k3 j u hu⟩
   | _ :: _ :: _, hp => simp [xq_] at hp
  ·-- t3, an integer
   rename_i x r s k hf
   simp only [rep] at hv
   obtain ⟨rfl, hkr⟩ := hv
   have ht : ON O2 w (F id) x (ι id) := by have := ho.trees _ (xc_ hf); simp only [treeRep, mem] at this; exact this
   refine leaf (x := 0) (n := ((x.getD r []).getD s []).length) (f := fun j => .int (((x.getD r []).getD s []).getD j 0)) hf (by simp [x0_, hf]) rfl h (fun b off n' cap e1 e2 => ?_)
   obtain ⟨br, offr, nr, capr, xr, hroot, hri, hrc, hrx⟩ := xB_ e1
   have hrow : xl_ w (ι id) [r] = some xr := by rw [hroot, xJ_ hri hrc]; simp [xl_]
   have inner : ∀ f, f.Nodup → O2 w f (x.getD r []) xr → b ∈ f ∧ O2 (w.setCell ⟨b, off + i, none⟩ (.int .i64 k)) f ((x.getD r []).set s (((x.getD r []).getD s []).set i k)) xr ∧ ∀ j u, xl_ w xr [j] = some u → xl_ (w.setCell ⟨b, off + i, none⟩ (.int .i64 k)) xr [j] = some u := by
    intro f hfn hr
    exact zZ_ (R := O1) (w' := w.setCell ⟨b, off + i, none⟩ (.int .i64 k)) (d := []) (a' := ((x.getD r []).getD s []).set i k) (fun h h' => O1.heap h h') (show ON O1 w f (x.getD r []) xr from hr) hfn hrx (fun q hq => hcell b _ _ q hq) (fun f _ hr => O1.set hr i hkr)
   obtain ⟨k1, k2, k3⟩ := zZ_ (R := O2) (w' := w.setCell ⟨b, off + i, none⟩ (.int .i64 k)) (d := []) (a' := (x.getD r []).set s (((x.getD r []).getD s []).set i k)) (fun h h' => O2.heap h h') ht (xu_ ho hf) hrow (fun q hq => hcell b _ _ q hq) (fun f hfn hr => ⟨(inner f hfn hr).1, (inner f hfn hr).2.1⟩)
   refine ⟨k1, fun p hp => ?_, fun m hm => by simp only [treeRep]; rw [hm]; exact k2⟩
   match p, hp with
   | [], _ => exact ⟨rfl, fun u hu => by simpa [xl_] using hu⟩
   | [j], _ => exact ⟨rfl, fun u hu => k3 j u hu⟩
   | [j, l], _ =>
    refine ⟨rfl, fun u hu => ?_⟩
    obtain ⟨bj, offj, nj, capj, xj, hroot', hji, hjc, hjx⟩ := xB_ hu
    have hj1 : xl_ w (ι id) [j] = some xj := by rw [hroot', xJ_ hji hjc]; simp [xl_]
    have hj2 := k3 j xj hj1
    obtain ⟨bj', offj', nj', capj', xj', hroot'', hji', hjc', hjx'⟩ := xB_ hj2
    rw [hroot''] at hroot'; cases hroot'
    simp only [xl_, Option.some.injEq] at hjx'; subst hjx'
    rw [hroot'', xJ_ hji hjc']
    -- the matrix row 'j': the same one, or another one's blocks
    obtain ⟨us, f0, fs, h1', h2', h3'⟩ := ht
    obtain ⟨y, hy, hyp⟩ := h1'.row hj1
    simp only [xl_, Option.some.injEq] at hyp; subst hyp
    have hl : j < x.length := by rw [h2'.length.2]; exact (List.getElem?_eq_some_iff.1 hy).1
    obtain ⟨f, c, hff, hc, hr⟩ := h2'.get j _ (getD_some (d := []) hl)
    rw [hy] at hc; cases hc
    have hn := xu_ ho hf
    rw [h3', List.nodup_append] at hn
    by_cases hjr : j = r
    ·subst hjr
     rw [hrow] at hj1; cases hj1
     exact (inner f (x9_ hn.2.1 hff) hr).2.2 l u hjx
    ·obtain ⟨us2, g0, gs, q1, q2, q3⟩ := hr
     obtain ⟨b2, off2, n2, cap2, x2, rfl, hi2, hc2, hx2⟩ := xB_ hjx
     have hg0 := q1.at.1
     have hbne : b2 ≠ b := by
      intro e
      subst e
      obtain ⟨y', hy', hyp'⟩ := h1'.row hrow
      simp only [xl_, Option.some.injEq] at hyp'; subst hyp'
      have hl' : r < x.length := by rw [h2'.length.2]; exact (List.getElem?_eq_some_iff.1 hy').1
      obtain ⟨f', c', hff', hc', hr'⟩ := h2'.get r _ (getD_some (d := []) hl')
      rw [hy'] at hc'; cases hc'
      exact yj_ hn.2.1 hff hff' hjr (by rw [q3, hg0]; simp) (inner f' (x9_ hn.2.1 hff') hr').1
     rw [xJ_ hi2 (by rw [cell_of_heap (hcell b _ _ b2 hbne)]; exact hc2)]
     simpa [xl_] using hx2
   | _ :: _ :: _ :: _, hp => simp [xq_] at hp
  ·-- t2, a row
   rename_i xss rid hf
   split at h <;> first | exact h.elim | skip
   rename_i ys hfr
   have hne : rid ≠ id := fun e => by subst e; rw [hf] at hfr; cases hfr
   have ht : ON O1 w (F id) xss (ι id) := by have := ho.trees _ (xc_ hf); simp only [treeRep, mem] at this; exact this
   have htr : O1 w (F rid) ys (ι rid) := by have := ho.trees _ (xc_ hfr); simpa only [treeRep, mem] using this
   refine row (n := xss.length) (f := fun i => .ref id [i]) hf (by simp [x0_, hf]) rfl hfr hne (zs_ htr.1) h rfl (fun b off n' cap e1 e2 => ?_)
   simp only [xl_, Option.some.injEq] at e1
   rw [e1] at ht ⊢
   obtain ⟨k1, fp', k2, k3, k4⟩ := Ji_ (R := O1) (i := i) (fun h h' => O1.heap h h') ht (xu_ ho hf) (xu_ ho hfr) (fun x h1 h2 => yc_ ho hfr hf hne h1 h2) htr
   exact ⟨k1, fp', k3, k4, fun m hm => by simp only [treeRep]; rw [hm]; exact k2⟩
  ·-- t3, a matrix
   rename_i x rid hf
   split at h <;> first | exact h.elim | skip
   rename_i ys hfr
   have hne : rid ≠ id := fun e => by subst e; rw [hf] at hfr; cases hfr
   have ht : ON O2 w (F id) x (ι id) := by have := ho.trees _ (xc_ hf); simp only [treeRep, mem] at this; exact this
   have htr : O2 w (F rid) ys (ι rid) := by have := ho.trees _ (xc_ hfr); simpa only [treeRep, mem] using this
   have hone : (ι rid).oneCell' = true := by obtain ⟨_, _, _, k, _⟩ := htr; exact zs_ k
   refine row (n := x.length) (f := fun i => .ref id [i]) hf (by simp [x0_, hf]) rfl hfr hne hone h rfl (fun b off n' cap e1 e2 => ?_)
   simp only [xl_, Option.some.injEq] at e1
   rw [e1] at ht ⊢
   obtain ⟨k1, fp', k2, k3, k4⟩ := Ji_ (R := O2) (i := i) (fun h h' => O2.heap h h') ht (xu_ ho hf) (xu_ ho hfr) (fun x h1 h2 => yc_ ho hfr hf hne h1 h2) htr
   exact ⟨k1, fp', k3, k4, fun m hm => by simp only [treeRep]; rw [hm]; exact k2⟩
  ·-- t3, a row of a matrix
   rename_i x r rid hf
   split at h <;> first | exact h.elim | skip
   rename_i ys hfr
   have hne : rid ≠ id := fun e => by subst e; rw [hf] at hfr; cases hfr
   have ht : ON O2 w (F id) x (ι id) := by have := ho.trees _ (xc_ hf); simp only [treeRep, mem] at this; exact this
   have htr : O1 w (F rid) ys (ι rid) := by have := ho.trees _ (xc_ hfr); simpa only [treeRep, mem] using this
   refine row (n := (x.getD r []).length) (f := fun j => .ref id [r, j]) hf (by simp [x0_, hf]) rfl hfr hne (zs_ htr.1) h rfl (fun b off n' cap e1 e2 => ?_)
   obtain ⟨us, f0, fs, h1', h2', h3'⟩ := ht
   obtain ⟨y, hy, hyp⟩ := h1'.row e1
   simp only [xl_, Option.some.injEq] at hyp; subst hyp
   have hl : r < x.length := by rw [h2'.length.2]; exact (List.getElem?_eq_some_iff.1 hy).1
   obtain ⟨f, c, hff, hc, hr⟩ := h2'.get r _ (getD_some (d := []) hl)
   rw [hy] at hc; cases hc
   have hn := xu_ ho hf
   rw [h3', List.nodup_append] at hn
   have hfsub : ∀ z ∈ f, z ∈ F id := fun z hz => by rw [h3']; simp only [List.mem_append]; exact .inr (List.mem_flatten.2 ⟨f, List.mem_of_getElem? hff, hz⟩)
   obtain ⟨k1, fp', k2, k3, k4⟩ := Ji_ (R := O1) (i := i) (fun h h' => O1.heap h h') (show ON O1 w f (x.getD r []) _ from hr) (x9_ hn.2.1 hff) (xu_ ho hfr) (fun z h1 h2 => yc_ ho hfr hf hne h1 (hfsub z h2)) htr
   have hbfs : b ∈ fs.flatten := List.mem_flatten.2 ⟨f, List.mem_of_getElem? hff, k1⟩
   refine ⟨hfsub b k1, f0 ++ (fs.set r fp').flatten, ?_, fun z hz => ?_, fun m hm => ?_⟩
   ·rw [List.nodup_append]
    have hdis : ∀ z ∈ fp', z ∉ (fs.set r []).flatten := by
     intro z hz hzf
     obtain ⟨a, ha, hza⟩ := List.mem_flatten.1 hzf
     obtain ⟨j, hj⟩ := List.getElem?_of_mem ha
     rw [List.getElem?_set] at hj
     by_cases hjr : r = j
     ·rw [if_pos hjr] at hj
      split at hj
      ·cases hj; simp at hza
      ·cases hj
     ·rw [if_neg hjr] at hj
      rcases k4 z hz with hz' | hz'
      ·exact yj_ hn.2.1 hj hff (fun e => hjr e.symm) hza hz'
      ·exact yc_ ho hfr hf hne hz' (by rw [h3']; simp only [List.mem_append]; exact .inr (List.mem_flatten.2 ⟨a, List.mem_of_getElem? hj, hza⟩))
    have hset : (fs.set r fp') = ((fs.set r []).set r fp') := by rw [List.set_set]
    have hn0 : (fs.set r []).flatten.Nodup := ya_ List.nodup_nil hn.2.1 (by simp)
    refine ⟨hn.1, by rw [hset]; exact ya_ k3 hn0 hdis, fun z hz z' hz' e => ?_⟩
    subst e
    rcases xO_ hz' with hz' | hz'
    ·rcases k4 z hz' with hz' | hz'
     ·exact hn.2.2 z hz z (List.mem_flatten.2 ⟨f, List.mem_of_getElem? hff, hz'⟩) rfl
     ·exact yc_ ho hfr hf hne hz' (by rw [h3']; simp [hz])
    ·exact hn.2.2 z hz z hz' rfl
   ·rcases List.mem_append.1 hz with hz | hz
    ·exact .inl (by rw [h3']; simp [hz])
    ·rcases xO_ hz with hz | hz
     ·exact Qd_ (k4 z hz) (hfsub z) (fun h => h)
     ·exact .inl (by rw [h3']; simp only [List.mem_append]; exact .inr hz)
   ·simp only [treeRep]
    rw [hm]
    refine ⟨us, f0, fs.set r fp', h1'.heap (fun q hq => hcell b _ _ q (fun e => by subst e; exact hn.2.2 q hq q hbfs rfl)), ?_, rfl⟩
    refine All3.of_get (by rw [List.length_set, List.length_set]; exact h2'.length.1) (by rw [List.length_set]; exact h2'.length.2) (fun j g a u hg ha hu => ?_)
    rw [List.getElem?_set] at hg ha
    by_cases hjr : r = j
    ·subst hjr
     rw [if_pos rfl] at hg ha
     have hlf : r < fs.length := (List.getElem?_eq_some_iff.1 hff).1
     rw [if_pos hlf] at hg
     rw [if_pos hl] at ha
     cases hg; cases ha
     rw [hy] at hu; cases hu
     exact k2
    ·rw [if_neg hjr] at hg ha
     refine O2.heap (w := w) (fun q hq => hcell b _ _ q (fun e => ?_)) (h2'.at hg ha hu)
     subst e
     exact yj_ hn.2.1 hg hff (fun e => hjr e.symm) hq k1
  ·-- r2
   rename_i v' xss hf
   split at h <;> first | exact h.elim | skip
   rename_i ys hys
   have ht := ho.trees _ (xc_ hf)
   simp only [treeRep, mem] at ht
   obtain ⟨us, k1, k2⟩ := ht
   have hl1 := w8_ hys hv
   obtain ⟨b, off, n', cap, e1, e2, rfl, ⟨x, e3⟩, e4⟩ := Xg_ ho (n := xss.length) (f := fun i => .l1 (xss.getD i [])) (by simp [x0_, hf]) hp
   simp only [xl_, Option.some.injEq] at e1
   rw [e1] at k1
   have hF := k1.at.1
   refine ⟨_, zt_ h1 (Xp_ hl1.1) e3 e4, ho.same (t' := .r2 (xss.set i ys)) hf (by simp [hF]) (yo_ w b (off + i) _) (fp' := F id) (all := []) (subs := []) (by simp) (xu_ ho hf) (fun x hx => .inl hx)
    (fun p hl _ => only (fun p hp => by cases p <;> first | rfl | simp [xq_] at hp) rfl p hl) (fun m hm hr => ?_) (by rw [yL_, yH_]; exact h)⟩
   have hr' : ∀ av x, rep (mem cx w H ι F) av x → rep m av x := fun av x h => by have := hr av x h; rwa [yl_] at this
   simp only [treeRep]
   rw [e1, hm]
   refine ⟨us.set i uv, k1.set (i := i) uv, All2.set i (k2.mono fun a c hac => ?_) ?_⟩
   ·have := hr' (.l1 a) c (by simp only [rep]; exact hac)
    simp only [rep] at this; rw [hm] at this; exact this
   ·have := w8_ hys (hr' _ _ hv); rw [hm] at this; exact this
  ·-- r3
   rename_i v' xss hf
   split at h <;> first | exact h.elim | skip
   rename_i ys hys
   have ht := ho.trees _ (xc_ hf)
   simp only [treeRep, mem] at ht
   obtain ⟨us, k1, k2⟩ := ht
   have hl1 := XY_ hys hv
   obtain ⟨b, off, n', cap, e1, e2, rfl, ⟨x, e3⟩, e4⟩ := Xg_ ho (n := xss.length) (f := fun i => .l2 (xss.getD i [])) (by simp [x0_, hf]) hp
   simp only [xl_, Option.some.injEq] at e1
   rw [e1] at k1
   have hF := k1.at.1
   refine ⟨_, zt_ h1 (by obtain ⟨_, k, _⟩ := hl1; exact Xp_ k) e3 e4, ho.same (t' := .r3 (xss.set i ys)) hf (by simp [hF]) (yo_ w b (off + i) _) (fp' := F id) (all := []) (subs := []) (by simp) (xu_ ho hf) (fun x hx => .inl hx)
    (fun p hl _ => only (fun p hp => by cases p <;> first | rfl | simp [xq_] at hp) rfl p hl) (fun m hm hr => ?_) (by rw [yL_, yH_]; exact h)⟩
   have hr' : ∀ av x, rep (mem cx w H ι F) av x → rep m av x := fun av x h => by have := hr av x h; rwa [yl_] at this
   simp only [treeRep]
   rw [e1, hm]
   refine ⟨us.set i uv, k1.set (i := i) uv, All2.set i (k2.mono fun a c hac => ?_) ?_⟩
   ·have := hr' (.l2 a) c (by simp only [rep]; exact hac)
    simp only [rep] at this; rw [hm] at this; exact this
   ·have := XY_ hys (hr' _ _ hv); rw [hm] at this; exact this
  ·-- any values
   rename_i v' x1 x2 x3 vs hf
   obtain ⟨hone, hK⟩ := h
   have ht := ho.trees _ (xc_ hf)
   simp only [treeRep, mem] at ht
   obtain ⟨us, k1, k2⟩ := ht
   obtain ⟨b, off, n', cap, e1, e2, rfl, ⟨x, e3⟩, e4⟩ := Xg_ ho (n := vs.length) (f := fun i => vs.getD i .junk) (by simp [x0_, hf]) hp
   simp only [xl_, Option.some.injEq] at e1
   rw [e1] at k1
   have hF := k1.at.1
   refine ⟨_, zt_ h1 (wm_ ho hone hv) e3 e4, ho.same (t' := .lv (vs.set i v')) hf (by simp [hF]) (yo_ w b (off + i) _) (fp' := F id) (all := []) (subs := []) (by simp) (xu_ ho hf) (fun x hx => .inl hx)
    (fun p hl _ => only (fun p hp => by cases p <;> first | rfl | simp [xq_] at hp) rfl p hl) (fun m hm hr => ?_) (by rw [yL_, yH_]; exact hK)⟩
   have hr' : ∀ av x, rep (mem cx w H ι F) av x → rep m av x := fun av x h => by have := hr av x h; rwa [yl_] at this
   simp only [treeRep]
   rw [e1, hm]
   refine ⟨us.set i uv, k1.set (i := i) uv, ?_⟩
   have h3 := zr_ hr' k2
   rw [xw_] at h3 ⊢
   exact h3.set i (hr' _ _ hv)
  ·-- a place whose row is out
   rename_i v' x1 x2 x3 xss a c p q hf
   obtain ⟨hone, hab, hK⟩ := h
   have ht := ho.trees _ (xc_ hf)
   simp only [treeRep, mem] at ht
   obtain ⟨us, f0, fs, k1, k2, k3, k4, k5, k6, k7⟩ := ht
   obtain ⟨b, off, n', cap, e1, e2, rfl, ⟨x, e3⟩, e4⟩ := Xg_ ho (n := xss.length) (f := fun k => if k = a then p else if k = c then q else .junk) (by simp [x0_, hf]) hp
   simp only [xl_, Option.some.injEq] at e1
   rw [e1] at k1
   have hF := k1.at.1
   have hn := xu_ ho hf
   rw [k3, List.nodup_append] at hn
   have hbf : b ∈ f0 := by rw [hF]; simp
   refine ⟨_, zt_ h1 (wm_ ho hone hv) e3 e4, ho.same (t' := .mx xss a c (if i = a then v' else p) (if i = c then v' else q)) hf (by rw [k3]; exact List.mem_append_left _ hbf) (yo_ w b (off + i) _) (fp' := F id) (all := []) (subs := []) (by simp) (xu_ ho hf) (fun x hx => .inl hx)
    (fun p hl _ => only (fun p hp => by cases p <;> first | rfl | simp [xq_] at hp) rfl p hl) (fun m hm hr => ?_) (by rw [yL_, yH_]; exact hK)⟩
   have hr' : ∀ av x, rep (mem cx w H ι F) av x → rep m av x := fun av x h => by have := hr av x h; rwa [yl_] at this
   simp only [treeRep]
   rw [e1]
   have hus : us.length = xss.length := by rw [← k2.length.2]; simp [ZI_]
   have hlen : i < us.length := by rcases hab with rfl | rfl <;> omega
   have hrows : All3 (OO (w.setCell ⟨b, off + i, none⟩ uv)) fs (ZI_ xss a c) us := k2.mono (fun g hg _ _ ho2 => ho2.heap (fun z hz => hcell b _ _ z (fun e => by
    subst e
    exact hn.2.2 z hbf z (List.mem_flatten.2 ⟨g, hg, hz⟩) rfl)))
   refine ⟨us.set i uv, f0, fs, by rw [hm]; exact k1.set (i := i) uv, ?_, k3, k4, k5, fun y hy => ?_, fun y hy => ?_⟩
   ·rw [hm]
    refine All3.of_get hrows.length.1 (by rw [List.length_set]; exact hrows.length.2) (fun j g a' u hg ha hu => ?_)
    rw [List.getElem?_set] at hu
    by_cases hj : i = j
    ·subst hj
     have : a' = none := by
      have ha2 := ha
      unfold ZI_ at ha2
      rw [List.getElem?_set, List.getElem?_set] at ha2
      rcases hab with rfl | rfl
      ·split at ha2
       ·simp at ha2; exact ha2.2.symm
       ·simp at ha2; exact ha2.2.symm
      ·simp at ha2; exact ha2.2.symm
     subst this
     obtain ⟨u0, hu0⟩ : ∃ u0, us[i]? = some u0 := ⟨us[i], List.getElem?_eq_getElem hlen⟩
     exact (show g = [] from hrows.at hg ha hu0)
    ·rw [if_neg hj] at hu
     exact hrows.at hg ha hu
   ·rw [List.getElem?_set] at hy
    by_cases e : i = a
    ·rw [if_pos e]
     rw [if_pos e, if_pos hlen] at hy
     cases hy
     exact hr' _ _ hv
    ·rw [if_neg e] at hy ⊢
     exact hr' _ _ (k6 y hy)
   ·rw [List.getElem?_set] at hy
    by_cases e : i = c
    ·rw [if_pos e]
     rw [if_pos e, if_pos hlen] at hy
     cases hy
     exact hr' _ _ hv
    ·rw [if_neg e] at hy ⊢
     exact hr' _ _ (k7 y hy)
  ·-- a3, an integer
   rename_i x σ r s k hf
   simp only [rep] at hv
   obtain ⟨rfl, hkr⟩ := hv
   have ht : A3 w (F id) x σ (ι id) := by have := ho.trees _ (xc_ hf); simpa only [treeRep, mem] using this
   refine leaf (x := 0) (n := ((x.getD (σ.getD r 0) []).getD s []).length) (f := fun j => .int (((x.getD (σ.getD r 0) []).getD s []).getD j 0)) hf (by simp [x0_, hf]) rfl h (fun b off n' cap e1 e2 => ?_)
   obtain ⟨y, f, hi, hk, hy, hr, hfp, hyp⟩ := A3.row ht e1
   obtain ⟨k1, k2, k3⟩ := A3.inner (w' := w.setCell ⟨b, off + i, none⟩ (.int .i64 k)) (a' := (x.getD (σ.getD r 0) []).set s (((x.getD (σ.getD r 0) []).getD s []).set i k)) ht (xu_ ho hf) hy (fun q hq => hcell b _ _ q hq) (fun f hfn hr => zZ_ (R := O1) (w' := w.setCell ⟨b, off + i, none⟩ (.int .i64 k)) (d := []) (a' := ((x.getD (σ.getD r 0) []).getD s []).set i k) (fun h h' => O1.heap h h') (show ON O1 w f (x.getD (σ.getD r 0) []) y from hr) hfn hyp (fun q hq => hcell b _ _ q hq) (fun f _ hr => O1.set hr i hkr))
   refine ⟨k1, fun p hp => ⟨?_, k3 p hp⟩, fun m hm => by simp only [treeRep]; rw [hm]; exact k2⟩
   match p, hp with
   | [], _ => rfl
   | [j], _ => rfl
   | [j, l], _ => rfl
   | _ :: _ :: _ :: _, hp => simp [xq_] at hp
  ·-- a3, a matrix of its own
   rename_i x σ rid q hf
   obtain ⟨rfl, hK⟩ := h
   have ht : A3 w (F rid) x σ (ι rid) := by have := ho.trees _ (xc_ hf); simpa only [treeRep, mem] using this
   simp only [rep, mem] at hv
   obtain ⟨y, f, hq, hk0, hy, hr, hfp, hyp⟩ := A3.row ht hv.2
   have euy : uv = y := by simpa [xl_] using hyp.symm
   obtain ⟨b, off, n', cap, e1, e2, rfl, ⟨z, e3⟩, e4⟩ := Xg_ ho (n := σ.length) (f := fun i => .ref rid [i]) (by simp [x0_, hf]) hp
   simp only [xl_, Option.some.injEq] at e1
   have hone : uv.oneCell' = true := by
    rw [euy]
    obtain ⟨_, _, _, k, _⟩ := hr
    exact zs_ k
   obtain ⟨rows, f0, fs, h1', h2', h3', h4'⟩ := ht
   rw [e1] at h1'
   have hn := xu_ ho hf
   rw [h4', List.nodup_append] at hn
   have hbf : b ∈ f0 := by rw [h1'.at.1]; simp
   have ey : uv = (rows[σ.getD q 0]?).getD undef := by
    have hyrow := hy
    rw [e1] at hyrow
    obtain ⟨y', hy', hyp'⟩ := h1'.row hyrow
    have ey' : y' = y := by simpa [xl_] using hyp'
    rw [ey', List.getElem?_map, getD_some (d := 0) hq] at hy'
    simp only [Option.map_some, Option.some.injEq] at hy'
    rw [euy]
    exact hy'.symm
   have hrows : All3 (O2 (w.setCell ⟨b, off + i, none⟩ uv)) fs x rows := h2'.mono (fun g hg _ _ ho2 => ho2.heap (fun z hz => hcell b _ _ z (fun e => by
    subst e
    exact hn.2.2 z hbf z (List.mem_flatten.2 ⟨g, hg, hz⟩) rfl)))
   have hσ : ∀ k ∈ σ.set i (σ.getD q 0), k < x.length := fun k hk' => by
    rcases List.mem_or_eq_of_mem_set hk' with h | h
    ·exact h3' k h
    ·rw [h]; exact hk0
   refine ⟨_, zt_ h1 hone e3 e4, ho.same (t' := .a3 x (σ.set i (σ.getD q 0))) hf (by rw [h4']; exact List.mem_append_left _ hbf) (yo_ w b (off + i) _) (fp' := F rid) (all := []) (subs := [rid]) (by simp) (xu_ ho hf) (fun x hx => .inl hx)
    (fun p _ hs => by
     have := hs (by simp)
     subst this
     exact ⟨rfl, fun u hu => by simpa [xl_] using hu⟩) (fun m hm _ => ?_) (by rw [yL_]; exact hK)⟩
   simp only [treeRep]
   rw [hm, e1]
   refine ⟨rows, f0, fs, ?_, hrows, hσ, h4'⟩
   have := h1'.set (i := i) uv
   rw [List.map_set, ← ey]
   exact this
end
end Go.Aw
namespace Go.Aw
open Go.RowKit
mutual
theorem Yh_ {q : Nat → List Nat → Bool} : ∀ {av : AV}, isData av = true → xp_ q av = av
 | .ref _ _, h | .sub _ _ _ _, h | .eref _ _ _, h | .bptr _ _, h => by simp [isData] at h
 | .lv vs, h | .agg vs, h | .tup vs, h | .fn _ vs, h | .cptr vs _, h => by
  simp only [isData] at h
  simp [xp_, Zy_ h]
 | .eptr v _, h | .when _ v, h => by
  simp only [isData] at h
  simp [xp_, Yh_ h]
 | .int _, _ | .flt _, _ | .ik _ _, _ | .bool _, _ | .str _, _ | .nil, _ | .nilfn, _ | .l1 _, _ | .l2 _, _ | .l3 _, _ | .lp _ _, _ | .val _, _ | .junk, _ => by simp [xp_]
theorem Zy_ {q : Nat → List Nat → Bool} : ∀ {vs : List AV}, yd_ vs = true → xA_ q vs = vs
 | [], _ => rfl
 | a :: as, h => by
  simp only [yd_, Bool.and_eq_true] at h
  simp [xA_, Yh_ h.1, Zy_ h.2]
end
def Yi_ (lo hi : Nat) : Tree → Option Tree
 | .t1 xs => some (.t1 ((xs.take hi).drop lo))
 | .t2 xs => some (.t2 ((xs.take hi).drop lo))
 | .t3 xs => some (.t3 ((xs.take hi).drop lo))
 | .r2 xs => some (.r2 ((xs.take hi).drop lo))
 | .r3 xs => some (.r3 ((xs.take hi).drop lo))
 | .lv xs => some (.lv ((xs.take hi).drop lo))
 | .a3 _ _ => none
 | .mx .. => none
 | .tp _ => none
 | .tq .. => none
 | .bx _ => none
def Vf_ (P : Program) (e : TypeId) : Tree :=
 match xj_ P e with
 | 1 => .t1 []
 | 2 => .t2 []
 | 3 => .t3 []
 | _ => .lv []
def target (P : Program) (H : List (Nat × Tree)) (e : TypeId) : AV → Option (Nat × Tree)
 | .nil => some (xR_ H, Vf_ P e)
 | .ref id [] => match find H id with
  | some (.bx _) => none
  | some t => some (id, t)
  | none => none
 | .sub id [] lo hi => ((find H id).bind (Yi_ lo hi)).map (fun t => (id, t))
 | _ => none
def aJ9 (H : List (Nat × Tree)) : AV → Option AV
 | .nil => some .nil
 | v => xI_ H v
def aD8 (H : List (Nat × Tree)) : AV → Option (List (List Int))
 | .ref id [] => match find H id with
  | some (.r2 ys) => some ys
  | _ => none
 | v => QR_ v
def aD9 : AV → Option (List (List (List Int)))
 | .l3 xs => some xs
 | .nil => some []
 | _ => none
def aE0 (H : List (Nat × Tree)) : AV → Option (List (List (List Int)))
 | .ref id [] => match find H id with
  | some (.r3 ys) => some ys
  | _ => none
 | v => aD9 v
def aE1 (H : List (Nat × Tree)) : AV → Option (List AV)
 | .ref id [] => match find H id with
  | some (.lv ys) => some ys
  | _ => none
 | .lv vs => some vs
 | .nil => some []
 | _ => none
def aZ3 (H : List (Nat × Tree)) (id : Nat) (t0 : Tree) (x : AV) (K : AV → List Nat → List Nat → List (Nat × Tree) → Prop) : Prop :=
 match t0 with
 | .t1 xs => match (aJ9 H x).bind ab8 with
  | some ys => xs.length + ys.length ≤ 1099511627776 ∧ K (.ref id []) [id] [] (x8_ (xt_ (qOf [id] []) H) id (.t1 (xs ++ ys)))
  | none => False
 | .t2 xs => match x with
  | .ref id2 [] => match find H id2 with
   | some (.t2 ys) => id2 ≠ id ∧ xs.length + ys.length ≤ 1099511627776 ∧ K (.ref id []) [id2, id] [] (x8_ (xt_ (qOf [id2, id] []) (rmT [id2] H)) id (.t2 (xs ++ ys)))
   | some (.r2 ys) => xs = [] ∧ ys.length ≤ 1099511627776 ∧ K (.ref id []) [id] [] (x8_ (xt_ (qOf [id] []) H) id (.r2 ys))
   | _ => False
  | x => match QR_ x with
   | some ys => xs = [] ∧ ys.length ≤ 1099511627776 ∧ K (.ref id []) [id] [] (x8_ (xt_ (qOf [id] []) H) id (.r2 ys))
   | none => False
 | .t3 xs => match x with
  | .ref id2 [] => match find H id2 with
   | some (.t3 ys) => id2 ≠ id ∧ xs.length + ys.length ≤ 1099511627776 ∧ K (.ref id []) [id2, id] [] (x8_ (xt_ (qOf [id2, id] []) (rmT [id2] H)) id (.t3 (xs ++ ys)))
   | some (.r3 ys) => xs = [] ∧ ys.length ≤ 1099511627776 ∧ K (.ref id []) [id] [] (x8_ (xt_ (qOf [id] []) H) id (.r3 ys))
   | _ => False
  | x => match aD9 x with
   | some ys => xs = [] ∧ ys.length ≤ 1099511627776 ∧ K (.ref id []) [id] [] (x8_ (xt_ (qOf [id] []) H) id (.r3 ys))
   | none => False
 | .r2 xs => match aD8 H x with
  | some ys => xs.length + ys.length ≤ 1099511627776 ∧ K (.ref id []) [id] [] (x8_ (xt_ (qOf [id] []) H) id (.r2 (xs ++ ys)))
  | none => False
 | .r3 xs => match aE0 H x with
  | some ys => xs.length + ys.length ≤ 1099511627776 ∧ K (.ref id []) [id] [] (x8_ (xt_ (qOf [id] []) H) id (.r3 (xs ++ ys)))
  | none => False
 | .lv xs => match aE1 H x with
  | some ys => xs.length + ys.length ≤ 1099511627776 ∧ yd_ (xs ++ ys) = true ∧ ys.all (wh_ H) = true ∧ K (.ref id []) [id] [] (x8_ (xt_ (qOf [id] []) H) id (.lv (xs ++ ys)))
  | none => False
 | .a3 _ _ => False
 | .mx .. => False
 | .tp _ => False
 | .tq .. => False
 | .bx _ => False
def Vg_ (P : Program) (e : TypeId) : Bool :=
 match P.info? e with
 | some i => i.size == 2 && decide (i.bytes ≤ 64) && (match i.zero with
  | some z => z.cells.size == 2
  | none => false)
 | none => false
theorem YM_ {P : Program} {e : TypeId} (h : Vg_ P e = true) : ∃ i z, P.info? e = some i ∧ i.size = 2 ∧ i.bytes ≤ 64 ∧ i.zero = some z ∧ z.cells.size = 2 := by
 unfold Vg_ at h
 split at h
 ·rename_i i hi
  simp only [Bool.and_eq_true, beq_iff_eq, decide_eq_true_eq] at h
  obtain ⟨⟨h1, h2⟩, h3⟩ := h
  split at h3
  ·rename_i z hz
   exact ⟨i, z, hi, h1, h2, hz, by simpa using h3⟩
  ·cases h3
 ·cases h
def Vh_ (P : Program) (H : List (Nat × Tree)) (e : TypeId) (len : Nat) (ps : List (Nat × AV)) (K : AV → List Nat → List Nat → List (Nat × Tree) → Prop) : Prop :=
 Vg_ P e = true ∧ match ps with
 | [] => len = 0 ∧ K (.ref (xR_ H) []) [] [] (x8_ H (xR_ H) (.tp []))
 | [(0, .agg [.int a, .int b])] => len = 1 ∧ K (.ref (xR_ H) []) [] [] (x8_ H (xR_ H) (.tp [(a, b)]))
 | _ => False
def al7 (P : Program) (H : List (Nat × Tree)) (e : TypeId) (s x : AV) (K : AV → List Nat → List Nat → List (Nat × Tree) → Prop) : Prop :=
 Vg_ P e = true ∧ match s, x with
 | .ref id [], .ref id2 [] => match find H id, find H id2 with
  | some (.tp xs), some (.tp ys) => xs.length + ys.length ≤ 1048576 ∧ K (.ref id []) [id] [] (x8_ (xt_ (qOf [id] []) H) id (.tp (xs ++ ys)))
  | _, _ => False
 | _, _ => False
def Xh_ (P : Program) (H : List (Nat × Tree)) (t : TypeId) (s x : AV) (K : AV → List Nat → List Nat → List (Nat × Tree) → Prop) : Prop :=
 match xz_ P t with
 | .sp e => al7 P H e s x K
 | .sl e => xv_ P e = true ∧ match target P H e s with
  | some (id, t0) => aZ3 H id t0 x K
  | none => False
 | _ => False
section
variable {P : Program} {cx : Cx} {H : List (Nat × Tree)} {w w' : World} {ι : Nat → Value} {F : Nat → List Nat}
theorem OwnSl.cut {fp : List Nat} {us : List Value} {a : Option Addr} {n cap : Nat} (h : OwnSl w fp us (.slice a n cap)) {lo hi : Nat} (h1 : lo ≤ hi) (h2 : hi ≤ n) {a' : Option Addr} (ha : am8 cap lo a a') :
  OwnSl w fp ((us.take hi).drop lo) (.slice a' (hi - lo) (cap - lo)) := by
 rcases h with ⟨hv, hu, hf⟩ | ⟨b, off, c, cs, E, hv, hf, k1, k2, k3, k4, k5⟩
 ·cases hv
  subst hu
  have : lo = 0 := by omega
  have : hi = 0 := by omega
  subst_vars
  obtain ⟨j, hj, hj2, rfl⟩ := ha
  exact .inl ⟨by simp, by simp, rfl⟩
 ·cases hv
  obtain ⟨j, hj, hj2, rfl⟩ := ha
  have hl : ((us.take hi).drop lo).length = hi - lo := by simp [List.length_take]; omega
  by_cases hc : cap = lo
  ·subst hc
   refine .inr ⟨b, off + j, 0, cs, E, ?_, hf, k1, by omega, by omega, Nat.zero_le _, fun i u hu => ?_⟩
   ·simp [hl, yG_]
   ·have := (List.getElem?_eq_some_iff.1 hu).1; omega
  ·refine .inr ⟨b, off + lo, cap - lo, cs, E, ?_, hf, k1, by omega, by omega, by omega, fun i u hu => ?_⟩
   ·rw [hl, hj2 hc]
    simp only [Option.map_some, yG_]
   ·rw [List.getElem?_drop, List.getElem?_take] at hu
    split at hu
    ·have := k5 _ _ hu
     rwa [Nat.add_assoc]
    ·cases hu
theorem All3.take {α β γ : Type} {R : α → β → γ → Prop} : ∀ (n : Nat) {as : List α} {bs : List β} {cs : List γ}, All3 R as bs cs → All3 R (as.take n) (bs.take n) (cs.take n)
 | 0, _, _, _, _ => trivial
 | _ + 1, [], [], [], _ => trivial
 | n + 1, _ :: _, _ :: _, _ :: _, h => ⟨h.1, All3.take n h.2⟩
 | _ + 1, [], _ :: _, _, h => h.elim
 | _ + 1, [], [], _ :: _, h => h.elim
 | _ + 1, _ :: _, [], _, h => h.elim
 | _ + 1, _ :: _, _ :: _, [], h => h.elim
theorem All3.drop {α β γ : Type} {R : α → β → γ → Prop} : ∀ (n : Nat) {as : List α} {bs : List β} {cs : List γ}, All3 R as bs cs → All3 R (as.drop n) (bs.drop n) (cs.drop n)
 | 0, _, _, _, h => by simpa using h
 | _ + 1, [], [], [], _ => trivial
 | n + 1, _ :: _, _ :: _, _ :: _, h => by simpa using All3.drop n h.2
 | _ + 1, [], _ :: _, _, h => h.elim
 | _ + 1, [], [], _ :: _, h => h.elim
 | _ + 1, _ :: _, [], _, h => h.elim
 | _ + 1, _ :: _, _ :: _, [], h => h.elim
theorem TG_ {l l' : List (List Nat)} (h : l.Sublist l') : l.flatten.Sublist l'.flatten := by
 induction h with
 | slnil => exact List.Sublist.refl _
 | cons a _ ih => rw [List.flatten_cons]; exact ih.trans (List.sublist_append_right _ _)
 | cons_cons a _ ih => rw [List.flatten_cons, List.flatten_cons]; exact (List.Sublist.refl _).append ih
theorem as6 {α : Type} {R : World → List Nat → α → Value → Prop} {fp : List Nat} {as : List α} {a : Option Addr} {n cap lo hi : Nat} (h : ON R w fp as (.slice a n cap)) (h1 : lo ≤ hi) (h2 : hi ≤ n) {a' : Option Addr} (ha : am8 cap lo a a') :
  ∃ fp', ON R w fp' ((as.take hi).drop lo) (.slice a' (hi - lo) (cap - lo)) ∧ fp'.Sublist fp := by
 obtain ⟨us, f0, fs, k1, k2, rfl⟩ := h
 refine ⟨f0 ++ ((fs.take hi).drop lo).flatten, ⟨_, f0, _, k1.cut h1 h2 ha, (k2.take hi).drop lo, rfl⟩, ?_⟩
 exact (List.Sublist.refl _).append (TG_ ((List.drop_sublist _ _).trans (List.take_sublist _ _)))
theorem al8 {m : Mem} {fp : List Nat} {t t' : Tree} {a : Option Addr} {n cap lo hi : Nat} (hc : Yi_ lo hi t = some t') (h : treeRep m fp t (.slice a n cap)) (h1 : lo ≤ hi) (h2 : hi ≤ n) {a' : Option Addr} (ha : am8 cap lo a a') :
  ∃ fp', treeRep m fp' t' (.slice a' (hi - lo) (cap - lo)) ∧ fp'.Sublist fp := by
 unfold Yi_ at hc
 split at hc <;> first | (cases hc; done) | skip
 all_goals cases hc
 ·simp only [treeRep] at h ⊢
  refine ⟨fp, ⟨?_, fun x hx => h.2 x (List.mem_of_mem_take (List.mem_of_mem_drop hx))⟩, List.Sublist.refl _⟩
  have := h.1.cut h1 h2 ha
  simpa [ints, List.map_take, List.map_drop] using this
 ·exact as6 (R := O1) h h1 h2 ha
 ·exact as6 (R := O2) h h1 h2 ha
 ·obtain ⟨us, k1, k2⟩ := h
  exact ⟨fp, ⟨_, k1.cut h1 h2 ha, (k2.take hi).drop lo⟩, List.Sublist.refl _⟩
 ·obtain ⟨us, k1, k2⟩ := h
  exact ⟨fp, ⟨_, k1.cut h1 h2 ha, (k2.take hi).drop lo⟩, List.Sublist.refl _⟩
 ·obtain ⟨us, k1, k2⟩ := h
  exact ⟨fp, ⟨_, k1.cut h1 h2 ha, by rw [xw_] at k2 ⊢; exact (k2.take hi).drop lo⟩, List.Sublist.refl _⟩
theorem wb_ (ho : Owns cx H w ι F) {e : TypeId} {s : AV} {u : Value} {id : Nat} {t0 : Tree} (h : target P H e s = some (id, t0)) (hr : rep (mem cx w H ι F) s u) :
  ∃ fp, treeRep (mem cx w H ι F) fp t0 u ∧ fp.Nodup ∧ (∀ b ∈ fp, id ∈ Aw.ids H ∧ b ∈ F id) := by
 unfold target at h
 split at h <;> first | (cases h; done) | skip
 ·cases h
  simp only [rep] at hr
  subst hr
  refine ⟨[], ?_, List.nodup_nil, by simp⟩
  unfold Vf_
  split
  ·exact ⟨.inl ⟨rfl, rfl, rfl⟩, by simp⟩
  ·exact ⟨[], [], [], .inl ⟨rfl, rfl, rfl⟩, trivial, rfl⟩
  ·exact ⟨[], [], [], .inl ⟨rfl, rfl, rfl⟩, trivial, rfl⟩
  ·exact ⟨[], .inl ⟨rfl, rfl, rfl⟩, by simp [reps]⟩
 ·split at h <;> first | (cases h; done) | skip
  rename_i t hnb hf
  cases h
  simp only [rep, mem, xl_, Option.some.injEq] at hr
  obtain ⟨_, rfl⟩ := hr
  exact ⟨F id, ho.trees _ (xc_ hf), xu_ ho hf, fun b hb => ⟨List.mem_map.2 ⟨_, xc_ hf, rfl⟩, hb⟩⟩
 ·rename_i id' lo hi
  simp only [Option.map_eq_some_iff, Option.bind_eq_some_iff, Prod.mk.injEq] at h
  obtain ⟨t', ⟨t, hf, hcut⟩, rfl, rfl⟩ := h
  simp only [rep, mem, xl_, Option.some.injEq] at hr
  obtain ⟨_, a, n, cap, a', h1, h2, h3, h4, ha, rfl⟩ := hr
  have ht := ho.trees _ (xc_ hf)
  rw [h1] at ht
  obtain ⟨fp', k1, k2⟩ := al8 hcut ht h2 h3 ha
  exact ⟨fp', k1, (xu_ ho hf).sublist k2, fun b hb => ⟨List.mem_map.2 ⟨_, xc_ hf, rfl⟩, k2.subset hb⟩⟩
theorem Owns.grow (ho : Owns cx H w ι F) {id : Nat} {t' : Tree} {v' : Value} {fp fp' : List Nat} {R : List Nat} {w' : World} (hfp : ∀ b ∈ fp, id ∈ Aw.ids H ∧ b ∈ F id) (hw : Turned w w' fp)
  (hn : fp'.Nodup) (hm : ∀ b ∈ fp', b < w'.heap.size ∧ ((id ∈ Aw.ids H ∧ b ∈ F id) ∨ (∃ r ∈ R, r ∈ Aw.ids H ∧ b ∈ F r) ∨ w.heap.size ≤ b))
  (ht : ∀ m : Mem, m.w = w' → (∀ av x, rep (mem cx w H ι F) av x → rep m (xp_ (qOf (R ++ [id]) []) av) x) → treeRep m fp' t' v')
  {K : AV → List Nat → List Nat → List (Nat × Tree) → Prop} (hnb : ∀ vs, t' ≠ .bx vs) (hK : K (.ref id []) (R ++ [id]) [] (x8_ (xt_ (qOf (R ++ [id]) []) (rmT R H)) id t')) :
  Left cx H w ι F v' w' K := by
 have hbm : ∀ b ∈ fp, cx.B0 ≤ b ∨ cx.A0 b := fun b hb => by
  obtain ⟨h1, h2⟩ := hfp b hb
  obtain ⟨p, hp, rfl⟩ := List.mem_map.1 h1
  exact (ho.mine b (mem_foot.2 ⟨p, hp, h2⟩)).2
 have key := ho.put (w' := w') R id t' v' fp' (qOf (R ++ [id]) []) (ho.keep.turned ho.old hw hbm) hw.size
  (fun x hx hno => hw.block x hx (fun he => by obtain ⟨h1, h2⟩ := hfp x he; exact hno id (.inl rfl) h1 h2))
  hn (fun b hb => by
   obtain ⟨h1, h2⟩ := hm b hb
   refine ⟨h1, ?_⟩
   rcases h2 with ⟨h2, h3⟩ | ⟨r, h2, h3, h4⟩ | h2
   ·exact .inl ⟨id, .inl rfl, h2, h3⟩
   ·exact .inl ⟨r, .inr h2, h3, h4⟩
   ·exact .inr h2)
  (fun r hr p => by simp [qOf, hr])
  (fun p hq _ => by simp [qOf] at hq)
  (fun hr => ht _ rfl hr)
 refine ⟨_, _, _, _, _, _, hK, key.1, ?_, key.2⟩
 simp only [rep, mem, zC_, zY_, if_true]
 refine ⟨?_, by simp [xl_]⟩
 cases t' <;> first | rfl | exact absurd rfl (hnb _)
theorem al9 {m : Mem} {a : AV} {b : List (List (List Int))} {u : Value} (h : aD9 a = some b) (hr : rep m a u) : L3 m.w m.S b u := by
 unfold aD9 at h
 split at h <;> first | (cases h; done) | skip
 ·cases h; simpa only [rep] using hr
 ·cases h; simp only [rep] at hr; subst hr; exact ⟨[], .inl ⟨⟨_, rfl⟩, rfl⟩, trivial⟩
theorem Vi_ (ho : Owns cx H w ι F) {x d : AV} {u : Value} (h : aJ9 H x = some d) (hr : rep (mem cx w H ι F) x u) : Rd w (zK_ cx w) d u := by
 unfold aJ9 at h
 split at h
 ·cases h; simpa only [Rd, rep] using hr
 ·exact wF_ ho _ _ _ h hr
theorem K2_ {α : Type} {R : World → List Nat → α → Value → Prop} (frame : ∀ {w w' fp a v}, (∀ b ∈ fp, w'.heap[b]? = w.heap[b]?) → R w fp a v → R w' fp a v) (hone : ∀ {f a u}, R w f a u → u.oneCell' = true)
  {t e : TypeId} {i : TypeInfo} {z : Value} (ht : P.underlying t = some (.slice e)) (hi : P.info? e = some i) (hz : i.zero = some z) (h1 : i.size = 1) (hzs : z.cells.size = 1) (hby : i.bytes ≤ 64)
  {fp gp : List Nat} {as bs : List α} {v x : Value} (h : ON R w fp as v) (h2 : ON R w gp bs x) (hf : fp.Nodup) (hg : gp.Nodup) (hd : ∀ b ∈ gp, b ∉ fp) (hlt : ∀ b ∈ fp, b < w.heap.size) (hlt2 : ∀ b ∈ gp, b < w.heap.size)
  (hlen : as.length + bs.length ≤ 1099511627776) (ty : TypeId) :
  ∃ v' w' fp' f0, (Builtin.append_ #[t, t] ty #[v, x]).run P w = .ok v' w' ∧ ON R w' fp' (as ++ bs) v' ∧ Turned w w' f0 ∧ (∀ b ∈ f0, b ∈ fp) ∧ fp'.Nodup ∧ ∀ b ∈ fp', b < w'.heap.size ∧ (b ∈ fp ∨ b ∈ gp ∨ w.heap.size ≤ b) := by
 obtain ⟨us, f0, fs, k1, k2, rfl⟩ := h
 obtain ⟨vs, g0, gs, j1, j2, rfl⟩ := h2
 rw [List.nodup_append] at hf hg
 obtain ⟨v', w', fp0, r1, r2, r3, r4, r5⟩ := WR_ (P := P) ht hi hz h1 hzs hby k1 (j1.slC (S := fun _ => True) (fun _ _ => trivial))
  (fun u hu => by
   obtain ⟨n, hn⟩ := List.getElem?_of_mem hu
   obtain ⟨a, ha, _⟩ : ∃ a, gs[n]? = some a ∧ True := by
    have hl : n < gs.length := by rw [j2.length.1, j2.length.2]; exact (List.getElem?_eq_some_iff.1 hn).1
    exact ⟨gs[n], by simp [hl], trivial⟩
   obtain ⟨b, hb⟩ : ∃ b, bs[n]? = some b := by
    have hl : n < bs.length := by rw [j2.length.2]; exact (List.getElem?_eq_some_iff.1 hn).1
    exact ⟨bs[n], by simp [hl]⟩
   exact hone (j2.at ha hb hn))
  (by rw [← k2.length.2, ← j2.length.2]; exact hlen) (fun b hb => hlt b (by simp [hb])) ty
 have hfl : ∀ b ∈ fs.flatten, b ∉ f0 := fun b hb hb0 => hf.2.2 b hb0 b hb rfl
 have hgl : ∀ b ∈ gs.flatten, b ∉ f0 := fun b hb hb0 => hd b (by simp only [List.mem_append]; exact .inr hb) (by simp [hb0])
 refine ⟨v', w', fp0 ++ (fs ++ gs).flatten, f0, r1, ⟨us ++ vs, fp0, fs ++ gs, r2, ?_, rfl⟩, r3, fun b hb => by simp [hb], ?_, fun b hb => ?_⟩
 ·refine (k2.mono fun f hf' _ _ hr => frame (fun b hb => ?_) hr).append (j2.mono fun f hf' _ _ hr => frame (fun b hb => ?_) hr)
  ·have hm : b ∈ fs.flatten := List.mem_flatten.2 ⟨f, hf', hb⟩
   exact r3.block b (hlt b (by simp only [List.mem_append]; exact .inr hm)) (hfl b hm)
  ·have hm : b ∈ gs.flatten := List.mem_flatten.2 ⟨f, hf', hb⟩
   exact r3.block b (hlt2 b (by simp only [List.mem_append]; exact .inr hm)) (hgl b hm)
 ·rw [List.nodup_append, List.flatten_append, List.nodup_append]
  refine ⟨r4, ⟨hf.2.1, hg.2.1, fun a ha b hb e => ?_⟩, fun a ha b hb e => ?_⟩
  ·subst e; exact hd a (by simp only [List.mem_append]; exact .inr hb) (by simp only [List.mem_append]; exact .inr ha)
  ·subst e
   rcases List.mem_append.1 hb with hb | hb
   ·rcases (r5 a ha).2 with h | h
    ·exact hfl a hb h
    ·have := hlt a (by simp only [List.mem_append]; exact .inr hb); omega
   ·rcases (r5 a ha).2 with h | h
    ·exact hgl a hb h
    ·have := hlt2 a (by simp only [List.mem_append]; exact .inr hb); omega
 ·rcases List.mem_append.1 hb with hb | hb
  ·obtain ⟨h1, h2⟩ := r5 b hb
   refine ⟨h1, ?_⟩
   rcases h2 with h | h
   ·exact .inl (by simp [h])
   ·exact .inr (.inr h)
  ·rw [List.flatten_append] at hb
   rcases List.mem_append.1 hb with hb | hb
   ·exact ⟨Nat.lt_of_lt_of_le (hlt b (by simp only [List.mem_append]; exact .inr hb)) r3.size, .inl (by simp only [List.mem_append]; exact .inr hb)⟩
   ·exact ⟨Nat.lt_of_lt_of_le (hlt2 b (by simp only [List.mem_append]; exact .inr hb)) r3.size, .inr (.inl (by simp only [List.mem_append]; exact .inr hb))⟩
theorem w1_ (ho : Owns cx H w ι F) {id : Nat} {t : Tree} {u : Value} (hf : find H id = some t) (hr : rep (mem cx w H ι F) (.ref id []) u) : u = ι id ∧ treeRep (mem cx w H ι F) (F id) t u := by
 simp only [rep, mem, xl_, Option.some.injEq] at hr
 obtain ⟨_, rfl⟩ := hr
 exact ⟨rfl, ho.trees _ (xc_ hf)⟩
end
section
variable {P : Program} {w : World}
theorem R7_ (ps : List (Int × Int)) : ∀ u ∈ yF_ ps, u.oneCell' = true := fun u hu => by
 obtain ⟨p, _, h⟩ := List.mem_flatMap.1 hu
 simp only [List.mem_cons, List.not_mem_nil, or_false] at h
 rcases h with rfl | rfl <;> rfl
theorem TH_ {xs ys : List (Int × Int)} (h1 : aS9 xs) (h2 : aS9 ys) : aS9 (xs ++ ys) := fun p hp => (List.mem_append.1 hp).elim (h1 p) (h2 p)
theorem WH_ {S : Nat → Prop} {ps : List (Int × Int)} {v : Value} (h : SlP w S ps v) : (Builtin.firstCells 2 ps.length v).run P w = .ok (yF_ ps).toArray w := by
 obtain ⟨_, h⟩ := h
 rcases h with ⟨⟨a, rfl⟩, rfl⟩ | ⟨b, off, cap, rfl, _, _, _, h5⟩
 ·cases a with
  | none => exact run_firstCells_none w 2 _ _ _
  | some a => exact run_firstCells_some w 2 0 a 0 0 [] (by simp) (fun j v hv => by simp at hv)
 ·exact run_firstCells_some w 2 ps.length ⟨b, off, none⟩ ps.length cap (yF_ ps) (by rw [zB_]; omega) (fun j v hv => by rw [yG_]; exact h5 j v hv)
theorem TI_ {t e : TypeId} {i : TypeInfo} {z : Value} (ht : P.underlying t = some (.slice e)) (hi : P.info? e = some i) (hz : i.zero = some z) (h1 : i.size = 2) (hzs : z.cells.size = 2) (hby : i.bytes ≤ 64)
  {fp : List Nat} {us news : List (Int × Int)} {v x : Value} {S : Nat → Prop} (ho : OwnP w fp us v) (hx : SlP w S news x)
  (hlen : us.length + news.length ≤ 1048576) (hfpl : ∀ b ∈ fp, b < w.heap.size) (ty : TypeId) :
  ∃ v' w' fp', (Builtin.append_ #[t, t] ty #[v, x]).run P w = .ok v' w' ∧ OwnP w' fp' (us ++ news) v' ∧ Turned w w' fp ∧ fp'.Nodup ∧ (∀ b ∈ fp', b < w'.heap.size ∧ (b ∈ fp ∨ w.heap.size ≤ b)) := by
 have hxs : ∃ a c, x = .slice a news.length c := by
  obtain ⟨_, h⟩ := hx
  rcases h with ⟨⟨a, rfl⟩, rfl⟩ | ⟨b, off, cap, rfl, _⟩ <;> exact ⟨_, _, rfl⟩
 obtain ⟨na, nc, rfl⟩ := hxs
 have hin := TH_ ho.1 hx.1
 have hvs : ∃ a c, v = .slice a us.length c ∧ c ≤ maxLen := by
  obtain ⟨_, h⟩ := ho
  rcases h with ⟨rfl, rfl, _⟩ | ⟨b, off, cap, c, E, rfl, _, _, _, _, h6, _⟩
  ·exact ⟨_, _, rfl, by simp⟩
  ·exact ⟨_, _, rfl, h6⟩
 obtain ⟨va, vc, hv, hcap⟩ := hvs
 have hbytes : (us.length + news.length) * i.bytes ≤ 140737488355328 := Nat.le_trans (Nat.mul_le_mul hlen hby) (by decide)
 have hfx := fun (w' : World) (he : ∀ S us v, SlP w S us v → SlP w' S us v) => WH_ (P := P) (he S news _ hx)
 have hpl := zB_ us
 have hpn := zB_ news
 by_cases hroom : us.length + news.length ≤ vc
 ·obtain ⟨ho0, ho⟩ := ho
  rcases ho with ⟨h1', h2, h3⟩ | ⟨b, off, cap, c, E, h1', h2, h3, h4, h5, h6, h7⟩
  ·subst h2; subst h3
   rw [hv] at h1'; cases h1'
   have hnil : news = [] := List.eq_nil_of_length_eq_zero (by simpa using hroom)
   subst hnil
   refine ⟨.slice none 0 0, w, [], ?_, ⟨hin, .inl ⟨rfl, rfl, rfl⟩⟩, Turned.refl _ _, List.nodup_nil, by simp⟩
   subst hv
   have := hfx w (fun _ _ _ h => h)
   simp only [List.length_nil] at this
   simp [Builtin.append_, run_underlying ht, sizeOf, typeInfo, hi, h1, Builtin.lenOf, this]
  ·rw [hv] at h1'; cases h1'
   have hf := hfx w (fun _ _ _ h => h)
   have hst := run_storeCells_at P b (off + us.length * 2) E (yF_ news) 0 c w h3 (by omega) (R7_ news)
   simp only [Nat.add_zero] at hst
   subst hv
   refine ⟨.slice (some ⟨b, off, none⟩) (us.length + news.length) vc, w.setRow b (c.toList.take (off + us.length * 2) ++ yF_ news ++ c.toList.drop (off + us.length * 2 + (yF_ news).length)).toArray, [b], ?_, ⟨hin, ?_⟩, ?_, by simp, ?_⟩
   ·simp [Builtin.append_, run_underlying ht, sizeOf, typeInfo, hi, h1, Builtin.lenOf, hroom, hf, yG_, hst]
   ·refine .inr ⟨b, off, vc, _, E, by simp, rfl, setRow_heap w b c _ E _ h3, ?_, by simpa using hroom, h6, fun i u hu => ?_⟩
    ·simp only [List.size_toArray, List.length_append, List.length_take, List.length_drop, Array.length_toList]; omega
    ·simp only [List.getElem?_toArray]
     rw [XV_, List.getElem?_append] at hu
     have htl : (c.toList.take (off + us.length * 2)).length = off + us.length * 2 := by simp [List.length_take]; omega
     split at hu
     ·rename_i hlt
      have := h7 i u hu
      rw [List.append_assoc, List.getElem?_append_left (by rw [htl]; omega), List.getElem?_take, if_pos (by omega)]
      simpa using this
     ·rename_i hge
      have hl2 := (List.getElem?_eq_some_iff.1 hu).1
      rw [List.append_assoc, List.getElem?_append_right (by rw [htl]; omega), htl, List.getElem?_append_left (by omega)]
      rw [← hu]; congr 1; omega
   ·refine ⟨rfl, rfl, rfl, by simp, fun k _ hk => setRow_other w b k _ (fun e => hk (by simp [h2, e]))⟩
   ·intro k hk
    simp only [List.mem_singleton] at hk
    subst hk
    exact ⟨by simpa using hfpl k (by simp [h2]), .inl (by simp [h2])⟩
 ·have hn : ¬ (us.length + news.length ≤ vc) := hroom
  have h63' : ¬ (9223372036854775807 < ((us.length : Int) + (news.length : Int))) := by omega
  have h48 := growslice_fits (need := us.length + news.length) (old := vc) (bytes := i.bytes) (by omega) hbytes
  have h48' : ¬ (281474976710656 < Builtin.nextslicecap (us.length + news.length) vc * i.bytes) := by omega
  have hdrew : ∀ S us v, SlP w S us v → SlP w.drew S us v := fun S us v h => by
   obtain ⟨h0, h⟩ := h
   refine ⟨h0, ?_⟩
   rcases h with h | ⟨b, off, cap, k1, k2, k3, k4, k5⟩
   ·exact .inl h
   ·exact .inr ⟨b, off, cap, k1, k2, k3, k4, fun i u hu => by simpa using k5 i u hu⟩
  have hf := hfx w.drew hdrew
  have hfo := WH_ (P := P) (hdrew _ _ _ (ho.slP (S := fun _ => True) (fun _ _ => trivial)))
  subst hv
  have hge := grownCap_ge w (us.length + news.length) vc e
  have hml := grownCap_le_maxLen w (us.length + news.length) vc e (by simp only [maxLen]; omega)
  refine ⟨.slice (some ⟨w.heap.size, 0, none⟩) (us.length + news.length) (grownCap w (us.length + news.length) vc e),
   w.drew.alloc (.cells ((yF_ us).toArray ++ (yF_ news).toArray ++ Builtin.zeroCells z.cells (grownCap w (us.length + news.length) vc e - (us.length + news.length))) e), [w.heap.size], ?_, ⟨hin, ?_⟩, ?_, by simp, ?_⟩
  ·simp [Builtin.append_, run_underlying ht, sizeOf, typeInfo, zeroValue, hi, hz, h1, Builtin.lenOf, hn, h63', h48', Question.forced, hf, hfo, newRow, grownCap]
   rw [← List.append_toArray, ← Array.append_assoc]
  ·refine .inr ⟨w.heap.size, 0, _, _, e, by simp, rfl, heap_alloc_new w.drew _, ?_, by simpa using hge, hml, fun i u hu => ?_⟩
   ·simp only [Array.size_append, List.size_toArray, TY_, hzs, hpl, hpn]; omega
   ·have hl := (List.getElem?_eq_some_iff.1 hu).1
    rw [XV_] at hu hl
    rw [Nat.zero_add, Array.getElem?_append_left (by simpa using hl)]
    simpa using hu
  ·refine ⟨rfl, rfl, rfl, by simp, fun k hk _ => Below.heap_alloc w.drew _ k hk⟩
  ·intro k hk
   simp only [List.mem_singleton] at hk
   subst hk
   exact ⟨by simp, .inr (Nat.le_refl _)⟩
end
section
variable {P : Program} {cx : Cx} {H : List (Nat × Tree)} {w w' : World} {ι : Nat → Value} {F : Nat → List Nat}
theorem Uu_ (ho : Owns cx H w ι F) {t e : TypeId} (hk : xz_ P t = .sp e) {s x : AV} {us ux : Value} {K : AV → List Nat → List Nat → List (Nat × Tree) → Prop} (h : al7 P H e s x K)
  (hs : rep (mem cx w H ι F) s us) (hx : rep (mem cx w H ι F) x ux) (ty : TypeId) :
  ∃ u w', (Builtin.append_ #[t, t] ty #[us, ux]).run P w = .ok u w' ∧ Left cx H w ι F u w' K := by
 obtain ⟨he, h⟩ := h
 obtain ⟨i, z, hi, h1, hby, hz, hzs⟩ := YM_ he
 have htu := (an0 hk).1
 split at h <;> first | exact h.elim | skip
 rename_i id id2
 split at h <;> first | exact h.elim | skip
 rename_i xs ys hf hf2
 obtain ⟨hlen, hK⟩ := h
 simp only [rep, mem, xl_, Option.some.injEq] at hs hx
 have ht := ho.trees _ (xc_ hf)
 have ht2 := ho.trees _ (xc_ hf2)
 simp only [treeRep, mem] at ht ht2
 rw [hs.2] at ht
 rw [hx.2] at ht2
 have hid : id ∈ Aw.ids H := List.mem_map.2 ⟨_, xc_ hf, rfl⟩
 obtain ⟨v', w', fp', r1, r2, r3, r4, r5⟩ := TI_ (P := P) htu hi hz h1 hzs hby ht (ht2.slP (S := fun _ => True) (fun _ _ => trivial)) hlen (fun b hb => (ho.mine b (mem_foot.2 ⟨_, xc_ hf, hb⟩)).1) ty
 refine ⟨v', w', r1, ho.grow (t' := .tp (xs ++ ys)) (R := []) (fun b hb => ⟨hid, hb⟩) r3 r4 (fun b hb => ?_) (fun m hm hr => ?_) (by simp) (by rw [yL_]; exact hK)⟩
 ·obtain ⟨k1, k2⟩ := r5 b hb
  exact ⟨k1, Qd_ k2 (fun h => ⟨hid, h⟩) .inr⟩
 ·simp only [treeRep]; rw [hm]; exact r2
theorem TJ_ (ho : Owns cx H w ι F) {t e : TypeId} (hk : xz_ P t = .sp e) {len : Nat} {ps : List (Nat × AV)} {qs : List (Nat × Value)} (h1 : ps.map (·.1) = qs.map (·.1)) (h2 : reps (mem cx w H ι F) (ps.map (·.2)) (qs.map (·.2)))
  {K : AV → List Nat → List Nat → List (Nat × Tree) → Prop} (h : Vh_ P H e len ps K) :
  ∃ u w', (Instr.buildSlice t len qs.toArray).run P w = .ok u w' ∧ Left cx H w ι F u w' K := by
 obtain ⟨he, h⟩ := h
 obtain ⟨i, z, hi, hs1, hby, hz, hzs⟩ := YM_ he
 have htu := (an0 hk).1
 split at h <;> first | exact h.elim | skip
 ·obtain ⟨rfl, hK⟩ := h
  obtain rfl : qs = [] := by cases qs with | nil => rfl | cons _ _ => simp at h1
  have h0 : Array.range 0 = #[] := by simp
  refine ⟨.slice (some ⟨w.heap.size, 0, none⟩) 0 0, w.alloc (.cells #[] e), by simp [Instr.buildSlice, run_underlying htu, sizeOf, typeInfo, hi, newRow, Instr.fill, h0], ?_⟩
  refine ho.new (.tp []) _ #[] e (fun m hm _ => ?_) hK (fun m hd hv => by simp only [rep]; exact ⟨hd, by rw [hv]; simp [xl_]⟩)
  simp only [treeRep]
  exact ⟨fun p hp => by simp at hp, .inr ⟨w.heap.size, 0, 0, #[], e, rfl, rfl, by rw [hm]; exact heap_alloc_new w _, by simp, by simp, by simp, fun i u hu => by simp [yF_] at hu⟩⟩
 ·rename_i a b
  obtain ⟨rfl, hK⟩ := h
  match qs, h1, h2 with
  | [(k, u)], h1, h2 =>
   simp only [List.map_cons, List.map_nil, List.cons.injEq, and_true] at h1
   subst h1
   simp only [List.map_cons, List.map_nil, reps, rep] at h2
   obtain ⟨u', us', e1, ⟨ys, rfl, y1, ys1, rfl, ⟨rfl, ra⟩, y2, ys2, rfl, ⟨rfl, rb⟩, rfl⟩, rfl⟩ := h2
   cases e1
   have hfill : Instr.fill (fun j => some (j * i.size, i.size)) ((Array.range (1 * i.size)).map (z.cells[· % z.cells.size]!)) [(0, .agg #[.int .i64 a, .int .i64 b])] = some #[.int .i64 a, .int .i64 b] := by
    rw [hs1, hzs]
    simp [Instr.fill, Value.cells]
    apply Array.ext
    ·simp
    ·intro k hk1 hk2
     match k, hk2 with
     | 0, _ => simp
     | 1, _ => simp
   refine ⟨_, _, run_buildSlice w t e 1 #[(0, .agg #[.int .i64 a, .int .i64 b])] #[.int .i64 a, .int .i64 b] i z htu hi hz (by rw [hs1]; decide) (by rw [hs1]; decide) hfill, ?_⟩
   refine ho.new (.tp [(a, b)]) _ #[.int .i64 a, .int .i64 b] e (fun m hm _ => ?_) hK (fun m hd hv => by simp only [rep]; exact ⟨hd, by rw [hv]; simp [xl_]⟩)
   simp only [treeRep]
   refine ⟨fun p hp => by rw [List.mem_singleton] at hp; subst hp; exact ⟨ra, rb⟩, .inr ⟨w.heap.size, 0, 1, #[.int .i64 a, .int .i64 b], e, rfl, rfl, by rw [hm]; exact heap_alloc_new w _, by simp, by simp, by simp [maxLen], fun i u hu => ?_⟩⟩
   match i, hu with
   | 0, hu => simpa [yF_] using hu
   | 1, hu => simpa [yF_] using hu
   | k + 2, hu => simp [yF_] at hu
end
section
variable {P : Program} {cx : Cx} {H : List (Nat × Tree)} {w w' : World} {ι : Nat → Value} {F : Nat → List Nat}
theorem TK_ (ho : Owns cx H w ι F) {t : TypeId} {s x : AV} {us ux : Value} {K : AV → List Nat → List Nat → List (Nat × Tree) → Prop} (h : Xh_ P H t s x K)
  (hs : rep (mem cx w H ι F) s us) (hx : rep (mem cx w H ι F) x ux) (ty : TypeId) :
  ∃ u w', (Builtin.append_ #[t, t] ty #[us, ux]).run P w = .ok u w' ∧ Left cx H w ι F u w' K := by
 unfold Xh_ at h
 split at h <;> first | exact h.elim | skip
 ·rename_i e hk
  exact Uu_ ho hk h hs hx ty
 rename_i e hk
 obtain ⟨he, h⟩ := h
 obtain ⟨i, z, hi, h1, hby, hz, hzo, hzc⟩ := zh_ he
 have htu := (YZ_ hk).1
 have hzs : z.cells.size = 1 := by rw [hzc]; rfl
 split at h <;> first | exact h.elim | skip
 rename_i id t0 htar
 obtain ⟨fp, hfp, hfn, hfm⟩ := wb_ ho htar hs
 have hflt : ∀ b ∈ fp, b < w.heap.size := fun b hb => by
  obtain ⟨k1, k2⟩ := hfm b hb
  obtain ⟨p, hp, rfl⟩ := List.mem_map.1 k1
  exact (ho.mine b (mem_foot.2 ⟨p, hp, k2⟩)).1
 have hFlt : ∀ {id2 : Nat} {t2 : Tree}, find H id2 = some t2 → ∀ b ∈ F id2, b < w.heap.size := fun hf b hb => (ho.mine b (mem_foot.2 ⟨_, xc_ hf, hb⟩)).1
 -- one row of one's own, what is appended only read
 have flat : ∀ {old news : List Value} {t' : Tree} {S : Nat → Prop}, OwnSl w fp old us → SlC w S news ux → (∀ u ∈ news, u.oneCell' = true) → old.length + news.length ≤ 1099511627776 →
   (∀ vs, t' ≠ .bx vs) → K (.ref id []) [id] [] (x8_ (xt_ (qOf [id] []) H) id t') →
   (∀ (m : Mem) (fp' : List Nat) (v' : Value), (∀ b, lower w b → b ∉ fp → m.w.heap[b]? = w.heap[b]?) → (∀ av x, rep (mem cx w H ι F) av x → rep m (xp_ (qOf [id] []) av) x) → OwnSl m.w fp' (old ++ news) v' → treeRep m fp' t' v') →
   ∃ u w', (Builtin.append_ #[t, t] ty #[us, ux]).run P w = .ok u w' ∧ Left cx H w ι F u w' K := by
  intro old news t' S ho1 hsrc hone hlen hnb hK htr
  obtain ⟨v', w', fp', r1, r2, r3, r4, r5⟩ := WR_ (P := P) htu hi hz h1 hzs hby ho1 hsrc hone hlen hflt ty
  refine ⟨v', w', r1, ho.grow (R := []) hfm r3 r4 (fun b hb => ?_) (fun m hm hr => ?_) hnb (by rw [yL_]; exact hK)⟩
  ·obtain ⟨k1, k2⟩ := r5 b hb
   exact ⟨k1, Qd_ k2 (hfm b) .inr⟩
  ·exact htr m fp' v' (fun b hb hbf => by rw [hm]; exact r3.block b hb hbf) hr (by rw [hm]; exact r2)
 -- rows of one's own, rows taken in
 have deep : ∀ {α : Type} {R : World → List Nat → α → Value → Prop} {id2 : Nat} {t2 t' : Tree} {as bs : List α}, (∀ {w w' fp a v}, (∀ b ∈ fp, w'.heap[b]? = w.heap[b]?) → R w fp a v → R w' fp a v) → (∀ {f a u}, R w f a u → u.oneCell' = true) →
   ON R w fp as us → find H id2 = some t2 → ON R w (F id2) bs ux → id2 ≠ id → as.length + bs.length ≤ 1099511627776 → (∀ vs, t' ≠ .bx vs) →
   K (.ref id []) [id2, id] [] (x8_ (xt_ (qOf [id2, id] []) (rmT [id2] H)) id t') → (∀ (m : Mem) (fp' : List Nat) (v' : Value), ON R m.w fp' (as ++ bs) v' → treeRep m fp' t' v') →
   ∃ u w', (Builtin.append_ #[t, t] ty #[us, ux]).run P w = .ok u w' ∧ Left cx H w ι F u w' K := by
  intro α R id2 t2 t' as bs frame hone hon hf2 hon2 hne hlen hnb hK htr
  have hdis : ∀ b ∈ F id2, b ∉ fp := fun b hb hbf => by
   obtain ⟨k1, k2⟩ := hfm b hbf
   obtain ⟨p, hp, rfl⟩ := List.mem_map.1 k1
   exact yc_ ho hf2 (x5_ ho.ids hp) hne hb k2
  obtain ⟨v', w', fp', f0, r1, r2, r3, r4, r5, r6⟩ := K2_ (P := P) (R := R) (fun h h' => frame h h') (fun h => hone h) htu hi hz h1 hzs hby hon hon2 hfn (xu_ ho hf2) hdis hflt (hFlt hf2) hlen ty
  refine ⟨v', w', r1, ho.grow (R := [id2]) (fun b hb => hfm b (r4 b hb)) r3 r5 (fun b hb => ?_) (fun m hm _ => htr m fp' v' (by rw [hm]; exact r2)) hnb hK⟩
  obtain ⟨k1, k2⟩ := r6 b hb
  refine ⟨k1, ?_⟩
  rcases k2 with k2 | k2 | k2
  ·exact .inl (hfm b k2)
  ·exact .inr (.inl ⟨id2, by simp, List.mem_map.2 ⟨_, xc_ hf2, rfl⟩, k2⟩)
  ·exact .inr (.inr k2)
 have rowsR : ∀ {ys : List (List Int)} {vs : List Value} {m : Mem}, (∀ av x, rep (mem cx w H ι F) av x → rep m (xp_ (qOf [id] []) av) x) → All2 (L1 w (imm cx w H F)) ys vs → All2 (L1 m.w m.S) ys vs := fun hr h =>
  h.mono fun a c hac => by
   have := hr (.l1 a) c (by simp only [rep]; exact hac)
   simpa only [xp_, rep] using this
 have rowsR3 : ∀ {ys : List (List (List Int))} {vs : List Value} {m : Mem}, (∀ av x, rep (mem cx w H ι F) av x → rep m (xp_ (qOf [id] []) av) x) → All2 (L2 w (imm cx w H F)) ys vs → All2 (L2 m.w m.S) ys vs := fun hr h =>
  h.mono fun a c hac => by
   have := hr (.l2 a) c (by simp only [rep]; exact hac)
   simpa only [xp_, rep] using this
 have one1 : ∀ {S : Nat → Prop} {ys : List (List Int)} {vs : List Value}, All2 (L1 w S) ys vs → ∀ u ∈ vs, u.oneCell' = true := fun h => wK_ (fun _ _ hl => Xp_ hl.1) h
 have one2 : ∀ {S : Nat → Prop} {ys : List (List (List Int))} {vs : List Value}, All2 (L2 w S) ys vs → ∀ u ∈ vs, u.oneCell' = true := fun h => wK_ (fun _ _ hl => by obtain ⟨_, k, _⟩ := hl; exact Xp_ k) h
 -- sources of rows that are only read
 have src2 : ∀ {ys : List (List Int)}, (QR_ x = some ys ∨ ∃ id2, x = .ref id2 [] ∧ find H id2 = some (.r2 ys)) → ∃ vs S, SlC w S vs ux ∧ All2 (L1 w (imm cx w H F)) ys vs := by
  intro ys h
  rcases h with h | ⟨id2, rfl, hf⟩
  ·obtain ⟨vs, k1, k2⟩ := XY_ h hx
   exact ⟨vs, _, k1, k2⟩
  ·obtain ⟨_, k⟩ := w1_ ho hf hx
   obtain ⟨vs, k1, k2⟩ := k
   exact ⟨vs, fun _ => True, k1.slC (fun _ _ => trivial), k2⟩
 have src3 : ∀ {ys : List (List (List Int))}, (aD9 x = some ys ∨ ∃ id2, x = .ref id2 [] ∧ find H id2 = some (.r3 ys)) → ∃ vs S, SlC w S vs ux ∧ All2 (L2 w (imm cx w H F)) ys vs := by
  intro ys h
  rcases h with h | ⟨id2, rfl, hf⟩
  ·obtain ⟨vs, k1, k2⟩ := al9 h hx
   exact ⟨vs, _, k1, k2⟩
  ·obtain ⟨_, k⟩ := w1_ ho hf hx
   obtain ⟨vs, k1, k2⟩ := k
   exact ⟨vs, fun _ => True, k1.slC (fun _ _ => trivial), k2⟩
 have into2 : ∀ {xs ys : List (List Int)} {old : List Value}, OwnSl w fp old us → All2 (L1 w (imm cx w H F)) xs old → (QR_ x = some ys ∨ ∃ id2, x = .ref id2 [] ∧ find H id2 = some (.r2 ys)) → xs.length + ys.length ≤ 1099511627776 →
   K (.ref id []) [id] [] (x8_ (xt_ (qOf [id] []) H) id (.r2 (xs ++ ys))) → ∃ u w', (Builtin.append_ #[t, t] ty #[us, ux]).run P w = .ok u w' ∧ Left cx H w ι F u w' K := by
  intro xs ys old k1 k2 hsrc hlen hK
  obtain ⟨vs, S, j1, j2⟩ := src2 hsrc
  refine flat k1 j1 (one1 j2) (by rw [← k2.length, ← j2.length]; exact hlen) (by simp) hK (fun m fp' v' _ hr hown => ?_)
  exact ⟨old ++ vs, hown, (rowsR hr k2).append (rowsR hr j2)⟩
 have into3 : ∀ {xs ys : List (List (List Int))} {old : List Value}, OwnSl w fp old us → All2 (L2 w (imm cx w H F)) xs old → (aD9 x = some ys ∨ ∃ id2, x = .ref id2 [] ∧ find H id2 = some (.r3 ys)) → xs.length + ys.length ≤ 1099511627776 →
   K (.ref id []) [id] [] (x8_ (xt_ (qOf [id] []) H) id (.r3 (xs ++ ys))) → ∃ u w', (Builtin.append_ #[t, t] ty #[us, ux]).run P w = .ok u w' ∧ Left cx H w ι F u w' K := by
  intro xs ys old k1 k2 hsrc hlen hK
  obtain ⟨vs, S, j1, j2⟩ := src3 hsrc
  refine flat k1 j1 (one2 j2) (by rw [← k2.length, ← j2.length]; exact hlen) (by simp) hK (fun m fp' v' _ hr hown => ?_)
  exact ⟨old ++ vs, hown, (rowsR3 hr k2).append (rowsR3 hr j2)⟩
 unfold aZ3 at h
 split at h
 ·-- t1
  rename_i xs
  split at h <;> first | exact h.elim | skip
  rename_i ys hys
  obtain ⟨hlen, hK⟩ := h
  simp only [Option.bind_eq_some_iff] at hys
  obtain ⟨d, hd, hl1⟩ := hys
  have hsrc := w8_ hl1 (Vi_ ho hd hx)
  simp only [treeRep, mem] at hfp
  refine flat hfp.1 hsrc.1 (SK_ ys) (by rw [yu_, yu_]; exact hlen) (by simp) hK (fun m fp' v' _ _ hown => ⟨by simpa [ints] using hown, fun y hy => ?_⟩)
  rcases List.mem_append.1 hy with hy | hy
  ·exact hfp.2 y hy
  ·exact hsrc.2 y hy
 ·-- t2
  rename_i xs
  simp only [treeRep, mem] at hfp
  have emp : xs = [] → ∃ old, OwnSl w fp old us ∧ All2 (L1 w (imm cx w H F)) xs old := by
   intro hx0
   subst hx0
   obtain ⟨vs, f0, fs, k1, k2, k3⟩ := hfp
   have hv : vs = [] := List.eq_nil_of_length_eq_zero (by rw [← k2.length.2]; rfl)
   have hfs : fs = [] := List.eq_nil_of_length_eq_zero (by rw [k2.length.1]; rfl)
   subst hv; subst hfs
   rw [k3]
   exact ⟨[], by simpa using k1, trivial⟩
  split at h
  ·rename_i id2
   split at h <;> first | exact h.elim | skip
   ·rename_i ys hf2
    obtain ⟨hne, hlen, hK⟩ := h
    obtain ⟨_, htr⟩ := w1_ ho hf2 hx
    exact deep (R := O1) (fun h h' => O1.heap h h') (fun h => zs_ h.1) hfp hf2 htr hne hlen (by simp) hK (fun m fp' v' h => h)
   ·rename_i ys hf2
    obtain ⟨hx0, hlen, hK⟩ := h
    obtain ⟨old, k1, k2⟩ := emp hx0
    exact into2 k1 k2 (.inr ⟨id2, rfl, hf2⟩) (by rw [hx0]; simpa using hlen) (by rw [hx0]; exact hK)
  ·split at h <;> first | exact h.elim | skip
   rename_i ys hys
   obtain ⟨hx0, hlen, hK⟩ := h
   obtain ⟨old, k1, k2⟩ := emp hx0
   exact into2 k1 k2 (.inl hys) (by rw [hx0]; simpa using hlen) (by rw [hx0]; exact hK)
 ·-- t3
  rename_i xs
  simp only [treeRep, mem] at hfp
  have emp : xs = [] → ∃ old, OwnSl w fp old us ∧ All2 (L2 w (imm cx w H F)) xs old := by
   intro hx0
   subst hx0
   obtain ⟨vs, f0, fs, k1, k2, k3⟩ := hfp
   have hv : vs = [] := List.eq_nil_of_length_eq_zero (by rw [← k2.length.2]; rfl)
   have hfs : fs = [] := List.eq_nil_of_length_eq_zero (by rw [k2.length.1]; rfl)
   subst hv; subst hfs
   rw [k3]
   exact ⟨[], by simpa using k1, trivial⟩
  split at h
  ·rename_i id2
   split at h <;> first | exact h.elim | skip
   ·rename_i ys hf2
    obtain ⟨hne, hlen, hK⟩ := h
    obtain ⟨_, htr⟩ := w1_ ho hf2 hx
    exact deep (R := O2) (fun h h' => O2.heap h h') (fun h => by obtain ⟨_, _, _, k, _⟩ := h; exact zs_ k) hfp hf2 htr hne hlen (by simp) hK (fun m fp' v' h => h)
   ·rename_i ys hf2
    obtain ⟨hx0, hlen, hK⟩ := h
    obtain ⟨old, k1, k2⟩ := emp hx0
    exact into3 k1 k2 (.inr ⟨id2, rfl, hf2⟩) (by rw [hx0]; simpa using hlen) (by rw [hx0]; exact hK)
  ·split at h <;> first | exact h.elim | skip
   rename_i ys hys
   obtain ⟨hx0, hlen, hK⟩ := h
   obtain ⟨old, k1, k2⟩ := emp hx0
   exact into3 k1 k2 (.inl hys) (by rw [hx0]; simpa using hlen) (by rw [hx0]; exact hK)
 ·-- r2
  rename_i xs
  split at h <;> first | exact h.elim | skip
  rename_i ys hys
  obtain ⟨hlen, hK⟩ := h
  simp only [treeRep, mem] at hfp
  obtain ⟨old, k1, k2⟩ := hfp
  refine into2 k1 k2 ?_ hlen hK
  unfold aD8 at hys
  split at hys
  ·split at hys <;> first | (cases hys; done) | skip
   rename_i id2 _ hf2
   cases hys
   exact .inr ⟨_, rfl, by assumption⟩
  ·exact .inl hys
 ·-- r3
  rename_i xs
  split at h <;> first | exact h.elim | skip
  rename_i ys hys
  obtain ⟨hlen, hK⟩ := h
  simp only [treeRep, mem] at hfp
  obtain ⟨old, k1, k2⟩ := hfp
  refine into3 k1 k2 ?_ hlen hK
  unfold aE0 at hys
  split at hys
  ·split at hys <;> first | (cases hys; done) | skip
   cases hys
   exact .inr ⟨_, rfl, by assumption⟩
  ·exact .inl hys
 ·-- any values
  rename_i xs
  split at h <;> first | exact h.elim | skip
  rename_i ys hys
  obtain ⟨hlen, hdat, hone, hK⟩ := h
  simp only [treeRep] at hfp
  obtain ⟨old, k1, k2⟩ := hfp
  have hsrc : ∃ vs S, SlC w S vs ux ∧ reps (mem cx w H ι F) ys vs := by
   unfold aE1 at hys
   split at hys
   ·split at hys <;> first | (cases hys; done) | skip
    rename_i hf2
    cases hys
    obtain ⟨_, k⟩ := w1_ ho hf2 hx
    obtain ⟨vs, j1, j2⟩ := k
    exact ⟨vs, fun _ => True, OwnSl.slC (w := w) j1 (fun _ _ => trivial), j2⟩
   ·cases hys
    simp only [rep] at hx
    obtain ⟨vs, j1, j2⟩ := hx
    exact ⟨vs, _, j1, j2⟩
   ·cases hys
    simp only [rep] at hx
    subst hx
    exact ⟨[], fun _ => True, .inl ⟨⟨_, rfl⟩, rfl⟩, by simp [reps]⟩
   ·cases hys
  obtain ⟨vs, S, j1, j2⟩ := hsrc
  have hones : ∀ u ∈ vs, u.oneCell' = true := by
   have : ∀ {vs : List AV} {us : List Value}, vs.all (wh_ H) = true → reps (mem cx w H ι F) vs us → ∀ u ∈ us, u.oneCell' = true := by
    intro vs
    induction vs with
    | nil => intro us _ h u hu; simp only [reps] at h; subst h; simp at hu
    | cons v vs ih =>
     intro us hall h u hu
     simp only [List.all_cons, Bool.and_eq_true] at hall
     simp only [reps] at h
     obtain ⟨y, ys, rfl, hy, hys⟩ := h
     rcases List.mem_cons.1 hu with rfl | hu
     ·exact wm_ ho hall.1 hy
     ·exact ih hall.2 hys u hu
   exact this hone j2
  have hl1 : xs.length = old.length := by rw [xw_] at k2; exact k2.length
  have hl2 : ys.length = vs.length := by rw [xw_] at j2; exact j2.length
  refine flat k1 j1 hones (by rw [← hl1, ← hl2]; exact hlen) (by simp) hK (fun m fp' v' _ hr hown => ⟨old ++ vs, hown, ?_⟩)
  have happ : reps (mem cx w H ι F) (xs ++ ys) (old ++ vs) := by
   rw [xw_] at k2 j2 ⊢; exact k2.append j2
  have hk : ∀ {vs : List AV} {us : List Value}, yd_ vs = true → reps (mem cx w H ι F) vs us → reps m vs us := by
   intro vs
   induction vs with
   | nil => intro us _ h; simpa only [reps] using h
   | cons v vs ih =>
    intro us hd h
    simp only [yd_, Bool.and_eq_true] at hd
    simp only [reps] at h ⊢
    obtain ⟨y, ys, h1, hy, hys⟩ := h
    exact ⟨y, ys, h1, by have := hr v y hy; rwa [Yh_ hd.1] at this, ih hd.2 hys⟩
  exact hk hdat happ
 ·exact h.elim
 ·exact h.elim
 ·exact h.elim
 ·exact h.elim
 ·exact h.elim
end
end Go.Aw
namespace Go.Aw
open Go.RowKit
def cpL {α : Type} (xs ys : List α) (lo hi : Nat) : List α := xs.take lo ++ ys.take (hi - lo) ++ xs.drop (lo + min (hi - lo) ys.length)
def bg1 : AV → Option (List AV)
 | .lv vs => some vs
 | _ => none
def am0 (ys : List AV) : Prop := ∀ y ∈ ys, zw_ y = true
def TL_ (P : Program) (H : List (Nat × Tree)) (t : TypeId) (d x : AV) (K : AV → List Nat → List Nat → List (Nat × Tree) → Prop) : Prop :=
 match xz_ P t with
 | .sl e => xv_ P e = true ∧ match (aJ9 H x).bind ab8 with
  | some ys => (match d with
   | .ref id [] => match find H id with
    | some (.t1 xs) => K (.int (min xs.length ys.length : Nat)) [] [] (x8_ H id (.t1 (cpL xs ys 0 xs.length)))
    | _ => False
   | .ref id [r] => match find H id with
    | some (.t2 xss) => K (.int (min (xss.getD r []).length ys.length : Nat)) [] [] (x8_ H id (.t2 (xss.set r (cpL (xss.getD r []) ys 0 (xss.getD r []).length))))
    | _ => False
   | .ref id [r, s] => match find H id with
    | some (.t3 x) => K (.int (min ((x.getD r []).getD s []).length ys.length : Nat)) [] [] (x8_ H id (.t3 (x.set r ((x.getD r []).set s (cpL ((x.getD r []).getD s []) ys 0 ((x.getD r []).getD s []).length)))))
    | _ => False
   | .sub id [] lo hi => match find H id with
    | some (.t1 xs) => K (.int (min (hi - lo) ys.length : Nat)) [] [] (x8_ H id (.t1 (cpL xs ys lo hi)))
    | _ => False
   | .sub id [r] lo hi => match find H id with
    | some (.t2 xss) => K (.int (min (hi - lo) ys.length : Nat)) [] [] (x8_ H id (.t2 (xss.set r (cpL (xss.getD r []) ys lo hi))))
    | _ => False
   | _ => False)
  | none => match (aJ9 H x).bind bg1 with
   | some ys => am0 ys ∧ (∀ y ∈ ys, wh_ H y = true) ∧ (match d with
    | .ref id [] => match find H id with
     | some (.lv xs) => K (.int (min xs.length ys.length : Nat)) [] [] (x8_ H id (.lv (cpL xs ys 0 xs.length)))
     | _ => False
    | .sub id [] lo hi => match find H id with
     | some (.lv xs) => K (.int (min (hi - lo) ys.length : Nat)) [] [] (x8_ H id (.lv (cpL xs ys lo hi)))
     | _ => False
    | _ => False)
   | none => False
 | _ => False
def yt_ (P : Program) (e : TypeId) : Bool :=
 match xj_ P e, xk_ P e with
 | 1, some [.int 0] => true
 | 1, _ => false
 | 2, some [.nil] => true
 | 2, _ => false
 | 3, some [.nil] => true
 | 3, _ => false
 | _, _ => true
theorem Uv_ {P : Program} {e : TypeId} (h : yt_ P e = true) : xk_ P e = (match xj_ P e with | 1 => some [.int 0] | 2 => some [.nil] | 3 => some [.nil] | _ => xk_ P e) := by
 unfold yt_ at h
 split at h <;> first | (cases h; done) | simp_all
def TM_ (P : Program) (H : List (Nat × Tree)) (t t' : TypeId) (s x : AV) (K : AV → List Nat → List Nat → List (Nat × Tree) → Prop) : Prop :=
 match xz_ P t, xz_ P t', x with
 | .sl e, .int, .int n => xv_ P e = true ∧ yt_ P e = true ∧ match target P H e s with
  | some (id, .t1 xs) => xj_ P e = 1 ∧ 0 ≤ n ∧ xs.length + n.toNat ≤ 1099511627776 ∧ K (.ref id []) [id] [] (x8_ (xt_ (qOf [id] []) H) id (.t1 (xs ++ List.replicate n.toNat 0)))
  | some (id, .t2 xs) => xj_ P e = 2 ∧ xs = [] ∧ 0 ≤ n ∧ n.toNat ≤ 1099511627776 ∧ K (.ref id []) [id] [] (x8_ (xt_ (qOf [id] []) H) id (.t2 (List.replicate n.toNat [])))
  | _ => False
 | _, _, _ => False
section
variable {P : Program} {cx : Cx} {H : List (Nat × Tree)} {w : World} {ι : Nat → Value} {F : Nat → List Nat}
theorem Sx_ {α : Type} {xs ys : List α} {lo hi : Nat} (h : min (hi - lo) ys.length = 0) : cpL xs ys lo hi = xs := by
 unfold cpL
 have e : ys.take (hi - lo) = [] := by
  rcases Nat.eq_zero_or_pos ys.length with h2 | h2
  ·rw [List.length_eq_zero_iff.1 h2]; simp
  ·have : hi - lo = 0 := by omega
   rw [this]; simp
 rw [e, h, Nat.add_zero, List.append_nil, List.take_append_drop]
theorem Uw_ (b o n : Nat) : Addr.add ⟨b, o, none⟩ n = ⟨b, o + n, none⟩ := by
 unfold Addr.add
 split <;> simp_all
theorem Ux_ {t t' e : TypeId} (hu : P.underlying t = some (.slice e)) (hs : (P.info? e).map (·.size) = some 1) {fp : List Nat} {xs ys : List Value} {a a' : Option Addr} {n cap m' c' lo hi : Nat} {ux : Value} {S : Nat → Prop}
  (hO : OwnSl w fp xs (.slice a n cap)) (hlo : lo ≤ hi) (hhi : hi ≤ n) (hm : m' = hi - lo) (ha : lo < hi → a' = a.map (·.add lo)) (hsrc : SlC w S ys ux) (hone : ∀ y ∈ ys, y.oneCell' = true) (ty : TypeId) :
  ∃ w', (Builtin.copy_ #[t, t'] ty #[.slice a' m' c', ux]).run P w = .ok (.int .i64 (min (hi - lo) ys.length : Nat)) w' ∧
   ((w' = w ∧ min (hi - lo) ys.length = 0) ∨ ∃ b off, a = some ⟨b, off, none⟩ ∧ b ∈ fp ∧ Turned w w' [b] ∧ (∀ k, k ≠ b → w'.heap[k]? = w.heap[k]?) ∧ OwnSl w' fp (cpL xs ys lo hi) (.slice a n cap)) := by
 subst hm
 have hlen : ∃ sa sc, ux = .slice sa ys.length sc := by
  rcases hsrc with ⟨⟨sa, h1⟩, h2⟩ | ⟨b, off, sc, h1, -⟩
  ·have : ys = [] := h2
   subst this
   exact ⟨sa, 0, h1⟩
  ·exact ⟨some ⟨b, off, none⟩, sc, h1⟩
 by_cases hk : min (hi - lo) ys.length = 0
 ·obtain ⟨sa, sc, rfl⟩ := hlen
  refine ⟨w, ?_, .inl ⟨rfl, hk⟩⟩
  have := run_copy_none (P := P) w t t' ty e a' sa (hi - lo) c' ys.length sc hu hs (by show min ys.length (hi - lo) = 0; omega)
  rw [this, hk]; rfl
 ·have hlt : lo < hi := by omega
  rcases hO with ⟨h1, h2, -⟩ | ⟨b, off, cap', c, E, h1, hfp, hh, hc1, hc2, hc3, hcell⟩
  ·cases h1
   omega
  ·have hnl : n = xs.length := by injection h1
   cases h1
   rcases hsrc with ⟨⟨sa, h3⟩, h4⟩ | ⟨b2, off2, sc, h3, h5, h6, h7, h8⟩
   ·have : ys = [] := h4
    subst this
    simp at hk
   ·have hcs : (ys.take (hi - lo)).length = min (hi - lo) ys.length := by rw [List.length_take]
    have hr := run_copy_row (P := P) w t t' ty e b (off + lo) (hi - lo) c' ⟨b2, off2, none⟩ ys.length sc c E (ys.take (hi - lo)) hu hs hh (by rw [hcs]; show min (hi - lo) ys.length = min ys.length (hi - lo); omega)
     (fun j v hj => by
      rw [List.getElem?_take] at hj
      rw [Uw_]
      split at hj
      ·exact h8 j v hj
      ·cases hj)
     (by rw [hcs]; omega)
     (fun v hv => hone v (List.mem_of_mem_take hv))
    rw [hcs] at hr
    have ha' : a' = some ⟨b, off + lo, none⟩ := by rw [ha hlt]; simp only [Option.map_some, Uw_]
    refine ⟨w.setRow b (c.toList.take (off + lo) ++ ys.take (hi - lo) ++ c.toList.drop (off + lo + min (hi - lo) ys.length)).toArray, ?_, .inr ⟨b, off, rfl, by simp [hfp], (⟨rfl, rfl, rfl, by simp, fun k _ hk => setRow_other w b k _ (by simpa using hk)⟩ : Turned w (w.setRow b _) [b]), fun k hk => setRow_other w b k _ hk, ?_⟩⟩
    ·rw [ha', h3]
     exact hr
    ·have hlc : (cpL xs ys lo hi).length = xs.length := by
      unfold cpL
      simp only [List.length_append, List.length_take, List.length_drop]
      omega
     refine .inr ⟨b, off, cap, _, E, by rw [hlc], hfp, setRow_heap w b _ _ E _ hh, ?_, by rw [hlc]; exact hc2, hc3, fun i u hi' => ?_⟩
     ·simp only [List.size_toArray, List.length_append, List.length_take, List.length_drop, Array.length_toList]
      omega
     ·have ei : cpL xs ys lo hi = xs.take lo ++ ys.take (hi - lo) ++ xs.drop (lo + min (hi - lo) ys.length) := rfl
      rw [ei] at hi'
      rw [List.getElem?_toArray]
      have l1 : (xs.take lo).length = lo := by rw [List.length_take]; omega
      have l2 : (c.toList.take (off + lo)).length = off + lo := by rw [List.length_take, Array.length_toList]; omega
      by_cases q1 : i < lo
      ·rw [List.append_assoc, List.getElem?_append_left (by omega), List.getElem?_take, if_pos q1] at hi'
       rw [List.append_assoc, List.getElem?_append_left (by omega), List.getElem?_take, if_pos (by omega), Array.getElem?_toList]
       exact hcell i u hi'
      ·by_cases q2 : i < lo + min (hi - lo) ys.length
       ·rw [List.append_assoc, List.getElem?_append_right (by omega), l1, List.getElem?_append_left (by rw [hcs]; omega)] at hi'
        rw [List.append_assoc, List.getElem?_append_right (by omega), l2, List.getElem?_append_left (by rw [hcs]; omega)]
        have : off + i - (off + lo) = i - lo := by omega
        rw [this]
        exact hi'
       ·rw [List.append_assoc, List.getElem?_append_right (by omega), l1, List.getElem?_append_right (by rw [hcs]; omega), hcs, List.getElem?_drop] at hi'
        rw [List.append_assoc, List.getElem?_append_right (by omega), l2, List.getElem?_append_right (by rw [hcs]; omega), hcs, List.getElem?_drop, Array.getElem?_toList]
        have e1 : lo + min (hi - lo) ys.length + (i - lo - min (hi - lo) ys.length) = i := by omega
        have e2 : off + lo + min (hi - lo) ys.length + (off + i - (off + lo) - min (hi - lo) ys.length) = off + i := by omega
        rw [e1] at hi'
        rw [e2]
        exact hcell i u hi'
theorem am1 (xs ys : List Int) (lo hi : Nat) : ints (cpL xs ys lo hi) = cpL (ints xs) (ints ys) lo hi := by simp [ints, cpL]
theorem XK_ {t t' e : TypeId} (hu : P.underlying t = some (.slice e)) (hs : (P.info? e).map (·.size) = some 1) {fp : List Nat} {xs ys : List Int} {a a' : Option Addr} {n cap m' c' lo hi : Nat} {ux : Value} {S : Nat → Prop}
  (hO : O1 w fp xs (.slice a n cap)) (hlo : lo ≤ hi) (hhi : hi ≤ n) (hm : m' = hi - lo) (ha : lo < hi → a' = a.map (·.add lo)) (hsrc : L1 w S ys ux) (ty : TypeId) :
  ∃ w', (Builtin.copy_ #[t, t'] ty #[.slice a' m' c', ux]).run P w = .ok (.int .i64 (min (hi - lo) ys.length : Nat)) w' ∧
   ((w' = w ∧ cpL xs ys lo hi = xs) ∨ ∃ b off, a = some ⟨b, off, none⟩ ∧ b ∈ fp ∧ Turned w w' [b] ∧ (∀ k, k ≠ b → w'.heap[k]? = w.heap[k]?) ∧ O1 w' fp (cpL xs ys lo hi) (.slice a n cap)) := by
 have hyl : (ints ys).length = ys.length := by simp [ints]
 obtain ⟨w', h1, h2⟩ := Ux_ (P := P) (t' := t') (c' := c') hu hs hO.1 hlo hhi hm ha hsrc.1 (fun y hy => by
  simp only [ints, List.mem_map] at hy
  obtain ⟨x, -, rfl⟩ := hy
  rfl) ty
 rw [hyl] at h1
 refine ⟨w', h1, ?_⟩
 rcases h2 with ⟨e1, e2⟩ | ⟨b, off, k1, k2, k3, k4, k5⟩
 ·exact .inl ⟨e1, Sx_ (by rw [hyl] at e2; exact e2)⟩
 ·refine .inr ⟨b, off, k1, k2, k3, k4, by rw [am1]; exact k5, fun x hx => ?_⟩
  unfold cpL at hx
  simp only [List.mem_append] at hx
  rcases hx with (hx | hx) | hx
  ·exact hO.2 x (List.mem_of_mem_take hx)
  ·exact hsrc.2 x (List.mem_of_mem_take hx)
  ·exact hO.2 x (List.mem_of_mem_drop hx)
theorem Zz_ : ∀ {H : List (Nat × Tree)} {id : Nat} {t : Tree}, find H id = some t → x8_ H id t = H
 | [], _, _, h => by simp [find] at h
 | (k, x) :: r, id, t, h => by
  unfold x8_
  by_cases e : k = id
  ·subst e
   simp only [find, if_true, Option.some.injEq] at h
   simp [h]
  ·simp only [find, if_neg e] at h
   simp [e, Zz_ h]
theorem am2 {w : World} {us : List Value} {fp : List Nat} {v : Value} (h : OwnSl w fp us v) : ∃ a cap, v = .slice a us.length cap ∧ us.length ≤ cap := by
 rcases h with ⟨h1, h2, -⟩ | ⟨b, off, cap, c, E, h1, -, -, -, h2, -⟩
 ·exact ⟨none, 0, by rw [h1, h2]; rfl, by simp [h2]⟩
 ·exact ⟨_, cap, h1, h2⟩
theorem wi_ {α : Type} (l : List α) (r : Nat) (d : α) : l.set r (l.getD r d) = l := by
 apply List.ext_getElem?
 intro i
 rw [List.getElem?_set]
 split
 ·rename_i e
  subst e
  split
  ·rename_i h
   rw [List.getElem?_eq_getElem h]
   simp [List.getD, h]
  ·rename_i h
   rw [List.getElem?_eq_none (by omega)]
 ·rfl
theorem K3_ (ho : Owns cx H w ι F) {t t' e : TypeId} (hk : xz_ P t = .sl e) (he : xv_ P e = true) {ud ux : Value} {ys : List AV} {K : AV → List Nat → List Nat → List (Nat × Tree) → Prop} {id lo hi m' c' n cap : Nat} {xs : List AV} {a' a : Option Addr}
  (hsrc : ∃ us, SlC w (zK_ cx w) us ux ∧ us.length = ys.length ∧ (∀ u ∈ us, u.oneCell' = true) ∧ ∀ m, reps m ys us)
  (hf : find H id = some (.lv xs)) (hud : ud = .slice a' m' c') (hι : ι id = .slice a n cap) (hlo : lo ≤ hi) (hhi : hi ≤ n) (hm : m' = hi - lo) (ha : lo < hi → a' = a.map (·.add lo))
  (hK : K (.int (min (hi - lo) ys.length : Nat)) [] [] (x8_ H id (.lv (cpL xs ys lo hi)))) (ty : TypeId) : ∃ u w', (Builtin.copy_ #[t, t'] ty #[ud, ux]).run P w = .ok u w' ∧ Left cx H w ι F u w' K := by
 obtain ⟨i, z, hi', h1, hby, hz, hzo, hzc⟩ := zh_ he
 have htu := (YZ_ hk).1
 have hs : (P.info? e).map (·.size) = some 1 := by simp [hi', h1]
 obtain ⟨vs, s1, s2, s3, s4⟩ := hsrc
 have ht := ho.trees _ (xc_ hf)
 simp only [treeRep, mem] at ht
 obtain ⟨us, k1, k2⟩ := ht
 rw [hι] at k1
 have hn : n = us.length := k1.cap.1
 subst hud
 obtain ⟨w', r1, r2⟩ := Ux_ (P := P) (t' := t') (c' := c') htu hs k1 hlo hhi hm ha s1 s3 ty
 rw [s2] at r1
 have hin : InR ((min (hi - lo) ys.length : Nat) : Int) := by
  apply Xo_
  have := zL_ k1
  omega
 have live : TF_ cx H w ι F w' (fun a b c => K (.int (min (hi - lo) ys.length : Nat)) a b c) → Left cx H w ι F (.int .i64 (min (hi - lo) ys.length : Nat)) w' K := by
  intro h
  obtain ⟨all, subs, H', ι', F', k1, k2, k3⟩ := h
  exact ⟨.int (min (hi - lo) ys.length : Nat), all, subs, H', ι', F', k1, k2, by simp only [rep]; exact ⟨trivial, hin⟩, k3⟩
 have hlen : xs.length = us.length := by rw [xw_] at k2; exact k2.length
 have hcp : ∀ m : Mem, reps m xs us → reps m (cpL xs ys lo hi) (cpL us vs lo hi) := by
  intro m hx
  have hy := s4 m
  rw [xw_] at hx hy ⊢
  unfold cpL
  rw [s2]
  exact ((hx.take lo).append (hy.take (hi - lo))).append (hx.drop _)
 refine ⟨_, w', r1, live ?_⟩
 rcases r2 with ⟨rfl, r2⟩ | ⟨b, off, q2, q3, q4, q5, q6⟩
 ·rw [Sx_ (by rw [s2] at r2; exact r2), Zz_ hf] at hK
  exact ⟨[], [], H, ι, F, hK, ho, fun av x hr => by rw [yl_]; exact hr⟩
 ·refine ho.same (t' := .lv (cpL xs ys lo hi)) hf q3 q4 (fp' := F id) (all := []) (subs := []) (by simp) (xu_ ho hf) (fun x hx => .inl hx) (fun p hl _ => ?_) (fun m hm' hr => ?_) (by rw [yL_, yH_]; exact hK)
  ·cases p with
   | nil => exact ⟨rfl, fun u hu => by simpa [xl_] using hu⟩
   | cons _ _ => simp [xq_] at hl
  ·have hr' : ∀ av x, rep (mem cx w H ι F) av x → rep m av x := fun av x h => by have := hr av x h; rwa [yl_] at this
   simp only [treeRep]
   rw [hm', hι]
   exact ⟨cpL us vs lo hi, q6, hcp m (zr_ hr' k2)⟩
theorem K4_ (ho : Owns cx H w ι F) {t t' : TypeId} {d x : AV} {ud ux : Value} {K : AV → List Nat → List Nat → List (Nat × Tree) → Prop} (h : TL_ P H t d x K)
  (hd : rep (mem cx w H ι F) d ud) (hx : rep (mem cx w H ι F) x ux) (ty : TypeId) :
  ∃ u w', (Builtin.copy_ #[t, t'] ty #[ud, ux]).run P w = .ok u w' ∧ Left cx H w ι F u w' K := by
 unfold TL_ at h
 split at h <;> first | exact h.elim | skip
 rename_i e hk
 obtain ⟨he, h⟩ := h
 obtain ⟨i, z, hi, h1, hby, hz, hzo, hzc⟩ := zh_ he
 have htu := (YZ_ hk).1
 have hs : (P.info? e).map (·.size) = some 1 := by simp [hi, h1]
 split at h
 rotate_left
 ·split at h <;> first | exact h.elim | skip
  rename_i ys hys
  obtain ⟨dx, hdx, hl1⟩ := Option.bind_eq_some_iff.1 hys
  obtain ⟨hmf, hone, h⟩ := h
  have hsrc : ∃ us, SlC w (zK_ cx w) us ux ∧ us.length = ys.length ∧ (∀ u ∈ us, u.oneCell' = true) ∧ ∀ m, reps m ys us := by
   have hr := Vi_ ho hdx hx
   unfold bg1 at hl1
   split at hl1 <;> first | (cases hl1; done) | skip
   cases hl1
   simp only [Rd, rep] at hr
   obtain ⟨us, q1, q2⟩ := hr
   have q3 : ∀ m, reps m ys us := by
    intro m
    rw [xw_] at q2 ⊢
    refine All2.of_get q2.length fun i a b ha hb => ?_
    obtain ⟨b', hb', hr'⟩ := q2.get i a ha
    rw [hb] at hb'
    cases hb'
    exact yU_ (hmf a (List.mem_of_getElem? ha)) hr'
   have q4 := q3 (mem cx w H ι F)
   rw [xw_] at q4
   refine ⟨us, q1, q4.length.symm, fun u hu => ?_, q3⟩
   obtain ⟨i, hi⟩ := List.getElem?_of_mem hu
   have hil : i < ys.length := by rw [q4.length]; exact (List.getElem?_eq_some_iff.1 hi).1
   obtain ⟨b', hb', hr'⟩ := q4.get i _ (getD_some (d := .junk) hil)
   rw [hi] at hb'
   cases hb'
   exact wm_ ho (hone _ (getD_mem hil)) hr'
  split at h <;> first | exact h.elim | skip
  ·rename_i id
   split at h <;> first | exact h.elim | skip
   rename_i xs hf
   simp only [rep, mem, xl_, Option.some.injEq] at hd
   have ht := ho.trees _ (xc_ hf)
   simp only [treeRep, mem] at ht
   obtain ⟨us, k1, k2⟩ := ht
   obtain ⟨a, cap, g1, -⟩ := am2 k1
   have hn : xs.length = us.length := by rw [xw_] at k2; exact k2.length
   refine K3_ (lo := 0) (hi := xs.length) (c' := cap) ho hk he hsrc hf (by rw [← hd.2, g1]) g1 (by omega) (by omega) (by omega) (fun _ => ?_) (by simpa using h) ty
   cases a <;> simp [Addr.add]
  ·rename_i id lo hi
   split at h <;> first | exact h.elim | skip
   rename_i xs hf
   simp only [rep, mem, xl_, Option.some.injEq] at hd
   obtain ⟨-, a, n, cap, a', g1, g2, g3, -, ga, g4⟩ := hd
   exact K3_ ho hk he hsrc hf g4 g1 g2 g3 rfl (fun hlt => by
    obtain ⟨j, -, hj, rfl⟩ := ga
    have ht := ho.trees _ (xc_ hf)
    simp only [treeRep, mem] at ht
    obtain ⟨us, k1, k2⟩ := ht
    have hc := (g1 ▸ k1 : OwnSl w (F id) us (.slice a n cap)).cap.2
    rw [hj (by omega)]) h ty
 rename_i ys hys
 obtain ⟨dx, hdx, hl1⟩ := Option.bind_eq_some_iff.1 hys
 have hsrc : L1 w (zK_ cx w) ys ux := w8_ hl1 (Vi_ ho hdx hx)
 have live : ∀ {k : Int} {w' : World}, InR k → TF_ cx H w ι F w' (fun a b c => K (.int k) a b c) → Left cx H w ι F (.int .i64 k) w' K := by
  intro k w' hk h
  obtain ⟨all, subs, H', ι', F', k1, k2, k3⟩ := h
  exact ⟨.int k, all, subs, H', ι', F', k1, k2, by simp only [rep]; exact ⟨trivial, hk⟩, k3⟩
 have still : ∀ {id : Nat} {t0 : Tree} {K' : List Nat → List Nat → List (Nat × Tree) → Prop}, find H id = some t0 → K' [] [] (x8_ H id t0) → TF_ cx H w ι F w K' := by
  intro id t0 K' hf hK
  rw [Zz_ hf] at hK
  exact ⟨[], [], H, ι, F, hK, ho, fun av x hr => by rw [yl_]; exact hr⟩
 have hr : ∀ {xs : List Int} {fp : List Nat} {v : Value} {lo hi : Nat}, O1 w fp xs v → hi ≤ xs.length → InR ((min (hi - lo) ys.length : Nat) : Int) := by
  intro xs fp v lo hi h1 h2
  apply Xo_
  have := zL_ h1.1
  simp only [ints, List.length_map] at this
  omega
 -- a row of its own
 have one : ∀ {id lo hi m' c' : Nat} {xs : List Int} {a' a : Option Addr} {n cap : Nat}, find H id = some (.t1 xs) → ud = .slice a' m' c' → ι id = .slice a n cap → lo ≤ hi → hi ≤ n → m' = hi - lo → (lo < hi → a' = a.map (·.add lo)) →
   K (.int (min (hi - lo) ys.length : Nat)) [] [] (x8_ H id (.t1 (cpL xs ys lo hi))) → ∃ u w', (Builtin.copy_ #[t, t'] ty #[ud, ux]).run P w = .ok u w' ∧ Left cx H w ι F u w' K := by
  intro id lo hi m' c' xs a' a n cap hf hud hι hlo hhi hm ha hK
  have ht : O1 w (F id) xs (ι id) := by have := ho.trees _ (xc_ hf); simpa only [treeRep, mem] using this
  rw [hι] at ht
  have hn : n = xs.length := by have := ht.1.cap.1; simpa [ints] using this
  subst hud
  obtain ⟨w', k1, k2⟩ := XK_ (P := P) (t' := t') (c' := c') htu hs ht hlo hhi hm ha hsrc ty
  refine ⟨_, w', k1, live (hr ht (by omega)) ?_⟩
  rcases k2 with ⟨rfl, k2⟩ | ⟨b, off, k2, k3, k4, k4', k5⟩
  ·rw [k2] at hK
   exact still hf hK
  ·refine ho.same (t' := .t1 (cpL xs ys lo hi)) hf k3 k4 (fp' := F id) (all := []) (subs := []) (by simp) (xu_ ho hf) (fun x hx => .inl hx) (fun p hl _ => ?_) (fun m hm' _ => by simp only [treeRep]; rw [hm', hι]; exact k5) (by rw [yL_, yH_]; exact hK)
   cases p with
   | nil => exact ⟨rfl, fun u hu => by simpa [xl_] using hu⟩
   | cons _ _ => simp [xq_] at hl
 have two : ∀ {id r lo hi m' c' : Nat} {xss : List (List Int)} {a' a : Option Addr} {n cap : Nat}, find H id = some (.t2 xss) → ud = .slice a' m' c' → xl_ w (ι id) [r] = some (.slice a n cap) → lo ≤ hi → hi ≤ n → m' = hi - lo → (lo < hi → a' = a.map (·.add lo)) →
   K (.int (min (hi - lo) ys.length : Nat)) [] [] (x8_ H id (.t2 (xss.set r (cpL (xss.getD r []) ys lo hi)))) → ∃ u w', (Builtin.copy_ #[t, t'] ty #[ud, ux]).run P w = .ok u w' ∧ Left cx H w ι F u w' K := by
  intro id r lo hi m' c' xss a' a n cap hf hud hp hlo hhi hm ha hK
  have ht : ON O1 w (F id) xss (ι id) := by have := ho.trees _ (xc_ hf); simp only [treeRep, mem] at this; exact this
  obtain ⟨f, hfn, hrow⟩ : ∃ f : List Nat, f.Nodup ∧ O1 w f (xss.getD r []) (.slice a n cap) := by
   obtain ⟨us, f0, fs, g1, g2, g3⟩ := ht
   obtain ⟨y, hy, hyp⟩ := g1.row hp
   simp only [xl_, Option.some.injEq] at hyp; subst hyp
   have hl : r < xss.length := by rw [g2.length.2]; exact (List.getElem?_eq_some_iff.1 hy).1
   obtain ⟨f, c, hff, hc, hr⟩ := g2.get r _ (getD_some (d := []) hl)
   rw [hy] at hc; cases hc
   have hn := xu_ ho hf
   rw [g3, List.nodup_append] at hn
   exact ⟨f, x9_ hn.2.1 hff, hr⟩
  have hn : n = (xss.getD r []).length := by have := hrow.1.cap.1; simpa [ints] using this
  subst hud
  obtain ⟨w', k1, k2⟩ := XK_ (P := P) (t' := t') (c' := c') htu hs hrow hlo hhi hm ha hsrc ty
  refine ⟨_, w', k1, live (hr hrow (by omega)) ?_⟩
  rcases k2 with ⟨rfl, k2⟩ | ⟨b, off, k2, k3, k4, k4', k5⟩
  ·rw [k2, wi_] at hK
   exact still hf hK
  ·have hin : ∀ f, f.Nodup → O1 w f (xss.getD r []) (.slice a n cap) → b ∈ f ∧ O1 w' f (cpL (xss.getD r []) ys lo hi) (.slice a n cap) := by
    intro f' hn' hr'
    obtain ⟨w'', j1, j2⟩ := XK_ (P := P) (t' := t') (c' := c') htu hs hr' hlo hhi hm ha hsrc ty
    rw [k1] at j1
    injection j1 with _ j1
    subst j1
    have hf' : f' = f := by
     rcases hr'.1 with ⟨q1, -, -⟩ | ⟨b1, o1, c1, _, _, q1, q2, -⟩
     ·cases q1; cases k2
     ·rcases hrow.1 with ⟨p1, -, -⟩ | ⟨b3, o3, c3, _, _, p1, p2, -⟩
      ·cases p1; cases k2
      ·rw [q1] at p1
       simp only [Value.slice.injEq, Option.some.injEq, Addr.mk.injEq] at p1
       rw [q2, p2, p1.1.1]
    subst hf'
    exact ⟨k3, k5⟩
   obtain ⟨q1, q2, q3⟩ := zZ_ (R := O1) (w' := w') (d := []) (a' := cpL (xss.getD r []) ys lo hi) (fun h h' => O1.heap h h') ht (xu_ ho hf) hp k4' hin
   refine ho.same (t' := .t2 (xss.set r (cpL (xss.getD r []) ys lo hi))) hf q1 k4 (fp' := F id) (all := []) (subs := []) (by simp) (xu_ ho hf) (fun x hx => .inl hx) (fun p hl _ => ?_) (fun m hm' _ => by simp only [treeRep]; rw [hm']; exact q2) (by rw [yL_, yH_]; exact hK)
   match p, hl with
   | [], _ => exact ⟨rfl, fun u hu => by simpa [xl_] using hu⟩
   | [j], _ => exact ⟨rfl, fun u hu => q3 j u hu⟩
   | _ :: _ :: _, hl => simp [xq_] at hl
 have three : ∀ {id r s c' : Nat} {x : List (List (List Int))} {a : Option Addr} {n cap : Nat}, find H id = some (.t3 x) → ud = .slice a n c' → xl_ w (ι id) [r, s] = some (.slice a n cap) →
   K (.int (min ((x.getD r []).getD s []).length ys.length : Nat)) [] [] (x8_ H id (.t3 (x.set r ((x.getD r []).set s (cpL ((x.getD r []).getD s []) ys 0 ((x.getD r []).getD s []).length))))) → ∃ u w', (Builtin.copy_ #[t, t'] ty #[ud, ux]).run P w = .ok u w' ∧ Left cx H w ι F u w' K := by
  intro id r s c' x a n cap hf hud hp hK
  have ht : ON O2 w (F id) x (ι id) := by have := ho.trees _ (xc_ hf); simp only [treeRep, mem] at this; exact this
  obtain ⟨br, offr, nr, capr, xr, hroot, hri, hrc, hrx⟩ := xB_ hp
  have hrow1 : xl_ w (ι id) [r] = some xr := by rw [hroot, xJ_ hri hrc]; simp [xl_]
  obtain ⟨f, hfn, hmat⟩ : ∃ f : List Nat, f.Nodup ∧ ON O1 w f (x.getD r []) xr := by
   obtain ⟨us, f0, fs, g1, g2, g3⟩ := ht
   obtain ⟨y, hy, hyp⟩ := g1.row hrow1
   simp only [xl_, Option.some.injEq] at hyp; subst hyp
   have hl : r < x.length := by rw [g2.length.2]; exact (List.getElem?_eq_some_iff.1 hy).1
   obtain ⟨f, c, hff, hc, hr⟩ := g2.get r _ (getD_some (d := []) hl)
   rw [hy] at hc; cases hc
   have hn := xu_ ho hf
   rw [g3, List.nodup_append] at hn
   exact ⟨f, x9_ hn.2.1 hff, hr⟩
  obtain ⟨f2, hf2n, hrow⟩ : ∃ f2 : List Nat, f2.Nodup ∧ O1 w f2 ((x.getD r []).getD s []) (.slice a n cap) := by
   obtain ⟨us, f0, fs, g1, g2, g3⟩ := hmat
   obtain ⟨y, hy, hyp⟩ := g1.row hrx
   simp only [xl_, Option.some.injEq] at hyp; subst hyp
   have hl : s < (x.getD r []).length := by rw [g2.length.2]; exact (List.getElem?_eq_some_iff.1 hy).1
   obtain ⟨f', c, hff, hc, hr⟩ := g2.get s _ (getD_some (d := []) hl)
   rw [hy] at hc; cases hc
   rw [g3, List.nodup_append] at hfn
   exact ⟨f', x9_ hfn.2.1 hff, hr⟩
  have hn : n = ((x.getD r []).getD s []).length := by have := hrow.1.cap.1; simpa [ints] using this
  subst hud
  obtain ⟨w', k1, k2⟩ := XK_ (P := P) (t' := t') (c' := c') (lo := 0) (hi := n) (a' := a) (m' := n) htu hs hrow (Nat.zero_le _) (Nat.le_refl _) rfl (fun _ => by cases a <;> simp [Addr.add]) hsrc ty
  have em : (min (n - 0) ys.length : Nat) = min ((x.getD r []).getD s []).length ys.length := by omega
  refine ⟨_, w', k1, live (hr hrow (by omega)) ?_⟩
  rw [em]
  rw [← hn] at hK ⊢
  rcases k2 with ⟨rfl, k2⟩ | ⟨b, off, k2, k3, k4, k4', k5⟩
  ·rw [k2, wi_, wi_] at hK
   exact still hf hK
  ·have hin : ∀ f, f.Nodup → O1 w f ((x.getD r []).getD s []) (.slice a n cap) → b ∈ f ∧ O1 w' f (cpL ((x.getD r []).getD s []) ys 0 n) (.slice a n cap) := by
    intro f' hn' hr'
    have hf' : f' = f2 := by
     rcases hr'.1 with ⟨q1, -, -⟩ | ⟨b1, o1, c1, _, _, q1, q2, -⟩
     ·cases q1; cases k2
     ·rcases hrow.1 with ⟨p1, -, -⟩ | ⟨b3, o3, c3, _, _, p1, p2, -⟩
      ·cases p1; cases k2
      ·rw [q1] at p1
       simp only [Value.slice.injEq, Option.some.injEq, Addr.mk.injEq] at p1
       rw [q2, p2, p1.1.1]
    subst hf'
    exact ⟨k3, k5⟩
   have inner : ∀ f, f.Nodup → O2 w f (x.getD r []) xr → b ∈ f ∧ O2 w' f ((x.getD r []).set s (cpL ((x.getD r []).getD s []) ys 0 n)) xr ∧ ∀ j u, xl_ w xr [j] = some u → xl_ w' xr [j] = some u := by
    intro f hfn hr
    exact zZ_ (R := O1) (w' := w') (d := []) (a' := cpL ((x.getD r []).getD s []) ys 0 n) (fun h h' => O1.heap h h') (show ON O1 w f (x.getD r []) xr from hr) hfn hrx k4' hin
   obtain ⟨q1, q2, q3⟩ := zZ_ (R := O2) (w' := w') (d := []) (a' := (x.getD r []).set s (cpL ((x.getD r []).getD s []) ys 0 n)) (fun h h' => O2.heap h h') ht (xu_ ho hf) hrow1 k4' (fun f hfn hr => ⟨(inner f hfn hr).1, (inner f hfn hr).2.1⟩)
   refine ho.same (t' := .t3 (x.set r ((x.getD r []).set s (cpL ((x.getD r []).getD s []) ys 0 n)))) hf q1 k4 (fp' := F id) (all := []) (subs := []) (by simp) (xu_ ho hf) (fun x hx => .inl hx) (fun p hl _ => ?_) (fun m hm' _ => by simp only [treeRep]; rw [hm']; exact q2) (by rw [yL_, yH_]; exact hK)
   match p, hl with
   | [], _ => exact ⟨rfl, fun u hu => by simpa [xl_] using hu⟩
   | [j], _ => exact ⟨rfl, fun u hu => q3 j u hu⟩
   | [j, l], _ =>
    refine ⟨rfl, fun u hu => ?_⟩
    obtain ⟨bj, offj, nj, capj, xj, hroot', hji, hjc, hjx⟩ := xB_ hu
    have hj1 : xl_ w (ι id) [j] = some xj := by rw [hroot', xJ_ hji hjc]; simp [xl_]
    have hj2 := q3 j xj hj1
    obtain ⟨bj', offj', nj', capj', xj', hroot'', hji', hjc', hjx'⟩ := xB_ hj2
    rw [hroot''] at hroot'; cases hroot'
    simp only [xl_, Option.some.injEq] at hjx'; subst hjx'
    rw [hroot'', xJ_ hji hjc']
    obtain ⟨us, f0, fs, h1', h2', h3'⟩ := ht
    obtain ⟨y, hy, hyp⟩ := h1'.row hj1
    simp only [xl_, Option.some.injEq] at hyp; subst hyp
    have hl : j < x.length := by rw [h2'.length.2]; exact (List.getElem?_eq_some_iff.1 hy).1
    obtain ⟨f, c, hff, hc, hr⟩ := h2'.get j _ (getD_some (d := []) hl)
    rw [hy] at hc; cases hc
    have hn2 := xu_ ho hf
    rw [h3', List.nodup_append] at hn2
    by_cases hjr : j = r
    ·subst hjr
     rw [hrow1] at hj1; cases hj1
     exact (inner f (x9_ hn2.2.1 hff) hr).2.2 l u hjx
    ·obtain ⟨us2, g0, gs, p1, p2, p3⟩ := hr
     obtain ⟨b2, off2, n2, cap2, x2, rfl, hi2, hc2, hx2⟩ := xB_ hjx
     have hg0 := p1.at.1
     have hbne : b2 ≠ b := by
      intro e
      subst e
      obtain ⟨y', hy', hyp'⟩ := h1'.row hrow1
      simp only [xl_, Option.some.injEq] at hyp'; subst hyp'
      have hl' : r < x.length := by rw [h2'.length.2]; exact (List.getElem?_eq_some_iff.1 hy').1
      obtain ⟨f', c', hff', hc', hr'⟩ := h2'.get r _ (getD_some (d := []) hl')
      rw [hy'] at hc'; cases hc'
      exact yj_ hn2.2.1 hff hff' hjr (by rw [p3, hg0]; simp) (inner f' (x9_ hn2.2.1 hff') hr').1
     rw [xJ_ hi2 (by rw [cell_of_heap (k4' b2 hbne)]; exact hc2)]
     simpa [xl_] using hx2
   | _ :: _ :: _ :: _, hl => simp [xq_] at hl
 split at h <;> first | exact h.elim | skip
 ·rename_i id
  split at h <;> first | exact h.elim | skip
  rename_i xs hf
  simp only [rep, mem, xl_, Option.some.injEq] at hd
  have ht : O1 w (F id) xs (ι id) := by have := ho.trees _ (xc_ hf); simpa only [treeRep, mem] using this
  obtain ⟨a, cap, g1, -⟩ := am2 ht.1
  have hn : (ints xs).length = xs.length := by simp [ints]
  refine one (lo := 0) (hi := xs.length) (c' := cap) hf (by rw [← hd.2, g1]) g1 (by omega) (by omega) (by omega) (fun _ => ?_) (by simpa using h)
  cases a <;> simp [Addr.add]
 ·rename_i id r
  split at h <;> first | exact h.elim | skip
  rename_i xss hf
  simp only [rep, mem] at hd
  have ht : ON O1 w (F id) xss (ι id) := by have := ho.trees _ (xc_ hf); simp only [treeRep, mem] at this; exact this
  obtain ⟨us, f0, fs, g1, g2, g3⟩ := ht
  obtain ⟨y, hy, hyp⟩ := g1.row hd.2
  simp only [xl_, Option.some.injEq] at hyp; subst hyp
  have hl : r < xss.length := by rw [g2.length.2]; exact (List.getElem?_eq_some_iff.1 hy).1
  obtain ⟨f, c, hff, hc, hr'⟩ := g2.get r _ (getD_some (d := []) hl)
  rw [hy] at hc; cases hc
  obtain ⟨a, cap, q1, -⟩ := am2 hr'.1
  have hn : (ints (xss.getD r [])).length = (xss.getD r []).length := by simp [ints]
  refine two (lo := 0) (hi := (xss.getD r []).length) (c' := cap) hf q1 (by rw [hd.2, q1]) (by omega) (by omega) (by omega) (fun _ => ?_) (by simpa using h)
  cases a <;> simp [Addr.add]
 ·rename_i id r s
  split at h <;> first | exact h.elim | skip
  rename_i x hf
  simp only [rep, mem] at hd
  have ht : ON O2 w (F id) x (ι id) := by have := ho.trees _ (xc_ hf); simp only [treeRep, mem] at this; exact this
  obtain ⟨us, f0, fs, g1, g2, g3⟩ := ht
  obtain ⟨br, offr, nr, capr, xr, hroot, hri, hrc, hrx⟩ := xB_ hd.2
  have hrow1 : xl_ w (ι id) [r] = some xr := by rw [hroot, xJ_ hri hrc]; simp [xl_]
  obtain ⟨y, hy, hyp⟩ := g1.row hrow1
  simp only [xl_, Option.some.injEq] at hyp; subst hyp
  have hl : r < x.length := by rw [g2.length.2]; exact (List.getElem?_eq_some_iff.1 hy).1
  obtain ⟨f, c, hff, hc, hr'⟩ := g2.get r _ (getD_some (d := []) hl)
  rw [hy] at hc; cases hc
  obtain ⟨us2, f02, fs2, p1, p2, p3⟩ := hr'
  obtain ⟨y2, hy2, hyp2⟩ := p1.row hrx
  simp only [xl_, Option.some.injEq] at hyp2; subst hyp2
  have hl2 : s < (x.getD r []).length := by rw [p2.length.2]; exact (List.getElem?_eq_some_iff.1 hy2).1
  obtain ⟨f', c', hff', hc', hr2⟩ := p2.get s _ (getD_some (d := []) hl2)
  rw [hy2] at hc'; cases hc'
  obtain ⟨a, cap, q1, -⟩ := am2 hr2.1
  exact three (c' := cap) hf q1 (by rw [hd.2, q1]) h
 ·rename_i id lo hi
  split at h <;> first | exact h.elim | skip
  rename_i xs hf
  simp only [rep, mem, xl_, Option.some.injEq] at hd
  obtain ⟨-, a, n, cap, a', g1, g2, g3, -, ga, g4⟩ := hd
  have ht : O1 w (F id) xs (ι id) := by have := ho.trees _ (xc_ hf); simpa only [treeRep, mem] using this
  have hc := (g1 ▸ ht : O1 w (F id) xs (.slice a n cap)).1.cap.2
  exact one hf g4 g1 g2 g3 rfl (fun hlt => by obtain ⟨j, -, hj, rfl⟩ := ga; rw [hj (by omega)]) h
 ·rename_i id r lo hi
  split at h <;> first | exact h.elim | skip
  rename_i xss hf
  simp only [rep, mem] at hd
  obtain ⟨-, a, n, cap, a', g1, g2, g3, -, ga, g4⟩ := hd
  have ht : ON O1 w (F id) xss (ι id) := by have := ho.trees _ (xc_ hf); simp only [treeRep, mem] at this; exact this
  obtain ⟨us, f0, fs, p1, p2, p3⟩ := ht
  obtain ⟨y, hy, hyp⟩ := p1.row g1
  simp only [xl_, Option.some.injEq] at hyp; subst hyp
  have hl : r < xss.length := by rw [p2.length.2]; exact (List.getElem?_eq_some_iff.1 hy).1
  obtain ⟨f, c, hff, hc, hr'⟩ := p2.get r _ (getD_some (d := []) hl)
  rw [hy] at hc; cases hc
  have hcap := hr'.1.cap.2
  exact two hf g4 g1 g2 g3 rfl (fun hlt => by obtain ⟨j, -, hj, rfl⟩ := ga; rw [hj (by omega)]) h
theorem as7 (z : Value) (n : Nat) : Builtin.zeroCells #[z] n = (List.replicate n z).toArray := by
 apply Array.ext
 ·simp [Builtin.zeroCells]
 ·intro i h1 h2
  simp [Builtin.zeroCells, Nat.mod_one]
theorem Sy_ {t : Nat} (h : xz_ P t = .int) : P.underlying t = some (.int .i64) := WO_ h
theorem Sz_ {t t' e : TypeId} {i : TypeInfo} {z : Value} (ht : P.underlying t = some (.slice e)) (ht' : P.underlying t' = some (.int .i64)) (hi : P.info? e = some i) (hz : i.zero = some z) (h1 : i.size = 1) (hzs : z.cells = #[z]) (hby : i.bytes ≤ 64)
  {fp : List Nat} {us : List Value} {v : Value} {n : Nat} (ho : OwnSl w fp us v) (hone : z.oneCell' = true)
  (hlen : us.length + n ≤ 1099511627776) (hfpl : ∀ b ∈ fp, b < w.heap.size) (ty : TypeId) :
  ∃ v' w' fp', (Builtin.append_ #[t, t'] ty #[v, .int .i64 (n : Int)]).run P w = .ok v' w' ∧ OwnSl w' fp' (us ++ List.replicate n z) v' ∧ Turned w w' fp ∧ fp'.Nodup ∧ (∀ b ∈ fp', b < w'.heap.size ∧ (b ∈ fp ∨ w.heap.size ≤ b)) := by
 obtain ⟨va, vn, vc, hv, hvn⟩ := Za_ ho
 subst hvn
 have hcap := (hv ▸ ho).cap
 have hwr : IntKind.i64.wrap (n : Int) = n := by
  apply wrap_in
  constructor <;> omega
 have hneg : ¬ ((n : Int) < 0) := by omega
 have hbytes : (us.length + n) * i.bytes ≤ 140737488355328 := Nat.le_trans (Nat.mul_le_mul hlen hby) (by decide)
 have hb2 : n * i.bytes ≤ 140737488355328 := Nat.le_trans (Nat.mul_le_mul_right _ (by omega)) hbytes
 have hb3 : ¬ (281474976710656 < (n : Int) * (i.bytes : Int)) := by
  have : (n : Int) * (i.bytes : Int) = ((n * i.bytes : Nat) : Int) := by simp
  rw [this]; omega
 have hz0 : n = 0 → (#[] : Array Value) = (List.replicate n z).toArray := fun h => by subst h; rfl
 by_cases hroom : us.length + n ≤ vc
 ·-- there is room
  rcases ho with ⟨h1', h2, h3⟩ | ⟨b, off, cap, c, E, h1', h2, h3, h4, h5, h6, h7⟩
  ·subst h2; subst h3
   rw [hv] at h1'; cases h1'
   have hnil : n = 0 := by simpa using hroom
   subst hnil
   refine ⟨.slice none 0 0, w, [], ?_, .inl ⟨rfl, rfl, rfl⟩, Turned.refl _ _, List.nodup_nil, by simp⟩
   subst hv
   simp at hwr
   simp [Builtin.append_, run_underlying ht, run_underlying ht', sizeOf, typeInfo, hi, h1, asInt, asIntOf, hwr]
  ·rw [hv] at h1'; cases h1'
   have hst := run_storeCells_at P b (off + us.length) E (List.replicate n z) 0 c w h3 (by simp; omega) (fun u hu => by rw [List.eq_of_mem_replicate hu]; exact hone)
   simp only [Nat.add_zero, List.length_replicate] at hst
   subst hv
   refine ⟨.slice (some ⟨b, off, none⟩) (us.length + n) vc, w.setRow b (c.toList.take (off + us.length) ++ List.replicate n z ++ c.toList.drop (off + us.length + n)).toArray, [b], ?_, ?_, ?_, by simp, ?_⟩
   ·by_cases hn0 : n = 0
    ·subst hn0
     simp at hst hwr
     simp [Builtin.append_, run_underlying ht, run_underlying ht', sizeOf, typeInfo, hi, h1, asInt, asIntOf, hwr, yG_, hst, hcap]
    ·simp [Builtin.append_, run_underlying ht, run_underlying ht', sizeOf, typeInfo, zeroValue, hi, hz, h1, asInt, asIntOf, hwr, hneg, hb3, hroom, hn0, hzs, as7, yG_, hst]
   ·refine .inr ⟨b, off, vc, _, E, by simp, rfl, setRow_heap w b c _ E _ h3, ?_, by simpa using hroom, h6, fun i u hu => ?_⟩
    ·simp only [List.size_toArray, List.length_append, List.length_take, List.length_drop, Array.length_toList, List.length_replicate]; omega
    ·simp only [List.getElem?_toArray]
     rw [List.getElem?_append] at hu
     have htl : (c.toList.take (off + us.length)).length = off + us.length := by simp [List.length_take]; omega
     split at hu
     ·rename_i hlt
      have := h7 i u hu
      rw [List.append_assoc, List.getElem?_append_left (by rw [htl]; omega), List.getElem?_take, if_pos (by omega)]
      simpa using this
     ·rename_i hge
      have hl2 := (List.getElem?_eq_some_iff.1 hu).1
      rw [List.append_assoc, List.getElem?_append_right (by rw [htl]; omega), htl, List.getElem?_append_left (by omega)]
      rw [← hu]; congr 1; omega
   ·refine ⟨rfl, rfl, rfl, by simp, fun k _ hk => setRow_other w b k _ (fun e => hk (by simp [h2, e]))⟩
   ·intro k hk
    simp only [List.mem_singleton] at hk
    subst hk
    exact ⟨by simpa using hfpl k (by simp [h2]), .inl (by simp [h2])⟩
 ·-- it grows
  have hn0 : n ≠ 0 := fun e => by subst e; exact hroom (by omega)
  have hn : ¬ (us.length + n ≤ vc) := hroom
  have h63' : ¬ (9223372036854775807 < ((us.length : Int) + (n : Int))) := by omega
  have h48 := growslice_fits (need := us.length + n) (old := vc) (bytes := i.bytes) (by omega) hbytes
  have h48' : ¬ (281474976710656 < Builtin.nextslicecap (us.length + n) vc * i.bytes) := by omega
  have hdrew : ∀ S us v, SlC w S us v → SlC w.drew S us v := fun S us v h => by
   rcases h with h | ⟨b, off, cap, k1, k2, k3, k4, k5⟩
   ·exact .inl h
   ·exact .inr ⟨b, off, cap, k1, k2, k3, k4, fun i u hu => by simpa using k5 i u hu⟩
  have hfo := ZV_ (P := P) (hdrew _ _ _ (ho.slC (S := fun _ => True) (fun _ _ => trivial)))
  subst hv
  have hge := grownCap_ge w (us.length + n) vc e
  have hml := grownCap_le_maxLen w (us.length + n) vc e (by simp only [maxLen]; omega)
  refine ⟨.slice (some ⟨w.heap.size, 0, none⟩) (us.length + n) (grownCap w (us.length + n) vc e),
   w.drew.alloc (.cells (us.toArray ++ (List.replicate n z).toArray ++ Builtin.zeroCells z.cells (grownCap w (us.length + n) vc e - (us.length + n))) e), [w.heap.size], ?_, ?_, ?_, by simp, ?_⟩
  ·simp [Builtin.append_, run_underlying ht, run_underlying ht', sizeOf, typeInfo, zeroValue, hi, hz, h1, asInt, asIntOf, hwr, hneg, hb3, hn, hn0, h63', h48', Question.forced, hfo, newRow, grownCap, hzs, as7]
   try rw [← List.append_toArray, ← Array.append_assoc]
  ·refine .inr ⟨w.heap.size, 0, _, _, e, by simp, rfl, heap_alloc_new w.drew _, ?_, by simpa using hge, hml, fun i u hu => ?_⟩
   ·simp only [Array.size_append, List.size_toArray, TY_, hzs, List.length_replicate, Array.size_singleton, List.size_toArray, List.length_cons, List.length_nil]; omega
   ·have hl := (List.getElem?_eq_some_iff.1 hu).1
    have hl' : i < us.length + n := by simpa using hl
    rw [Nat.zero_add, Array.getElem?_append_left (by simpa using hl'), List.append_toArray]
    simpa using hu
  ·refine ⟨rfl, rfl, rfl, by simp, fun k hk _ => Below.heap_alloc w.drew _ k hk⟩
  ·intro k hk
   simp only [List.mem_singleton] at hk
   subst hk
   exact ⟨by simp, .inr (Nat.le_refl _)⟩
theorem K5_ (ho : Owns cx H w ι F) {t t' : TypeId} {s x : AV} {us ux : Value} {K : AV → List Nat → List Nat → List (Nat × Tree) → Prop} (h : TM_ P H t t' s x K)
  (hs : rep (mem cx w H ι F) s us) (hx : rep (mem cx w H ι F) x ux) (ty : TypeId) :
  ∃ u w', (Builtin.append_ #[t, t'] ty #[us, ux]).run P w = .ok u w' ∧ Left cx H w ι F u w' K := by
 unfold TM_ at h
 split at h <;> first | exact h.elim | skip
 rename_i e n hk hk'
 obtain ⟨he, hmk, h⟩ := h
 obtain ⟨i, z, hi, h1, hby, hz, hzo, hzc⟩ := zh_ he
 have htu := (YZ_ hk).1
 simp only [rep] at hx
 obtain ⟨rfl, -⟩ := hx
 have hz0 := Uv_ hmk
 simp only [xk_, hi, hz, hzc, Option.bind_some, List.map_cons, List.map_nil] at hz0
 split at h <;> first | exact h.elim | skip
 ·rename_i id xs htar
  obtain ⟨hek, hn0, hlen, hK⟩ := h
  obtain ⟨fp, hfp, hfn, hfm⟩ := wb_ ho htar hs
  have hflt : ∀ b ∈ fp, b < w.heap.size := fun b hb => by
   obtain ⟨k1, k2⟩ := hfm b hb
   obtain ⟨p, hp, rfl⟩ := List.mem_map.1 k1
   exact (ho.mine b (mem_foot.2 ⟨p, hp, k2⟩)).1
  have hzi : z = .int .i64 0 := by
   rw [hek] at hz0
   simp only [Option.some.injEq, List.cons.injEq, and_true] at hz0
   have := wk_ (mem cx w H ι F) z
   rw [hz0] at this
   simp only [rep] at this
   exact this.1
  simp only [treeRep, mem] at hfp
  obtain ⟨m, rfl⟩ : ∃ m : Nat, n = m := ⟨n.toNat, by omega⟩
  have hlx : (ints xs).length = xs.length := by simp [ints]
  have ei : ints xs ++ List.replicate m z = ints (xs ++ List.replicate m 0) := by simp [ints, hzi]
  obtain ⟨v', w', fp', r1, r2, r3, r4, r5⟩ := Sz_ (P := P) htu (Sy_ hk') hi hz h1 hzc hby (n := m) hfp.1 hzo (by rw [hlx]; simpa using hlen) hflt ty
  rw [ei] at r2
  refine ⟨v', w', r1, ho.grow (R := []) (t' := .t1 (xs ++ List.replicate m 0)) hfm r3 r4 (fun b hb => ?_) (fun q hq _ => ?_) (by simp) (by rw [yL_]; simpa using hK)⟩
  ·obtain ⟨k1, k2⟩ := r5 b hb
   exact ⟨k1, Qd_ k2 (hfm b) .inr⟩
  ·simp only [treeRep]
   rw [hq]
   refine ⟨r2, fun y hy => ?_⟩
   rcases List.mem_append.1 hy with hy | hy
   ·exact hfp.2 y hy
   ·rw [List.eq_of_mem_replicate hy]; constructor <;> omega
 ·rename_i id xs htar
  obtain ⟨hek, rfl, hn0, hlen, hK⟩ := h
  obtain ⟨fp, hfp, hfn, hfm⟩ := wb_ ho htar hs
  have hzi : z = .slice none 0 0 := by
   rw [hek] at hz0
   simp only [Option.some.injEq, List.cons.injEq, and_true] at hz0
   have := wk_ (mem cx w H ι F) z
   rw [hz0] at this
   simpa only [rep] using this
  subst hzi
  simp only [treeRep, mem] at hfp
  obtain ⟨us0, f0, fs, hfp0, hall, rfl⟩ := hfp
  obtain ⟨m, rfl⟩ : ∃ m : Nat, n = m := ⟨n.toNat, by omega⟩
  have hl := hall.length
  have hu0 : us0 = [] := List.length_eq_zero_iff.1 (by rw [← hl.2]; rfl)
  have hfs : fs = [] := List.length_eq_zero_iff.1 (by rw [hl.1]; rfl)
  subst hu0
  subst hfs
  simp only [List.flatten_nil, List.append_nil] at hfn hfm
  have hflt : ∀ b ∈ f0, b < w.heap.size := fun b hb => by
   obtain ⟨k1, k2⟩ := hfm b hb
   obtain ⟨p, hp, rfl⟩ := List.mem_map.1 k1
   exact (ho.mine b (mem_foot.2 ⟨p, hp, k2⟩)).1
  obtain ⟨v', w', fp', r1, r2, r3, r4, r5⟩ := Sz_ (P := P) htu (Sy_ hk') hi hz h1 hzc hby (n := m) hfp0 hzo (by simpa using hlen) hflt ty
  rw [List.nil_append] at r2
  refine ⟨v', w', r1, ho.grow (R := []) (t' := .t2 (List.replicate m [])) (by simpa using hfm) r3 r4 (fun b hb => ?_) (fun q hq _ => ?_) (by simp) (by rw [yL_]; simpa using hK)⟩
  ·obtain ⟨k1, k2⟩ := r5 b hb
   exact ⟨k1, Qd_ k2 (hfm b) .inr⟩
  ·simp only [treeRep]
   rw [hq]
   refine ⟨_, fp', List.replicate m [], r2, ?_, by simp⟩
   clear r2 hlen hK r1 hn0
   induction m with
   | zero => trivial
   | succ k ih => exact ⟨⟨.inl ⟨rfl, rfl, rfl⟩, by simp⟩, ih⟩
end
end Go.Aw
namespace Go.Aw
open Go.RowKit
def WI_ (P : Program) (H : List (Nat × Tree)) (ρ : Operand → AV) (b : Builtin) (args : List Operand) (ts : List TypeId) (K : AV → List Nat → List Nat → List (Nat × Tree) → Prop) : Prop :=
 match b, args, ts with
 | .append, [s, x], [t, t'] => if t = t' then Xh_ P H t (ρ s) (ρ x) K else TM_ P H t t' (ρ s) (ρ x) K
 | .copy, [d, x], [t, _] => TL_ P H t (ρ d) (ρ x) K
 | _, _, _ => False
def aS6 : AV → Option Int
 | .int n => some n
 | .ik _ n => some n
 | _ => none
theorem SA_ {m : Mem} {a : AV} {v : Value} {n : Int} (h : aS6 a = some n) (hr : rep m a v) : ∃ k, v = .int k n := by
 unfold aS6 at h
 split at h <;> first | (cases h; simp only [rep] at hr; first | exact ⟨_, hr.1⟩ | exact ⟨_, hr⟩) | cases h
def wx_ (P : Program) (H : List (Nat × Tree)) (ρ : Operand → AV) (op : Op) (K : AV → List Nat → List Nat → List (Nat × Tree) → Prop) : Prop :=
 match op with
 | .alloc t => match xk_ P t with
  | some vs => K (.bptr (xR_ H) 0) [] [] (x8_ H (xR_ H) (.bx vs))
  | none => False
 | .box _ x => match cellsA H (ρ x) with
  | some [.fn f caps] => K (.cptr [.fn f caps] 0) [] [] H
  | some vs => K (.bptr (xR_ H) 0) [] [] (x8_ H (xR_ H) (.bx vs))
  | none => False
 | .buildSlice t len parts => match xz_ P t with
  | .sl e => xv_ P e = true ∧ inOrder 0 parts.toList = true ∧ len = parts.toList.length ∧ len ≤ 16777216 ∧ wu_ P H e (parts.toList.map (fun p => ρ p.2)) K
  | .sp e => Vh_ P H e len (parts.toList.map fun p => (p.1, ρ p.2)) K
  | _ => False
 | .makeSlice t l c => match xz_ P t, aS6 (ρ l), aS6 (ρ c) with
  | .sl e, some n, some n' => n = n' ∧ xv_ P e = true ∧ yt_ P e = true ∧ UM_ P H e n K
  | _, _, _ => False
 | .store t p v => Zx_ P H t (ρ p) (ρ v) (fun all subs H' => K .junk all subs H')
 | .call { callee := .builtin b, args, argTypes } => WI_ P H ρ b args.toList argTypes.toList K
 | _ => False
section
variable {P : Program} {cx : Cx} {H : List (Nat × Tree)} {w : World} {ι : Nat → Value} {F : Nat → List Nat}
theorem Vj_ {m : Mem} {ρ : Operand → AV} {f : Operand → Value} (h : ∀ x, rep m (ρ x) (f x)) : ∀ (l : List (Nat × Operand)), reps m (l.map fun p => ρ p.2) (l.map fun p => f p.2)
 | [] => by simp [reps]
 | p :: l => by simp only [List.map_cons, reps]; exact ⟨_, _, rfl, h p.2, Vj_ h l⟩
theorem TN_ (ho : Owns cx H w ι F) {a : Act} {ρ : Operand → AV} (hρ : ∀ x, rep (mem cx w H ι F) (ρ x) (a.eval x)) {o : Oper} {K : AV → List Nat → List Nat → List (Nat × Tree) → Prop} (h : wx_ P H ρ o.op K) :
  ∃ u w', ((execOp a.eval o).run P w = .ok (.value u) w' ∨ ((execOp a.eval o).run P w = .ok .skip w' ∧ u = undef)) ∧ Left cx H w ι F u w' K := by
 unfold wx_ at h
 unfold execOp
 split at h <;> first | exact h.elim | skip
 ·rename_i t hop
  split at h <;> first | exact h.elim | skip
  rename_i vs hz
  obtain ⟨u, w', h1, h2⟩ := Qm_ (P := P) ho hz h
  exact ⟨u, w', .inl (by simp [hop, h1]), h2⟩
 ·rename_i t x hop
  split at h <;> first | exact h.elim | skip
  ·rename_i f caps hz
   obtain ⟨u, w', h1, h2⟩ := ao1 (P := P) (t := t) ho hz (hρ x) h
   exact ⟨u, w', .inl (by simp [hop, h1]), h2⟩
  ·rename_i vs hno hz
   obtain ⟨u, w', h1, h2⟩ := ao0 (P := P) (t := t) ho hz (hρ x) h
   exact ⟨u, w', .inl (by simp [hop, h1]), h2⟩
 ·rename_i t len parts hop
  split at h <;> first | exact h.elim | skip
  rotate_left
  ·rename_i e hk
   obtain ⟨u, w', h1, h2⟩ := TJ_ (P := P) ho hk (qs := parts.toList.map fun p => (p.1, a.eval p.2)) (by simp [List.map_map, Function.comp_def]) (by
    have := Vj_ hρ parts.toList
    simpa [List.map_map, Function.comp_def] using this) h
   refine ⟨u, w', .inl ?_, h2⟩
   have e1 : parts.map (fun p => (p.1, a.eval p.2)) = (parts.toList.map fun p => (p.1, a.eval p.2)).toArray := by
    apply Array.ext'; simp
   have e2 := h1
   rw [← e1] at e2
   simp [hop, e2]
  rename_i e hk
  obtain ⟨he, hin, hlen, hsm, hb⟩ := h
  obtain ⟨u, w', h1, h2⟩ := Qo_ (P := P) ho hk he (Vj_ hρ parts.toList) (by simpa [← hlen] using hsm) hb
  refine ⟨u, w', .inl ?_, h2⟩
  have hp : parts.map (fun x => (x.1, a.eval x.2)) = (((parts.toList.map fun p => a.eval p.2).zipIdx 0).map fun x => (x.2, x.1)).toArray := by
   rw [← ZX_ a.eval _ _ hin]
   apply Array.ext'
   simp
  have hl : (parts.toList.map fun p => a.eval p.2).length = len := by rw [List.length_map]; exact hlen.symm
  rw [hl] at h1
  rw [hop]
  simp only [Sem.run_bind, Sem.run_pure]
  have hp' : (parts.map fun (x : Nat × Operand) => match x with | (i, y) => (i, a.eval y)) = parts.map (fun x => (x.1, a.eval x.2)) := rfl
  rw [hp', hp, h1]
  rfl
 ·rename_i t l c hop
  have hl := hρ l
  have hc := hρ c
  split at h <;> first | exact h.elim | skip
  rename_i e n n' hk hln hcn
  obtain ⟨rfl, he, hm, hA⟩ := h
  obtain ⟨k1, e1⟩ := SA_ hln hl
  obtain ⟨k2, e2⟩ := SA_ hcn hc
  obtain ⟨u, w', h1, h2⟩ := Jh_ (P := P) ho hk he (Uv_ hm) hA k1 k2
  exact ⟨u, w', .inl (by simp [hop, e1, e2, h1]), h2⟩
 ·rename_i t p v hop
  obtain ⟨w', h1, all, subs, H', ι', F', k1, k2, k3⟩ := R6_ (P := P) ho h (hρ p) (hρ v)
  exact ⟨undef, w', .inr ⟨by simp [hop, h1], rfl⟩, .junk, all, subs, H', ι', F', k1, k2, by simp only [rep], k3⟩
 ·rename_i b args ts hop
  unfold WI_ at h
  split at h <;> first | exact h.elim | skip
  ·rename_i s x t t' hargs hts
   have ha : args = #[s, x] := by apply Array.ext'; simpa using hargs
   split at h
   ·rename_i htt
    subst htt
    obtain ⟨u, w', h1, h2⟩ := TK_ (P := P) ho h (hρ s) (hρ x) o.type
    refine ⟨u, w', .inl ?_, h2⟩
    have ht : ts = #[t, t] := by apply Array.ext'; simpa using hts
    simp [hop, resolve, invoke, builtin, ha, ht, h1]
   ·obtain ⟨u, w', h1, h2⟩ := K5_ (P := P) ho h (hρ s) (hρ x) o.type
    refine ⟨u, w', .inl ?_, h2⟩
    have ht : ts = #[t, t'] := by apply Array.ext'; simpa using hts
    simp [hop, resolve, invoke, builtin, ha, ht, h1]
  ·rename_i d x t t' hargs hts
   have ha : args = #[d, x] := by apply Array.ext'; simpa using hargs
   obtain ⟨u, w', h1, h2⟩ := K4_ (P := P) (t' := t') ho h (hρ d) (hρ x) o.type
   refine ⟨u, w', .inl ?_, h2⟩
   have ht : ts = #[t, t'] := by apply Array.ext'; simpa using hts
   simp [hop, resolve, invoke, builtin, ha, ht, h1]
theorem Uy_ {m : Mem} {ρ : Operand → AV} {f : Operand → Value} : ∀ (l : List Operand), (∀ x ∈ l, rep m (ρ x) (f x)) → reps m (l.map ρ) (l.map f)
 | [], _ => by simp [reps]
 | p :: l, h => by simp only [List.map_cons, reps]; exact ⟨_, _, rfl, h p (List.mem_cons_self ..), Uy_ l (fun x hx => h x (List.mem_cons_of_mem _ hx))⟩
theorem ZA_ {m : Mem} {as bs : List AV} {us vs : List Value} (h1 : reps m as us) (h2 : reps m bs vs) : reps m (as ++ bs) (us ++ vs) := by
 rw [xw_] at *; exact h1.append h2
theorem foldl_set (off : Nat) : ∀ (us : List Value) (k : Nat) (cs : Array Value), off + k + us.length ≤ cs.size →
  ((us.zipIdx k).foldl (fun (cs : Array Value) (x : Value × Nat) => cs.setIfInBounds (off + x.2) x.1) cs).toList = cs.toList.take (off + k) ++ us ++ cs.toList.drop (off + k + us.length)
 | [], k, cs, h => by simp
 | u :: us, k, cs, h => by
  simp only [List.length_cons] at h
  simp only [List.zipIdx_cons, List.foldl_cons]
  rw [foldl_set off us (k + 1) _ (by simp; omega)]
  simp only [Array.toList_setIfInBounds, List.length_cons]
  have hlt : off + k < cs.toList.length := by simp; omega
  rw [List.drop_set_of_lt (by omega)]
  have e1 : (cs.toList.set (off + k) u).take (off + (k + 1)) = cs.toList.take (off + k) ++ [u] := by
   rw [← Nat.add_assoc, List.take_add_one, List.getElem?_set_self hlt, List.take_set_of_le (Nat.le_refl _)]
   rfl
  rw [e1, show off + (k + 1) + us.length = off + k + (us.length + 1) by omega]
  simp
theorem Yj_ (ho : Owns cx H w ι F) {pl : List (Nat × Nat)} : ∀ (ps : List (Nat × AV)) (us : List (Nat × Value)) (zs : List AV) (cs : Array Value) (vs : List AV),
  ps.map (·.1) = us.map (·.1) → reps (mem cx w H ι F) (ps.map (·.2)) (us.map (·.2)) → (ps.map (·.2)).all (YO_ H) = true → reps (mem cx w H ι F) zs cs.toList → zn_ pl ps zs = some vs →
  ∃ cells, Instr.fill (pl.toArray[·]?) cs us = some cells ∧ reps (mem cx w H ι F) vs cells.toList
 | [], us, zs, cs, vs, h1, _, _, hz, hp => by
  have : us = [] := by cases us with | nil => rfl | cons _ _ => simp at h1
  subst this
  simp only [zn_, Option.some.injEq] at hp
  subst hp
  exact ⟨cs, rfl, hz⟩
 | (i, a) :: ps, [], _, _, _, h1, _, _, _, _ => by simp at h1
 | (i, a) :: ps, (k, u) :: us, zs, cs, vs, h1, h2, h3, hz, hp => by
  simp only [List.map_cons, List.cons.injEq] at h1
  obtain ⟨rfl, h1⟩ := h1
  simp only [List.map_cons, reps] at h2
  obtain ⟨u', us', e, hu, hus⟩ := h2
  cases e
  simp only [List.map_cons, List.all_cons, Bool.and_eq_true] at h3
  simp only [zn_] at hp
  cases hpl : pl[i]? with
  | none => rw [hpl] at hp; cases hp
  | some q =>
   obtain ⟨off, sz⟩ := q
   rw [hpl] at hp
   simp only at hp
   split at hp
   ·rename_i ws
    split at hp
    ·rename_i hc2
     obtain ⟨rfl, hlt⟩ := hc2
     simp only [rep] at hu
     obtain ⟨ys, rfl, hys⟩ := hu
     have hz2 := hz
     have hy2 := hys
     rw [xw_] at hz2 hy2
     have hlen : zs.length = cs.size := by have := hz2.length; simpa using this
     have hly := hy2.length
     have hset : reps (mem cx w H ι F) (zs.take off ++ ws ++ zs.drop (off + ws.length)) (((ys.zipIdx 0).foldl (fun (cs : Array Value) (x : Value × Nat) => cs.setIfInBounds (off + x.2) x.1) cs)).toList := by
      rw [foldl_set off ys 0 cs (by omega), xw_, Nat.add_zero, ← hly]
      exact ((hz2.take off).append hy2).append (hz2.drop (off + ws.length))
     obtain ⟨cells, k1, k2⟩ := Yj_ ho ps us _ _ vs h1 hus h3.2 hset hp
     refine ⟨cells, ?_, k2⟩
     have hle : ¬ (off + ys.length > cs.size) := by omega
     simp only [Instr.fill, List.getElem?_toArray, hpl, Value.cells, List.size_toArray, hly]
     simp [hle]
     simpa using k1
    ·cases hp
   ·rename_i hna
    have h31 : wh_ H a = true := by
     have := h3.1
     unfold YO_ at this
     split at this
     ·rename_i ws; exact absurd rfl (hna ws)
     ·exact this
    have hone := wm_ ho h31 hu
    have hc : u.cells = #[u] := by cases u <;> first | rfl | simp [Value.oneCell'] at hone
    split at hp
    ·rename_i hc2
     obtain ⟨rfl, hlt⟩ := hc2
     have hz2 := hz
     rw [xw_] at hz2
     have hlen : zs.length = cs.size := by have := hz2.length; simpa using this
     have hset : reps (mem cx w H ι F) (zs.set off a) (cs.setIfInBounds off u).toList := by
      rw [xw_, Array.toList_setIfInBounds]
      exact hz2.set off hu
     obtain ⟨cells, k1, k2⟩ := Yj_ ho ps us (zs.set off a) (cs.setIfInBounds off u) vs h1 hus h3.2 hset hp
     refine ⟨cells, ?_, k2⟩
     have hle : ¬ (off + 1 > cs.size) := by omega
     simp only [Instr.fill, List.getElem?_toArray, hpl, hc]
     simp [hle]
     simpa using k1
    ·cases hp
theorem Uz_ {f g : Nat → Option (Nat × Nat)} (h : ∀ i off sz, f i = some (off, sz) → g i = some (off, sz)) : ∀ {us : List (Nat × Value)} {cs r : Array Value}, Instr.fill f cs us = some r → Instr.fill g cs us = some r
 | [], cs, r, h1 => h1
 | (i, v) :: us, cs, r, h1 => by
  unfold Instr.fill at h1 ⊢
  cases hf : f i with
  | none => rw [hf] at h1; cases h1
  | some q =>
   obtain ⟨off, sz⟩ := q
   rw [hf] at h1
   rw [h i off sz hf]
   simp only at h1 ⊢
   split at h1
   ·cases h1
   ·rename_i hc
    rw [if_neg hc]
    exact Uz_ h h1
theorem Vk_ (ho : Owns cx H w ι F) {a : Act} {ρ : Operand → AV} (hρ : ∀ x, rep (mem cx w H ι F) (ρ x) (a.eval x)) {t : TypeId} {parts : Array (Nat × Operand)} {v : AV} (h : Xn_ P H true t (parts.toList.map fun p => (p.1, ρ p.2)) v) :
  ∃ u, (Instr.build t (parts.map fun p => (p.1, a.eval p.2))).run P w = .ok u w ∧ rep (mem cx w H ι F) v u := by
 unfold Xn_ at h
 split at h <;> first | exact h.elim | skip
 rename_i pl zs hpl hzs
 obtain ⟨h1, h2, h3⟩ := h
 unfold xk_ at hzs
 split at hzs <;> first | (cases hzs; done) | skip
 rename_i z hz
 cases hzs
 simp only [Option.bind_eq_some_iff] at hz
 obtain ⟨it, hit, hiz⟩ := hz
 split at h3 <;> first | exact h3.elim | skip
 rename_i vs hvs
 subst h3
 have hok : ∀ (l : List (Nat × Operand)), Qf_ true ((l.map fun p => (p.1, ρ p.2)).map (·.2)) → reps (mem cx w H ι F) (((l.map fun p => (p.1, ρ p.2)).map fun p => (p.1, strip p.2)).map (·.2)) ((l.map fun p => (p.1, a.eval p.2)).map (·.2)) := by
  intro l
  induction l with
  | nil => intro _; simp [reps]
  | cons x l ih =>
   intro h
   simp only [List.map_cons, Qf_] at h
   simp only [List.map_cons, reps]
   exact ⟨_, _, rfl, xH_ rfl h.1 (hρ x.2), ih h.2⟩
 have hall : (((parts.toList.map fun p => (p.1, ρ p.2)).map fun p => (p.1, strip p.2)).map (·.2)).all (YO_ H) = true := by
  have := h2 rfl
  simpa [List.map_map, Function.comp_def] using this
 obtain ⟨cells, k1, k2⟩ := Yj_ ho (pl := pl) ((parts.toList.map fun p => (p.1, ρ p.2)).map fun p => (p.1, strip p.2)) (parts.toList.map fun p => (p.1, a.eval p.2)) (z.cells.toList.map ofV) z.cells vs
  (by simp [List.map_map, Function.comp_def]) (hok _ h1) hall (VD_ _ _) hvs
 refine ⟨.agg cells, run_build w t _ cells ?_, ?_⟩
 ·unfold Jc_ at hpl
  split at hpl <;> first | (cases hpl; done) | skip
  ·rename_i fs hu
   unfold Program.built
   simp only [hit, hu, hiz, hpl, Array.toList_map]
   exact k1
  ·rename_i n e hu
   split at hpl
   ·rename_i hce
    cases hpl
    unfold Program.cellsOf at hce
    cases hie : P.info? e with
    | none => rw [hie] at hce; simp at hce
    | some ie =>
     rw [hie] at hce
     have hs1 : ie.size = 1 := by simpa using hce
     unfold Program.built
     simp only [hit, hu, hiz, hie, Array.toList_map]
     refine Uz_ (fun i off sz hpq => ?_) k1
     rw [List.getElem?_toArray, List.getElem?_map] at hpq
     obtain ⟨j, hj, e1⟩ := Option.map_eq_some_iff.1 hpq
     have hji : j = i := by
      have h9 := List.getElem?_eq_some_iff.1 hj
      obtain ⟨h9, h10⟩ := h9
      simpa using h10.symm
     simp only [Prod.mk.injEq] at e1
     rw [hs1, Nat.mul_one, ← e1.1, ← e1.2, hji]
   ·cases hpl
 ·simp only [rep]
  exact ⟨cells.toList, by simp, k2⟩
theorem R8_ (ho : Owns cx H w ι F) {a : Act} {ρ : Operand → AV} (hρ : ∀ x, rep (mem cx w H ι F) (ρ x) (a.eval x)) {o : Oper} {v : AV} (h : V9_ P H true ρ o.op v) : Yields P cx H ι F o a w v := by
 unfold V9_ at h
 unfold Yields execOp
 split at h <;> first | exact h.elim | skip
 ·rename_i x hop
  obtain ⟨h1, rfl⟩ := h
  exact .inl ⟨a.eval x, by simp [hop], xH_ rfl h1 (hρ x)⟩
 ·rename_i x hop
  obtain ⟨h1, rfl⟩ := h
  exact .inl ⟨a.eval x, by simp [hop], xH_ rfl h1 (hρ x)⟩
 ·rename_i c x y hop
  obtain ⟨z, h1, h2⟩ := TW_ (P := P) h (hρ c) (hρ x) (hρ y)
  exact .inl ⟨z, by simp only [hop]; exact h1, h2⟩
 ·rename_i t p hop
  obtain ⟨h1, h2⟩ := h
  obtain ⟨z, h3, h4⟩ := ZO_ (P := P) ho h2 (xH_ rfl h1 (hρ p))
  exact .inl ⟨z, by simp [hop, h3], h4⟩
 ·rename_i t x i hop
  obtain ⟨h1, h2, h3⟩ := h
  obtain ⟨z, h4, h5⟩ := UH_ (P := P) ho h3 (xH_ rfl h1 (hρ x)) (xH_ rfl h2 (hρ i))
  exact .inl ⟨z, by simp [hop, h4], h5⟩
 ·rename_i t p f hop
  obtain ⟨h1, h2⟩ := h
  obtain ⟨z, h3, h4⟩ := UI_ (P := P) h2 (xH_ rfl h1 (hρ p))
  exact .inl ⟨z, by simp [hop, h3], h4⟩
 ·rename_i t x f hop
  obtain ⟨h1, h2⟩ := h
  obtain ⟨z, h3, h4⟩ := Vy_ (P := P) h2 (xH_ rfl h1 (hρ x))
  exact .inl ⟨z, by simp [hop, h3], h4⟩
 ·rename_i b t x y t' hop
  obtain ⟨h1, h2, h3⟩ := h
  obtain ⟨z, h4, h5⟩ := Ql_ (P := P) (ox := x) (oy := y) ho h3 (xH_ rfl h1 (hρ x)) (xH_ rfl h2 (hρ y))
  exact .inl ⟨z, by simp only [hop]; rw [Sem.run_bind, h4]; rfl, h5⟩
 ·rename_i u t x hop
  obtain ⟨h1, h2⟩ := h
  obtain ⟨z, h3, h4⟩ := Jf_ (P := P) h2 (xH_ rfl h1 (hρ x))
  exact .inl ⟨z, by simp [hop, h3], h4⟩
 ·rename_i x hop
  obtain ⟨h1, h2, rfl⟩ := h
  have hx := xH_ rfl h1 (hρ x)
  obtain ⟨b, hb⟩ := aF4 (h2 rfl) hx
  exact .inl ⟨a.eval x, by simp [hop, hb], hx⟩
 ·rename_i s d x hop
  obtain ⟨h1, h2⟩ := h
  obtain ⟨z, h3, h4⟩ := TX_ (P := P) ho h2 (xH_ rfl h1 (hρ x))
  exact .inl ⟨z, by simp [hop, h3], h4⟩
 ·rename_i x i hop
  obtain ⟨h1, h2⟩ := h
  have hx := xH_ rfl h1 (hρ x)
  split at h2 <;> first | exact h2.elim | skip
  rename_i vs hs
  obtain ⟨hl, rfl⟩ := h2
  rw [hs] at hx
  simp only [rep] at hx
  obtain ⟨us, hu, hr⟩ := hx
  obtain ⟨y, hy, hry⟩ := XW_ hr hl
  exact .inl ⟨y, by simp [hop, Instr.extract, hu, hy], hry⟩
 ·rename_i t x lo hop
  obtain ⟨h1, h2, h3⟩ := h
  obtain ⟨z, h4, h5, _⟩ := wH_ (P := P) (uhi := undef) ho h3 (xH_ rfl h1 (hρ x)) (xH_ rfl h2 (hρ lo)) (fun h => by cases h)
  simp only [Bool.false_eq_true, if_false] at h5
  exact .inl ⟨z, by simp [hop, h5], h4⟩
 ·rename_i t x lo hi hop
  obtain ⟨h1, h2, h3, h4⟩ := h
  obtain ⟨z, h5, h6, _⟩ := wH_ (P := P) ho h4 (xH_ rfl h1 (hρ x)) (xH_ rfl h2 (hρ lo)) (fun _ => xH_ rfl h3 (hρ hi))
  simp only [if_true] at h6
  exact .inl ⟨z, by simp [hop, h6], h5⟩
 ·rename_i t x hi hop
  obtain ⟨h1, h2, h3⟩ := h
  obtain ⟨z, h4, _, h5⟩ := wH_ (P := P) (ulo := .int .i64 0) ho h3 (xH_ rfl h1 (hρ x)) (x1_ (by constructor <;> decide)) (fun _ => xH_ rfl h2 (hρ hi))
  simp only [if_true] at h5
  exact .inl ⟨z, by simp [hop, h5], h4⟩
 ·rename_i f first caps hop
  obtain ⟨hfirst, rfl⟩ := h
  have hf0 : first = #[] := by apply Array.ext'; simpa using hfirst
  refine .inl ⟨.func (.func f) #[] (caps.map a.eval), by simp [hop, Instr.makeFunc, hf0], ?_⟩
  simp only [rep]
  refine ⟨caps.toList.map a.eval, by apply congrArg; apply Array.ext'; simp, Uy_ _ (fun x _ => hρ x)⟩
 ·rename_i b args ts hop
  unfold XU_ at h
  split at h <;> first | exact h.elim | skip
  ·rename_i x t hargs hts
   have ha : args = #[x] := by apply Array.ext'; simpa using hargs
   have ht : ts = #[t] := by apply Array.ext'; simpa using hts
   obtain ⟨h1, h2⟩ := h
   obtain ⟨z, h3, h4⟩ := Qk_ (P := P) ho h2 (xH_ rfl h1 (hρ x)) o.type
   exact .inl ⟨z, by simp [hop, resolve, invoke, builtin, ha, ht, h3], h4⟩
  ·rename_i x y t t' hargs hts
   have ha : args = #[x, y] := by apply Array.ext'; simpa using hargs
   have ht : ts = #[t, t'] := by apply Array.ext'; simpa using hts
   split at h <;> first | exact h.elim | skip
   ·rename_i p q hp hq
    obtain ⟨h1, h2, rfl⟩ := h
    have hx := xH_ rfl h1 (hρ x)
    have hy := xH_ rfl h2 (hρ y)
    rw [hp] at hx; rw [hq] at hy
    simp only [rep] at hx hy
    refine .inl ⟨.int .i64 (if q > p then q else p), ?_, x1_ (by split; exact hy.2; exact hx.2)⟩
    simp [hop, resolve, invoke, builtin, ha, ht, hx.1, hy.1, run_max_int2]
   ·rename_i p q hp hq
    obtain ⟨h1, h2, h3, rfl⟩ := h
    have hx := xH_ rfl h1 (hρ x)
    have hy := xH_ rfl h2 (hρ y)
    rw [hp] at hx; rw [hq] at hy
    simp only [rep] at hx hy
    obtain ⟨r, hr⟩ := Option.isSome_iff_exists.1 (h3 rfl)
    refine .inl ⟨.float .f64 (aT4 p q), ?_, by simp only [rep]⟩
    have hm : (Builtin.max2 (.float .f64 p) (.float .f64 q)).run P w = .ok (.float .f64 (aT4 p q)) w := by
     unfold Builtin.max2 aT4
     simp only [hr]
     cases r <;> rfl
    have hm2 : (Builtin.max_ #[t, t'] o.type #[.float .f64 p, .float .f64 q]).run P w = .ok (.float .f64 (aT4 p q)) w := by
     simp [Builtin.max_, hm]
    simp [hop, resolve, invoke, builtin, ha, ht, hx, hy, hm2]
  ·rename_i x y t t' hargs hts
   have ha : args = #[x, y] := by apply Array.ext'; simpa using hargs
   have ht : ts = #[t, t'] := by apply Array.ext'; simpa using hts
   split at h <;> first | exact h.elim | skip
   rename_i p q hp hq
   obtain ⟨h1, h2, rfl⟩ := h
   have hx := xH_ rfl h1 (hρ x)
   have hy := xH_ rfl h2 (hρ y)
   rw [hp] at hx; rw [hq] at hy
   simp only [rep] at hx hy
   refine .inl ⟨.int .i64 (if q < p then q else p), ?_, x1_ (by split; exact hy.2; exact hx.2)⟩
   simp [hop, resolve, invoke, builtin, ha, ht, hx.1, hy.1, run_min_int2]
  ·rename_i x t hargs hts
   have ha : args = #[x] := by apply Array.ext'; simpa using hargs
   have ht : ts = #[t] := by apply Array.ext'; simpa using hts
   split at h <;> first | exact h.elim | skip
   rename_i e hk hp
   obtain ⟨h1, rfl⟩ := h
   have hx := xH_ rfl h1 (hρ x)
   rw [hp] at hx
   simp only [rep] at hx
   have h2 := (YZ_ hk).1
   refine .inl ⟨.int .i64 0, ?_, x1_ (by constructor <;> decide)⟩
   simp [hop, resolve, invoke, builtin, ha, ht, hx, Builtin.cap_, run_underlying h2, goInt]
 ·rename_i g args ts hop
  have hg := hρ g
  split at h <;> first | exact h.elim | skip
  rename_i f caps hs
  obtain ⟨h1, h2, h3⟩ := h
  have hgs := xH_ rfl h1 hg
  rw [hs] at hgs
  simp only [rep] at hgs
  obtain ⟨cs, hcv, hcr⟩ := hgs
  have hok : ∀ (l : List Operand), Qf_ true (l.map ρ) → reps (mem cx w H ι F) ((l.map ρ).map strip) (l.map a.eval) := by
   intro l
   induction l with
   | nil => intro _; simp [reps]
   | cons x l ih =>
    intro h
    simp only [List.map_cons, Qf_] at h
    simp only [List.map_cons, reps]
    exact ⟨_, _, rfl, xH_ rfl h.1 (hρ x), ih h.2⟩
  have har : reps (mem cx w H ι F) ((args.toList.map ρ).map strip ++ caps) (args.toList.map a.eval ++ cs) := ZA_ (hok _ h2) hcr
  obtain ⟨k1, k2⟩ := Xm_ ho (h3 rfl) har
  refine .inr ⟨f, (args.toList.map a.eval ++ cs).toArray, ?_, k2⟩
  simp only [hop, resolve, Sem.run_bind]
  rw [hcv]
  simp [Deferred.ofValue, invoke, k1]
 ·rename_i t parts hop
  obtain ⟨z, h1, h2⟩ := Vk_ (P := P) ho hρ h
  exact .inl ⟨z, by simp [hop, h1], h2⟩
end
def evF (g : Nat → AV) : Operand → AV
 | .tmp t => g t
 | .const v => aT2 v
 | .func f => .fn f []
 | .global _ => .junk
def upd (g : Nat → AV) (d : Option Nat) (v : AV) : Nat → AV :=
 match d with
 | none => g
 | some d => fun k => if d = k then v else g k
def gam (ops : Array Oper) (g : Nat → AV) (o : Oper) : Option Bool :=
 match o.guard with
 | none => some true
 | some (j, want) => match (ops[j]?).bind (·.dst) with
  | some d => match wc_ (g d) with
   | some (gg, b) => some (gg && (b == want))
   | none => none
  | none => none
def R9_ (o : Oper) (γ : Bool) (v : AV) : AV :=
 match o.guard with
 | none => v
 | some _ => .when γ v
def zX_ (P : Program) (ops : Array Oper) (g : Nat → AV) (H : List (Nat × Tree)) (o : Oper) (x : AV) : Prop :=
 ∃ γ v, gam ops g o = some γ ∧ V9_ P H γ (evF g) o.op v ∧ x = R9_ o γ v
def aS7 (P : Program) (g : Nat → AV) (H : List (Nat × Tree)) (o : Oper) (K : (Nat → AV) → List (Nat × Tree) → Prop) : Prop :=
 o.guard = none ∧ wx_ P H (evF g) o.op (fun v all subs H' => K (upd (fun k => xp_ (qOf all subs) (g k)) o.dst v) H')
def UA_ (fx : Fx) (n : Nat) (o : Oper) : Prop := ∀ d, o.dst = some d → fx d = false ∧ d < n
def Fr (r : Option Nat) : Fence := { Fence.wide with round := r }
def SimF (cx : Cx) (n : Nat) (g : Nat → AV) (H : List (Nat × Tree)) (tmps : Array Value) (w : World) : Prop :=
 (tmps.size = n ∧ ∀ j, cx.fix j = true → tmps.getD j undef = cx.fixv j) ∧ ∃ ι F, Owns cx H w ι F ∧ ∀ k, rep (mem cx w H ι F) (g k) (tmps.getD k undef)
section
variable {P : Program} {cx : Cx} {H : List (Nat × Tree)} {w : World} {ι : Nat → Value} {F : Nat → List Nat} {g : Nat → AV} {n : Nat} {tmps : Array Value} {ops : Array Oper} {o : Oper}
theorem SB_ {ds : List Deferred} (h : ∀ k, rep (mem cx w H ι F) (g k) (tmps.getD k undef)) (x : Operand) : rep (mem cx w H ι F) (evF g x) ((⟨tmps, ds⟩ : Act).eval x) := by
 cases x with
 | tmp t => exact h t
 | const v => exact an4 _ v
 | func f => simp only [evF, rep]; exact ⟨[], rfl, by simp [reps]⟩
 | global _ => simp only [evF, rep]
theorem Qa_ (h : ∀ k, rep (mem cx w H ι F) (g k) (tmps.getD k undef)) {γ : Bool} (hg : gam ops g o = some γ) : Region.wanted o (yielded ops tmps) = γ := by
 unfold gam at hg
 unfold Region.wanted
 split at hg
 ·rename_i hn; rw [hn]; cases hg; rfl
 ·rename_i j want hs
  rw [hs]
  split at hg <;> first | (cases hg; done) | skip
  rename_i d hd
  split at hg <;> first | (cases hg; done) | skip
  rename_i gg b hb
  cases hg
  have hr := h d
  simp only [yielded, hd, Option.bind_some]
  unfold wc_ at hb
  have hget : ∀ {v : Value}, tmps.getD d undef = v → (∀ x, v ≠ .tuple x) → tmps[d]? = some v := by
   intro v hv hne
   cases ht : tmps[d]? with
   | none =>
    have : tmps.getD d undef = undef := by simp [Array.getD_eq_getD_getElem?, ht]
    rw [this] at hv
    exact absurd hv.symm (hne _)
   | some x => rw [← hv]; simp [Array.getD_eq_getD_getElem?, ht]
  split at hb <;> first | (cases hb; done) | skip
  ·rename_i b' hgd
   simp only [Option.some.injEq, Prod.mk.injEq] at hb
   obtain ⟨rfl, rfl⟩ := hb
   rw [hgd] at hr
   simp only [rep] at hr
   rw [hget hr (by simp)]
   cases b' <;> cases want <;> rfl
  ·rename_i gg' b' hgd
   simp only [Option.some.injEq, Prod.mk.injEq] at hb
   obtain ⟨rfl, rfl⟩ := hb
   rw [hgd] at hr
   simp only [rep] at hr
   cases gg' with
   | true =>
    rw [hget (hr.1 rfl) (by simp)]
    cases b' <;> cases want <;> rfl
   | false =>
    have h2 := hr.2 rfl
    cases ht : tmps[d]? with
    | none => cases want <;> rfl
    | some x =>
     have : tmps.getD d undef = x := by simp [Array.getD_eq_getD_getElem?, ht]
     rw [this] at h2
     subst h2
     cases want <;> rfl
theorem ZB_ {ds : List Deferred} {m : Mem} (h : ∀ k, rep m (g k) (tmps.getD k undef)) {dst : Option Nat} (hd : ∀ d, dst = some d → d < tmps.size) {v : AV} {u : Value} (hv : rep m v u) :
  ∀ k, rep m (upd g dst v k) (((⟨tmps, ds⟩ : Act).put dst u).tmps.getD k undef) := by
 intro k
 cases dst with
 | none => exact h k
 | some d =>
  simp only [upd, Act.put]
  by_cases hk : d = k
  ·subst hk
   rw [if_pos rfl]
   have hl := hd d rfl
   simp [Array.getD_eq_getD_getElem?, hl, hv]
  ·rw [if_neg hk]
   have := h k
   simp only [Array.getD_eq_getD_getElem?] at this ⊢
   rwa [Array.getElem?_setIfInBounds_ne hk]
theorem ZC_ {ds : List Deferred} {fx : Fx} {fv : Nat → Value} (hs : tmps.size = n ∧ ∀ j, fx j = true → tmps.getD j undef = fv j) {o : Oper} (hd : UA_ fx n o) (u : Value) : ((⟨tmps, ds⟩ : Act).put o.dst u).tmps.size = n ∧ ∀ j, fx j = true → ((⟨tmps, ds⟩ : Act).put o.dst u).tmps.getD j undef = fv j := by
 cases ho : o.dst with
 | none => exact hs
 | some d =>
  have := hd d ho
  refine ⟨by simp [Act.put, hs.1], fun j hj => ?_⟩
  have hne : d ≠ j := fun e => by subst e; rw [this.1] at hj; cases hj
  have h2 := hs.2 j hj
  simp only [Act.put, Array.getD_eq_getD_getElem?] at h2 ⊢
  rwa [Array.getElem?_setIfInBounds_ne hne]
theorem XL_ {ds : List Deferred} (dst : Option Nat) (u : Value) : ((⟨tmps, ds⟩ : Act).put dst u).tmps.size = tmps.size ∧ ((⟨tmps, ds⟩ : Act).put dst u).defers = ds := by
 cases dst <;> simp [Act.put]
def After (cx : Cx) (n : Nat) (K : (Nat → AV) → List (Nat × Tree) → Prop) : Act → World → Prop := fun a w => a.defers = cx.ds ∧ ∃ g H, K g H ∧ SimF cx n g H a.tmps w
theorem WJ_ {r : Option Nat} {m : Nat} {f : FuncId} {args : Array Value} {R : Ending → World → Prop} (h : Calls P f args w R) : CallsIn (Fr r) m P f args w R :=
 have := (callsIn_wide (n := m)).2 h
 this
theorem ZD_ {r : Option Nat} {a : Act} {next : Act → World → Prop} {Q : Exit → Act → World → Prop} (hnd : ∀ c, o.op ≠ .defer c) (h : o.uponIn (Fr r) 0 P a next Q ((execOp a.eval o).run P w)) : o.wpIn (Fr r) 0 P a w next Q :=
 ⟨fun _ _ => trivial, by rw [Oper.semAt_eq _ _ _ hnd]; exact h⟩
theorem UB_ {γ : Bool} {ρ : Operand → AV} {op : Op} {v : AV} (h : V9_ P H γ ρ op v) : ∀ c, op ≠ .defer c := by
 rintro c rfl
 exact h
theorem Vl_ {ρ : Operand → AV} {op : Op} {K : AV → List Nat → List Nat → List (Nat × Tree) → Prop} (h : wx_ P H ρ op K) : ∀ c, op ≠ .defer c := by
 rintro c rfl
 exact h
theorem UC_ (hs : SimF cx n g H tmps w) (hd : UA_ cx.fix n o) {x : AV} (h : zX_ P ops g H o x) {K : (Nat → AV) → List (Nat × Tree) → Prop} (hK : K (upd g o.dst x) H) {Q : Exit → Act → World → Prop} :
  if Region.wanted o (yielded ops tmps) then o.wpIn (Fr cx.rd) 0 P ⟨tmps, cx.ds⟩ w (After cx n K) Q else After cx n K ((⟨tmps, cx.ds⟩ : Act).put o.dst undef) w := by
 obtain ⟨hsz, ι, F, ho, hr⟩ := hs
 obtain ⟨γ, v, hg, hv, rfl⟩ := h
 rw [Qa_ hr hg]
 have hdst : ∀ d, o.dst = some d → d < tmps.size := fun d h => by rw [hsz.1]; exact (hd d h).2
 cases γ with
 | false =>
  simp only [Bool.false_eq_true, if_false]
  have hw : ∃ j, o.guard = some j := by
   unfold gam at hg
   split at hg
   ·cases hg
   ·exact ⟨_, by assumption⟩
  obtain ⟨j, hj⟩ := hw
  refine ⟨(XL_ _ _).2, _, _, hK, ZC_ hsz hd _, ι, F, ho, ZB_ hr hdst ?_⟩
  simp [R9_, hj, rep]
 | true =>
  simp only [if_true]
  have hwr : ∀ {m : Mem} {u : Value}, rep m v u → rep m (R9_ o true v) u := by
   intro m u hu
   unfold R9_
   split
   ·exact hu
   ·simp [rep, hu]
  refine ZD_ (UB_ hv) ?_
  rcases R8_ (P := P) ho (SB_ hr) hv with ⟨u, h1, h2⟩ | ⟨f, args, h1, h2⟩
  ·rw [h1, Oper.uponIn_value]
   exact ⟨(XL_ _ _).2, _, _, hK, ZC_ hsz hd _, ι, F, ho, ZB_ hr hdst (hwr h2)⟩
  ·rw [h1, Oper.uponIn_enter]
   refine ⟨fun _ => by simp_all [Fr, Fence.wide], WJ_ ?_⟩
   refine h2.mono fun e w' ⟨u, k1, k2, k3⟩ => ?_
   subst k1
   exact ⟨(XL_ _ _).2, _, _, hK, ZC_ hsz hd _, ι, F, ho.ext k2, ZB_ (fun k => rep.le (zd_ k2) _ _ (hr k)) hdst (hwr k3)⟩
theorem TO_ (hs : SimF cx n g H tmps w) (hd : UA_ cx.fix n o) {K : (Nat → AV) → List (Nat × Tree) → Prop} (h : aS7 P g H o K) {Q : Exit → Act → World → Prop} :
  if Region.wanted o (yielded ops tmps) then o.wpIn (Fr cx.rd) 0 P ⟨tmps, cx.ds⟩ w (After cx n K) Q else After cx n K ((⟨tmps, cx.ds⟩ : Act).put o.dst undef) w := by
 obtain ⟨hsz, ι, F, ho, hr⟩ := hs
 obtain ⟨hgd, hA⟩ := h
 have hdst : ∀ d, o.dst = some d → d < tmps.size := fun d h => by rw [hsz.1]; exact (hd d h).2
 rw [if_pos (by simp [Region.wanted, hgd])]
 obtain ⟨u, w', hrun, v, all, subs, H', ι', F', hK, ho', hv, htr⟩ := TN_ (P := P) ho (SB_ hr) hA
 have hfin : After cx n K ((⟨tmps, cx.ds⟩ : Act).put o.dst u) w' :=
  ⟨(XL_ _ _).2, _, _, hK, ZC_ hsz hd _, ι', F', ho', ZB_ (fun k => htr _ _ (hr k)) hdst hv⟩
 refine ZD_ (Vl_ hA) ?_
 rcases hrun with h1 | ⟨h1, rfl⟩
 ·rw [h1, Oper.uponIn_value]; exact hfin
 ·rw [h1, Oper.uponIn_skip]; exact hfin
end
end Go.Aw
namespace Go.Aw
open Go.RowKit
theorem ZE_ {g g' : Nat → AV} {x : Operand} (h : ∀ t, x = .tmp t → g t = g' t) : evF g x = evF g' x := by
 cases x with
 | tmp t => exact h t rfl
 | _ => rfl
theorem XM_ {ρ ρ' : Operand → AV} {l : List Operand} (h : ∀ x ∈ l, ρ x = ρ' x) : l.map ρ = l.map ρ' := List.map_congr_left h
theorem WK_ {P : Program} {H : List (Nat × Tree)} {γ : Bool} {ρ ρ' : Operand → AV} {op : Op} {v : AV} (h : ∀ x ∈ op.operands.toList, ρ x = ρ' x) (ha : V9_ P H γ ρ op v) : V9_ P H γ ρ' op v := by
 unfold V9_ at ha ⊢
 split at ha <;> first | exact ha.elim | skip
 ·rename_i x; rw [← h x (by simp [Op.operands])]; exact ha
 ·rename_i x; rw [← h x (by simp [Op.operands])]; exact ha
 ·rename_i c a b; rw [← h c (by simp [Op.operands]), ← h a (by simp [Op.operands]), ← h b (by simp [Op.operands])]; exact ha
 ·rename_i t p; rw [← h p (by simp [Op.operands])]; exact ha
 ·rename_i t x i; rw [← h x (by simp [Op.operands]), ← h i (by simp [Op.operands])]; exact ha
 ·rename_i t p f; rw [← h p (by simp [Op.operands])]; exact ha
 ·rename_i t x f; rw [← h x (by simp [Op.operands])]; exact ha
 ·rename_i b t x y t'; rw [← h x (by simp [Op.operands]), ← h y (by simp [Op.operands])]; exact ha
 ·rename_i u t x; rw [← h x (by simp [Op.operands])]; exact ha
 ·rename_i x; rw [← h x (by simp [Op.operands])]; exact ha
 ·rename_i s d x; rw [← h x (by simp [Op.operands])]; exact ha
 ·rename_i x i; rw [← h x (by simp [Op.operands])]; exact ha
 ·rename_i t x lo; rw [← h x (by simp [Op.operands]), ← h lo (by simp [Op.operands])]; exact ha
 ·rename_i t x lo hi; rw [← h x (by simp [Op.operands]), ← h lo (by simp [Op.operands]), ← h hi (by simp [Op.operands])]; exact ha
 ·rename_i t x hi; rw [← h x (by simp [Op.operands]), ← h hi (by simp [Op.operands])]; exact ha
 ·rename_i f first caps
  have : caps.toList.map ρ = caps.toList.map ρ' := XM_ fun x hx => h x (by simp only [Op.operands, Array.toList_append, List.mem_append]; exact .inr hx)
  rw [← this]; exact ha
 ·rename_i b args ts
  have hx : ∀ x ∈ args.toList, ρ x = ρ' x := fun x hx => h x (by simp only [Op.operands, Call.operands, Array.toList_append, List.mem_append]; exact .inr hx)
  unfold XU_ at ha ⊢
  split at ha <;> first | exact ha.elim | skip
  ·rename_i x t e1 e2
   rw [e1] at hx
   rw [← hx x (by simp)]; exact ha
  ·rename_i x y t t' e1 e2
   rw [e1] at hx
   rw [← hx x (by simp), ← hx y (by simp)]; exact ha
  ·rename_i x y t t' e1 e2
   rw [e1] at hx
   rw [← hx x (by simp), ← hx y (by simp)]; exact ha
  ·rename_i x t e1 e2
   rw [e1] at hx
   rw [← hx x (by simp)]; exact ha
 ·rename_i f args ts
  have hx : args.toList.map ρ = args.toList.map ρ' := XM_ fun x hx => h x (by simp only [Op.operands, Call.operands, Array.toList_append, List.mem_append]; exact .inr hx)
  rw [← h f (by simp [Op.operands, Call.operands]), ← hx]; exact ha
 ·rename_i t parts
  have hx : (parts.toList.map fun p => (p.1, ρ p.2)) = parts.toList.map fun p => (p.1, ρ' p.2) := List.map_congr_left fun p hp => by
   rw [h p.2 (by simp only [Op.operands, List.mem_map]; exact ⟨p, hp, rfl⟩)]
  rw [← hx]; exact ha
theorem aE2 {ops : Array Oper} {g : Nat → AV} {o : Oper} {d : Option Nat} {y : AV} (h : ∀ t, d = some t → t ∉ o.looksAt ops) : gam ops (upd g d y) o = gam ops g o := by
 cases d with
 | none => rfl
 | some t =>
  have ht := h t rfl
  unfold gam
  cases hg : o.guard with
  | none => rfl
  | some jw =>
   obtain ⟨j, want⟩ := jw
   simp only
   cases hd : (ops[j]?).bind (·.dst) with
   | none => rfl
   | some d' =>
    have : t ≠ d' := fun e => ht (by
     subst e
     simp only [Oper.looksAt, hg, hd, List.mem_append]
     exact .inr (by simp))
    simp only [upd, if_neg this]
theorem yX_ {P : Program} {ops : Array Oper} {g : Nat → AV} {H : List (Nat × Tree)} {o : Oper} {d : Option Nat} {x y : AV} (h : ∀ t, d = some t → t ∉ o.looksAt ops) : zX_ P ops (upd g d y) H o x ↔ zX_ P ops g H o x := by
 have hev : ∀ z ∈ o.op.operands.toList, evF (upd g d y) z = evF g z := by
  intro z hz
  refine ZE_ fun t ht => ?_
  cases d with
  | none => rfl
  | some t' =>
   have : t' ≠ t := fun e => h t' rfl (by
    subst e; subst ht
    simp only [Oper.looksAt, List.mem_append, List.mem_filterMap]
    exact .inl ⟨.tmp t', hz, rfl⟩)
   simp only [upd, if_neg this]
 unfold zX_
 rw [aE2 h]
 constructor
 ·rintro ⟨γ, v, h1, h2, h3⟩; exact ⟨γ, v, h1, WK_ hev h2, h3⟩
 ·rintro ⟨γ, v, h1, h2, h3⟩; exact ⟨γ, v, h1, WK_ (fun z hz => (hev z hz).symm) h2, h3⟩
theorem XN_ {g : Nat → AV} {a b : Option Nat} {x y : AV} (h : ∀ d, a = some d → b ≠ some d) : upd (upd g a x) b y = upd (upd g b y) a x := by
 cases a with
 | none => rfl
 | some a =>
  cases b with
  | none => rfl
  | some b =>
   have hne : a ≠ b := fun e => h a rfl (by rw [e])
   funext k
   simp only [upd]
   by_cases h1 : a = k <;> by_cases h2 : b = k
   ·exact absurd (h1.trans h2.symm) hne
   ·simp only [if_pos h1, if_neg h2]
   ·simp only [if_neg h1, if_pos h2]
   ·simp only [if_neg h1, if_neg h2]
def yw_ : Op → Bool
 | .alloc _ | .box .. | .buildSlice .. | .makeSlice .. | .store .. => false
 | .call { callee := .builtin .len, .. } | .call { callee := .builtin .max, .. } | .call { callee := .builtin .min, .. } | .call { callee := .builtin .cap, .. } => true
 | .call { callee := .builtin _, .. } => false
 | _ => true
abbrev wf_ := (Nat → AV) → List (Nat × Tree) → Prop
def Xi_ (P : Program) (ops : Array Oper) (fx : Fx) (n : Nat) (g : Nat → AV) (H : List (Nat × Tree)) (o : Oper) (K : wf_) : Prop :=
 UA_ fx n o ∧ if yw_ o.op then ∃ x, zX_ P ops g H o x ∧ K (upd g o.dst x) H else aS7 P g H o K
def as8 (P : Program) (ops : Array Oper) (fx : Fx) (n : Nat) (Q : wf_) : List Oper → wf_
 | [], g, H => Q g H
 | o :: r, g, H => Xi_ P ops fx n g H o (as8 P ops fx n Q r)
def aAt (P : Program) (ops : Array Oper) (fx : Fx) (n : Nat) (i : Nat) (K : wf_) : wf_ := fun g H =>
 match ops[i]? with
 | none => K g H
 | some o => Xi_ P ops fx n g H o K
def am3 (P : Program) (md : Region.Mode) (ops : Array Oper) (fx : Fx) (n : Nat) (Q : wf_) : Nat → Array Bool → wf_
 | 0, listed, g, H => Region.ready md ops listed = [] ∧ Q g H
 | fuel + 1, listed, g, H => (Region.ready md ops listed = [] → Q g H) ∧ ∀ i ∈ Region.ready md ops listed, aAt P ops fx n i (am3 P md ops fx n Q fuel (listed.setIfInBounds i true)) g H
section
variable {P : Program} {cx : Cx} {n : Nat} {ops : Array Oper} {md : Region.Mode}
theorem TP_ {H : List (Nat × Tree)} {ρ : Operand → AV} {b : Builtin} {args : List Operand} {ts : List TypeId} {K K' : AV → List Nat → List Nat → List (Nat × Tree) → Prop} (h : ∀ a b c d, K a b c d → K' a b c d) (hh : WI_ P H ρ b args ts K) : WI_ P H ρ b args ts K' := by
 unfold WI_ at *
 split at hh <;> first | exact hh.elim | skip
 ·split at hh
  ·rename_i h0
   rw [if_pos h0]
   unfold Xh_ aZ3 at *
   split at hh <;> first | exact hh.elim | skip
   ·unfold al7 at *
    obtain ⟨h1, hh⟩ := hh
    refine ⟨h1, ?_⟩
    split at hh <;> first | exact hh.elim | skip
    split at hh <;> first | exact hh.elim | exact ⟨hh.1, h _ _ _ _ hh.2⟩
   obtain ⟨h1, hh⟩ := hh
   refine ⟨h1, ?_⟩
   split at hh <;> first | exact hh.elim | skip
   split at hh
   ·split at hh <;> first | exact hh.elim | (obtain ⟨k1, k2⟩ := hh; exact ⟨k1, h _ _ _ _ k2⟩)
   ·split at hh
    ·split at hh <;> first | exact hh.elim | (obtain ⟨k1, k2, k3⟩ := hh; exact ⟨k1, k2, h _ _ _ _ k3⟩)
    ·split at hh <;> first | exact hh.elim | (obtain ⟨k1, k2, k3⟩ := hh; exact ⟨k1, k2, h _ _ _ _ k3⟩)
   ·split at hh
    ·split at hh <;> first | exact hh.elim | (obtain ⟨k1, k2, k3⟩ := hh; exact ⟨k1, k2, h _ _ _ _ k3⟩)
    ·split at hh <;> first | exact hh.elim | (obtain ⟨k1, k2, k3⟩ := hh; exact ⟨k1, k2, h _ _ _ _ k3⟩)
   ·split at hh <;> first | exact hh.elim | (obtain ⟨k1, k2⟩ := hh; exact ⟨k1, h _ _ _ _ k2⟩)
   ·split at hh <;> first | exact hh.elim | (obtain ⟨k1, k2⟩ := hh; exact ⟨k1, h _ _ _ _ k2⟩)
   ·split at hh <;> first | exact hh.elim | (obtain ⟨k1, k2, k3, k4⟩ := hh; exact ⟨k1, k2, k3, h _ _ _ _ k4⟩)
   ·exact hh.elim
   ·exact hh.elim
   ·exact hh.elim
   ·exact hh.elim
   ·exact hh.elim
  ·rename_i h0
   rw [if_neg h0]
   unfold TM_ at *
   split at hh <;> first | exact hh.elim | skip
   obtain ⟨h1, h2, hh⟩ := hh
   refine ⟨h1, h2, ?_⟩
   split at hh <;> first | exact hh.elim | (obtain ⟨k0, k1, k2, k3⟩ := hh; exact ⟨k0, k1, k2, h _ _ _ _ k3⟩) | (obtain ⟨k0, k4, k1, k2, k3⟩ := hh; exact ⟨k0, k4, k1, k2, h _ _ _ _ k3⟩)
 ·unfold TL_ at *
  split at hh <;> first | exact hh.elim | skip
  obtain ⟨h1, hh⟩ := hh
  refine ⟨h1, ?_⟩
  split at hh
  ·split at hh <;> first | exact hh.elim | skip
   all_goals (split at hh <;> first | exact hh.elim | exact h _ _ _ _ hh)
  ·split at hh <;> first | exact hh.elim | skip
   obtain ⟨k1, k2, hh⟩ := hh
   refine ⟨k1, k2, ?_⟩
   split at hh <;> first | exact hh.elim | skip
   all_goals (split at hh <;> first | exact hh.elim | exact h _ _ _ _ hh)
theorem w2_ {H : List (Nat × Tree)} {ρ : Operand → AV} {op : Op} {K K' : AV → List Nat → List Nat → List (Nat × Tree) → Prop} (h : ∀ a b c d, K a b c d → K' a b c d) (hh : wx_ P H ρ op K) : wx_ P H ρ op K' := by
 unfold wx_ at *
 split at hh <;> first | exact hh.elim | skip
 ·split at hh <;> first | exact hh.elim | exact h _ _ _ _ hh
 ·split at hh <;> first | exact hh.elim | exact h _ _ _ _ hh
 ·split at hh <;> first | exact hh.elim | skip
  rotate_left
  ·unfold Vh_ at *
   obtain ⟨h1, hh⟩ := hh
   refine ⟨h1, ?_⟩
   split at hh <;> first | exact hh.elim | exact ⟨hh.1, h _ _ _ _ hh.2⟩
  obtain ⟨h1, h2, h3, h4, hh⟩ := hh
  refine ⟨h1, h2, h3, h4, ?_⟩
  unfold wu_ at *
  split at hh
  ·split at hh <;> exact h _ _ _ _ hh
  ·obtain ⟨h5, hh⟩ := hh
   refine ⟨h5, ?_⟩
   split at hh <;> first | exact hh.elim | exact h _ _ _ _ hh
  ·split at hh
   ·exact h _ _ _ _ hh
   ·split at hh
    ·exact h _ _ _ _ hh
    ·split at hh
     ·exact h _ _ _ _ hh
     ·exact ⟨hh.1, h _ _ _ _ hh.2⟩
 ·split at hh <;> first | exact hh.elim | skip
  obtain ⟨h1, h2, h3, hh⟩ := hh
  refine ⟨h1, h2, h3, ?_⟩
  unfold UM_ at *
  obtain ⟨h4, h5, hh⟩ := hh
  refine ⟨h4, h5, ?_⟩
  split at hh
  ·exact h _ _ _ _ hh
  ·exact h _ _ _ _ hh
  ·exact h _ _ _ _ hh
  ·split at hh <;> first | exact hh.elim | exact h _ _ _ _ hh
 ·unfold Zx_ at *
  split at hh <;> first | exact hh.elim | skip
  ·split at hh <;> first | exact hh.elim | skip
   obtain ⟨h1, h2, h3, h4, h5, hh⟩ := hh
   exact ⟨h1, h2, h3, h4, h5, h _ _ _ _ hh⟩
  ·split at hh <;> first | exact hh.elim | skip
   obtain ⟨h1, h2, h3, h4, h5, hh⟩ := hh
   exact ⟨h1, h2, h3, h4, h5, h _ _ _ _ hh⟩
  ·split at hh <;> first | exact hh.elim | skip
   obtain ⟨h1, h2, h3, hh⟩ := hh
   exact ⟨h1, h2, h3, h _ _ _ _ hh⟩
  ·obtain ⟨h1, hh⟩ := hh
   refine ⟨h1, ?_⟩
   split at hh <;> first | exact hh.elim | exact h _ _ _ _ hh | skip
   ·split at hh <;> first | exact hh.elim | exact h _ _ _ _ hh
   ·split at hh <;> first | exact hh.elim | exact h _ _ _ _ hh
   ·split at hh <;> first | exact hh.elim | exact h _ _ _ _ hh
   ·split at hh <;> first | exact hh.elim | exact h _ _ _ _ hh
   ·split at hh <;> first | exact hh.elim | exact h _ _ _ _ hh
   ·exact ⟨hh.1, h _ _ _ _ hh.2⟩
   ·exact ⟨hh.1, hh.2.1, h _ _ _ _ hh.2.2⟩
   ·exact ⟨hh.1, h _ _ _ _ hh.2⟩
 ·exact TP_ h hh
theorem w3_ {g : Nat → AV} {H : List (Nat × Tree)} {o : Oper} {K K' : wf_} (h : ∀ g H, K g H → K' g H) (hh : Xi_ P ops cx.fix n g H o K) : Xi_ P ops cx.fix n g H o K' := by
 obtain ⟨h1, h2⟩ := hh
 refine ⟨h1, ?_⟩
 split
 ·rename_i hp
  rw [if_pos hp] at h2
  obtain ⟨x, k1, k2⟩ := h2
  exact ⟨x, k1, h _ _ k2⟩
 ·rename_i hp
  rw [if_neg hp] at h2
  exact ⟨h2.1, w2_ (fun _ _ _ _ k => h _ _ k) h2.2⟩
theorem zH_ {g : Nat → AV} {H : List (Nat × Tree)} {o : Oper} {K : wf_} {tmps : Array Value} {w : World} (hs : SimF cx n g H tmps w) (h : Xi_ P ops cx.fix n g H o K) {Q : Exit → Act → World → Prop} :
  if Region.wanted o (yielded ops tmps) then o.wpIn (Fr cx.rd) 0 P ⟨tmps, cx.ds⟩ w (After cx n K) Q else After cx n K ((⟨tmps, cx.ds⟩ : Act).put o.dst undef) w := by
 obtain ⟨h1, h2⟩ := h
 split at h2
 ·obtain ⟨x, k1, k2⟩ := h2
  exact UC_ hs h1 k1 k2
 ·exact TO_ hs h1 h2
theorem zv_ {a : Act} {ds : List Deferred} (h : a.defers = ds) : a = ⟨a.tmps, ds⟩ := by cases a; simp at h; subst h; rfl
theorem WL_ {Q : wf_} {Q' : Exit → Act → World → Prop} (hQ : ∀ a w, After cx n Q a w → Q' .normal a w) : ∀ (l : List Oper) {g : Nat → AV} {H : List (Nat × Tree)} {tmps : Array Value} {w : World},
  SimF cx n g H tmps w → as8 P ops cx.fix n Q l g H → wpListIn (Fr cx.rd) 0 P ops Q' l ⟨tmps, cx.ds⟩ w
 | [], g, H, tmps, w, hs, h => hQ _ _ ⟨rfl, g, H, h, hs⟩
 | o :: l, g, H, tmps, w, hs, h => by
  have := zH_ (Q := Q') hs h
  have next : ∀ a w, After cx n (as8 P ops cx.fix n Q l) a w → wpListIn (Fr cx.rd) 0 P ops Q' l a w := by
   rintro a w ⟨hd, g', H', hK, hs'⟩
   rw [zv_ hd]
   exact WL_ hQ l hs' hK
  unfold wpListIn
  split
  ·rename_i hw
   rw [if_pos hw] at this
   exact Oper.wpIn_mono next this
  ·rename_i hw
   rw [if_neg hw] at this
   exact ⟨fun _ _ => trivial, next _ _ this⟩
theorem Yk_ {Q : wf_} {Q' : Exit → Act → World → Prop} (hQ : ∀ a w, After cx n Q a w → Q' .normal a w) : ∀ (fuel : Nat) (listed : Array Bool) {g : Nat → AV} {H : List (Nat × Tree)} {tmps : Array Value} {w : World},
  SimF cx n g H tmps w → am3 P md ops cx.fix n Q fuel listed g H → wpAnyIn (Fr cx.rd) 0 P md ops Q' fuel listed ⟨tmps, cx.ds⟩ w
 | 0, _, g, H, _, _, hs, h => ⟨h.1, hQ _ _ ⟨rfl, g, H, h.2, hs⟩⟩
 | fuel + 1, listed, g, H, tmps, w, hs, h => by
  refine ⟨fun h0 => hQ _ _ ⟨rfl, g, H, h.1 h0, hs⟩, fun i hi => ?_⟩
  have hh := h.2 i hi
  have next : ∀ a w, After cx n (am3 P md ops cx.fix n Q fuel (listed.setIfInBounds i true)) a w → wpAnyIn (Fr cx.rd) 0 P md ops Q' fuel (listed.setIfInBounds i true) a w := by
   rintro a w ⟨hd, g', H', hK, hs'⟩
   rw [zv_ hd]
   exact Yk_ hQ fuel _ hs' hK
  unfold aAt at hh
  unfold wpOpIn
  split
  ·rename_i ho
   rw [ho] at hh
   exact next _ _ ⟨rfl, g, H, hh, hs⟩
  ·rename_i o ho
   rw [ho] at hh
   have := zH_ (Q := Q') hs hh
   split
   ·rename_i hw
    rw [if_pos hw] at this
    exact Oper.wpIn_mono next this
   ·rename_i hw
    rw [if_neg hw] at this
    exact ⟨fun _ _ => trivial, next _ _ this⟩
theorem Qb_ {Q : wf_} {i : Nat} {oi : Oper} {x : AV} (hi : ops[i]? = some oi) (hp : yw_ oi.op = true) (hdst : UA_ cx.fix n oi) :
  ∀ (fuel : Nat) (listed : Array Bool) (g : Nat → AV) (H : List (Nat × Tree)),
   (∀ j oj, ops[j]? = some oj → j ≠ i → listed.getD j true = false → (∀ e ∈ oj.after, Region.binds md e = true → e.on ≠ i) → oi.apart ops oj = true ∧ yw_ oj.op = true) →
   i ∈ Region.ready md ops listed → zX_ P ops g H oi x →
   am3 P md ops cx.fix n Q fuel (listed.setIfInBounds i true) (upd g oi.dst x) H → am3 P md ops cx.fix n Q (fuel + 1) listed g H := by
 intro fuel
 induction fuel with
 | zero =>
  intro listed g H _ hr hy hA
  refine ⟨fun h => (by rw [h] at hr; cases hr), fun j hj => ?_⟩
  by_cases hji : j = i
  ·subst hji
   unfold aAt
   rw [hi]
   exact ⟨hdst, by rw [if_pos hp]; exact ⟨x, hy, hA⟩⟩
  ·have := ready_mono hj hji
   rw [hA.1] at this
   cases this
 | succ fuel ih =>
  intro listed g H hfree hr hy hA
  refine ⟨fun h => (by rw [h] at hr; cases hr), fun j hj => ?_⟩
  by_cases hji : j = i
  ·subst hji
   unfold aAt
   rw [hi]
   exact ⟨hdst, by rw [if_pos hp]; exact ⟨x, hy, hA⟩⟩
  ·have h1 := hA.2 j (ready_mono hj hji)
   obtain ⟨hjun, oj, hoj, hall⟩ := mem_ready.1 hj
   have hnot : ∀ e ∈ oj.after, Region.binds md e = true → e.on ≠ i := fun e he hb heq => by
    have h1 := hall e he hb
    have h0 := (mem_ready.1 hr).1
    rw [heq] at h1
    rcases Nat.lt_or_ge i listed.size with h' | h'
    ·simp [h'] at h0 h1; rw [h0] at h1; cases h1
    ·simp [Array.getElem?_eq_none h'] at h1
   obtain ⟨hap, hpj⟩ := hfree j oj hoj hji hjun hnot
   obtain ⟨a1, a2, a3⟩ := Oper.apart_spec hap
   unfold aAt at h1 ⊢
   rw [hoj] at h1 ⊢
   obtain ⟨d1, d2⟩ := h1
   rw [if_pos hpj] at d2
   obtain ⟨y, hyj, hK⟩ := d2
   have hyj' : zX_ P ops g H oj y := (yX_ a1).1 hyj
   refine ⟨d1, by
    rw [if_pos hpj]
    refine ⟨y, hyj', ih (listed.setIfInBounds j true) _ H ?_ (ready_mono hr (Ne.symm hji)) ((yX_ a3).2 hy) ?_⟩
    ·intro k ok hk hki hun hno
     refine hfree k ok hk hki ?_ hno
     by_cases hjk : j = k
     ·subst hjk; exact hjun
     ·rw [getD_set_ne true hjk] at hun; exact hun
    ·rw [Array.setIfInBounds_comm _ _ hji, ← XN_ a2]
     exact hK⟩
def Vm_ (md : Region.Mode) (ops : Array Oper) (listed : Array Bool) (i : Nat) : Bool :=
 (List.range ops.size).all fun j => match ops[j]? with
  | some oj => j == i || listed.getD j true || oj.after.any (fun e => Region.binds md e && e.on == i) || yw_ oj.op
  | none => true
def aS8 (md : Region.Mode) (ops : Array Oper) : Nat → Nat → Array Bool → Bool
 | 0, _, listed => (Region.ready md ops listed).isEmpty
 | fuel + 1, k, listed =>
  (match ops[k]? with
   | some o => if yw_ o.op then (Region.ready md ops listed).contains k && Region.free md ops listed k && Vm_ md ops listed k else Region.ready md ops listed == [k]
   | none => false) && aS8 md ops fuel (k + 1) (listed.setIfInBounds k true)
theorem Vn_ {listed : Array Bool} {i : Nat} (h : Vm_ md ops listed i = true) {j : Nat} {oj : Oper} (hj : ops[j]? = some oj) (hne : j ≠ i) (hun : listed.getD j true = false)
  (hno : ∀ e ∈ oj.after, Region.binds md e = true → e.on ≠ i) : yw_ oj.op = true := by
 unfold Vm_ at h
 rw [List.all_eq_true] at h
 have hl : j < ops.size := (Array.getElem?_eq_some_iff.1 hj).1
 have := h j (List.mem_range.2 hl)
 rw [hj] at this
 simp only [Bool.or_eq_true, beq_iff_eq, Array.any_eq_true, Bool.and_eq_true] at this
 rcases this with ((h | h) | ⟨k, hk, h1, h2⟩) | h
 ·exact absurd h hne
 ·rw [hun] at h; cases h
 ·exact absurd h2 (hno _ (Array.getElem_mem hk) h1)
 ·exact h
theorem Vo_ {Q : wf_} : ∀ (l : List Oper) (k : Nat) (listed : Array Bool) (g : Nat → AV) (H : List (Nat × Tree)), (∀ j, l[j]? = ops[k + j]?) →
  aS8 md ops l.length k listed = true → as8 P ops cx.fix n Q l g H → am3 P md ops cx.fix n Q l.length listed g H
 | [], _, _, _, _, _, hB, h => ⟨by simpa [aS8] using hB, h⟩
 | o :: l, k, listed, g, H, hl, hB, h => by
  have h0 : ops[k]? = some o := by simpa using (hl 0).symm
  have hl' : ∀ j, l[j]? = ops[k + 1 + j]? := fun j => by have := hl (j + 1); simpa [Nat.add_assoc, Nat.add_comm 1 j] using this
  simp only [List.length_cons, aS8, h0, Bool.and_eq_true] at hB
  obtain ⟨hB1, hB2⟩ := hB
  by_cases hp : yw_ o.op = true
  ·rw [if_pos hp] at hB1
   simp only [Bool.and_eq_true] at hB1
   obtain ⟨⟨hr, hf⟩, hpf⟩ := hB1
   obtain ⟨d1, d2⟩ := h
   rw [if_pos hp] at d2
   obtain ⟨x, hy, hK⟩ := d2
   exact Qb_ h0 hp d1 l.length listed g H (fun j oj hj hne hun hno => ⟨Region.free_spec h0 hf j oj hj hne hun hno, Vn_ hpf hj hne hun hno⟩) (by simpa using hr) hy
    (Vo_ l (k + 1) _ _ _ hl' hB2 hK)
  ·rw [if_neg hp] at hB1
   have hr : Region.ready md ops listed = [k] := by simpa using hB1
   refine ⟨fun h => (by rw [h] at hr; cases hr), fun i hi => ?_⟩
   rw [hr] at hi
   simp only [List.mem_singleton] at hi
   subst hi
   unfold aAt
   rw [h0]
   exact w3_ (fun g' H' hK => Vo_ l (i + 1) _ g' H' hl' hB2 hK) h
def UD_ (ops : Array Oper) : Bool := aS8 .any ops ops.size 0 (Array.replicate ops.size false)
theorem TQ_ {Q : wf_} {Q' : Exit → Act → World → Prop} (hQ : ∀ a w, After cx n Q a w → Q' .normal a w) (hm : P.follows .mixedOrders = true) (hB : UD_ ops = true) {id : Nat} {g : Nat → AV} {H : List (Nat × Tree)} {tmps : Array Value} {w : World}
  (hs : SimF cx n g H tmps w) (h : as8 P ops cx.fix n Q ops.toList g H) : (Code.region id ops true).wpIn (Fr cx.rd) 0 P Q' ⟨tmps, cx.ds⟩ w := by
 refine wpIn_region_any hm ?_
 have hs' : SimF cx n g H tmps { w with drawn := w.drawn + 1 } := by
  obtain ⟨h1, ι, F, h2, h3⟩ := hs
  have e : Ext w { w with drawn := w.drawn + 1 } := (Below.refl _ _).drew
  exact ⟨h1, ι, F, h2.ext e, fun k => rep.le (zd_ e) _ _ (h3 k)⟩
 refine Yk_ hQ _ _ hs' ?_
 have := Vo_ (md := .any) ops.toList 0 (Array.replicate ops.size false) g H (by simp) (by simpa [UD_] using hB) h
 simpa using this
theorem TR_ {Q : wf_} {Q' : Exit → Act → World → Prop} (hQ : ∀ a w, After cx n Q a w → Q' .normal a w) {id : Nat} {g : Nat → AV} {H : List (Nat × Tree)} {tmps : Array Value} {w : World}
  (hs : SimF cx n g H tmps w) (h : as8 P ops cx.fix n Q ops.toList g H) : (Code.region id ops false).wpIn (Fr cx.rd) 0 P Q' ⟨tmps, cx.ds⟩ w :=
 wpIn_region_list (WL_ hQ _ hs h)
end
end Go.Aw
namespace Go.Aw
open Go.RowKit
structure St where
 s : List (Nat × AV)
 H : List (Nat × Tree)
def St.get (st : St) (k : Nat) : AV := xh_ st.s k
def Yl_ (d : Option Nat) (v : AV) (s : List (Nat × AV)) : List (Nat × AV) :=
 match d with
 | none => s
 | some d => (d, v) :: s
def x2_ (all subs : List Nat) (s : List (Nat × AV)) : List (Nat × AV) := s.map fun p => (p.1, xp_ (qOf all subs) p.2)
theorem get_put (st : St) (d : Option Nat) (v : AV) : (fun k => xh_ (Yl_ d v st.s) k) = upd st.get d v := by
 cases d with
 | none => rfl
 | some d =>
  funext k
  simp only [Yl_, xh_, upd, St.get]
theorem zm_ (st : St) (all subs : List Nat) : (fun k => xh_ (x2_ all subs st.s) k) = fun k => xp_ (qOf all subs) (st.get k) := by
 funext k
 simp only [St.get, x2_]
 induction st.s with
 | nil => simp [xh_, xp_]
 | cons p r ih =>
  simp only [List.map_cons, xh_]
  split
  ·rfl
  ·exact ih
def Yl (p K : AV → Prop) : Prop := ∃ v, p v ∧ K v
@[congr] theorem aZ4 {p p' K : AV → Prop} (h : ∀ v, p v = p' v) : Yl p K = Yl p' K := by rw [funext h]
@[congr] theorem aE3 {P : Program} {H H2 : List (Nat × Tree)} {ρ : Operand → AV} {op : Op} {K : AV → List Nat → List Nat → List (Nat × Tree) → Prop} (h : H = H2) : wx_ P H ρ op K = wx_ P H2 ρ op K := by rw [h]
@[congr] theorem as9 {P : Program} {H H2 : List (Nat × Tree)} {t : TypeId} {p p2 v v2 : AV} {K : List Nat → List Nat → List (Nat × Tree) → Prop} (h : H = H2) (h1 : p = p2) (h3 : v = v2) : Zx_ P H t p v K = Zx_ P H2 t p2 v2 K := by rw [h, h1, h3]
@[congr] theorem at1 {P : Program} {H H2 : List (Nat × Tree)} {t : TypeId} {p p2 : List AV} {K : AV → List Nat → List Nat → List (Nat × Tree) → Prop} (h : H = H2) (h1 : p = p2) : wu_ P H t p K = wu_ P H2 t p2 K := by rw [h, h1]
@[congr] theorem aE4 {P : Program} {H H2 : List (Nat × Tree)} {t : TypeId} {p p2 : Int} {K : AV → List Nat → List Nat → List (Nat × Tree) → Prop} (h : H = H2) (h1 : p = p2) : UM_ P H t p K = UM_ P H2 t p2 K := by rw [h, h1]
@[congr] theorem am4 {P : Program} {H H2 : List (Nat × Tree)} {t : TypeId} {p p2 v v2 : AV} {K : AV → List Nat → List Nat → List (Nat × Tree) → Prop} (h : H = H2) (h1 : p = p2) (h3 : v = v2) : Xh_ P H t p v K = Xh_ P H2 t p2 v2 K := by rw [h, h1, h3]
@[congr] theorem aE5 {P : Program} {H H2 : List (Nat × Tree)} {t t' : TypeId} {p p2 v v2 : AV} {K : AV → List Nat → List Nat → List (Nat × Tree) → Prop} (h : H = H2) (h1 : p = p2) (h3 : v = v2) : TM_ P H t t' p v K = TM_ P H2 t t' p2 v2 K := by rw [h, h1, h3]
@[congr] theorem aE6 {P : Program} {H H2 : List (Nat × Tree)} {t : TypeId} {p p2 v v2 : AV} {K : AV → List Nat → List Nat → List (Nat × Tree) → Prop} (h : H = H2) (h1 : p = p2) (h3 : v = v2) : TL_ P H t p v K = TL_ P H2 t p2 v2 K := by rw [h, h1, h3]
def Xj_ (P : Program) (ops : Array Oper) (n : Nat) (st : St) (o : Oper) (K : St → Prop) : Prop :=
 (match o.dst with
  | some d => d < n
  | none => True) ∧
 match gam ops st.get o with
 | none => False
 | some γ =>
  if yw_ o.op then Yl (fun v => V9_ P st.H γ (evF st.get) o.op v) (fun v => K ⟨Yl_ o.dst (R9_ o γ v) st.s, st.H⟩)
  else o.guard = none ∧ wx_ P st.H (evF st.get) o.op (fun v all subs H' => K ⟨Yl_ o.dst v (x2_ all subs st.s), H'⟩)
@[congr] theorem aE7 {P : Program} {ops : Array Oper} {n : Nat} {st st2 : St} {o : Oper} {K : St → Prop} (h : st = st2) : Xj_ P ops n st o K = Xj_ P ops n st2 o K := by rw [h]
def am5 (P : Program) (ops : Array Oper) (n : Nat) : List Oper → St → (St → Prop) → Prop
 | [], st, K => K st
 | o :: r, st, K => Xj_ P ops n st o (fun st' => am5 P ops n r st' K)
def Vp_ (K : St → Prop) : wf_ := fun g H => ∃ st : St, st.get = g ∧ st.H = H ∧ K st
theorem Xk_ {P : Program} {ops : Array Oper} {fx : Fx} {n : Nat} {st : St} {o : Oper} {K : St → Prop} (hx : ∀ d, o.dst = some d → fx d = false) (h : Xj_ P ops n st o K) : Xi_ P ops fx n st.get st.H o (Vp_ K) := by
 obtain ⟨h1, h2⟩ := h
 refine ⟨fun d hd => ⟨hx d hd, by rw [hd] at h1; exact h1⟩, ?_⟩
 split at h2 <;> first | exact h2.elim | skip
 rename_i γ hγ
 split at h2
 ·rename_i hp
  rw [if_pos hp]
  obtain ⟨v, k1, k2⟩ := h2
  exact ⟨_, ⟨γ, v, hγ, k1, rfl⟩, ⟨⟨Yl_ o.dst (R9_ o γ v) st.s, st.H⟩, get_put st _ _, rfl, k2⟩⟩
 ·rename_i hp
  rw [if_neg hp]
  refine ⟨h2.1, w2_ (fun v all subs H' hk => ?_) h2.2⟩
  refine ⟨⟨Yl_ o.dst v (x2_ all subs st.s), H'⟩, ?_, rfl, hk⟩
  show (fun k => xh_ (Yl_ o.dst v (x2_ all subs st.s)) k) = _
  have := get_put ⟨x2_ all subs st.s, H'⟩ o.dst v
  rw [this]
  show upd (fun k => xh_ (x2_ all subs st.s) k) o.dst v = _
  rw [zm_]
theorem XO_ {P : Program} {ops : Array Oper} {cx : Cx} {n : Nat} : ∀ {l : List Oper} {st : St} {K : St → Prop}, (∀ o ∈ l, ∀ d, o.dst = some d → cx.fix d = false) → am5 P ops n l st K → as8 P ops cx.fix n (Vp_ K) l st.get st.H
 | [], st, _, _, h => ⟨st, rfl, rfl, h⟩
 | o :: l, st, K, hx, h => by
  refine w3_ ?_ (Xk_ (hx o (List.mem_cons_self ..)) h)
  rintro g H ⟨st', rfl, rfl, h'⟩
  exact XO_ (fun o ho => hx o (List.mem_cons_of_mem _ ho)) h'
abbrev SQ := Exit → St → Prop
def AT (P : Program) (cx : Cx) (n : Nat) (c : Code) (Q : SQ) (st : St) : Prop :=
 ∀ tmps w, SimF cx n st.get st.H tmps w → c.wpIn (Fr cx.rd) 0 P (fun e a w' => a.defers = cx.ds ∧ ∃ st', Q e st' ∧ SimF cx n st'.get st'.H a.tmps w') ⟨tmps, cx.ds⟩ w
def thn (K : St → Prop) (Q : SQ) : SQ
 | .normal, st => K st
 | e, st => Q e st
def aE8 (id : Nat) (Q : SQ) : SQ
 | .exit id', st => if id' = id then Q .normal st else Q (.exit id') st
 | e, st => Q e st
section
variable {P : Program} {cx : Cx} {n : Nat} {Q : SQ} {st : St}
theorem AT.conseq {c : Code} {Q' : SQ} (h : AT P cx n c Q' st) (hq : ∀ e s, Q' e s → Q e s) : AT P cx n c Q st :=
 fun tmps w hs => wpIn_mono (h tmps w hs) fun _ _ _ ⟨h1, st', h2, h3⟩ => ⟨h1, st', hq _ _ h2, h3⟩
theorem AT.skip (h : Q .normal st) : AT P cx n .skip Q st := fun _ _ hs => wpIn_skip ⟨rfl, st, h, hs⟩
theorem AT.exit {id : Nat} (h : Q (.exit id) st) : AT P cx n (.exit id) Q st := fun _ _ hs => wpIn_exit ⟨rfl, st, h, hs⟩
theorem AT.ret (h : Q .ret st) : AT P cx n .ret Q st := fun _ _ hs => wpIn_ret ⟨rfl, st, h, hs⟩
theorem AT.seq {a b : Code} (h : AT P cx n a (thn (AT P cx n b Q) Q) st) : AT P cx n (.seq a b) Q st := by
 intro tmps w hs
 refine wpIn_seq (wpIn_mono (h tmps w hs) ?_)
 rintro e a' w' ⟨h1, st', h2, h3⟩
 cases e with
 | normal =>
  simp only [Exit.then]
  rw [zv_ h1]
  exact h2 _ _ h3
 | _ => exact ⟨h1, st', h2, h3⟩
theorem AT.flat {id : Nat} {l : List Oper} (hx : ∀ o ∈ l, ∀ d, o.dst = some d → cx.fix d = false) (h : am5 P l.toArray n l st (fun st' => Q .normal st')) : AT P cx n (.region id l.toArray false) Q st := by
 intro tmps w hs
 refine TR_ (Q := Vp_ (fun st' => Q .normal st')) ?_ hs (by simpa using XO_ hx h)
 rintro a w' ⟨h1, g, H, ⟨st', rfl, rfl, h2⟩, h3⟩
 exact ⟨h1, st', h2, h3⟩
theorem AT.draw {id : Nat} {l : List Oper} (hx : ∀ o ∈ l, ∀ d, o.dst = some d → cx.fix d = false) (hm : P.follows .mixedOrders = true) (hB : UD_ l.toArray = true) (h : am5 P l.toArray n l st (fun st' => Q .normal st')) : AT P cx n (.region id l.toArray true) Q st := by
 intro tmps w hs
 refine TQ_ (Q := Vp_ (fun st' => Q .normal st')) ?_ hm hB hs (by simpa using XO_ hx h)
 rintro a w' ⟨h1, g, H, ⟨st', rfl, rfl, h2⟩, h3⟩
 exact ⟨h1, st', h2, h3⟩
theorem AT.cond {x : Operand} {a b : Code} {cb : Bool} (hx : strip (evF st.get x) = .bool cb) (hg : okG true (evF st.get x)) (ht : cb = true → AT P cx n a Q st) (hf : cb = false → AT P cx n b Q st) : AT P cx n (.cond x a b) Q st := by
 intro tmps w hs
 obtain ⟨hsz, ι, F, ho, hr⟩ := hs
 have hv := xH_ rfl hg (SB_ (ds := cx.ds) hr x)
 rw [hx] at hv
 simp only [rep] at hv
 exact wpIn_cond_split hv (fun h => ht h tmps w ⟨hsz, ι, F, ho, hr⟩) (fun h => hf h tmps w ⟨hsz, ι, F, ho, hr⟩)
theorem AT.block {id : Nat} {c : Code} (h : AT P cx n c (aE8 id Q) st) : AT P cx n (.block id c) Q st := by
 intro tmps w hs
 refine wpIn_block (wpIn_mono (h tmps w hs) ?_)
 rintro e a' w' ⟨h1, st', h2, h3⟩
 cases e with
 | exit id' =>
  simp only [Exit.inBlock]
  simp only [aE8] at h2
  split
  ·rename_i hi; rw [if_pos hi] at h2; exact ⟨h1, st', h2, h3⟩
  ·rename_i hi; rw [if_neg hi] at h2; exact ⟨h1, st', h2, h3⟩
 | _ => exact ⟨h1, st', h2, h3⟩
def xN_ (st : St) : List (Nat × AV) → Prop
 | [] => True
 | (k, v) :: r => st.get k = v ∧ xN_ st r
theorem TS_ {t : List (Nat × AV)} (h : xN_ st t) (k : Nat) : xh_ t k = .junk ∨ xh_ t k = st.get k := by
 induction t with
 | nil => exact .inl rfl
 | cons p r ih =>
  obtain ⟨j, v⟩ := p
  simp only [xh_]
  split
  ·rename_i hj; subst hj; exact .inr h.1.symm
  ·exact ih h.2
def Le (st st' : St) : Prop := xN_ st st'.s ∧ st.H = st'.H
theorem Le.sim {st' : St} (h : Le st st') {tmps : Array Value} {w : World} (hs : SimF cx n st.get st.H tmps w) : SimF cx n st'.get st'.H tmps w := by
 obtain ⟨hsz, ι, F, ho, hr⟩ := hs
 obtain ⟨h1, h2⟩ := h
 rw [h2] at ho hr
 refine ⟨hsz, ι, F, ho, fun k => ?_⟩
 rcases TS_ h1 k with h | h
 ·show rep _ (xh_ st'.s k) _
  rw [h]; simp only [rep]
 ·show rep _ (xh_ st'.s k) _
  rw [h]; exact hr k
theorem AT.le {c : Code} {st' : St} (hl : Le st st') (h : AT P cx n c Q st') : AT P cx n c Q st := fun tmps w hs => h tmps w (hl.sim hs)
theorem Owns.drop {H : List (Nat × Tree)} {w : World} {ι : Nat → Value} {F : Nat → List Nat} (ho : Owns cx H w ι F) (R : List Nat) :
  Owns cx (xt_ (qOf R []) (rmT R H)) w ι F ∧ ∀ av v, rep (mem cx w H ι F) av v → rep (mem cx w (xt_ (qOf R []) (rmT R H)) ι F) (xp_ (qOf R []) av) v := by
 have hsub : (xW_ (xt_ (qOf R []) (rmT R H)) F).Sublist (xW_ H F) := by rw [y1_]; exact yK_ R F H
 have hle : ((mem cx w H ι F).less (qOf R [])).le (mem cx w (xt_ (qOf R []) (rmT R H)) ι F) := by
  refine ⟨fun b hb => ⟨⟨hb.1, hb.2.1, fun hm => hb.2.2 (hsub.subset hm)⟩, rfl⟩, fun i p hd => ?_⟩
  obtain ⟨hd, hqf⟩ := hd
  simp only [mem] at hd ⊢
  have hi : R.contains i = false := by
   simp only [qOf, Bool.or_eq_false_iff] at hqf
   exact hqf.1
  rw [zg_, XX_, hi]
  exact ⟨by simpa [yO_] using hd, rfl, fun v hv => hv⟩
 refine ⟨⟨ho.keep, fun p hp => ?_, ho.nodup.sublist hsub, fun b hb => ho.mine b (hsub.subset hb), by rw [zq_]; exact ZT_ ho.ids, ho.old⟩, fun av v h => rep.le hle _ _ (zo_ av v h)⟩
 simp only [xt_, List.mem_map] at hp
 obtain ⟨p0, hp0, rfl⟩ := hp
 rw [mem_rmT] at hp0
 exact (y0_ (ho.trees p0 hp0.1)).le hle (fun _ _ => rfl)
def Lq (st st' : St) : Prop := Le st st' ∨ ∃ R, xN_ ⟨x2_ R [] st.s, st.H⟩ st'.s ∧ xt_ (qOf R []) (rmT R st.H) = st'.H
theorem Lq.sim {st' : St} (h : Lq st st') {tmps : Array Value} {w : World} (hs : SimF cx n st.get st.H tmps w) : SimF cx n st'.get st'.H tmps w := by
 rcases h with h | ⟨R, h1, h2⟩
 ·exact h.sim hs
 ·obtain ⟨hsz, ι, F, ho, hr⟩ := hs
  obtain ⟨k1, k2⟩ := ho.drop R
  refine Le.sim (st := ⟨x2_ R [] st.s, xt_ (qOf R []) (rmT R st.H)⟩) ⟨?_, h2⟩ ⟨hsz, ι, F, k1, fun k => ?_⟩
  ·have : ∀ (l : List (Nat × AV)) (H1 H2 : List (Nat × Tree)), xN_ ⟨x2_ R [] st.s, H1⟩ l → xN_ ⟨x2_ R [] st.s, H2⟩ l := by
    intro l H1 H2
    induction l with
    | nil => exact id
    | cons p l ih => exact fun h => ⟨h.1, ih h.2⟩
   exact this _ _ _ h1
  ·have e := congrFun (zm_ st R []) k
   show rep _ (xh_ (x2_ R [] st.s) k) _
   rw [e]
   exact k2 _ _ (hr k)
def yp_ (cx : Cx) (n : Nat) (st st' : St) : Prop := ∀ tmps w, SimF cx n st.get st.H tmps w → SimF cx n st'.get st'.H tmps w
theorem AT.ghost {c : Code} {st' : St} (hl : yp_ cx n st st') (h : AT P cx n c Q st') : AT P cx n c Q st := fun tmps w hs => h tmps w (hl tmps w hs)
theorem bg2 {p : Nat → Prop} : ∀ n, p n → ∃ k, p k ∧ ∀ m, p m → k ≤ m := by
 intro n
 induction n using Nat.strongRecOn with
 | _ n ih =>
  intro h
  by_cases c : ∃ m, m < n ∧ p m
  ·obtain ⟨m, h1, h2⟩ := c
   exact ih m h1 h2
  ·exact ⟨n, h, fun m hm => Nat.le_of_not_lt fun hl => c ⟨m, hl, hm⟩⟩
open Classical in
noncomputable def minOf (p : Nat → Prop) : Nat := if h : ∃ k, p k ∧ ∀ m, p m → k ≤ m then h.choose else 0
theorem WM_ {p : Nat → Prop} {n : Nat} (h : p n) : p (minOf p) ∧ ∀ m, p m → minOf p ≤ m := by
 have h2 := bg2 n h
 unfold minOf
 rw [dif_pos h2]
 exact h2.choose_spec
theorem XP_ {F : Fence} {m : Nat} {Q : Exit → Act → World → Prop} {a : Act} {w : World} {c : Code} (I : Nat → Act → World → Prop) (n₀ : Nat) (h₀ : I n₀ a w)
  (round : ∀ k a w, I k a w → c.wpIn F m P (Exit.then (fun a' w' => ∃ n', n' < k ∧ I n' a' w') Q) a w) : (Code.loop c).wpIn F m P Q a w := by
 refine wpIn_loop (fun a w => ∃ k, I k a w) (fun a w => minOf (fun k => I k a w)) ⟨n₀, h₀⟩ ?_
 rintro a w ⟨k, hI⟩
 have hs := WM_ (p := fun k => I k a w) hI
 refine wpIn_mono (round _ a w hs.1) ?_
 intro e a' w' hq
 cases e with
 | normal =>
  obtain ⟨n', hlt, hI'⟩ := hq
  have hs' := WM_ (p := fun k => I k a' w') hI'
  exact show (∃ k, I k a' w') ∧ minOf (fun k => I k a' w') < minOf (fun k => I k a w) from ⟨⟨n', hI'⟩, Nat.lt_of_le_of_lt (hs'.2 n' hI') hlt⟩
 | exit id => exact hq
 | goto l => exact hq
 | ret => exact hq
 | panic ch => exact hq
 | outgrown => exact hq
theorem AT.loop {c : Code} {σ : Type} (I : σ → St) (inv : σ → Prop) (μ : σ → Nat) (x0 : σ) (h0 : inv x0) (hst : Le st (I x0))
  (round : ∀ x, inv x → AT P cx n c (thn (fun st' => ∃ y, inv y ∧ μ y < μ x ∧ Lq st' (I y)) Q) (I x)) : AT P cx n (.loop c) Q st := by
 intro tmps w hs
 refine XP_ (fun m a w => a.defers = cx.ds ∧ ∃ x, μ x = m ∧ inv x ∧ SimF cx n (I x).get (I x).H a.tmps w) (μ x0) ⟨rfl, x0, rfl, h0, hst.sim hs⟩ ?_
 rintro m a w ⟨hd, x, hm, hx, hsx⟩
 rw [zv_ hd]
 refine wpIn_mono (round x hx a.tmps w hsx) ?_
 rintro e a₁ w₁ ⟨hd, st', hq, hs'⟩
 cases e with
 | normal =>
  obtain ⟨y, hy, hlt, hle⟩ := hq
  exact ⟨μ y, hm ▸ hlt, hd, y, rfl, hy, hle.sim hs'⟩
 | exit id => exact ⟨hd, st', hq, hs'⟩
 | goto l => exact ⟨hd, st', hq, hs'⟩
 | ret => exact ⟨hd, st', hq, hs'⟩
 | panic ch => exact ⟨hd, st', hq, hs'⟩
 | outgrown => exact ⟨hd, st', hq, hs'⟩
end
end Go.Aw
namespace Go.Aw
open Go.RowKit
def V8_ (P : Program) (st : St) (rv : ResultVar) (v : AV) : Prop :=
 match rv with
 | .tmp t => okG true (st.get t) ∧ v = strip (st.get t)
 | .cell a t => wy_ P st.H t (st.get a) v
def wg_ (P : Program) (st : St) (rs : List ResultVar) (v : AV) : Prop :=
 match rs with
 | [] => v = .tup []
 | [a] => V8_ P st a v
 | [a, b] => ∃ x y, V8_ P st a x ∧ V8_ P st b y ∧ v = .tup [x, y]
 | [a, b, c] => ∃ x y z, V8_ P st a x ∧ V8_ P st b y ∧ V8_ P st c z ∧ v = .tup [x, y, z]
 | [a, b, c, d] => ∃ x y z u, V8_ P st a x ∧ V8_ P st b y ∧ V8_ P st c z ∧ V8_ P st d u ∧ v = .tup [x, y, z, u]
 | _ => False
def bg3 (tmps : Array Value) : ResultVar → Sem Value
 | .tmp t => pure (tmps.getD t undef)
 | .cell a t => do loadVar t (← asAddr (tmps.getD a undef))
section
variable {P : Program} {cx : Cx} {n : Nat}
theorem yB_ {st : St} {tmps : Array Value} {w : World} {ι : Nat → Value} {F : Nat → List Nat} (ho : Owns cx st.H w ι F) (hr : ∀ k, rep (mem cx w st.H ι F) (st.get k) (tmps.getD k undef)) {rv : ResultVar} {v : AV} (h : V8_ P st rv v) :
  ∃ u, (bg3 tmps rv).run P w = .ok u w ∧ rep (mem cx w st.H ι F) v u := by
 cases rv with
 | tmp t =>
  obtain ⟨h1, rfl⟩ := h
  exact ⟨_, rfl, xH_ rfl h1 (hr t)⟩
 | cell a t =>
  obtain ⟨u, h1, h2⟩ := ZO_ (P := P) ho h (hr a)
  refine ⟨u, ?_, h2⟩
  simp only [bg3]
  simp only [Instr.loadAt] at h1
  generalize tmps.getD a undef = x at h1
  cases x with
  | pointer p =>
   cases p with
   | some p => simpa [asAddr, Instr.sureAddr] using h1
   | none => simp [Instr.sureAddr] at h1
  | _ => simp [Instr.sureAddr] at h1
theorem yT_ {fn : Func} {rs : List ResultVar} (hrs : fn.results = rs.toArray) {st : St} {tmps : Array Value} {w : World} {ι : Nat → Value} {F : Nat → List Nat} (ho : Owns cx st.H w ι F) (hr : ∀ k, rep (mem cx w st.H ι F) (st.get k) (tmps.getD k undef))
  {v : AV} (h : wg_ P st rs v) : ∃ u, (results fn tmps).run P w = .ok u w ∧ rep (mem cx w st.H ι F) v u := by
 have hres : results fn tmps = (do let vs ← rs.toArray.mapM (bg3 tmps); pure (if h : vs.size = 1 then vs[0] else .tuple vs)) := by
  unfold results
  rw [hrs]
  rfl
 rw [hres]
 unfold wg_ at h
 split at h <;> first | exact h.elim | skip
 ·subst h
  exact ⟨.tuple #[], by simp, by simp only [rep]; exact ⟨[], rfl, by simp [reps]⟩⟩
 ·rename_i a
  obtain ⟨u, h1, h2⟩ := yB_ (P := P) ho hr h
  exact ⟨u, by simp [h1], h2⟩
 ·rename_i a b
  obtain ⟨x, y, h1, h2, rfl⟩ := h
  obtain ⟨u, k1, k2⟩ := yB_ (P := P) ho hr h1
  obtain ⟨u', j1, j2⟩ := yB_ (P := P) ho hr h2
  exact ⟨.tuple #[u, u'], by simp [k1, j1], by simp only [rep]; exact ⟨[u, u'], rfl, by rw [xw_]; exact ⟨k2, j2, trivial⟩⟩⟩
 ·rename_i a b c
  obtain ⟨x, y, z, h1, h2, h3, rfl⟩ := h
  obtain ⟨u, k1, k2⟩ := yB_ (P := P) ho hr h1
  obtain ⟨u', j1, j2⟩ := yB_ (P := P) ho hr h2
  obtain ⟨u'', i1, i2⟩ := yB_ (P := P) ho hr h3
  exact ⟨.tuple #[u, u', u''], by simp [k1, j1, i1], by simp only [rep]; exact ⟨[u, u', u''], rfl, by rw [xw_]; exact ⟨k2, j2, i2, trivial⟩⟩⟩
 ·rename_i a b c d
  obtain ⟨x, y, z, q, h1, h2, h3, h4, rfl⟩ := h
  obtain ⟨u, k1, k2⟩ := yB_ (P := P) ho hr h1
  obtain ⟨u', j1, j2⟩ := yB_ (P := P) ho hr h2
  obtain ⟨u'', i1, i2⟩ := yB_ (P := P) ho hr h3
  obtain ⟨u3, l1, l2⟩ := yB_ (P := P) ho hr h4
  exact ⟨.tuple #[u, u', u'', u3], by simp [k1, j1, i1, l1], by simp only [rep]; exact ⟨[u, u', u'', u3], rfl, by rw [xw_]; exact ⟨k2, j2, i2, l2, trivial⟩⟩⟩
def xD_ : Nat → List AV → List (Nat × AV)
 | _, [] => []
 | k, a :: as => (k, a) :: xD_ (k + 1) as
theorem yI_ {m : Mem} : ∀ {ds : List AV} {vs : List Value} (j : Nat), All2 (rep m) ds vs → ∀ k, rep m (xh_ (xD_ j ds) k) (if k < j then undef else (vs[k - j]?).getD undef)
 | [], _, j, _, k => by simp only [xD_, xh_, rep]
 | d :: ds, v :: vs, j, h, k => by
  simp only [xD_, xh_]
  split
  ·rename_i hj; subst hj
   simp only [Nat.lt_irrefl, if_false, Nat.sub_self]
   exact h.1
  ·rename_i hj
   have ih := yI_ (j + 1) h.2 k
   by_cases hk : k < j
   ·rw [if_pos (by omega)] at ih; rw [if_pos hk]; exact ih
   ·rw [if_neg (by omega)] at ih
    rw [if_neg hk]
    have e : k - j = (k - (j + 1)) + 1 := by omega
    rw [e, List.getElem?_cons_succ]
    exact ih
 | _ :: _, [], _, h, _ => h.elim
def z3_ (S : Nat → Prop) (w : World) : Cx := ⟨w.heap.size, fun _ => False, S, w, 0, fun _ => undef, none, []⟩
theorem XQ_ {S : Nat → Prop} {w : World} (hS' : (∀ b, S b → b < w.heap.size) ∧ GlobOk w) {ds : List AV} {vs : List Value} (h : All2 (Rd w S) ds vs) (hl : ds.length ≤ n) :
  SimF (z3_ S w) n (St.mk (xD_ 0 ds) []).get [] (vs.toArray ++ Array.replicate (n - vs.toArray.size) undef) w := by
 have hlen := h.length
 have hS := hS'.1
 refine ⟨⟨by simp; omega, fun j hj => absurd hj (by show ¬ (decide (j < 0) = true); simp)⟩, fun _ => undef, fun _ => [], ⟨⟨rfl, rfl, rfl, Nat.le_refl _, fun _ _ _ => rfl, hS'.2.glOk fun _ h => h.elim⟩, by simp, by simp [xW_], by simp [xW_], by simp [ids], Nat.le_refl _⟩, fun k => ?_⟩
 have h1 : All2 (rep (mem (z3_ S w) w [] (fun _ => undef) (fun _ => []))) ds vs := by
  refine h.mono fun d v hdv => ?_
  exact rep.le (m := ⟨w, S, fun _ => undef, fun _ _ => False⟩) (m' := mem (z3_ S w) w [] (fun _ => undef) (fun _ => [])) ⟨fun b hb => ⟨⟨.inl hb, hS b hb, by simp [xW_]⟩, rfl⟩, fun _ _ hd => hd.elim⟩ _ _ hdv
 have := yI_ 0 h1 k
 simp only [Nat.not_lt_zero, if_false, Nat.sub_zero] at this
 show rep _ (xh_ (xD_ 0 ds) k) _
 have e : (vs.toArray ++ Array.replicate (n - vs.toArray.size) undef).getD k undef = (vs[k]?).getD undef := by
  rw [Array.getD_eq_getD_getElem?]
  by_cases hk : k < vs.length
  ·rw [Array.getElem?_append_left (by simpa using hk)]; simp
  ·rw [Array.getElem?_append_right (by simpa using hk)]
   rw [List.getElem?_eq_none (by omega)]
   simp only [Array.getElem?_replicate]
   split <;> rfl
 rw [e]
 exact this
theorem Keep.ext_of {S : Nat → Prop} {w w' : World} (h : Keep (z3_ S w) w') : Ext w w' := ⟨h.os, h.tape, h.output, h.size, fun k hk => h.block k hk (fun h => h.elim)⟩
def Ends (e : Exit) : Prop := e = .normal ∨ e = .ret
theorem PureCall.intro {f : FuncId} {fn : Func} {c : Code} {rs : List ResultVar} {ds : List AV} {r : AV} (hcall : ∀ args w, (callFunc f args).run P w = .ok (.enter f args) w) (hf : P.funcs[f]? = some fn) (hb : fn.body = some c)
  (hn : fn.ntmps = n) (hrs : fn.results = rs.toArray) (hl : ds.length ≤ n) (h : ∀ cx, cx.fix = 0 → AT P cx n c (fun e st => Ends e ∧ ∃ v, wg_ P st rs v ∧ xI_ st.H v = some r) ⟨xD_ 0 ds, []⟩) : PureCall P f ds r := by
 refine ⟨hcall, fun vs w S hS hd => calls_of_wp hf hb ?_⟩
 rw [hn]
 refine wp_mono (wpIn_wide.1 (h (z3_ S w) rfl _ w (XQ_ hS hd hl))) ?_
 rintro e a w' ⟨h1, st', ⟨he, v, hv, hvw⟩, hsz, ι, F, ho, hr⟩
 obtain ⟨u, k1, k2⟩ := yT_ (P := P) hrs ho hr hv
 have k3 := wF_ ho _ _ _ hvw k2
 have hfin : ∃ x, (results fn a.tmps).run P w' = .ok x w' ∧ ∃ v, Ending.returned x = .returned v ∧ Ext w w' ∧ Rd w' (fun b => S b ∨ (w.heap.size ≤ b ∧ b < w'.heap.size)) r v := by
  refine ⟨u, k1, u, rfl, ho.keep.ext_of, ?_⟩
  refine rep.le (m := ⟨w', zK_ (z3_ S w) w', fun _ => undef, fun _ _ => False⟩) (m' := ⟨w', fun b => S b ∨ (w.heap.size ≤ b ∧ b < w'.heap.size), fun _ => undef, fun _ _ => False⟩) ⟨fun b hb => ⟨?_, rfl⟩, fun _ _ hd => hd.elim⟩ _ _ k3
  obtain ⟨hb1, hb2⟩ := hb
  rcases hb2 with hb2 | hb2 | hb2
  ·exact .inl hb2
  ·exact .inr ⟨hb2, hb1⟩
  ·exact hb2.elim
 rcases he with rfl | rfl
 ·exact ⟨h1, hfin⟩
 ·exact ⟨h1, hfin⟩
mutual
def zI_ (H : List (Nat × Tree)) : AV → Option (AV × List Nat)
 | .ref id [] => match find H id with
  | some (.t1 xs) => some (.l1 xs, [id])
  | some (.t2 xs) => some (.l2 xs, [id])
  | some (.t3 xs) => some (.l3 xs, [id])
  | _ => none
 | .agg vs => (WN_ H vs).map fun p => (.agg p.1, p.2)
 | .tup vs => (WN_ H vs).map fun p => (.tup p.1, p.2)
 | .int n => some (.int n, [])
 | .bool b => some (.bool b, [])
 | .str s => some (.str s, [])
 | .nil => some (.nil, [])
 | _ => none
def WN_ (H : List (Nat × Tree)) : List AV → Option (List AV × List Nat)
 | [] => some ([], [])
 | a :: as => match zI_ H a, WN_ H as with
  | some (x, i), some (xs, is) => some (x :: xs, i ++ is)
  | _, _ => none
end
mutual
theorem ZF_ {H : List (Nat × Tree)} {w : World} {ι : Nat → Value} {F : Nat → List Nat} (ho : Owns cx H w ι F) : ∀ (av : AV) (d : AV) (is : List Nat) (u : Value), zI_ H av = some (d, is) → rep (mem cx w H ι F) av u →
  ownR w ((is.map F).flatten) d u ∧ ∀ i ∈ is, i ∈ Aw.ids H
 | .ref id p, d, is, u, h, hr => by
  cases p with
  | cons _ _ => simp [zI_] at h
  | nil =>
   simp only [zI_] at h
   split at h <;> first | (cases h; done) | skip
   all_goals (
    rename_i hf
    cases h
    obtain ⟨_, ht⟩ := w1_ ho hf hr
    simp only [treeRep, mem] at ht
    refine ⟨by simp only [ownR, List.map_cons, List.map_nil, List.flatten_cons, List.flatten_nil, List.append_nil]; exact ht, fun i hi => ?_⟩
    simp only [List.mem_singleton] at hi
    subst hi
    exact List.mem_map.2 ⟨_, xc_ hf, rfl⟩)
 | .agg vs, d, is, u, h, hr => by
  simp only [zI_, Option.map_eq_some_iff] at h
  obtain ⟨⟨ds, js⟩, h1, h2⟩ := h
  cases h2
  simp only [rep] at hr
  obtain ⟨us, hu, hrs⟩ := hr
  obtain ⟨k1, k2⟩ := Ym_ ho vs ds _ us h1 hrs
  exact ⟨by simp only [ownR]; exact ⟨us, hu, k1⟩, k2⟩
 | .tup vs, d, is, u, h, hr => by
  simp only [zI_, Option.map_eq_some_iff] at h
  obtain ⟨⟨ds, js⟩, h1, h2⟩ := h
  cases h2
  simp only [rep] at hr
  obtain ⟨us, hu, hrs⟩ := hr
  obtain ⟨k1, k2⟩ := Ym_ ho vs ds _ us h1 hrs
  exact ⟨by simp only [ownR]; exact ⟨us, hu, k1⟩, k2⟩
 | .int _, d, is, u, h, hr => by
  simp only [zI_, Option.some.injEq, Prod.mk.injEq] at h
  obtain ⟨rfl, rfl⟩ := h
  simp only [rep] at hr
  exact ⟨by simp only [ownR]; exact ⟨rfl, hr⟩, by simp⟩
 | .bool _, d, is, u, h, hr => by
  simp only [zI_, Option.some.injEq, Prod.mk.injEq] at h
  obtain ⟨rfl, rfl⟩ := h
  simp only [rep] at hr
  exact ⟨by simp only [ownR]; exact ⟨rfl, hr⟩, by simp⟩
 | .str _, d, is, u, h, hr => by
  simp only [zI_, Option.some.injEq, Prod.mk.injEq] at h
  obtain ⟨rfl, rfl⟩ := h
  simp only [rep] at hr
  exact ⟨by simp only [ownR]; exact ⟨rfl, hr⟩, by simp⟩
 | .nil, d, is, u, h, hr => by
  simp only [zI_, Option.some.injEq, Prod.mk.injEq] at h
  obtain ⟨rfl, rfl⟩ := h
  simp only [rep] at hr
  exact ⟨by simp only [ownR]; exact ⟨rfl, hr⟩, by simp⟩
 | .flt _, _, _, _, h, _ | .ik _ _, _, _, _, h, _ | .nilfn, _, _, _, h, _ | .l1 _, _, _, _, h, _ | .l2 _, _, _, _, h, _ | .l3 _, _, _, _, h, _ | .lp _ _, _, _, _, h, _ | .val _, _, _, _, h, _ | .lv _, _, _, _, h, _ | .fn _ _, _, _, _, h, _ | .eptr _ _, _, _, _, h, _
 | .cptr _ _, _, _, _, h, _ | .sub _ _ _ _, _, _, _, h, _ | .eref _ _ _, _, _, _, h, _ | .bptr _ _, _, _, _, h, _ | .when _ _, _, _, _, h, _ | .junk, _, _, _, h, _ => by simp [zI_] at h
theorem Ym_ {H : List (Nat × Tree)} {w : World} {ι : Nat → Value} {F : Nat → List Nat} (ho : Owns cx H w ι F) : ∀ (vs : List AV) (ds : List AV) (is : List Nat) (us : List Value), WN_ H vs = some (ds, is) → reps (mem cx w H ι F) vs us →
  ownRs w ((is.map F).flatten) ds us ∧ ∀ i ∈ is, i ∈ Aw.ids H
 | [], ds, is, us, h, hr => by
  simp only [WN_, Option.some.injEq, Prod.mk.injEq] at h
  obtain ⟨rfl, rfl⟩ := h
  simp only [reps] at hr
  exact ⟨by simp only [ownRs]; exact ⟨hr, rfl⟩, by simp⟩
 | a :: as, ds, is, us, h, hr => by
  simp only [WN_] at h
  split at h
  ·rename_i x i xs js hx hxs
   cases h
   simp only [reps] at hr
   obtain ⟨u, us', rfl, h1, h2⟩ := hr
   obtain ⟨k1, k2⟩ := ZF_ ho a _ _ u hx h1
   obtain ⟨j1, j2⟩ := Ym_ ho as _ _ us' hxs h2
   refine ⟨?_, fun q hq => ?_⟩
   ·simp only [ownRs]
    exact ⟨u, us', _, _, rfl, by rw [List.map_append, List.flatten_append], k1, j1⟩
   ·rcases List.mem_append.1 hq with hq | hq
    ·exact k2 q hq
    ·exact j2 q hq
  ·cases h
end
theorem z4_ {H : List (Nat × Tree)} {w : World} {ι : Nat → Value} {F : Nat → List Nat} (ho : Owns cx H w ι F) : ∀ {is : List Nat}, is.Nodup → (∀ i ∈ is, i ∈ Aw.ids H) → ((is.map F).flatten).Nodup
 | [], _, _ => by simp
 | i :: is, hn, hm => by
  rw [List.nodup_cons] at hn
  simp only [List.map_cons, List.flatten_cons, List.nodup_append]
  have find_id : ∀ j, j ∈ Aw.ids H → ∃ t, find H j = some t := fun j hj => by
   obtain ⟨p, hp, rfl⟩ := List.mem_map.1 hj
   exact ⟨_, x5_ ho.ids hp⟩
  obtain ⟨t, ht⟩ := find_id i (hm i (List.mem_cons_self ..))
  refine ⟨xu_ ho ht, z4_ ho hn.2 (fun j hj => hm j (List.mem_cons_of_mem _ hj)), fun a ha b hb e => ?_⟩
  subst e
  obtain ⟨l, hl, hal⟩ := List.mem_flatten.1 hb
  obtain ⟨j, hj, rfl⟩ := List.mem_map.1 hl
  obtain ⟨t', ht'⟩ := find_id j (hm j (List.mem_cons_of_mem _ hj))
  exact yc_ ho ht ht' (fun e => hn.1 (e ▸ hj)) ha hal
theorem FreshCall.intro {f : FuncId} {fn : Func} {c : Code} {rs : List ResultVar} {ds : List AV} {r : AV} (hcall : ∀ args w, (callFunc f args).run P w = .ok (.enter f args) w) (hf : P.funcs[f]? = some fn) (hb : fn.body = some c)
  (hn : fn.ntmps = n) (hrs : fn.results = rs.toArray) (hl : ds.length ≤ n) (h : ∀ cx, cx.fix = 0 → AT P cx n c (fun e st => Ends e ∧ ∃ v is, wg_ P st rs v ∧ zI_ st.H v = some (r, is) ∧ is.Nodup) ⟨xD_ 0 ds, []⟩) : FreshCall P f ds r := by
 refine ⟨hcall, fun vs w S hS hd => calls_of_wp hf hb ?_⟩
 rw [hn]
 refine wp_mono (wpIn_wide.1 (h (z3_ S w) rfl _ w (XQ_ hS hd hl))) ?_
 rintro e a w' ⟨h1, st', ⟨he, v, is, hv, hvw, hnd⟩, hsz, ι, F, ho, hr⟩
 obtain ⟨u, k1, k2⟩ := yT_ (P := P) hrs ho hr hv
 obtain ⟨k3, k4⟩ := ZF_ ho _ _ _ _ hvw k2
 have hfin : ∃ x, (results fn a.tmps).run P w' = .ok x w' ∧ ∃ v fp, Ending.returned x = .returned v ∧ Ext w w' ∧ ownR w' fp r v ∧ fp.Nodup ∧ ∀ b ∈ fp, w.heap.size ≤ b ∧ b < w'.heap.size := by
  refine ⟨u, k1, u, _, rfl, ho.keep.ext_of, k3, z4_ ho hnd k4, fun b hb => ?_⟩
  obtain ⟨l, hl, hbl⟩ := List.mem_flatten.1 hb
  obtain ⟨i, hi, rfl⟩ := List.mem_map.1 hl
  obtain ⟨p, hp, rfl⟩ := List.mem_map.1 (k4 i hi)
  have := ho.mine b (mem_foot.2 ⟨p, hp, hbl⟩)
  refine ⟨?_, this.1⟩
  rcases this.2 with h | h
  ·exact h
  ·exact h.elim
 rcases he with rfl | rfl
 ·exact ⟨h1, hfin⟩
 ·exact ⟨h1, hfin⟩
end
end Go.Aw
namespace Go.Aw
open Go.RowKit
def ATs (P : Program) (cx : Cx) (n : Nat) : List Code → SQ → St → Prop
 | [], Q, st => Q .normal st
 | c :: cs, Q, st => AT P cx n c (thn (ATs P cx n cs Q) Q) st
def bq (id : Nat) (K : St → Prop) (Q : SQ) : SQ
 | .normal, st => K st
 | .exit id', st => if id' = id then K st else Q (.exit id') st
 | e, st => Q e st
def lq (id : Nat) (N X : St → Prop) (Q : SQ) : SQ
 | .normal, st => N st
 | .exit id', st => if id' = id then X st else Q (.exit id') st
 | e, st => Q e st
section
variable {P : Program} {cx : Cx} {n : Nat} {Q : SQ} {st : St} {cs : List Code}
theorem Vq_ {id : Nat} {K : St → Prop} (h : K st) : bq id K Q .normal st := h
theorem am6 {id : Nat} {K : St → Prop} (h : K st) : bq id K Q (.exit id) st := by simp only [bq, if_true]; exact h
theorem ye_ {id : Nat} {N X : St → Prop} (h : X st) : lq id N X Q (.exit id) st := by simp only [lq, if_true]; exact h
theorem yY_ {c : Code} (h : ATs P cx n [c] Q st) : AT P cx n c Q st := AT.conseq h (fun e s hq => by cases e <;> exact hq)
theorem yf_ (h : Q .normal st) : ATs P cx n [] Q st := h
theorem xa_ {a b : Code} (h : ATs P cx n (a :: b :: cs) Q st) : ATs P cx n (.seq a b :: cs) Q st :=
 AT.seq (AT.conseq h (fun e s hq => by cases e <;> exact hq))
theorem xb_ (h : ATs P cx n cs Q st) : ATs P cx n (.skip :: cs) Q st := AT.skip h
theorem xd_ (h : Q .ret st) : ATs P cx n (.ret :: cs) Q st := AT.ret h
theorem xf_ {id : Nat} (h : Q (.exit id) st) : ATs P cx n (.exit id :: cs) Q st := AT.exit h
theorem xZ_ {l : List Oper} (h0 : cx.fix = 0) : ∀ o ∈ l, ∀ d, o.dst = some d → cx.fix d = false := fun _ _ _ _ => by rw [h0]; rfl
theorem yQ_ {l : List Oper} (h0 : cx.fix = 1) (h : (l.all fun o => o.dst != some 0) = true) : ∀ o ∈ l, ∀ d, o.dst = some d → cx.fix d = false := fun o ho d hd => by
 have := (List.all_eq_true.1 h) o ho
 rw [hd] at this
 rw [h0]
 cases d with
 | zero => simp at this
 | succ d => show decide (d + 1 < 1) = false; simp
theorem am7 {id : Nat} {l : List Oper} (hx : ∀ o ∈ l, ∀ d, o.dst = some d → cx.fix d = false) (hm : P.follows .mixedOrders = true) (hB : UD_ l.toArray = true) (h : ∀ K : St → Prop, (∀ s, ATs P cx n cs Q s → K s) → am5 P l.toArray n l st K) : ATs P cx n (.region id l.toArray true :: cs) Q st :=
 AT.draw hx hm hB (h _ fun _ h => h)
theorem XR_ {x : Operand} {a b : Code} {cb : Bool} (hx : strip (evF st.get x) = .bool cb) (hg : okG true (evF st.get x)) (ht : cb = true → ATs P cx n (a :: cs) Q st) (hf : cb = false → ATs P cx n (b :: cs) Q st) : ATs P cx n (.cond x a b :: cs) Q st :=
 AT.cond hx hg ht hf
theorem K6_ {id : Nat} {c : Code} (h : ATs P cx n [c] (bq id (ATs P cx n cs Q) Q) st) : ATs P cx n (.block id c :: cs) Q st :=
 AT.block (AT.conseq (yY_ h) (fun e s hq => by
  cases e with
  | normal => exact hq
  | exit id' =>
   simp only [bq] at hq
   simp only [aE8]
   split
   ·rename_i hi; rw [if_pos hi] at hq; exact hq
   ·rename_i hi; rw [if_neg hi] at hq; exact hq
  | _ => exact hq))
theorem xo_ {id : Nat} {c : Code} {σ : Type} (I : σ → St) (inv : σ → Prop) (μ : σ → Nat) (x0 : σ) (h0 : inv x0) (hst : Le st (I x0))
  (round : ∀ x, inv x → ATs P cx n [c] (lq id (fun st' => ∃ y, inv y ∧ μ y < μ x ∧ Lq st' (I y)) (ATs P cx n cs Q) Q) (I x)) : ATs P cx n (.block id (.loop c) :: cs) Q st :=
 AT.block (AT.loop I inv μ x0 h0 hst (fun x hx => AT.conseq (yY_ (round x hx)) (fun e s hq => by
  cases e with
  | normal => exact hq
  | exit id' =>
   simp only [lq] at hq
   simp only [thn, aE8]
   split
   ·rename_i hi; rw [if_pos hi] at hq; exact hq
   ·rename_i hi; rw [if_neg hi] at hq; exact hq
  | _ => exact hq)))
theorem Xd_ {st' : St} {c : Code} (hl : Le st st') (h : ATs P cx n (c :: cs) Q st') : ATs P cx n (c :: cs) Q st := AT.le hl h
theorem aE9 {a : Code} {σ : Type} (I : σ → St) (inv : σ → Prop) (h : ATs P cx n [a] (thn (fun s => ∃ x, inv x ∧ Le s (I x)) Q) st) {c : Code} (h2 : ∀ x, inv x → ATs P cx n (c :: cs) Q (I x)) : ATs P cx n (a :: c :: cs) Q st :=
 AT.conseq (yY_ h) (fun e s hq => by
  cases e with
  | normal =>
   obtain ⟨x, hx, hl⟩ := hq
   exact AT.le hl (h2 x hx)
  | _ => exact hq)
theorem xg_ {H : List (Nat × Tree)} {f : FuncId} {args : List AV} {v : AV} (h : PureCall P f args v) (hd : yd_ args = true) : UG_ P H f args v := .inl ⟨hd, h⟩
theorem xG_ {H : List (Nat × Tree)} {f : FuncId} {args ds : List AV} {v : AV} (hv : Xc_ H args = some ds) (hm : zw_ v = true) (h : PureCall P f ds v) : UG_ P H f args v := .inr ⟨ds, hv, .inl ⟨hm, h⟩⟩
theorem xP_ {H : List (Nat × Tree)} {f : FuncId} {args ds : List AV} {v : AV} (hv : Xc_ H args = some ds) (h : FreshCall P f ds v) : UG_ P H f args v := .inr ⟨ds, hv, .inr h⟩
theorem bg4 {t : Nat} {r : AV} (h1 : okG true (st.get t)) (h2 : xI_ st.H (strip (st.get t)) = some r) : Ends .ret ∧ ∃ v, wg_ P st [.tmp t] v ∧ xI_ st.H v = some r := ⟨.inr rfl, _, ⟨h1, rfl⟩, h2⟩
theorem aK0 {t u : Nat} {r : AV} (h1 : okG true (st.get t)) (h1' : okG true (st.get u)) (h2 : xI_ st.H (.tup [strip (st.get t), strip (st.get u)]) = some r) : Ends .ret ∧ ∃ v, wg_ P st [.tmp t, .tmp u] v ∧ xI_ st.H v = some r :=
 ⟨.inr rfl, _, ⟨_, _, ⟨h1, rfl⟩, ⟨h1', rfl⟩, rfl⟩, h2⟩
theorem ce7 {t : Nat} {r : AV} {is : List Nat} (h1 : okG true (st.get t)) (h2 : zI_ st.H (strip (st.get t)) = some (r, is)) (h3 : is.Nodup) : Ends .ret ∧ ∃ v is, wg_ P st [.tmp t] v ∧ zI_ st.H v = some (r, is) ∧ is.Nodup := ⟨.inr rfl, _, is, ⟨h1, rfl⟩, h2, h3⟩
theorem ce8 {t u : Nat} {r : AV} {is : List Nat} (h1 : okG true (st.get t)) (h1' : okG true (st.get u)) (h2 : zI_ st.H (.tup [strip (st.get t), strip (st.get u)]) = some (r, is)) (h3 : is.Nodup) :
  Ends .ret ∧ ∃ v is, wg_ P st [.tmp t, .tmp u] v ∧ zI_ st.H v = some (r, is) ∧ is.Nodup := ⟨.inr rfl, _, is, ⟨_, _, ⟨h1, rfl⟩, ⟨h1', rfl⟩, rfl⟩, h2, h3⟩
end
end Go.Aw
namespace Go.Aw
open Go.RowKit
def F1 (xs : List Int) : Prop := xs.length ≤ 9223372036854775807 ∧ ∀ x ∈ xs, InR x
def F2 (xss : List (List Int)) : Prop := xss.length ≤ 9223372036854775807 ∧ ∀ x ∈ xss, F1 x
def F3 (xsss : List (List (List Int))) : Prop := xsss.length ≤ 9223372036854775807 ∧ ∀ x ∈ xsss, F2 x
mutual
def fact : AV → Prop
 | .int n => InR n
 | .str s => s.size ≤ 9223372036854775807
 | .l1 xs => F1 xs
 | .l2 xss => F2 xss
 | .l3 xsss => F3 xsss
 | .lv vs => vs.length ≤ 9223372036854775807
 | .agg vs | .tup vs | .cptr vs _ => facts vs
 | _ => True
def facts : List AV → Prop
 | [] => True
 | a :: as => fact a ∧ facts as
end
theorem ZG_ {α β : Type} {R : α → β → Prop} {p : α → Prop} (h : ∀ a b, R a b → p a) : ∀ {as : List α} {bs : List β}, All2 R as bs → ∀ a ∈ as, p a
 | a :: as, b :: bs, ha, x, hx => by
  rcases List.mem_cons.1 hx with rfl | hx
  ·exact h _ _ ha.1
  ·exact ZG_ h ha.2 x hx
 | [], _, _, _, hx => by simp at hx
theorem Vr_ {α β γ : Type} {R : α → β → γ → Prop} {p : β → Prop} (h : ∀ a b c, R a b c → p b) : ∀ {as : List α} {bs : List β} {cs : List γ}, All3 R as bs cs → ∀ b ∈ bs, p b
 | a :: as, b :: bs, c :: cs, ha, x, hx => by
  rcases List.mem_cons.1 hx with rfl | hx
  ·exact h _ _ _ ha.1
  ·exact Vr_ h ha.2 x hx
 | _, [], _, _, _, hx => by simp at hx
theorem L1.fact {w : World} {S : Nat → Prop} {xs : List Int} {v : Value} (h : L1 w S xs v) : F1 xs := ⟨by have := Yo_ h.1; rw [yu_] at this; exact this, h.2⟩
theorem L2.fact {w : World} {S : Nat → Prop} {xs : List (List Int)} {v : Value} (h : L2 w S xs v) : F2 xs := by
 obtain ⟨us, h1, h2⟩ := h
 exact ⟨by rw [h2.length]; exact Yo_ h1, ZG_ (fun _ _ h => h.fact) h2⟩
theorem L3.fact {w : World} {S : Nat → Prop} {xs : List (List (List Int))} {v : Value} (h : L3 w S xs v) : F3 xs := by
 obtain ⟨us, h1, h2⟩ := h
 exact ⟨by rw [h2.length]; exact Yo_ h1, ZG_ (fun _ _ h => h.fact) h2⟩
theorem O1.fact {w : World} {fp : List Nat} {xs : List Int} {v : Value} (h : O1 w fp xs v) : F1 xs := ⟨by have := zL_ h.1; rw [yu_] at this; exact this, h.2⟩
theorem O2.fact {w : World} {fp : List Nat} {xs : List (List Int)} {v : Value} (h : O2 w fp xs v) : F2 xs := by
 obtain ⟨us, f0, fs, h1, h2, _⟩ := h
 exact ⟨by rw [h2.length.2]; exact zL_ h1, Vr_ (fun _ _ _ h => h.fact) h2⟩
theorem O3.fact {w : World} {fp : List Nat} {xs : List (List (List Int))} {v : Value} (h : O3 w fp xs v) : F3 xs := by
 obtain ⟨us, f0, fs, h1, h2, _⟩ := h
 exact ⟨by rw [h2.length.2]; exact zL_ h1, Vr_ (fun _ _ _ h => h.fact) h2⟩
mutual
theorem SC_ {m : Mem} : ∀ (av : AV) (v : Value), rep m av v → fact av
 | .int n, v, h => by simp only [rep] at h; simp only [fact]; exact h.2
 | .str n, v, h => by simp only [rep] at h; simp only [fact]; exact h.2
 | .l1 _, v, h => by simp only [rep] at h; simp only [fact]; exact h.fact
 | .l2 _, v, h => by simp only [rep] at h; simp only [fact]; exact h.fact
 | .l3 _, v, h => by simp only [rep] at h; simp only [fact]; exact h.fact
 | .lp _ _, v, h => trivial
 | .val _, v, h => trivial
 | .lv vs, v, h => by
  simp only [rep] at h; simp only [fact]
  obtain ⟨us, h1, h2⟩ := h
  rw [xw_] at h2
  rw [h2.length]; exact Yo_ h1
 | .agg vs, v, h => by
  simp only [rep] at h; simp only [fact]
  obtain ⟨us, h1, h2⟩ := h
  exact XS_ vs us h2
 | .tup vs, v, h => by
  simp only [rep] at h; simp only [fact]
  obtain ⟨us, h1, h2⟩ := h
  exact XS_ vs us h2
 | .cptr vs _, v, h => by
  simp only [rep] at h; simp only [fact]
  obtain ⟨b, us, _, _, _, h2⟩ := h
  exact XS_ vs us h2
 | .flt _, _, _ | .ik _ _, _, _ | .bool _, _, _ | .nil, _, _ | .nilfn, _, _ | .fn _ _, _, _ | .eptr _ _, _, _ | .ref _ _, _, _ | .sub _ _ _ _, _, _ | .eref _ _ _, _, _ | .bptr _ _, _, _ | .when _ _, _, _ | .junk, _, _ => by simp only [fact]
theorem XS_ {m : Mem} : ∀ (vs : List AV) (us : List Value), reps m vs us → facts vs
 | [], _, _ => by simp only [facts]
 | a :: as, _, h => by
  simp only [reps] at h
  obtain ⟨u, us', _, h1, h2⟩ := h
  simp only [facts]
  exact ⟨SC_ a u h1, XS_ as us' h2⟩
end
section
variable {P : Program} {cx : Cx} {n : Nat} {Q : SQ} {st : St} {cs : List Code} {c : Code}
theorem yg_ (k : Nat) (h : fact (st.get k) → ATs P cx n (c :: cs) Q st) : ATs P cx n (c :: cs) Q st := by
 intro tmps w hs
 obtain ⟨hsz, ι, F, ho, hr⟩ := hs
 exact h (SC_ _ _ (hr k)) tmps w ⟨hsz, ι, F, ho, hr⟩
end
theorem F1.get {xs : List Int} (h : F1 xs) (i : Nat) : InR (xs.getD i 0) := by
 by_cases hi : i < xs.length
 ·exact h.2 _ (getD_mem hi)
 ·simp [List.getD, Nat.le_of_not_lt hi, InR]
theorem F2.get {xs : List (List Int)} (h : F2 xs) (i : Nat) : F1 (xs.getD i []) := by
 by_cases hi : i < xs.length
 ·exact h.2 _ (getD_mem hi)
 ·simp [List.getD, Nat.le_of_not_lt hi, F1]
theorem F3.get {xs : List (List (List Int))} (h : F3 xs) (i : Nat) : F2 (xs.getD i []) := by
 by_cases hi : i < xs.length
 ·exact h.2 _ (getD_mem hi)
 ·simp [List.getD, Nat.le_of_not_lt hi, F2]
theorem yJ_ {α : Type} {xs ys : List α} {d : α} {k : Nat} (hx : k < xs.length) (hy : k < ys.length) (h : xs.take k = ys.take k) (he : xs.getD k d = ys.getD k d) : xs.take (k + 1) = ys.take (k + 1) := by
 rw [List.take_add_one, List.take_add_one, h, getD_some (d := d) hx, getD_some (d := d) hy, he]
theorem zb_ {α : Type} {xs ys : List α} {d : α} {k : Nat} (h : xs.getD k d ≠ ys.getD k d) : xs ≠ ys := fun e => h (by rw [e])
theorem ce9 (b : Bool) : (b == true) = b := by cases b <;> rfl
theorem cf0 (b : Bool) : (b == false) = !b := by cases b <;> rfl
section
variable {P : Program} {cx : Cx} {n : Nat} {Q : SQ} {st : St} {cs : List Code}
theorem aF0 {x : Operand} {a b : Code} {p : Prop} {inst : Decidable p} (hx : strip (evF st.get x) = .bool (decide p)) (hg : okG true (evF st.get x)) (ht : p → ATs P cx n (a :: cs) Q st) (hf : ¬ p → ATs P cx n (b :: cs) Q st) : ATs P cx n (.cond x a b :: cs) Q st :=
 XR_ hx hg (fun h => ht (of_decide_eq_true h)) (fun h => hf (of_decide_eq_false h))
theorem aF1 {x : Operand} {a b : Code} {p : Prop} {inst : Decidable p} (hx : strip (evF st.get x) = .bool (!decide p)) (hg : okG true (evF st.get x)) (ht : ¬ p → ATs P cx n (a :: cs) Q st) (hf : p → ATs P cx n (b :: cs) Q st) : ATs P cx n (.cond x a b :: cs) Q st :=
 XR_ hx hg (fun h => ht (of_decide_eq_false (by simpa using h))) (fun h => hf (of_decide_eq_true (by simpa using h)))
end
section
variable {P : Program} {st : St}
theorem yZ_ {t : Nat} {b b' : Bool} (h1 : st.get t = .bool b) (h2 : b = b') : Ends .ret ∧ ∃ v, wg_ P st [.tmp t] v ∧ xI_ st.H v = some (.bool b') := by
 subst h2; exact bg4 (by rw [h1]; trivial) (by rw [h1]; simp only [strip, xI_, isData, if_true])
theorem zW_ {t : Nat} {b b' : Int} (h1 : st.get t = .int b) (h2 : b = b') : Ends .ret ∧ ∃ v, wg_ P st [.tmp t] v ∧ xI_ st.H v = some (.int b') := by
 subst h2; exact bg4 (by rw [h1]; trivial) (by rw [h1]; simp only [strip, xI_, isData, if_true])
theorem TT_ {t : Nat} {a r : AV} (h1 : st.get t = a) (h0 : strip a = a ∧ okG true a) (h2 : xI_ st.H a = some r) : Ends .ret ∧ ∃ v, wg_ P st [.tmp t] v ∧ xI_ st.H v = some r := by
 exact bg4 (by rw [h1]; exact h0.2) (by rw [h1, h0.1]; exact h2)
theorem Xl_ {t : Nat} {a r : AV} {is : List Nat} (h1 : st.get t = a) (h0 : strip a = a ∧ okG true a) (h2 : zI_ st.H a = some (r, is)) (h3 : is.Nodup) : Ends .ret ∧ ∃ v is, wg_ P st [.tmp t] v ∧ zI_ st.H v = some (r, is) ∧ is.Nodup := by
 exact ce7 (by rw [h1]; exact h0.2) (by rw [h1, h0.1]; exact h2) h3
theorem bi7 {a t : Nat} {v r : AV} {is : List Nat} (h1 : wy_ P st.H t (st.get a) v) (h2 : zI_ st.H v = some (r, is)) (h3 : is.Nodup) : Ends .ret ∧ ∃ v is, wg_ P st [.cell a t] v ∧ zI_ st.H v = some (r, is) ∧ is.Nodup := ⟨.inr rfl, v, is, h1, h2, h3⟩
end
end Go.Aw
namespace Go.Aw
open Go.RowKit
mutual
def thaw (k : Nat) : AV → Option (AV × List (Nat × Tree))
 | .l1 xs => some (.ref k [], [(k, .t1 xs)])
 | .l2 xs => some (.ref k [], [(k, .t2 xs)])
 | .l3 xs => some (.ref k [], [(k, .t3 xs)])
 | .agg vs => (Qc_ k vs).map fun p => (.agg p.1, p.2)
 | .tup vs => (Qc_ k vs).map fun p => (.tup p.1, p.2)
 | .int n => some (.int n, [])
 | .bool b => some (.bool b, [])
 | .str s => some (.str s, [])
 | .nil => some (.nil, [])
 | _ => none
def Qc_ (k : Nat) : List AV → Option (List AV × List (Nat × Tree))
 | [] => some ([], [])
 | a :: as => match thaw k a with
  | some (x, es) => match Qc_ (k + es.length) as with
   | some (xs, es') => some (x :: xs, es ++ es')
   | none => none
  | none => none
end
structure Thawed (k : Nat) (w : World) (fp : List Nat) (es : List (Nat × Tree)) (G : Nat → List Nat) (J : Nat → Value) : Prop where
 fp : fp = xW_ es G
 lo : ∀ p ∈ es, k ≤ p.1 ∧ p.1 < k + es.length
 nd : (ids es).Nodup
 tr : ∀ p ∈ es, ∀ m : Mem, m.w = w → treeRep m (G p.1) p.2 (J p.1)
def K7_ (m : Mem) (es : List (Nat × Tree)) (J : Nat → Value) : Prop := ∀ p ∈ es, m.D p.1 [] ∧ m.ι p.1 = J p.1
theorem yM_ {es : List (Nat × Tree)} {G G' : Nat → List Nat} (h : ∀ p ∈ es, G p.1 = G' p.1) : xW_ es G = xW_ es G' := by
 unfold xW_; congr 1; exact List.map_congr_left h
theorem wj_ (es es' : List (Nat × Tree)) (G : Nat → List Nat) : xW_ (es ++ es') G = xW_ es G ++ xW_ es' G := by simp [xW_]
theorem w4_ (es es' : List (Nat × Tree)) : ids (es ++ es') = ids es ++ ids es' := by simp [ids]
mutual
theorem SD_ {w : World} : ∀ (d : AV) (k : Nat) (fp : List Nat) (v : Value) (av : AV) (es : List (Nat × Tree)), ownR w fp d v → thaw k d = some (av, es) →
  ∃ G J, Thawed k w fp es G J ∧ ∀ m : Mem, m.w = w → K7_ m es J → rep m av v
 | .l1 xs, k, fp, v, av, es, h, ht => by
  simp only [thaw, Option.some.injEq, Prod.mk.injEq] at ht
  obtain ⟨rfl, rfl⟩ := ht
  simp only [ownR] at h
  refine ⟨fun _ => fp, fun _ => v, ⟨by simp [xW_], by simp, by simp [ids], fun p hp m hm => ?_⟩, fun m hm hh => ?_⟩
  ·simp only [List.mem_singleton] at hp; subst hp; simp only [treeRep]; rw [hm]; exact h
  ·obtain ⟨h1, h2⟩ := hh _ (List.mem_singleton.2 rfl); simp only [rep, xl_]; exact ⟨h1, by rw [h2]⟩
 | .l2 xs, k, fp, v, av, es, h, ht => by
  simp only [thaw, Option.some.injEq, Prod.mk.injEq] at ht
  obtain ⟨rfl, rfl⟩ := ht
  simp only [ownR] at h
  refine ⟨fun _ => fp, fun _ => v, ⟨by simp [xW_], by simp, by simp [ids], fun p hp m hm => ?_⟩, fun m hm hh => ?_⟩
  ·simp only [List.mem_singleton] at hp; subst hp; simp only [treeRep]; rw [hm]; exact h
  ·obtain ⟨h1, h2⟩ := hh _ (List.mem_singleton.2 rfl); simp only [rep, xl_]; exact ⟨h1, by rw [h2]⟩
 | .l3 xs, k, fp, v, av, es, h, ht => by
  simp only [thaw, Option.some.injEq, Prod.mk.injEq] at ht
  obtain ⟨rfl, rfl⟩ := ht
  simp only [ownR] at h
  refine ⟨fun _ => fp, fun _ => v, ⟨by simp [xW_], by simp, by simp [ids], fun p hp m hm => ?_⟩, fun m hm hh => ?_⟩
  ·simp only [List.mem_singleton] at hp; subst hp; simp only [treeRep]; rw [hm]; exact h
  ·obtain ⟨h1, h2⟩ := hh _ (List.mem_singleton.2 rfl); simp only [rep, xl_]; exact ⟨h1, by rw [h2]⟩
 | .agg vs, k, fp, v, av, es, h, ht => by
  simp only [thaw, Option.map_eq_some_iff] at ht
  obtain ⟨⟨xs, es'⟩, h1, h2⟩ := ht
  cases h2
  simp only [ownR] at h
  obtain ⟨us, rfl, h3⟩ := h
  obtain ⟨G, J, h4, h5⟩ := ZH_ vs k fp us xs _ h3 h1
  exact ⟨G, J, h4, fun m hm hh => by simp only [rep]; exact ⟨us, rfl, h5 m hm hh⟩⟩
 | .tup vs, k, fp, v, av, es, h, ht => by
  simp only [thaw, Option.map_eq_some_iff] at ht
  obtain ⟨⟨xs, es'⟩, h1, h2⟩ := ht
  cases h2
  simp only [ownR] at h
  obtain ⟨us, rfl, h3⟩ := h
  obtain ⟨G, J, h4, h5⟩ := ZH_ vs k fp us xs _ h3 h1
  exact ⟨G, J, h4, fun m hm hh => by simp only [rep]; exact ⟨us, rfl, h5 m hm hh⟩⟩
 | .int n, k, fp, v, av, es, h, ht => by
  simp only [thaw, Option.some.injEq, Prod.mk.injEq] at ht
  obtain ⟨rfl, rfl⟩ := ht
  simp only [ownR] at h
  exact ⟨fun _ => [], fun _ => undef, ⟨by simp [xW_, h.1], by simp, by simp [ids], by simp⟩, fun m _ _ => by simp only [rep]; exact h.2⟩
 | .bool n, k, fp, v, av, es, h, ht => by
  simp only [thaw, Option.some.injEq, Prod.mk.injEq] at ht
  obtain ⟨rfl, rfl⟩ := ht
  simp only [ownR] at h
  exact ⟨fun _ => [], fun _ => undef, ⟨by simp [xW_, h.1], by simp, by simp [ids], by simp⟩, fun m _ _ => by simp only [rep]; exact h.2⟩
 | .str n, k, fp, v, av, es, h, ht => by
  simp only [thaw, Option.some.injEq, Prod.mk.injEq] at ht
  obtain ⟨rfl, rfl⟩ := ht
  simp only [ownR] at h
  exact ⟨fun _ => [], fun _ => undef, ⟨by simp [xW_, h.1], by simp, by simp [ids], by simp⟩, fun m _ _ => by simp only [rep]; exact h.2⟩
 | .nil, k, fp, v, av, es, h, ht => by
  simp only [thaw, Option.some.injEq, Prod.mk.injEq] at ht
  obtain ⟨rfl, rfl⟩ := ht
  simp only [ownR] at h
  exact ⟨fun _ => [], fun _ => undef, ⟨by simp [xW_, h.1], by simp, by simp [ids], by simp⟩, fun m _ _ => by simp only [rep]; exact h.2⟩
 | .flt _, _, _, _, _, _, _, ht | .ik _ _, _, _, _, _, _, _, ht | .nilfn, _, _, _, _, _, _, ht | .lv _, _, _, _, _, _, _, ht | .fn _ _, _, _, _, _, _, _, ht | .eptr _ _, _, _, _, _, _, _, ht | .cptr _ _, _, _, _, _, _, _, ht
 | .ref _ _, _, _, _, _, _, _, ht | .sub _ _ _ _, _, _, _, _, _, _, ht | .eref _ _ _, _, _, _, _, _, _, ht | .bptr _ _, _, _, _, _, _, _, ht | .when _ _, _, _, _, _, _, _, ht | .junk, _, _, _, _, _, _, ht => by simp [thaw] at ht
theorem ZH_ {w : World} : ∀ (ds : List AV) (k : Nat) (fp : List Nat) (us : List Value) (vs : List AV) (es : List (Nat × Tree)), ownRs w fp ds us → Qc_ k ds = some (vs, es) →
  ∃ G J, Thawed k w fp es G J ∧ ∀ m : Mem, m.w = w → K7_ m es J → reps m vs us
 | [], k, fp, us, vs, es, h, ht => by
  simp only [Qc_, Option.some.injEq, Prod.mk.injEq] at ht
  obtain ⟨rfl, rfl⟩ := ht
  simp only [ownRs] at h
  exact ⟨fun _ => [], fun _ => undef, ⟨by simp [xW_, h.2], by simp, by simp [ids], by simp⟩, fun m _ _ => by simp only [reps]; exact h.1⟩
 | a :: as, k, fp, us, vs, es, h, ht => by
  simp only [Qc_] at ht
  split at ht
  ·rename_i x e1 hx
   split at ht
   ·rename_i xs e2 hxs
    cases ht
    simp only [ownRs] at h
    obtain ⟨u, us', f, g, rfl, rfl, h1, h2⟩ := h
    obtain ⟨G1, J1, t1, r1⟩ := SD_ a k f u x e1 h1 hx
    obtain ⟨G2, J2, t2, r2⟩ := ZH_ as (k + e1.length) g us' xs e2 h2 hxs
    have in1 : ∀ p ∈ e1, p.1 < k + e1.length := fun p hp => (t1.lo p hp).2
    have in2 : ∀ p ∈ e2, ¬ p.1 < k + e1.length := fun p hp => Nat.not_lt.2 (t2.lo p hp).1
    refine ⟨fun i => if i < k + e1.length then G1 i else G2 i, fun i => if i < k + e1.length then J1 i else J2 i, ⟨?_, ?_, ?_, ?_⟩, ?_⟩
    ·have q1 : xW_ e1 (fun i => if i < k + e1.length then G1 i else G2 i) = xW_ e1 G1 := yM_ (fun p hp => by simp only [if_pos (in1 p hp)])
     have q2 : xW_ e2 (fun i => if i < k + e1.length then G1 i else G2 i) = xW_ e2 G2 := yM_ (fun p hp => by simp only [if_neg (in2 p hp)])
     rw [wj_, q1, q2, ← t1.fp, ← t2.fp]
    ·intro p hp
     rw [List.length_append]
     rcases List.mem_append.1 hp with hp | hp
     ·have := t1.lo p hp; omega
     ·have := t2.lo p hp; omega
    ·rw [w4_, List.nodup_append]
     refine ⟨t1.nd, t2.nd, fun i hi j hj e => ?_⟩
     obtain ⟨p, hp, rfl⟩ := List.mem_map.1 hi
     obtain ⟨p', hp', rfl⟩ := List.mem_map.1 hj
     have := in1 p hp; have := in2 p' hp'; omega
    ·intro p hp m hm
     rcases List.mem_append.1 hp with hp | hp
     ·simp only [if_pos (in1 p hp)]; exact t1.tr p hp m hm
     ·simp only [if_neg (in2 p hp)]; exact t2.tr p hp m hm
    ·intro m hm hh
     simp only [reps]
     refine ⟨u, us', rfl, r1 m hm fun p hp => ?_, r2 m hm fun p hp => ?_⟩
     ·have := hh p (List.mem_append.2 (.inl hp)); simpa only [if_pos (in1 p hp)] using this
     ·have := hh p (List.mem_append.2 (.inr hp)); simpa only [if_neg (in2 p hp)] using this
   ·cases ht
  ·cases ht
end
section
variable {P : Program} {cx : Cx} {H : List (Nat × Tree)} {w w' : World} {ι : Nat → Value} {F : Nat → List Nat}
theorem zc_ {es : List (Nat × Tree)} {k : Nat} : find (es ++ H) k = match find es k with | some t => some t | none => find H k := by
 induction es with
 | nil => rfl
 | cons p r ih =>
  obtain ⟨j, t⟩ := p
  simp only [List.cons_append, find]
  split
  ·rfl
  ·exact ih
theorem Owns.adds (ho : Owns cx H w ι F) (he : Ext w w') {es : List (Nat × Tree)} {fp : List Nat} {G : Nat → List Nat} {J : Nat → Value} (ht : Thawed (xR_ H) w' fp es G J) (hn : fp.Nodup) (hb : ∀ b ∈ fp, w.heap.size ≤ b ∧ b < w'.heap.size) :
  Owns cx (es ++ H) w' (fun i => if i < xR_ H then ι i else J i) (fun i => if i < xR_ H then F i else G i) ∧
  (∀ av v, rep (mem cx w H ι F) av v → rep (mem cx w' (es ++ H) (fun i => if i < xR_ H then ι i else J i) (fun i => if i < xR_ H then F i else G i)) av v) ∧
  K7_ (mem cx w' (es ++ H) (fun i => if i < xR_ H then ι i else J i) (fun i => if i < xR_ H then F i else G i)) es J := by
 have hes : ∀ p ∈ es, ¬ p.1 < xR_ H := fun p hp => Nat.not_lt.2 (ht.lo p hp).1
 have hH : ∀ i, i ∈ Aw.ids H → i < xR_ H := fun i hi => VB_ hi
 have hH' : ∀ p ∈ H, p.1 < xR_ H := fun p hp => hH _ (List.mem_map.2 ⟨p, hp, rfl⟩)
 have hf : xW_ (es ++ H) (fun i => if i < xR_ H then F i else G i) = fp ++ xW_ H F := by
  have q1 : xW_ es (fun i => if i < xR_ H then F i else G i) = xW_ es G := yM_ (fun p hp => by simp only [if_neg (hes p hp)])
  have q2 : xW_ H (fun i => if i < xR_ H then F i else G i) = xW_ H F := yM_ (fun p hp => by simp only [if_pos (hH' p hp)])
  rw [wj_, q1, q2, ← ht.fp]
 have hfes : ∀ i, i < xR_ H → find es i = none := fun i hi => find_none.2 fun hm => by
  obtain ⟨p, hp, rfl⟩ := List.mem_map.1 hm
  exact hes p hp hi
 have hnd : (Aw.ids (es ++ H)).Nodup := by
  rw [w4_, List.nodup_append]
  refine ⟨ht.nd, ho.ids, fun i hi j hj e => ?_⟩
  obtain ⟨p, hp, rfl⟩ := List.mem_map.1 hi
  subst e
  exact hes p hp (hH _ hj)
 have hle : (mem cx w H ι F).le (mem cx w' (es ++ H) (fun i => if i < xR_ H then ι i else J i) (fun i => if i < xR_ H then F i else G i)) := by
  refine ⟨fun b hi => ⟨⟨hi.1, Nat.lt_of_lt_of_le hi.2.1 he.size, fun hm => ?_⟩, he.block b hi.2.1⟩, fun i p hd => ?_⟩
  ·rw [hf] at hm
   rcases List.mem_append.1 hm with hm | hm
   ·exact absurd (hb b hm).1 (Nat.not_le.2 hi.2.1)
   ·exact hi.2.2 hm
  ·simp only [mem] at hd ⊢
   have hi : i < xR_ H := by
    cases hc : find H i with
    | none => rw [hc] at hd; simp [xq_] at hd
    | some t => exact hH i (List.mem_map.2 ⟨_, xc_ hc, rfl⟩)
   rw [zc_, hfes i hi, if_pos hi]
   exact ⟨hd, rfl, fun v hv => ZJ_ he hv⟩
 refine ⟨⟨ho.keep.ext ho.old he, fun p hp => ?_, ?_, fun b hbm => ?_, hnd, Nat.le_trans ho.old he.size⟩, fun av v h => rep.le hle _ _ h, fun p hp => ?_⟩
 ·rcases List.mem_append.1 hp with hp | hp
  ·simp only [if_neg (hes p hp)]; exact ht.tr p hp _ rfl
  ·simp only [if_pos (hH' p hp)]
   exact (ho.trees p hp).le hle (fun b hbf => he.block b (ho.mine b (mem_foot.2 ⟨p, hp, hbf⟩)).1)
 ·rw [hf, List.nodup_append]
  exact ⟨hn, ho.nodup, fun a ha c hc e => by have := (hb a ha).1; have := (ho.mine c hc).1; omega⟩
 ·rw [hf] at hbm
  rcases List.mem_append.1 hbm with h | h
  ·exact ⟨(hb b h).2, .inl (Nat.le_trans ho.old (hb b h).1)⟩
  ·exact ⟨Nat.lt_of_lt_of_le (ho.mine b h).1 he.size, (ho.mine b h).2⟩
 ·simp only [mem]
  refine ⟨?_, by rw [if_neg (hes p hp)]⟩
  rw [zc_, x5_ ht.nd hp]
  cases p.2 <;> rfl
end
end Go.Aw
