import Derived.Test.YtlngnhbochmcoaaLib6
set_option linter.unusedSimpArgs false
set_option linter.unusedVariables false
namespace Go.Aw
open Go.RowKit
def bj6 (o : Oper) : Bool := (match o.op with
 | .move _ => true
 | .assign _ => true
 | _ => false) && o.guard.isNone
section
variable {P : Program} {ops : Array Oper} {n : Nat} {own : List Nat} {st : St} {K : St → Prop} {p : Plan} {cx : Cx} {Q : SQ} {cs : List Code}
theorem ATD.of_ATr {c : Code} (h : ∀ cx', cx'.fix = cx.fix → cx'.rd = cx.rd → AT P cx' n c Q st) : ATD P cx n c Q st :=
 fun cx' hr hd tmps w hs => wpIn_mono (h cx' hr.fix hr.rd tmps w hs) fun e a w' ⟨h1, st', h2, h3⟩ => ⟨cx', hr, hd, h1, st', h2, h3⟩
theorem OwnCall.introR {f : FuncId} {fn : Func} {c : Code} {rs : List ResultVar} {args : List AV} {T T' : List (Nat × Tree)} {r : AV} (k : Nat) (J : List Nat) {X : List Nat} (hcall : ∀ args w, (callFunc f args).run P w = .ok (.enter f args) w) (hf : P.funcs[f]? = some fn) (hb : fn.body = some c)
  (hn : fn.ntmps = n) (hrs : fn.results = rs.toArray) (hl : args.length ≤ n) (hX : ∀ i ∈ X, i ∈ Aw.ids T' ∧ ∃ j ∈ J, j < k ∧ i ∈ y9_ (xh_ (xD_ 0 args) j))
  (h : ∀ cx, cx.fix = below k → cx.rd = none → AT P cx n c (fun e st => Ends e ∧ wg_ P st rs r ∧ (∀ j ∈ J, st.get j = xh_ (xD_ 0 args) j) ∧ st.H = T') ⟨xD_ 0 args, T⟩) : OwnCall P f args T T' r X :=
 OwnCall.introD k J hcall hf hb hn hrs hl hX fun cx hcx hrd => ATD.of_ATr fun cx' h1 h2 => h cx' (h1.trans hcx) (h2.trans hrd)
end
end Go.Aw
namespace Go.Aw
open Go.RowKit
def Ua_ (H : List (Nat × Tree)) (R : List Nat) : AV → AV
 | .ref i [] => if R.contains i then (match find H i with
  | some (.t1 xs) => .l1 xs
  | some (.t2 xs) => .l2 xs
  | some (.t3 xs) => .l3 xs
  | some (.r2 xs) => .l2 xs
  | some (.r3 xs) => .l3 xs
  | some (.a3 xs σ) => .l3 (σ.map fun k => xs.getD k [])
  | some (.lv vs) => .lv (xA_ (qOf R []) vs)
  | some (.tp ps) => .lp ps none
  | some (.tq xs _) => .l2 xs
  | _ => .junk) else .ref i []
 | v => xp_ (qOf R []) v
section
variable {P : Program} {cx : Cx} {n : Nat} {H : List (Nat × Tree)} {w : World} {ι : Nat → Value} {F : Nat → List Nat}
theorem VS_ (ho : Owns cx H w ι F) {R : List Nat} : ∀ (av : AV) (u : Value), rep (mem cx w H ι F) av u → rep (mem cx w (xt_ (qOf R []) (rmT R H)) ι F) (Ua_ H R av) u := by
 have hd : ∀ (av : AV) (u : Value), rep (mem cx w H ι F) av u → rep (mem cx w (xt_ (qOf R []) (rmT R H)) ι F) (xp_ (qOf R []) av) u := fun av u h => (ho.drop R).2 av u h
 intro av u h
 unfold Ua_
 split
 ·rename_i i
  split
  ·rename_i hc
   have hi : i ∈ R := by simpa using hc
   simp only [rep, mem, xl_, Option.some.injEq] at h
   split
   ·rename_i xs hf
    have ht := ho.trees _ (xc_ hf)
    simp only [treeRep, mem] at ht
    rw [h.2] at ht
    simp only [rep]
    exact ht.l1 ((yE_ ho).2 i _ hi hf)
   ·rename_i xs hf
    have ht := ho.trees _ (xc_ hf)
    simp only [treeRep, mem] at ht
    rw [h.2] at ht
    simp only [rep]
    exact ht.l2 ((yE_ ho).2 i _ hi hf)
   ·rename_i xs hf
    have ht := ho.trees _ (xc_ hf)
    simp only [treeRep, mem] at ht
    rw [h.2] at ht
    simp only [rep]
    exact ht.l3 ((yE_ ho).2 i _ hi hf)
   ·rename_i xs hf
    have ht := ho.trees _ (xc_ hf)
    simp only [treeRep, mem] at ht
    rw [h.2] at ht
    obtain ⟨us, h1, h2⟩ := ht
    simp only [rep]
    exact L2.le (fun b hb => ⟨hb, rfl⟩) ⟨us, h1.slC ((yE_ ho).2 i _ hi hf), All2.mono (fun a b h3 => L1.le (fun b hb => ⟨(yE_ ho).1 b hb, rfl⟩) h3) h2⟩
   ·rename_i xs hf
    have ht := ho.trees _ (xc_ hf)
    simp only [treeRep, mem] at ht
    rw [h.2] at ht
    obtain ⟨us, h1, h2⟩ := ht
    simp only [rep]
    exact L3.le (fun b hb => ⟨hb, rfl⟩) ⟨us, h1.slC ((yE_ ho).2 i _ hi hf), All2.mono (fun a b h3 => L2.le (fun b hb => ⟨(yE_ ho).1 b hb, rfl⟩) h3) h2⟩
   ·rename_i xs σ hf
    have ht := ho.trees _ (xc_ hf)
    simp only [treeRep, mem] at ht
    rw [h.2] at ht
    obtain ⟨rows, f0, fs, h1, h2, h3, h4⟩ := ht
    simp only [rep]
    have hS := (yE_ ho).2 i _ hi hf
    refine ⟨_, h1.slC (fun b hb => hS b (by simp [h4, hb])), ?_⟩
    refine All2.of_get (by simp) (fun j a u' ha hu => ?_)
    rw [List.getElem?_map] at ha hu
    cases hs : σ[j]? with
    | none => rw [hs] at ha; cases ha
    | some k =>
     rw [hs] at ha hu
     simp only [Option.map_some, Option.some.injEq] at ha hu
     subst ha
     subst hu
     have hk : k < xs.length := h3 k (List.mem_of_getElem? hs)
     obtain ⟨f, c, hff, hc, hr⟩ := h2.get k _ (getD_some (d := []) hk)
     rw [hc]
     exact O2.l2 hr (fun b hb => hS b (by simp only [h4, List.mem_append, List.mem_flatten]; exact .inr ⟨f, List.mem_of_getElem? hff, hb⟩))
   ·rename_i vs hf
    have ht := ho.trees _ (xc_ hf)
    simp only [treeRep, mem] at ht
    rw [h.2] at ht
    obtain ⟨us, h1, h2⟩ := ht
    have h3 := (ho.drop R).2 (.agg vs) (.agg us.toArray) (by simp only [rep]; exact ⟨us, rfl, h2⟩)
    simp only [xp_, rep] at h3
    obtain ⟨us', e, h3⟩ := h3
    obtain rfl : us = us' := by simpa using e
    simp only [rep]
    exact ⟨us, h1.slC ((yE_ ho).2 i _ hi hf), h3⟩
   ·rename_i ps hf
    have ht := ho.trees _ (xc_ hf)
    simp only [treeRep, mem] at ht
    rw [h.2] at ht
    simp only [rep]
    exact OwnP.slP ht ((yE_ ho).2 i _ hi hf)
   ·rename_i xs L hf
    have ht := ho.trees _ (xc_ hf)
    simp only [treeRep, mem] at ht
    rw [h.2] at ht
    simp only [rep]
    exact ht.1.l2 ((yE_ ho).2 i _ hi hf)
   ·simp only [rep]
  ·rename_i hc
   have hq : qOf R [] i [] = false := by simpa [qOf] using hc
   have := hd (.ref i []) u h
   simpa only [xp_, hq, Bool.false_eq_true, if_false] using this
 ·exact hd _ u h
theorem YV_ (R : List Nat) : ∀ (s : List (Nat × AV)) (k : Nat), xh_ (s.map fun p => (p.1, Ua_ H R p.2)) k = Ua_ H R (xh_ s k)
 | [], k => rfl
 | (j, v) :: s, k => by
  simp only [List.map_cons, xh_]
  split
  ·rfl
  ·exact YV_ R s k
theorem JQ_ (R : List Nat) {s : List (Nat × AV)} : yp_ cx n ⟨s, H⟩ ⟨s.map fun p => (p.1, Ua_ H R p.2), xt_ (qOf R []) (rmT R H)⟩ := by
 intro tmps w ⟨hsz, ι, F, ho, hr⟩
 obtain ⟨k1, k2⟩ := ho.drop R
 refine ⟨hsz, ι, F, k1, fun k => ?_⟩
 show rep _ (xh_ (s.map fun p => (p.1, Ua_ H R p.2)) k) _
 rw [YV_]
 exact VS_ ho _ _ (hr k)
theorem VT_ {Q : SQ} {st : St} {c : Code} {cs : List Code} (z : St) (h : ATs P cx n [c] (fun e s => (e = .normal ∧ yp_ cx n s z) ∨ (e ≠ .normal ∧ Q e s)) st) (hz : ATs P cx n cs Q z) : ATs P cx n (c :: cs) Q st := by
 refine AT.weakG (AT.conseq (yY_ h) ?_)
 rintro e s (⟨rfl, hg⟩ | ⟨hne, hq⟩)
 ·exact ⟨z, hg, hz⟩
 ·refine ⟨s, fun _ _ h => h, ?_⟩
  cases e with
  | normal => exact absurd rfl hne
  | exit id => exact hq
  | goto l => exact hq
  | ret => exact hq
  | panic ch => exact hq
  | outgrown => exact hq
end
end Go.Aw
namespace Go.Aw
open Go.RowKit
section
variable {P : Program} {ops : Array Oper} {n : Nat} {st : St} {K : St → Prop} {cx : Cx} {Q : SQ} {cs : List Code}
end
end Go.Aw
namespace Go.Aw
open Go.RowKit
def Y2_ (H : List (Nat × Tree)) (R : List Nat) : AV → AV
 | .sub i [] lo hi => if R.contains i then (yR_ lo hi (Ua_ H R (.ref i []))).getD .junk else .sub i [] lo hi
 | v => Ua_ H R v
def W3_ (H : List (Nat × Tree)) (R : List Nat) : Tree → Tree
 | .bx vs => .bx (vs.map (Y2_ H R))
 | .lv vs => .lv (vs.map (Y2_ H R))
 | .mx x i j u v => .mx x i j (Y2_ H R u) (Y2_ H R v)
 | t => t
theorem aX5 (H : List (Nat × Tree)) (R : List Nat) : (∀ x, W3_ H R (.t1 x) = .t1 x) ∧ (∀ x, W3_ H R (.t2 x) = .t2 x) ∧ (∀ x, W3_ H R (.t3 x) = .t3 x) ∧ (∀ x, W3_ H R (.r2 x) = .r2 x) ∧ (∀ x, W3_ H R (.r3 x) = .r3 x) ∧ (∀ x s, W3_ H R (.a3 x s) = .a3 x s) ∧ (∀ x, W3_ H R (.tp x) = .tp x) ∧ (∀ x L, W3_ H R (.tq x L) = .tq x L) ∧ (∀ x i j u v, W3_ H R (.mx x i j u v) = .mx x i j (Y2_ H R u) (Y2_ H R v)) ∧ (∀ vs, W3_ H R (.lv vs) = .lv (vs.map (Y2_ H R))) ∧ (∀ vs, W3_ H R (.bx vs) = .bx (vs.map (Y2_ H R))) :=
 ⟨fun _ => rfl, fun _ => rfl, fun _ => rfl, fun _ => rfl, fun _ => rfl, fun _ _ => rfl, fun _ => rfl, fun _ _ => rfl, fun _ _ _ _ _ => rfl, fun _ => rfl, fun _ => rfl⟩
def W4_ (H : List (Nat × Tree)) (R : List Nat) : List (Nat × Tree) := (rmT R H).map fun p => (p.1, W3_ H R p.2)
section
variable {P : Program} {cx : Cx} {n : Nat} {H : List (Nat × Tree)} {w : World} {ι : Nat → Value} {F : Nat → List Nat}
theorem aq7 (ho : Owns cx H w ι F) {R : List Nat} (av : AV) (u : Value) (h : rep (mem cx w H ι F) av u) : rep (mem cx w (xt_ (qOf R []) (rmT R H)) ι F) (Y2_ H R av) u := by
 unfold Y2_
 split
 ·rename_i i lo hi
  split
  ·rename_i hc
   simp only [rep] at h
   obtain ⟨hd, a, k, cap, a', h1, h2, h3, h4, h5, rfl⟩ := h
   cases hx : yR_ lo hi (Ua_ H R (.ref i [])) with
   | none => simp only [Option.getD_none, rep]
   | some d =>
    simp only [Option.getD_some]
    have hr : rep (mem cx w H ι F) (.ref i []) (.slice a k cap) := by
     simp only [rep]
     exact ⟨hd, h1⟩
    exact Vv_ hx (VS_ ho _ _ hr) h2 h3 h5
  ·rename_i hc
   have hq : qOf R [] i [] = false := by simpa [qOf] using hc
   have := (ho.drop R).2 (.sub i [] lo hi) u h
   simpa only [xp_, hq, Bool.false_eq_true, if_false] using this
 ·exact VS_ ho _ _ h
theorem S5_ {R : List Nat} {k : Nat} {p : List Nat} : ∀ {l : List (Nat × Tree)}, xq_ (find (l.map fun p => (p.1, W3_ H R p.2)) k) p = xq_ (find l k) p
 | [] => rfl
 | (j, x) :: r => by
  simp only [List.map_cons, find]
  split
  ·cases x <;> first | rfl | (cases p <;> rfl)
  ·exact S5_
theorem YW_ (R : List Nat) : ∀ (s : List (Nat × AV)) (k : Nat), xh_ (s.map fun p => (p.1, Y2_ H R p.2)) k = Y2_ H R (xh_ s k)
 | [], k => rfl
 | (j, v) :: s, k => by
  simp only [List.map_cons, xh_]
  split
  ·rfl
  ·exact YW_ R s k
theorem JR_ (ho : Owns cx H w ι F) (R : List Nat) : Owns cx (W4_ H R) w ι F ∧ ∀ av u, rep (mem cx w H ι F) av u → rep (mem cx w (W4_ H R) ι F) (Y2_ H R av) u := by
 obtain ⟨k1, k2⟩ := ho.drop R
 have ef : xW_ (W4_ H R) F = xW_ (xt_ (qOf R []) (rmT R H)) F := by
  rw [y1_]
  simp [xW_, W4_, Function.comp_def]
 have hle : (mem cx w (xt_ (qOf R []) (rmT R H)) ι F).le (mem cx w (W4_ H R) ι F) := by
  refine ⟨fun b hb => ⟨⟨hb.1, hb.2.1, by rw [ef]; exact hb.2.2⟩, rfl⟩, fun i p hd => ⟨?_, rfl, fun v hv => hv⟩⟩
  simp only [mem] at hd ⊢
  unfold W4_
  rw [S5_]
  rw [zg_, yO_] at hd
  exact hd
 have hW : ∀ av u, rep (mem cx w H ι F) av u → rep (mem cx w (W4_ H R) ι F) (Y2_ H R av) u := fun av u h => rep.le hle _ _ (aq7 ho av u h)
 refine ⟨⟨k1.keep, fun p hp => ?_, by rw [ef]; exact k1.nodup, by rw [ef]; exact k1.mine, ?_, k1.old⟩, hW⟩
 ·simp only [W4_, List.mem_map] at hp
  obtain ⟨q, hq, rfl⟩ := hp
  have ho1 := ho.trees q (mem_rmT.1 hq).1
  have kt := k1.trees (q.1, x4_ (qOf R []) q.2) (List.mem_map.2 ⟨q, hq, rfl⟩)
  obtain ⟨i, t⟩ := q
  have hmap : ∀ (vs : List AV) (us : List Value), reps (mem cx w H ι F) vs us → reps (mem cx w (W4_ H R) ι F) (vs.map (Y2_ H R)) us := by
   intro vs
   induction vs with
   | nil => intro us h; simpa only [reps, List.map_nil] using h
   | cons a as ih =>
    intro us h
    simp only [reps, List.map_cons] at h ⊢
    obtain ⟨u, us', rfl, h1, h2⟩ := h
    exact ⟨u, us', rfl, hW a u h1, ih us' h2⟩
  cases t with
  | bx vs =>
   obtain ⟨b, us, E, h1, h2, h3, h4⟩ := ho1
   exact ⟨b, us, E, h1, h2, h3, hmap vs us h4⟩
  | lv vs =>
   obtain ⟨us, h1, h2⟩ := ho1
   exact ⟨us, h1, hmap vs us h2⟩
  | mx x i j p q =>
   obtain ⟨us, f0, fs, h1, h2, h3, h4, h5, h6, h7⟩ := ho1
   exact ⟨us, f0, fs, h1, h2, h3, h4, h5, fun y hy => hW _ _ (h6 y hy), fun y hy => hW _ _ (h7 y hy)⟩
  | t1 xs => exact treeRep.le hle (fun _ _ => rfl) kt
  | tp xs => exact treeRep.le hle (fun _ _ => rfl) kt
  | t2 xs => exact treeRep.le hle (fun _ _ => rfl) kt
  | tq xs L => exact treeRep.le hle (fun _ _ => rfl) kt
  | t3 xs => exact treeRep.le hle (fun _ _ => rfl) kt
  | r2 xs => exact treeRep.le hle (fun _ _ => rfl) kt
  | r3 xs => exact treeRep.le hle (fun _ _ => rfl) kt
  | a3 xs s => exact treeRep.le hle (fun _ _ => rfl) kt
 ·have e : Aw.ids (W4_ H R) = Aw.ids (rmT R H) := by simp [Aw.ids, W4_]
  rw [e]
  exact ZT_ ho.ids
theorem zl_ (R : List Nat) {s : List (Nat × AV)} : yp_ cx n ⟨s, H⟩ ⟨s.map fun p => (p.1, Y2_ H R p.2), W4_ H R⟩ := by
 intro tmps w ⟨hsz, ι, F, ho, hr⟩
 obtain ⟨k1, hW⟩ := JR_ ho R
 refine ⟨hsz, ι, F, k1, fun k => ?_⟩
 show rep _ (xh_ (s.map fun p => (p.1, Y2_ H R p.2)) k) _
 rw [YW_]
 exact hW _ _ (hr k)
theorem aq8 (a : Nat) {xs : List (List (List Int))} {s : List (Nat × AV)} (hf : find H a = some (.t3 xs)) : yp_ cx n ⟨s, H⟩ ⟨x2_ [] [a] s, x8_ (xt_ (qOf [] [a]) H) a (.r3 xs)⟩ := by
 intro tmps w ⟨hsz, ι, F, ho, hr⟩
 have hid : a ∈ Aw.ids H := List.mem_map.2 ⟨_, xc_ hf, rfl⟩
 have ht : O3 w (F a) xs (ι a) := by have := ho.trees _ (xc_ hf); simp only [treeRep, mem] at this; exact this
 obtain ⟨us, f0, fs, h1, h2, h3⟩ := ht
 have hn := xu_ ho hf
 rw [h3, List.nodup_append] at hn
 have hsub : ∀ x ∈ f0, x ∈ F a := fun x hx => by rw [h3]; exact List.mem_append_left _ hx
 have hin : ∀ x ∈ F a, x < w.heap.size ∧ (cx.B0 ≤ x ∨ cx.A0 x) := fun x hx => ho.mine x (mem_foot.2 ⟨_, xc_ hf, hx⟩)
 have e0 : rmT [] H = H := yL_ H
 have key := ho.put (w' := w) [] a (.r3 xs) (ι a) f0 (qOf [] [a]) ho.keep (Nat.le_refl _) (fun _ _ _ => rfl) hn.1
  (fun x hx => ⟨(hin x (hsub x hx)).1, .inl ⟨a, .inl rfl, hid, hsub x hx⟩⟩) (fun r hr => by simp at hr)
  (fun p hq hl => by
   have hp : p = [] := by
    simp only [qOf, List.contains_nil, Bool.false_or, List.contains_cons, beq_self_eq_true, Bool.true_or, Bool.true_and, Bool.or_false] at hq
    simpa using hq
   subst hp
   exact ⟨rfl, rfl, fun u hu => hu⟩)
  (fun hrep => by
   simp only [treeRep]
   refine ⟨us, h1, wE_ (fun f hfm _ _ ho2 => ?_) h2⟩
   refine O2.l2 ho2 (fun b hb => ?_)
   have hbF : b ∈ F a := by rw [h3]; exact List.mem_append_right _ (List.mem_flatten.2 ⟨f, hfm, hb⟩)
   refine ⟨.inr (hin b hbF).2, (hin b hbF).1, fun hm => ?_⟩
   rcases zp_ (by rw [zq_, e0]; exact ho.ids) hm with h | ⟨p, hp, hne, hb2⟩
   ·exact hn.2.2 b h b (List.mem_flatten.2 ⟨f, hfm, hb⟩) rfl
   ·simp only [xt_, List.mem_map] at hp
    obtain ⟨p0, hp0, rfl⟩ := hp
    rw [e0] at hp0
    exact yc_ ho (x5_ ho.ids hp0) hf hne hb2 hbF)
 rw [e0] at key
 refine ⟨hsz, _, _, key.1, fun k => ?_⟩
 have e := congrFun (zm_ ⟨s, H⟩ [] [a]) k
 show rep _ (xh_ (x2_ [] [a] s) k) _
 rw [e]
 exact key.2 _ _ (hr k)
end
end Go.Aw
namespace Go.Aw
open Go.RowKit
theorem bh7 (σ : Nat → Nat) : (∀ x, rnT σ (.t1 x) = .t1 x) ∧ (∀ x, rnT σ (.t2 x) = .t2 x) ∧ (∀ x, rnT σ (.t3 x) = .t3 x) ∧ (∀ x, rnT σ (.r2 x) = .r2 x) ∧ (∀ x, rnT σ (.r3 x) = .r3 x) ∧ (∀ x s, rnT σ (.a3 x s) = .a3 x s) ∧ (∀ x, rnT σ (.tp x) = .tp x) ∧ (∀ x L, rnT σ (.tq x L) = .tq x L) ∧ (∀ x i j u v, rnT σ (.mx x i j u v) = .mx x i j (rn σ u) (rn σ v)) ∧ (∀ vs, rnT σ (.lv vs) = .lv (rns σ vs)) ∧ (∀ vs, rnT σ (.bx vs) = .bx (rns σ vs)) :=
 ⟨fun _ => rfl, fun _ => rfl, fun _ => rfl, fun _ => rfl, fun _ => rfl, fun _ _ => rfl, fun _ => rfl, fun _ _ => rfl, fun _ _ _ _ _ => rfl, fun _ => rfl, fun _ => rfl⟩
def Wy_ (n : Nat) (l : List Nat) : Array Bool := ((List.range n).map fun i => l.contains i).toArray
def aH1 (md : Region.Mode) (ops : Array Oper) (keys : List (List Nat)) (es : List (Nat × Nat × Nat)) : Bool :=
 (List.range keys.length).all fun a =>
  let L := Wy_ ops.size (keys.getD a [])
  let rd := Region.ready md ops L
  decide ((keys.getD a []).length ≤ ops.size) &&
  (if rd.isEmpty then a + 1 == keys.length
  else decide ((keys.getD a []).length < ops.size) && rd.all fun i => es.any fun e => e.1 == a && e.2.1 == i && (ops[i]?).isSome && decide (e.2.2 < keys.length) &&
   (keys.getD e.2.2 []).length == (keys.getD a []).length + 1 && Wy_ ops.size (keys.getD e.2.2 []) == L.setIfInBounds i true)
def S6_ (P : Program) (cx : Cx) (n : Nat) (ops : Array Oper) (own : List Nat) (tab : List St) : List (Nat × Nat × Nat) → Prop
 | [] => True
 | (a, k, b) :: r => y3_ (own.contains k) P ops n [zO_ ops k] (tab.getD a ⟨[], []⟩) (fun st' => yp_ cx n st' (tab.getD b ⟨[], []⟩)) ∧ S6_ P cx n ops own tab r
def zz_ (P : Program) (ops : Array Oper) (n : Nat) (own : List Nat) : List Nat → St → (St → Prop) → Prop
 | [], st, K => K st
 | k :: ks, st, K => y3_ (own.contains k) P ops n [zO_ ops k] st (fun st' => zz_ P ops n own ks st' K)
def MVT (P : Program) (ops : Array Oper) (n : Nat) (own : List Nat) (ks : List Nat) (K : St → Prop) : St → Prop := fun st => zz_ P ops n own ks st K
def X7_ (md : Region.Mode) (ops : Array Oper) (own : List Nat) : List Nat → Nat → Array Bool → Nat × Array Bool × Bool
 | [], fuel, listed => (fuel, listed, true)
 | k :: ks, fuel, listed =>
  let r := X7_ md ops own ks (fuel - 1) (listed.setIfInBounds k true)
  (r.1, r.2.1, r.2.2 && fuel != 0 && !own.contains k && (match ops[k]? with
  | some o => bj6 o
  | none => false) && Region.free md ops listed k && (Region.ready md ops listed).contains k)
def JS_ (own ks : List Nat) (keys : List (List Nat)) (es : List (Nat × Nat × Nat)) (ops : Array Oper) : Bool :=
 Region.noSelect ops && (X7_ .any ops own ks ops.size (Array.replicate ops.size false)).2.2 &&
 (X7_ .any ops own ks ops.size (Array.replicate ops.size false)).1 + (keys.getD 0 []).length == ops.size &&
 (X7_ .any ops own ks ops.size (Array.replicate ops.size false)).2.1 == Wy_ ops.size (keys.getD 0 []) && decide (0 < keys.length) && aH1 .any ops keys es
section
variable {P : Program} {ops : Array Oper} {n : Nat} {own : List Nat} {st : St} {K : St → Prop} {cx : Cx} {Q : SQ} {cs : List Code}
theorem xS_ (R : List Nat) (σs : List (Nat × Nat)) {s z : St} (h1 : xN_ ⟨aK3 σs (x2_ R [] s.s), xt_ (qOf R []) (rmT R s.H)⟩ z.s := by simp only [go_sem, seval, AV.int.injEq, AV.bool.injEq, AV.l1.injEq, AV.l2.injEq, AV.l3.injEq])
  (h2 : UX_ (aK4 σs (xt_ (qOf R []) (rmT R s.H))) = z.H := by simp only [go_sem, seval]) : yp_ cx n s z := wp_ (QC_ R) (wS_ σs h1 h2)
theorem zA_ {s z : St} (h1 : xN_ s z.s) (h2 : UX_ s.H = z.H) : yp_ cx n s z := wS_ [] h1 h2
theorem PureCall.introR {f : FuncId} {fn : Func} {c : Code} {rs : List ResultVar} {ds : List AV} {r : AV} (hcall : ∀ args w, (callFunc f args).run P w = .ok (.enter f args) w) (hf : P.funcs[f]? = some fn) (hb : fn.body = some c)
  (hn : fn.ntmps = n) (hrs : fn.results = rs.toArray) (hl : ds.length ≤ n) (h : ∀ cx, cx.fix = 0 → cx.rd = none → AT P cx n c (fun e st => Ends e ∧ ∃ v, wg_ P st rs v ∧ xI_ st.H v = some r) ⟨xD_ 0 ds, []⟩) : PureCall P f ds r :=
 PureCall.introD hcall hf hb hn hrs hl fun cx hcx hrd => ATD.of_ATr fun cx' h1 h2 => h cx' (h1.trans hcx) (h2.trans hrd)
theorem FreshCall.introR {f : FuncId} {fn : Func} {c : Code} {rs : List ResultVar} {ds : List AV} {r : AV} (hcall : ∀ args w, (callFunc f args).run P w = .ok (.enter f args) w) (hf : P.funcs[f]? = some fn) (hb : fn.body = some c)
  (hn : fn.ntmps = n) (hrs : fn.results = rs.toArray) (hl : ds.length ≤ n) (h : ∀ cx, cx.fix = 0 → cx.rd = none → AT P cx n c (fun e st => Ends e ∧ ∃ v is, wg_ P st rs v ∧ zI_ st.H v = some (r, is) ∧ is.Nodup) ⟨xD_ 0 ds, []⟩) : FreshCall P f ds r :=
 FreshCall.introD hcall hf hb hn hrs hl fun cx hcx hrd => ATD.of_ATr fun cx' h1 h2 => h cx' (h1.trans hcx) (h2.trans hrd)
theorem aH2 : zz_ P ops n own [] st K = K st := rfl
theorem aq9 (k : Nat) (ks : List Nat) : zz_ P ops n own (k :: ks) st K = y3_ (own.contains k) P ops n [zO_ ops k] st (MVT P ops n own ks K) := rfl
theorem aX6 (ks : List Nat) : MVT P ops n own ks K st = zz_ P ops n own ks st K := rfl
theorem W5_ {tab : List St} : ∀ {es : List (Nat × Nat × Nat)}, S6_ P cx n ops own tab es → ∀ e ∈ es, y3_ (own.contains e.2.1) P ops n [zO_ ops e.2.1] (tab.getD e.1 ⟨[], []⟩) (fun st' => yp_ cx n st' (tab.getD e.2.2 ⟨[], []⟩))
 | [], _, e, he => by cases he
 | (a, k, b) :: r, h, e, he => by
  rcases List.mem_cons.1 he with rfl | he
  ·exact h.1
  ·exact W5_ h.2 e he
theorem JT_ {md : Region.Mode} {l : List Oper} {keys : List (List Nat)} {es : List (Nat × Nat × Nat)} {tab : List St} (hx : ∀ o ∈ l, ∀ d, o.dst = some d → cx.fix d = false) (hB : aH1 md l.toArray keys es = true) (hs : S6_ P cx n l.toArray own tab es) :
  ∀ (fuel a : Nat) (tmps : Array Value) (w : World), a < keys.length → fuel + (keys.getD a []).length = l.toArray.size → SimF cx n (tab.getD a ⟨[], []⟩).get (tab.getD a ⟨[], []⟩).H tmps w →
   wpAnyIn (Fr cx.rd) 0 P md l.toArray (fun e a w => e = .normal ∧ After cx n (Vp_ fun st' => st' = tab.getD (keys.length - 1) ⟨[], []⟩) a w) fuel (Wy_ l.toArray.size (keys.getD a [])) ⟨tmps, cx.ds⟩ w := by
 have hB' := hB
 unfold aH1 at hB'
 rw [List.all_eq_true] at hB'
 have fin : ∀ a, a < keys.length → Region.ready md l.toArray (Wy_ l.toArray.size (keys.getD a [])) = [] → a = keys.length - 1 := fun a ha hr => by
  have h1 := hB' a (List.mem_range.2 ha)
  simp only [hr, List.isEmpty_nil, if_true, Bool.and_eq_true, beq_iff_eq] at h1
  omega
 intro fuel
 induction fuel with
 | zero =>
  intro a tmps w ha hf hsim
  have h1 := hB' a (List.mem_range.2 ha)
  have hr : Region.ready md l.toArray (Wy_ l.toArray.size (keys.getD a [])) = [] := by
   cases he : (Region.ready md l.toArray (Wy_ l.toArray.size (keys.getD a []))).isEmpty with
   | true => simpa using he
   | false =>
    simp only [he, Bool.false_eq_true, if_false, Bool.and_eq_true, decide_eq_true_eq] at h1
    omega
  have e := fin a ha hr
  subst e
  exact ⟨hr, rfl, rfl, _, _, ⟨_, rfl, rfl, rfl⟩, hsim⟩
 | succ fuel ih =>
  intro a tmps w ha hf hsim
  have h1 := hB' a (List.mem_range.2 ha)
  refine ⟨fun hr => ?_, fun i hi => ?_⟩
  ·have e := fin a ha hr
   subst e
   exact ⟨rfl, rfl, _, _, ⟨_, rfl, rfl, rfl⟩, hsim⟩
  ·have hne : (Region.ready md l.toArray (Wy_ l.toArray.size (keys.getD a []))).isEmpty = false := by
    cases hl : Region.ready md l.toArray (Wy_ l.toArray.size (keys.getD a [])) with
    | nil => rw [hl] at hi; cases hi
    | cons x y => rfl
   simp only [hne, Bool.false_eq_true, if_false, Bool.and_eq_true, List.all_eq_true, List.any_eq_true, beq_iff_eq, decide_eq_true_eq] at h1
   obtain ⟨⟨a', k, b⟩, he, ⟨⟨⟨⟨e1, e2⟩, e3⟩, e4⟩, e5⟩, e6⟩ := h1.2.2 i hi
   simp only at e1 e2 e3 e4 e5 e6
   subst e1
   subst e2
   have hg := W5_ hs _ he
   simp only at hg
   have hea := SU_ (cx := cx) (K' := Vp_ fun st' => yp_ cx n st' (tab.getD b ⟨[], []⟩)) hx e3 hg (fun s hs => ⟨s, rfl, rfl, hs⟩)
   have next : ∀ a w, After cx n (Vp_ fun st' => yp_ cx n st' (tab.getD b ⟨[], []⟩)) a w → wpAnyIn (Fr cx.rd) 0 P md l.toArray (fun e a w => e = .normal ∧ After cx n (Vp_ fun st' => st' = tab.getD (keys.length - 1) ⟨[], []⟩) a w) fuel ((Wy_ l.toArray.size (keys.getD a' [])).setIfInBounds k true) a w := by
    rintro a2 w2 ⟨hd, g', H', ⟨st', rfl, rfl, hG⟩, hs'⟩
    rw [zv_ hd, ← e6]
    exact ih b _ _ e4 (by omega) (hG _ _ hs')
   obtain ⟨o, ho⟩ := Option.isSome_iff_exists.1 e3
   unfold eAt at hea
   unfold wpOpIn
   split
   ·rename_i ho'
    rw [ho'] at ho; cases ho
   ·rename_i o' ho'
    rw [ho'] at hea
    have := Z8_ (Q := fun e a w => e = .normal ∧ After cx n (Vp_ fun st' => st' = tab.getD (keys.length - 1) ⟨[], []⟩) a w) hsim hea
    split
    ·rename_i hw
     rw [if_pos hw] at this
     exact Oper.wpIn_mono next this
    ·rename_i hw
     rw [if_neg hw] at this
     exact ⟨fun _ _ => trivial, next _ _ this⟩
theorem Tc_ {md : Region.Mode} {l : List Oper} {z : St} {Q' : Exit → Act → World → Prop} {fu : Nat} {lu : Array Bool} (hrd : cx.rd = none) (hx : ∀ o ∈ l, ∀ d, o.dst = some d → cx.fix d = false) (hsel : Region.noSelect l.toArray = true)
  (hQ' : ∀ c a w, ¬ Q' (.panic c) a w)
  (hz : ∀ tmps w, SimF cx n z.get z.H tmps w → wpAnyIn (Fr cx.rd) 0 P md l.toArray Q' fu lu ⟨tmps, cx.ds⟩ w) : ∀ (ks : List Nat) (fuel : Nat) (listed : Array Bool) (st : St) (tmps : Array Value) (w : World),
  Closed md l.toArray listed → X7_ md l.toArray own ks fuel listed = (fu, lu, true) → zz_ P l.toArray n own ks st (fun s => yp_ cx n s z) → SimF cx n st.get st.H tmps w →
   wpAnyIn (Fr cx.rd) 0 P md l.toArray Q' fuel listed ⟨tmps, cx.ds⟩ w
 | [], fuel, listed, st, tmps, w, hcl, hB, h, hs => by
  simp only [X7_, Prod.mk.injEq, and_true] at hB
  obtain ⟨rfl, rfl⟩ := hB
  exact hz _ _ (h _ _ hs)
 | k :: ks, fuel, listed, st, tmps, w, hcl, hB, h, hs => by
  simp only [X7_, Prod.mk.injEq, Bool.and_eq_true, bne_iff_ne, ne_eq, Bool.not_eq_true'] at hB
  obtain ⟨q1, q2, ⟨⟨⟨⟨hB, h0⟩, hno⟩, hmv⟩, hfree⟩, hready⟩ := hB
  obtain ⟨fuel, rfl⟩ : ∃ f, fuel = f + 1 := ⟨fuel - 1, by omega⟩
  simp only [Nat.add_sub_cancel] at hB q1 q2
  cases hk : l.toArray[k]? with
  | none => rw [hk] at hmv; cases hmv
  | some o =>
   rw [hk] at hmv
   have he := SU_ (cx := cx) (K' := Vp_ fun st' => zz_ P l.toArray n own ks st' (fun s => yp_ cx n s z)) hx (by rw [hk]; rfl) h (fun s hs => ⟨s, rfl, rfl, hs⟩)
   unfold eAt at he
   simp only [hk, Wx_, hno] at he
   have hso := zH_ (Q := fun _ _ _ => True) hs he
   simp only [bj6, Bool.and_eq_true, Option.isNone_iff_eq_none] at hmv
   obtain ⟨hop, hgd⟩ := hmv
   have hw : Region.wanted o (yielded l.toArray tmps) = true := by simp [Region.wanted, hgd]
   rw [if_pos hw] at hso
   have hro : (Fr cx.rd).round = none := hrd
   obtain ⟨v, hv, hab⟩ : ∃ v, (∀ w, (execOp (⟨tmps, cx.ds⟩ : Act).eval o).run P w = .ok (.value v) w) ∧ ∀ w, o.about P w (⟨tmps, cx.ds⟩ : Act).eval = none := by
    obtain ⟨dst, op, ty, pos, af, gd⟩ := o
    simp only at hop
    cases op <;> simp only at hop <;> first | (cases hop; done) | skip
    ·exact ⟨_, fun w => rfl, fun w => rfl⟩
    ·exact ⟨_, fun w => rfl, fun w => rfl⟩
   unfold Oper.wpIn at hso
   have h2 := hso.2
   rw [hro, Oper.semAt_none, hv w] at h2
   simp only [Oper.uponIn] at h2
   obtain ⟨hds, g', H', ⟨st', rfl, rfl, hK⟩, hs'⟩ := h2
   have hr : k ∈ Region.ready md l.toArray listed := by simpa using hready
   refine wpAnyIn_take (v := v) hro hk hsel hfree hready (fun c a w h => absurd h (hQ' c _ w)) ⟨.inl ⟨hw, hv⟩, hab⟩ ?_
   have := Tc_ hrd hx hsel hQ' hz ks fuel (listed.setIfInBounds k true) st' _ w (hcl.set hr) (Prod.ext q1 (Prod.ext q2 hB)) hK hs'
   rw [← zv_ hds] at this
   exact this
theorem zu_ (own ks : List Nat) (keys : List (List Nat)) (es : List (Nat × Nat × Nat)) (tab : List St) {id : Nat} {l : List Oper} (hrd : cx.rd = none) (hx : ∀ o ∈ l, ∀ d, o.dst = some d → cx.fix d = false) (hm : P.follows .mixedOrders = true) (hB : JS_ own ks keys es l.toArray = true)
  (h0 : zz_ P l.toArray n own ks st (fun s => yp_ cx n s (tab.getD 0 ⟨[], []⟩))) (hs : S6_ P cx n l.toArray own tab es) (hz : ATs P cx n cs Q (tab.getD (keys.length - 1) ⟨[], []⟩)) : ATs P cx n (.region id l.toArray true :: cs) Q st := by
 refine AT.weakG fun tmps w hsim => ?_
 refine wpIn_mono (wpIn_region_any hm (Q := fun e a w => e = .normal ∧ After cx n (Vp_ fun st' => st' = tab.getD (keys.length - 1) ⟨[], []⟩) a w) ?_) ?_
 ·have hs' : SimF cx n st.get st.H tmps { w with drawn := w.drawn + 1 } := by
   obtain ⟨h1, ι, F, h2, h3⟩ := hsim
   have e : Ext w { w with drawn := w.drawn + 1 } := (Below.refl _ _).drew
   exact ⟨h1, ι, F, h2.ext e, fun k => rep.le (zd_ e) _ _ (h3 k)⟩
  simp only [JS_, Bool.and_eq_true, beq_iff_eq, decide_eq_true_eq] at hB
  obtain ⟨⟨⟨⟨⟨b1, b2⟩, b3⟩, b4⟩, b5⟩, b6⟩ := hB
  refine Tc_ (own := own) (z := tab.getD 0 ⟨[], []⟩) (fu := (X7_ .any l.toArray own ks l.toArray.size (Array.replicate l.toArray.size false)).1) (lu := (X7_ .any l.toArray own ks l.toArray.size (Array.replicate l.toArray.size false)).2.1) hrd hx b1 (fun c a w h => by cases h.1) (fun tmps w hsz => ?_) ks _ _ st _ _ (fun k o hk hl => by
   simp [Array.getD_eq_getD_getElem?, Array.getElem?_replicate] at hl
   split at hl <;> simp at hl) (by rw [← b2]) h0 hs'
  rw [b4]
  exact JT_ hx b6 hs _ 0 _ _ b5 b3 hsz
 ·rintro e a w' ⟨rfl, h1, g, H, ⟨st', rfl, rfl, rfl⟩, h3⟩
  exact ⟨h1, _, ⟨_, fun _ _ h => h, hz⟩, h3⟩
attribute [go_sem] aH2 aq9 aX6 aK3 rnL rn rns sw xN_ UX_ aV8 aK4 rnH bh7 W4_ aX5 Y2_ Ua_ QQ_ Zs_
end
end Go.Aw
namespace Go.Aw
end Go.Aw
namespace Go.Aw
open Go.RowKit
theorem JU_ {l : List (List Nat)} (h : l.flatten.Nodup) {i : Nat} {g : List Nat} (hi : l[i]? = some g) {x : Nat} (hx : x ∈ g) : x ∉ (l.set i []).flatten := by
 intro hm
 obtain ⟨a, ha, hxa⟩ := List.mem_flatten.1 hm
 obtain ⟨k, hk⟩ := List.getElem?_of_mem ha
 rw [List.getElem?_set] at hk
 by_cases e : i = k
 ·rw [if_pos e] at hk
  split at hk
  ·cases hk; simp at hxa
  ·cases hk
 ·rw [if_neg e] at hk
  exact yj_ h hi hk e hx hxa
theorem ar0 {xss : List (List Int)} {i j k : Nat} {r : Option (List Int)} (h : (ZI_ xss i j)[k]? = some r) : (k = i ∨ k = j) ∧ r = none ∨ k ≠ i ∧ k ≠ j ∧ ∃ x, xss[k]? = some x ∧ r = some x := by
 unfold ZI_ at h
 rw [List.getElem?_set, List.getElem?_set, List.getElem?_map] at h
 by_cases e1 : j = k
 ·rw [if_pos e1] at h
  split at h
  ·cases h; exact .inl ⟨.inr e1.symm, rfl⟩
  ·cases h
 ·rw [if_neg e1] at h
  by_cases e2 : i = k
  ·rw [if_pos e2] at h
   split at h
   ·cases h; exact .inl ⟨.inl e2.symm, rfl⟩
   ·cases h
  ·rw [if_neg e2] at h
   obtain ⟨x, hx, rfl⟩ := Option.map_eq_some_iff.1 h
   exact .inr ⟨fun e => e2 e.symm, fun e => e1 e.symm, x, hx, rfl⟩
theorem X8_ {xss : List (List Int)} {i j : Nat} : (ZI_ xss i j).length = xss.length := by simp [ZI_]
section
variable {P : Program} {cx : Cx} {n : Nat} {H : List (Nat × Tree)} {w : World} {ι : Nat → Value} {F : Nat → List Nat}
theorem z1_ (a : Nat) {xs : List (List Int)} {s : List (Nat × AV)} (hf : find H a = some (.t2 xs)) : yp_ cx n ⟨s, H⟩ ⟨x2_ [] [a] s, x8_ (xt_ (qOf [] [a]) H) a (.r2 xs)⟩ := by
 intro tmps w ⟨hsz, ι, F, ho, hr⟩
 have hid : a ∈ Aw.ids H := List.mem_map.2 ⟨_, xc_ hf, rfl⟩
 have ht : O2 w (F a) xs (ι a) := by have := ho.trees _ (xc_ hf); simp only [treeRep, mem] at this; exact this
 obtain ⟨us, f0, fs, h1, h2, h3⟩ := ht
 have hn := xu_ ho hf
 rw [h3, List.nodup_append] at hn
 have hsub : ∀ x ∈ f0, x ∈ F a := fun x hx => by rw [h3]; exact List.mem_append_left _ hx
 have hin : ∀ x ∈ F a, x < w.heap.size ∧ (cx.B0 ≤ x ∨ cx.A0 x) := fun x hx => ho.mine x (mem_foot.2 ⟨_, xc_ hf, hx⟩)
 have e0 : rmT [] H = H := yL_ H
 have key := ho.put (w' := w) [] a (.r2 xs) (ι a) f0 (qOf [] [a]) ho.keep (Nat.le_refl _) (fun _ _ _ => rfl) hn.1
  (fun x hx => ⟨(hin x (hsub x hx)).1, .inl ⟨a, .inl rfl, hid, hsub x hx⟩⟩) (fun r hr => by simp at hr)
  (fun p hq hl => by
   have hp : p = [] := by
    simp only [qOf, List.contains_nil, Bool.false_or, List.contains_cons, beq_self_eq_true, Bool.true_or, Bool.true_and, Bool.or_false] at hq
    simpa using hq
   subst hp
   exact ⟨rfl, rfl, fun u hu => hu⟩)
  (fun hrep => by
   simp only [treeRep]
   refine ⟨us, h1, wE_ (fun f hfm _ _ ho2 => ?_) h2⟩
   refine O1.l1 ho2 (fun b hb => ?_)
   have hbF : b ∈ F a := by rw [h3]; exact List.mem_append_right _ (List.mem_flatten.2 ⟨f, hfm, hb⟩)
   refine ⟨.inr (hin b hbF).2, (hin b hbF).1, fun hm => ?_⟩
   rcases zp_ (by rw [zq_, e0]; exact ho.ids) hm with h | ⟨p, hp, hne, hb2⟩
   ·exact hn.2.2 b h b (List.mem_flatten.2 ⟨f, hfm, hb⟩) rfl
   ·simp only [xt_, List.mem_map] at hp
    obtain ⟨p0, hp0, rfl⟩ := hp
    rw [e0] at hp0
    exact yc_ ho (x5_ ho.ids hp0) hf hne hb2 hbF)
 rw [e0] at key
 refine ⟨hsz, _, _, key.1, fun k => ?_⟩
 have e := congrFun (zm_ ⟨s, H⟩ [] [a]) k
 show rep _ (xh_ (x2_ [] [a] s) k) _
 rw [e]
 exact key.2 _ _ (hr k)
theorem S7_ (a i j p q : Nat) {xss : List (List Int)} {s : List (Nat × AV)} (hf : find H a = some (.t2 xss)) (hi : i < xss.length) (hj : j < xss.length) (hne : i ≠ j) (hp : find H p = none) (hq : find H q = none) (hpq : p ≠ q) :
  yp_ cx n ⟨s, H⟩ ⟨x2_ [] [a] s, (p, .t1 (xss.getD i [])) :: (q, .t1 (xss.getD j [])) :: x8_ (xt_ (qOf [] [a]) H) a (.mx xss i j (.ref p []) (.ref q []))⟩ := by
 intro tmps w ⟨hsz, ι, F, ho, hr⟩
 have ht : O2 w (F a) xss (ι a) := by have := ho.trees _ (xc_ hf); simp only [treeRep, mem] at this; exact this
 obtain ⟨us, f0, fs, h1, h2, h3⟩ := ht
 have hn := xu_ ho hf
 rw [h3, List.nodup_append] at hn
 obtain ⟨hn0, hn1, hn2⟩ := hn
 obtain ⟨fi, ui, hfi, hui, ri⟩ := h2.get i _ (getD_some (d := []) hi)
 obtain ⟨fj, uj, hfj, huj, rj⟩ := h2.get j _ (getD_some (d := []) hj)
 have hpa : p ≠ a := fun e => by rw [e, hf] at hp; cases hp
 have hqa : q ≠ a := fun e => by rw [e, hf] at hq; cases hq
 have hpi : p ∉ Aw.ids H := find_none.1 hp
 have hqi : q ∉ Aw.ids H := find_none.1 hq
 obtain ⟨MXT, eM⟩ : ∃ T, T = Tree.mx xss i j (.ref p []) (.ref q []) := ⟨_, rfl⟩
 obtain ⟨fa, efa⟩ : ∃ fa, fa = f0 ++ ((fs.set i []).set j []).flatten := ⟨_, rfl⟩
 have hn3 : (fs.set i []).flatten.Nodup := ya_ List.nodup_nil hn1 (by simp)
 have hn4 : ((fs.set i []).set j []).flatten.Nodup := ya_ List.nodup_nil hn3 (by simp)
 have hfj2 : (fs.set i [])[j]? = some fj := by rw [List.getElem?_set, if_neg hne]; exact hfj
 have sub1 : ∀ x ∈ ((fs.set i []).set j []).flatten, x ∈ (fs.set i []).flatten := fun x hx => by
  rcases xO_ hx with h | h
  ·simp at h
  ·exact h
 have sub2 : ∀ x ∈ (fs.set i []).flatten, x ∈ fs.flatten := fun x hx => by
  rcases xO_ hx with h | h
  ·simp at h
  ·exact h
 have inI : ∀ x ∈ fi, x ∈ fs.flatten := fun x hx => List.mem_flatten.2 ⟨fi, List.mem_of_getElem? hfi, hx⟩
 have inJ : ∀ x ∈ fj, x ∈ fs.flatten := fun x hx => List.mem_flatten.2 ⟨fj, List.mem_of_getElem? hfj, hx⟩
 have ndI : fi.Nodup := hn1.sublist (List.sublist_flatten_of_mem (List.mem_of_getElem? hfi))
 have ndJ : fj.Nodup := hn1.sublist (List.sublist_flatten_of_mem (List.mem_of_getElem? hfj))
 have ndA : fa.Nodup := by
  rw [efa, List.nodup_append]
  exact ⟨hn0, hn4, fun x hx y hy => hn2 x hx y (sub2 y (sub1 y hy))⟩
 have subA : ∀ x ∈ fa, x ∈ F a := fun x hx => by
  rw [efa] at hx
  rw [h3]
  rcases List.mem_append.1 hx with h | h
  ·exact List.mem_append_left _ h
  ·exact List.mem_append_right _ (sub2 x (sub1 x h))
 have dIJ : ∀ x ∈ fi, x ∉ fj := fun x h h' => yj_ hn1 hfi hfj hne h h'
 have dIA : ∀ x ∈ fi, x ∉ fa := fun x h h' => by
  rw [efa] at h'
  rcases List.mem_append.1 h' with h' | h'
  ·exact hn2 x h' x (inI x h) rfl
  ·exact JU_ hn1 hfi h (sub1 x h')
 have dJA : ∀ x ∈ fj, x ∉ fa := fun x h h' => by
  rw [efa] at h'
  rcases List.mem_append.1 h' with h' | h'
  ·exact hn2 x h' x (inJ x h) rfl
  ·exact JU_ hn3 hfj2 h h'
 have aI : ∀ x ∈ fi, x ∈ F a := fun x hx => by rw [h3]; exact List.mem_append_right _ (inI x hx)
 have aJ : ∀ x ∈ fj, x ∈ F a := fun x hx => by rw [h3]; exact List.mem_append_right _ (inJ x hx)
 obtain ⟨H1, eH1⟩ : ∃ H1, H1 = x8_ (xt_ (qOf [] [a]) H) a MXT := ⟨_, rfl⟩
 have idK : (Aw.ids (xt_ (qOf [] [a]) H)).Nodup := by rw [zq_]; exact ho.ids
 have id1 : ∀ k ∈ Aw.ids H1, k = a ∨ k ∈ Aw.ids H := fun k hk => by
  rw [eH1] at hk
  rcases wJ_ hk with h | h
  ·exact .inl h
  ·rw [zq_] at h; exact .inr h
 have hp1 : p ∉ Aw.ids H1 := fun h => (id1 p h).elim hpa hpi
 have hq1 : q ∉ Aw.ids H1 := fun h => (id1 q h).elim hqa hqi
 have nd1 : (Aw.ids H1).Nodup := by rw [eH1]; exact VA_ idK
 obtain ⟨F', eF'⟩ : ∃ F', F' = zY_ (zY_ (zY_ F a fa) p fi) q fj := ⟨_, rfl⟩
 obtain ⟨ι', eι'⟩ : ∃ ι', ι' = zY_ (zY_ ι p ui) q uj := ⟨_, rfl⟩
 have fP : F' p = fi := by rw [eF']; simp [zY_, hpq]
 have fQ : F' q = fj := by rw [eF']; simp [zY_]
 have fA : F' a = fa := by
  rw [eF']
  show (if a = q then fj else if a = p then fi else if a = a then fa else F a) = fa
  rw [if_neg (Ne.symm hqa), if_neg (Ne.symm hpa), if_pos rfl]
 have fO : ∀ k, k ≠ p → k ≠ q → k ≠ a → F' k = F k := fun k k1 k2 k3 => by rw [eF']; simp [zY_, k1, k2, k3]
 have vP : ι' p = ui := by rw [eι']; simp [zY_, hpq]
 have vQ : ι' q = uj := by rw [eι']; simp [zY_]
 have vO : ∀ k, k ≠ p → k ≠ q → ι' k = ι k := fun k k1 k2 => by rw [eι']; simp [zY_, k1, k2]
 have e1 : xW_ H1 F' = xW_ H1 (zY_ F a fa) := by
  rw [eF', ZS_ hq1, ZS_ hp1]
 have m1 : ∀ b ∈ xW_ H1 F', b ∈ fa ∨ ∃ r ∈ H, r.1 ≠ a ∧ b ∈ F r.1 := fun b hb => by
  rw [e1, eH1] at hb
  rcases zp_ idK hb with h | ⟨r, hr, h2, h3⟩
  ·exact .inl h
  ·simp only [xt_, List.mem_map] at hr
   obtain ⟨r0, hr0, rfl⟩ := hr
   exact .inr ⟨r0, hr0, h2, h3⟩
 have dO : ∀ b, b ∈ F a → ∀ r ∈ H, r.1 ≠ a → b ∉ F r.1 := fun b hb r hr hra hb2 => yc_ ho (x5_ ho.ids hr) hf hra hb2 hb
 have nf1 : (xW_ H1 F').Nodup := by
  rw [e1, eH1]
  refine z5_ ndA idK (by rw [y1_]; exact ho.nodup) (fun b hb r hr hra => ?_)
  simp only [xt_, List.mem_map] at hr
  obtain ⟨r0, hr0, rfl⟩ := hr
  exact dO b (subA b hb) r0 hr0 hra
 obtain ⟨H', eH'⟩ : ∃ H', H' = (p, Tree.t1 (xss.getD i [])) :: (q, Tree.t1 (xss.getD j [])) :: H1 := ⟨_, rfl⟩
 have eft : xW_ H' F' = fi ++ (fj ++ xW_ H1 F') := by rw [eH', ym_, ym_, fP, fQ]
 have sub : ∀ b ∈ xW_ H' F', b ∈ xW_ H F := fun b hb => by
  rw [eft, List.mem_append, List.mem_append] at hb
  rcases hb with h | h | h
  ·exact xL_ (xc_ hf) (aI b h)
  ·exact xL_ (xc_ hf) (aJ b h)
  ·rcases m1 b h with h | ⟨r, hr, _, h⟩
   ·exact xL_ (xc_ hf) (subA b h)
   ·exact xL_ hr h
 have findH' : ∀ k, k ≠ p → k ≠ q → find H' k = find H1 k := fun k k1 k2 => by
  rw [eH']
  simp only [find, if_neg (fun e => k1 (Eq.symm e)), if_neg (fun e => k2 (Eq.symm e))]
 have find1 : ∀ k, k ≠ a → find H1 k = (find H k).map (x4_ (qOf [] [a])) := fun k hk => by
  rw [eH1, wI_, if_neg hk, zg_]
 have hle : ((mem cx w H ι F).less (qOf [] [a])).le (mem cx w H' ι' F') := by
  refine ⟨fun b hb => ⟨⟨hb.1, hb.2.1, fun h => hb.2.2 (sub b h)⟩, rfl⟩, fun k pth hd => ?_⟩
  obtain ⟨d1, d2⟩ := hd
  simp only [mem] at d1
  have hkp : k ≠ p := fun e => by rw [e, hp] at d1; simp [xq_] at d1
  have hkq : k ≠ q := fun e => by rw [e, hq] at d1; simp [xq_] at d1
  refine ⟨?_, vO k hkp hkq, fun v hv => hv⟩
  simp only [mem]
  rw [findH' k hkp hkq]
  by_cases hka : k = a
  ·subst hka
   have : pth = [] := by
    simp only [qOf, List.contains_nil, Bool.false_or, List.contains_cons, beq_self_eq_true, Bool.true_or, Bool.true_and, Bool.or_false] at d2
    simpa using d2
   subst this
   rw [eH1, zC_, eM]
   rfl
  ·rw [find1 k hka, yO_]
   exact d1
 have hrep : ∀ av v, rep (mem cx w H ι F) av v → rep (mem cx w H' ι' F') (xp_ (qOf [] [a]) av) v := fun av v h => rep.le hle _ _ (zo_ av v h)
 have rP : rep (mem cx w H' ι' F') (.ref p []) ui := by
  simp only [rep, mem, vP, xl_]
  refine ⟨?_, trivial⟩
  rw [eH']
  simp [find, xq_]
 have rQ : rep (mem cx w H' ι' F') (.ref q []) uj := by
  simp only [rep, mem, vQ, xl_]
  refine ⟨?_, trivial⟩
  rw [eH']
  simp [find, hpq, xq_]
 have hO : Owns cx H' w ι' F' := by
  refine ⟨ho.keep, fun r hr => ?_, ?_, fun b hb => ho.mine b (sub b hb), ?_, ho.old⟩
  ·rw [eH'] at hr
   rcases List.mem_cons.1 hr with rfl | hr
   ·show treeRep _ (F' p) (.t1 _) (ι' p)
    rw [fP, vP]
    exact ri
   rcases List.mem_cons.1 hr with rfl | hr
   ·show treeRep _ (F' q) (.t1 _) (ι' q)
    rw [fQ, vQ]
    exact rj
   have hr0 := hr
   rw [eH1] at hr
   rcases Zb_ hr with rfl | ⟨hr, hra⟩ | ⟨_, _, h⟩
   ·show treeRep _ (F' a) MXT (ι' a)
    rw [fA, vO a (fun e => hpa e.symm) (fun e => hqa e.symm), eM]
    refine ⟨us, f0, (fs.set i []).set j [], h1, ?_, efa, hi, hj, fun y hy => ?_, fun y hy => ?_⟩
    ·refine All3.of_get (by rw [List.length_set, List.length_set, X8_]; exact h2.length.1) (by rw [X8_]; exact h2.length.2) (fun k g r u hg hr hu => ?_)
     rw [List.getElem?_set, List.getElem?_set] at hg
     rcases ar0 hr with ⟨h, rfl⟩ | ⟨k1, k2, x, hx, rfl⟩
     ·show g = []
      split at hg
      ·split at hg
       ·cases hg; rfl
       ·cases hg
      ·split at hg
       ·split at hg
        ·cases hg; rfl
        ·cases hg
       ·rename_i e1 e2
        exact absurd h (by rintro (h | h); exact e2 h.symm; exact e1 h.symm)
     ·rw [if_neg (fun e => k2 e.symm), if_neg (fun e => k1 e.symm)] at hg
      exact h2.at hg hx hu
    ·rw [hui] at hy; cases hy; exact rP
    ·rw [huj] at hy; cases hy; exact rQ
   ·have hr1 := hr
    simp only [xt_, List.mem_map] at hr1
    obtain ⟨r0, hr0', rfl⟩ := hr1
    have hk : r0.1 ∈ Aw.ids H := List.mem_map.2 ⟨r0, hr0', rfl⟩
    have k1 : r0.1 ≠ p := fun e => hpi (e ▸ hk)
    have k2 : r0.1 ≠ q := fun e => hqi (e ▸ hk)
    show treeRep _ (F' r0.1) (x4_ _ r0.2) (ι' r0.1)
    rw [fO _ k1 k2 hra, vO _ k1 k2]
    exact treeRep.le hle (fun _ _ => rfl) (y0_ (ho.trees _ hr0'))
   ·exact absurd idK h
  ·rw [eft, List.nodup_append]
   refine ⟨ndI, ?_, fun x hx y hy e => ?_⟩
   ·rw [List.nodup_append]
    refine ⟨ndJ, nf1, fun x hx y hy e => ?_⟩
    subst e
    rcases m1 x hy with h | ⟨r, hr, hra, h⟩
    ·exact dJA x hx h
    ·exact dO x (aJ x hx) r hr hra h
   ·subst e
    rcases List.mem_append.1 hy with hy | hy
    ·exact dIJ x hx hy
    ·rcases m1 x hy with h | ⟨r, hr, hra, h⟩
     ·exact dIA x hx h
     ·exact dO x (aI x hx) r hr hra h
  ·rw [eH']
   show (p :: q :: Aw.ids H1).Nodup
   simp only [List.nodup_cons, List.mem_cons, not_or]
   exact ⟨⟨hpq, hp1⟩, hq1, nd1⟩
 rw [← eM, ← eH1, ← eH']
 refine ⟨hsz, ι', F', hO, fun k => ?_⟩
 have e := congrFun (zm_ ⟨s, H⟩ [] [a]) k
 show rep _ (xh_ (x2_ [] [a] s) k) _
 rw [e]
 exact hrep _ _ (hr k)
theorem S8_ (a i j p q : Nat) {xss : List (List Int)} {x y : List Int} {s : List (Nat × AV)} (hf : find H a = some (.mx xss i j (.ref p []) (.ref q []))) (hp : find H p = some (.t1 x)) (hq : find H q = some (.t1 y)) (hpq : p ≠ q) (hne : i ≠ j) :
  yp_ cx n ⟨s, H⟩ ⟨x2_ [p, q] [] s, x8_ (xt_ (qOf [p, q] []) (rmT [p, q] H)) a (.t2 ((xss.set i x).set j y))⟩ := by
 intro tmps w ⟨hsz, ι, F, ho, hr⟩
 have ht : MX (mem cx w H ι F) (F a) xss i j (.ref p []) (.ref q []) (ι a) := by have := ho.trees _ (xc_ hf); simpa only [treeRep] using this
 obtain ⟨us, f0, fs, h1, h2, h3, h4, h5, h6, h7⟩ := ht
 have oP : O1 w (F p) x (ι p) := by have := ho.trees _ (xc_ hp); simpa only [treeRep, mem] using this
 have oQ : O1 w (F q) y (ι q) := by have := ho.trees _ (xc_ hq); simpa only [treeRep, mem] using this
 have hid : a ∈ Aw.ids H := List.mem_map.2 ⟨_, xc_ hf, rfl⟩
 have hpi : p ∈ Aw.ids H := List.mem_map.2 ⟨_, xc_ hp, rfl⟩
 have hqi : q ∈ Aw.ids H := List.mem_map.2 ⟨_, xc_ hq, rfl⟩
 have hpa : p ≠ a := fun e => by rw [e, hf] at hp; cases hp
 have hqa : q ≠ a := fun e => by rw [e, hf] at hq; cases hq
 have lu : us.length = xss.length := by rw [← h2.length.2, X8_]
 have lf : fs.length = xss.length := by rw [h2.length.1, X8_]
 have hui : us[i]? = some (ι p) := by
  have h := h6 us[i] (List.getElem?_eq_getElem (by omega))
  simp only [rep, mem, xl_, Option.some.injEq] at h
  rw [List.getElem?_eq_getElem (by omega), h.2]
 have huj : us[j]? = some (ι q) := by
  have h := h7 us[j] (List.getElem?_eq_getElem (by omega))
  simp only [rep, mem, xl_, Option.some.injEq] at h
  rw [List.getElem?_eq_getElem (by omega), h.2]
 have hn := xu_ ho hf
 rw [h3, List.nodup_append] at hn
 obtain ⟨hn0, hn1, hn2⟩ := hn
 have dPa : ∀ b ∈ F p, b ∉ F a := fun b h h' => yc_ ho hp hf hpa h h'
 have dQa : ∀ b ∈ F q, b ∉ F a := fun b h h' => yc_ ho hq hf hqa h h'
 have dPQ : ∀ b ∈ F p, b ∉ F q := fun b h h' => yc_ ho hp hq hpq h h'
 have inA : ∀ b ∈ fs.flatten, b ∈ F a := fun b h => by rw [h3]; exact List.mem_append_right _ h
 have n1 : (fs.set i (F p)).flatten.Nodup := ya_ (xu_ ho hp) hn1 (fun b h h' => dPa b h (inA b h'))
 have n2 : ((fs.set i (F p)).set j (F q)).flatten.Nodup := ya_ (xu_ ho hq) n1 (fun b h h' => by
  rcases xO_ h' with h' | h'
  ·exact dPQ b h' h
  ·exact dQa b h (inA b h'))
 have mm : ∀ b ∈ ((fs.set i (F p)).set j (F q)).flatten, b ∈ F q ∨ b ∈ F p ∨ b ∈ fs.flatten := fun b h => by
  rcases xO_ h with h | h
  ·exact .inl h
  ·rcases xO_ h with h | h
   ·exact .inr (.inl h)
   ·exact .inr (.inr h)
 have key := ho.put (w' := w) [p, q] a (.t2 ((xss.set i x).set j y)) (ι a) (f0 ++ ((fs.set i (F p)).set j (F q)).flatten) (qOf [p, q] []) ho.keep (Nat.le_refl _) (fun _ _ _ => rfl)
  (by
   rw [List.nodup_append]
   refine ⟨hn0, n2, fun b hb c hc e => ?_⟩
   subst e
   have hA : b ∈ F a := by rw [h3]; exact List.mem_append_left _ hb
   rcases mm b hc with h | h | h
   ·exact dQa b h hA
   ·exact dPa b h hA
   ·exact hn2 b hb b h rfl)
  (fun b hb => by
   have : ∀ k, k ∈ Aw.ids H → b ∈ F k → b < w.heap.size := fun k hk hbk => by
    obtain ⟨r, hr, rfl⟩ := List.mem_map.1 hk
    exact (ho.mine b (mem_foot.2 ⟨r, hr, hbk⟩)).1
   rcases List.mem_append.1 hb with h | h
   ·have hA : b ∈ F a := by rw [h3]; exact List.mem_append_left _ h
    exact ⟨this a hid hA, .inl ⟨a, .inl rfl, hid, hA⟩⟩
   ·rcases mm b h with h | h | h
    ·exact ⟨this q hqi h, .inl ⟨q, .inr (by simp), hqi, h⟩⟩
    ·exact ⟨this p hpi h, .inl ⟨p, .inr (by simp), hpi, h⟩⟩
    ·exact ⟨this a hid (inA b h), .inl ⟨a, .inl rfl, hid, inA b h⟩⟩)
  (fun r hr k => by simp only [qOf]; rw [List.contains_iff_mem.2 hr]; rfl)
  (fun k _ hl => by
   rw [hf] at hl
   cases k with
   | nil => exact ⟨rfl, rfl, fun u hu => hu⟩
   | cons _ _ => simp [xq_] at hl)
  (fun _ => by
   simp only [treeRep, mem]
   refine ⟨us, f0, (fs.set i (F p)).set j (F q), h1, ?_, rfl⟩
   refine All3.of_get (by simp [lf]) (by simp [lu]) (fun k g r u hg hr hu => ?_)
   rw [List.getElem?_set, List.getElem?_set] at hg hr
   simp only [List.length_set] at hg hr
   by_cases e1 : j = k
   ·subst e1
    rw [if_pos rfl, if_pos (by omega)] at hg hr
    cases hg; cases hr
    rw [huj] at hu; cases hu
    exact oQ
   ·rw [if_neg e1] at hg hr
    by_cases e2 : i = k
    ·subst e2
     rw [if_pos rfl, if_pos (by omega)] at hg hr
     cases hg; cases hr
     rw [hui] at hu; cases hu
     exact oP
    ·rw [if_neg e2] at hg hr
     have hh : (ZI_ xss i j)[k]? = some (some r) := by
      unfold ZI_
      rw [List.getElem?_set, List.getElem?_set, if_neg e1, if_neg e2, List.getElem?_map, hr]
      rfl
     exact h2.at hg hh hu)
 refine ⟨hsz, _, _, key.1, fun k => ?_⟩
 have e := congrFun (zm_ ⟨s, H⟩ [p, q] []) k
 show rep _ (xh_ (x2_ [p, q] [] s) k) _
 rw [e]
 exact key.2 _ _ (hr k)
end
end Go.Aw
namespace Go.Aw
open Go.RowKit
section
variable {P : Program} {cx : Cx} {n : Nat} {H : List (Nat × Tree)} {w : World} {ι : Nat → Value} {F : Nat → List Nat}
end
end Go.Aw
