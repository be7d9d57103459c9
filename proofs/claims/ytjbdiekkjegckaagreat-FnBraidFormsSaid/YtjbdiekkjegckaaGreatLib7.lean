import Derived.Test.YtjbdiekkjegckaaGreatLib6
set_option linter.unusedSimpArgs false
set_option linter.unusedVariables false
namespace Go.Aw
open Go.RowKit
def bf8 (o : Oper) : Bool := (match o.op with
 | .move _ => true
 | .assign _ => true
 | _ => false) && o.guard.isNone
section
variable {P : Program} {ops : Array Oper} {n : Nat} {own : List Nat} {st : St} {K : St → Prop} {p : Plan} {cx : Cx} {Q : SQ} {cs : List Code}
theorem ATD.of_ATr {c : Code} (h : ∀ cx', cx'.fix = cx.fix → cx'.rd = cx.rd → AT P cx' n c Q st) : ATD P cx n c Q st :=
 fun cx' hr hd tmps w hs => wpIn_mono (h cx' hr.fix hr.rd tmps w hs) fun e a w' ⟨h1, st', h2, h3⟩ => ⟨cx', hr, hd, h1, st', h2, h3⟩
theorem OwnCall.introR {f : FuncId} {fn : Func} {c : Code} {rs : List ResultVar} {args : List AV} {T T' : List (Nat × Tree)} {r : AV} (k : Nat) (J : List Nat) {X : List Nat} (hcall : ∀ args w, (callFunc f args).run P w = .ok (.enter f args) w) (hf : P.funcs[f]? = some fn) (hb : fn.body = some c)
  (hn : fn.ntmps = n) (hrs : fn.results = rs.toArray) (hl : args.length ≤ n) (hX : ∀ i ∈ X, i ∈ Aw.ids T' ∧ ∃ j ∈ J, j < k ∧ i ∈ x3_ (xg_ (xl_ 0 args) j))
  (h : ∀ cx, cx.fix = below k → cx.rd = none → AT P cx n c (fun e st => Ends e ∧ y1_ P st rs r ∧ (∀ j ∈ J, st.get j = xg_ (xl_ 0 args) j) ∧ st.H = T') ⟨xl_ 0 args, T⟩) : OwnCall P f args T T' r X :=
 OwnCall.introD k J hcall hf hb hn hrs hl hX fun cx hcx hrd => ATD.of_ATr fun cx' h1 h2 => h cx' (h1.trans hcx) (h2.trans hrd)
end
end Go.Aw
namespace Go.Aw
open Go.RowKit
def RL_ (H : List (Nat × Tree)) (R : List Nat) : AV → AV
 | .ref i [] => if R.contains i then (match find H i with
  | some (.t1 xs) => .l1 xs
  | some (.t2 xs) => .l2 xs
  | some (.t3 xs) => .l3 xs
  | some (.r2 xs) => .l2 xs
  | some (.r3 xs) => .l3 xs
  | some (.a3 xs σ) => .l3 (σ.map fun k => xs.getD k [])
  | _ => .junk) else .ref i []
 | v => xu_ (qOf R []) v
section
variable {P : Program} {cx : Cx} {n : Nat} {H : List (Nat × Tree)} {w : World} {ι : Nat → Value} {F : Nat → List Nat}
theorem Sc_ (ho : Owns cx H w ι F) {R : List Nat} : ∀ (av : AV) (u : Value), rep (mem cx w H ι F) av u → rep (mem cx w (xD_ (qOf R []) (rmT R H)) ι F) (RL_ H R av) u := by
 have hd : ∀ (av : AV) (u : Value), rep (mem cx w H ι F) av u → rep (mem cx w (xD_ (qOf R []) (rmT R H)) ι F) (xu_ (qOf R []) av) u := fun av u h => (ho.drop R).2 av u h
 intro av u h
 unfold RL_
 split
 ·rename_i i
  split
  ·rename_i hc
   have hi : i ∈ R := by simpa using hc
   simp only [rep, mem, xn_, Option.some.injEq] at h
   split
   ·rename_i xs hf
    have ht := ho.trees _ (xk_ hf)
    simp only [treeRep, mem] at ht
    rw [h.2] at ht
    simp only [rep]
    exact ht.l1 ((y5_ ho).2 i _ hi hf)
   ·rename_i xs hf
    have ht := ho.trees _ (xk_ hf)
    simp only [treeRep, mem] at ht
    rw [h.2] at ht
    simp only [rep]
    exact ht.l2 ((y5_ ho).2 i _ hi hf)
   ·rename_i xs hf
    have ht := ho.trees _ (xk_ hf)
    simp only [treeRep, mem] at ht
    rw [h.2] at ht
    simp only [rep]
    exact ht.l3 ((y5_ ho).2 i _ hi hf)
   ·rename_i xs hf
    have ht := ho.trees _ (xk_ hf)
    simp only [treeRep, mem] at ht
    rw [h.2] at ht
    obtain ⟨us, h1, h2⟩ := ht
    simp only [rep]
    exact L2.le (fun b hb => ⟨hb, rfl⟩) ⟨us, h1.slC ((y5_ ho).2 i _ hi hf), All2.mono (fun a b h3 => L1.le (fun b hb => ⟨(y5_ ho).1 b hb, rfl⟩) h3) h2⟩
   ·rename_i xs hf
    have ht := ho.trees _ (xk_ hf)
    simp only [treeRep, mem] at ht
    rw [h.2] at ht
    obtain ⟨us, h1, h2⟩ := ht
    simp only [rep]
    exact L3.le (fun b hb => ⟨hb, rfl⟩) ⟨us, h1.slC ((y5_ ho).2 i _ hi hf), All2.mono (fun a b h3 => L2.le (fun b hb => ⟨(y5_ ho).1 b hb, rfl⟩) h3) h2⟩
   ·rename_i xs σ hf
    have ht := ho.trees _ (xk_ hf)
    simp only [treeRep, mem] at ht
    rw [h.2] at ht
    obtain ⟨rows, f0, fs, h1, h2, h3, h4⟩ := ht
    simp only [rep]
    have hS := (y5_ ho).2 i _ hi hf
    refine ⟨_, h1.slC (fun b hb => hS b (by simp [h4, hb])), ?_⟩
    refine All2.of_get (by simp) (fun j a u' ha hu => ?_)
    rw [List.getElem?_map] at ha hu
    cases hs : σ[j]? with
    | none => rw [hs] at ha; cases ha
    | some k =>
     rw [hs] at ha hu
     simp only [Option.map_some, Option.some.injEq] at ha hu
     subst ha
     subst hu
     have hk : k < xs.length := h3 k (List.mem_of_getElem? hs)
     obtain ⟨f, c, hff, hc, hr⟩ := h2.get k _ (getD_some (d := []) hk)
     rw [hc]
     exact O2.l2 hr (fun b hb => hS b (by simp only [h4, List.mem_append, List.mem_flatten]; exact .inr ⟨f, List.mem_of_getElem? hff, hb⟩))
   ·simp only [rep]
  ·rename_i hc
   have hq : qOf R [] i [] = false := by simpa [qOf] using hc
   have := hd (.ref i []) u h
   simpa only [xu_, hq, Bool.false_eq_true, if_false] using this
 ·exact hd _ u h
theorem Xh_ {Q : SQ} {st : St} {c : Code} {cs : List Code} (z : St) (h : ATs P cx n [c] (fun e s => (e = .normal ∧ yy_ cx n s z) ∨ (e ≠ .normal ∧ Q e s)) st) (hz : ATs P cx n cs Q z) : ATs P cx n (c :: cs) Q st := by
 refine AT.weakG (AT.conseq (x2_ h) ?_)
 rintro e s (⟨rfl, hg⟩ | ⟨hne, hq⟩)
 ·exact ⟨z, hg, hz⟩
 ·refine ⟨s, fun _ _ h => h, ?_⟩
  cases e with
  | normal => exact absurd rfl hne
  | exit id => exact hq
  | goto l => exact hq
  | ret => exact hq
  | panic ch => exact hq
  | outgrown => exact hq
end
end Go.Aw
namespace Go.Aw
open Go.RowKit
section
variable {P : Program} {ops : Array Oper} {n : Nat} {st : St} {K : St → Prop} {cx : Cx} {Q : SQ} {cs : List Code}
end
end Go.Aw
namespace Go.Aw
open Go.RowKit
def Z8_ (H : List (Nat × Tree)) (R : List Nat) : AV → AV
 | .sub i [] lo hi => if R.contains i then (zk_ lo hi (RL_ H R (.ref i []))).getD .junk else .sub i [] lo hi
 | v => RL_ H R v
def RM_ (H : List (Nat × Tree)) (R : List Nat) : Tree → Tree
 | .bx vs => .bx (vs.map (Z8_ H R))
 | .lv vs => .lv (vs.map (Z8_ H R))
 | t => t
theorem YS_ (H : List (Nat × Tree)) (R : List Nat) : (∀ x, RM_ H R (.t1 x) = .t1 x) ∧ (∀ x, RM_ H R (.t2 x) = .t2 x) ∧ (∀ x, RM_ H R (.t3 x) = .t3 x) ∧ (∀ x, RM_ H R (.r2 x) = .r2 x) ∧ (∀ x, RM_ H R (.r3 x) = .r3 x) ∧ (∀ x s, RM_ H R (.a3 x s) = .a3 x s) ∧ (∀ vs, RM_ H R (.lv vs) = .lv (vs.map (Z8_ H R))) ∧ (∀ vs, RM_ H R (.bx vs) = .bx (vs.map (Z8_ H R))) :=
 ⟨fun _ => rfl, fun _ => rfl, fun _ => rfl, fun _ => rfl, fun _ => rfl, fun _ _ => rfl, fun _ => rfl, fun _ => rfl⟩
def Wn_ (H : List (Nat × Tree)) (R : List Nat) : List (Nat × Tree) := (rmT R H).map fun p => (p.1, RM_ H R p.2)
section
variable {P : Program} {cx : Cx} {n : Nat} {H : List (Nat × Tree)} {w : World} {ι : Nat → Value} {F : Nat → List Nat}
theorem af9 (ho : Owns cx H w ι F) {R : List Nat} (av : AV) (u : Value) (h : rep (mem cx w H ι F) av u) : rep (mem cx w (xD_ (qOf R []) (rmT R H)) ι F) (Z8_ H R av) u := by
 unfold Z8_
 split
 ·rename_i i lo hi
  split
  ·rename_i hc
   simp only [rep] at h
   obtain ⟨hd, a, k, cap, a', h1, h2, h3, h4, h5, rfl⟩ := h
   cases hx : zk_ lo hi (RL_ H R (.ref i [])) with
   | none => simp only [Option.getD_none, rep]
   | some d =>
    simp only [Option.getD_some]
    have hr : rep (mem cx w H ι F) (.ref i []) (.slice a k cap) := by
     simp only [rep]
     exact ⟨hd, h1⟩
    exact Vk_ hx (Sc_ ho _ _ hr) h2 h3 h5
  ·rename_i hc
   have hq : qOf R [] i [] = false := by simpa [qOf] using hc
   have := (ho.drop R).2 (.sub i [] lo hi) u h
   simpa only [xu_, hq, Bool.false_eq_true, if_false] using this
 ·exact Sc_ ho _ _ h
theorem Sd_ {R : List Nat} {k : Nat} {p : List Nat} : ∀ {l : List (Nat × Tree)}, xw_ (find (l.map fun p => (p.1, RM_ H R p.2)) k) p = xw_ (find l k) p
 | [] => rfl
 | (j, x) :: r => by
  simp only [List.map_cons, find]
  split
  ·cases x <;> first | rfl | (cases p <;> rfl)
  ·exact Sd_
theorem YT_ (R : List Nat) : ∀ (s : List (Nat × AV)) (k : Nat), xg_ (s.map fun p => (p.1, Z8_ H R p.2)) k = Z8_ H R (xg_ s k)
 | [], k => rfl
 | (j, v) :: s, k => by
  simp only [List.map_cons, xg_]
  split
  ·rfl
  ·exact YT_ R s k
theorem Z9_ (ho : Owns cx H w ι F) (R : List Nat) : Owns cx (Wn_ H R) w ι F ∧ ∀ av u, rep (mem cx w H ι F) av u → rep (mem cx w (Wn_ H R) ι F) (Z8_ H R av) u := by
 obtain ⟨k1, k2⟩ := ho.drop R
 have ef : xX_ (Wn_ H R) F = xX_ (xD_ (qOf R []) (rmT R H)) F := by
  rw [zm_]
  simp [xX_, Wn_, Function.comp_def]
 have hle : (mem cx w (xD_ (qOf R []) (rmT R H)) ι F).le (mem cx w (Wn_ H R) ι F) := by
  refine ⟨fun b hb => ⟨⟨hb.1, hb.2.1, by rw [ef]; exact hb.2.2⟩, rfl⟩, fun i p hd => ⟨?_, rfl, fun v hv => hv⟩⟩
  simp only [mem] at hd ⊢
  unfold Wn_
  rw [Sd_]
  rw [zM_, y7_] at hd
  exact hd
 have hW : ∀ av u, rep (mem cx w H ι F) av u → rep (mem cx w (Wn_ H R) ι F) (Z8_ H R av) u := fun av u h => rep.le hle _ _ (af9 ho av u h)
 refine ⟨⟨k1.keep, fun p hp => ?_, by rw [ef]; exact k1.nodup, by rw [ef]; exact k1.mine, ?_, k1.old⟩, hW⟩
 ·simp only [Wn_, List.mem_map] at hp
  obtain ⟨q, hq, rfl⟩ := hp
  have ho1 := ho.trees q (mem_rmT.1 hq).1
  have kt := k1.trees (q.1, yF_ (qOf R []) q.2) (List.mem_map.2 ⟨q, hq, rfl⟩)
  obtain ⟨i, t⟩ := q
  have hmap : ∀ (vs : List AV) (us : List Value), reps (mem cx w H ι F) vs us → reps (mem cx w (Wn_ H R) ι F) (vs.map (Z8_ H R)) us := by
   intro vs
   induction vs with
   | nil => intro us h; simpa only [reps, List.map_nil] using h
   | cons a as ih =>
    intro us h
    simp only [reps, List.map_cons] at h ⊢
    obtain ⟨u, us', rfl, h1, h2⟩ := h
    exact ⟨u, us', rfl, hW a u h1, ih us' h2⟩
  cases t with
  | bx vs =>
   obtain ⟨b, us, E, h1, h2, h3, h4⟩ := ho1
   exact ⟨b, us, E, h1, h2, h3, hmap vs us h4⟩
  | lv vs =>
   obtain ⟨us, h1, h2⟩ := ho1
   exact ⟨us, h1, hmap vs us h2⟩
  | t1 xs => exact treeRep.le hle (fun _ _ => rfl) kt
  | t2 xs => exact treeRep.le hle (fun _ _ => rfl) kt
  | t3 xs => exact treeRep.le hle (fun _ _ => rfl) kt
  | r2 xs => exact treeRep.le hle (fun _ _ => rfl) kt
  | r3 xs => exact treeRep.le hle (fun _ _ => rfl) kt
  | a3 xs s => exact treeRep.le hle (fun _ _ => rfl) kt
 ·have e : Aw.ids (Wn_ H R) = Aw.ids (rmT R H) := by simp [Aw.ids, Wn_]
  rw [e]
  exact ZQ_ ho.ids
theorem YF_ (R : List Nat) {s : List (Nat × AV)} : yy_ cx n ⟨s, H⟩ ⟨s.map fun p => (p.1, Z8_ H R p.2), Wn_ H R⟩ := by
 intro tmps w ⟨hsz, ι, F, ho, hr⟩
 obtain ⟨k1, hW⟩ := Z9_ ho R
 refine ⟨hsz, ι, F, k1, fun k => ?_⟩
 show rep _ (xg_ (s.map fun p => (p.1, Z8_ H R p.2)) k) _
 rw [YT_]
 exact hW _ _ (hr k)
def aH7 (H : List (Nat × Tree)) (R : List Nat) : AV → AV
 | .agg vs => .agg (vs.map (Z8_ H R))
 | v => Z8_ H R v
theorem OwnCall.frz {f : FuncId} {args : List AV} {T T' : List (Nat × Tree)} {r : AV} {X : List Nat} (h : OwnCall P f args T T' r X) (R : List Nat) (hX : ∀ i ∈ X, i ∉ R) : OwnCall P f args T (Wn_ T' R) (aH7 T' R r) X := by
 refine ⟨h.enter, fun i hi => ?_, fun us w S ι F ho hr => (h.runs us w S ι F ho hr).mono fun e w' ⟨v, ι', F', he, hO, hv, hx⟩ => ⟨v, ι', F', he, (Z9_ hO R).1, ?_, hx⟩⟩
 ·have h1 := h.keep i hi
  simp only [Aw.ids, Wn_, List.mem_map] at h1 ⊢
  obtain ⟨p, hp, rfl⟩ := h1
  exact ⟨_, ⟨p, mem_rmT.2 ⟨hp, hX _ hi⟩, rfl⟩, rfl⟩
 ·have hW := (Z9_ hO R).2
  unfold aH7
  have key : ∀ (as : List AV) (vs : List Value), reps (mem (wR_ w T F S 0 (fun _ => undef)) w' T' ι' F') as vs → reps (mem (wR_ w T F S 0 (fun _ => undef)) w' (Wn_ T' R) ι' F') (as.map (Z8_ T' R)) vs := by
   intro as
   induction as with
   | nil => intro vs h1; simpa only [reps, List.map_nil] using h1
   | cons a as ih =>
    intro vs h1
    simp only [reps, List.map_cons] at h1 ⊢
    obtain ⟨u, vs', rfl, h2, h3⟩ := h1
    exact ⟨u, vs', rfl, hW a u h2, ih vs' h3⟩
  split
  ·simp only [rep] at hv ⊢
   obtain ⟨vs, rfl, h1⟩ := hv
   exact ⟨vs, rfl, key _ _ h1⟩
  ·exact hW _ _ hv
end
end Go.Aw
namespace Go.Aw
open Go.RowKit
theorem be6 (σ : Nat → Nat) : (∀ x, rnT σ (.t1 x) = .t1 x) ∧ (∀ x, rnT σ (.t2 x) = .t2 x) ∧ (∀ x, rnT σ (.t3 x) = .t3 x) ∧ (∀ x, rnT σ (.r2 x) = .r2 x) ∧ (∀ x, rnT σ (.r3 x) = .r3 x) ∧ (∀ x s, rnT σ (.a3 x s) = .a3 x s) ∧ (∀ vs, rnT σ (.lv vs) = .lv (rns σ vs)) ∧ (∀ vs, rnT σ (.bx vs) = .bx (rns σ vs)) :=
 ⟨fun _ => rfl, fun _ => rfl, fun _ => rfl, fun _ => rfl, fun _ => rfl, fun _ _ => rfl, fun _ => rfl, fun _ => rfl⟩
def Wo_ (n : Nat) (l : List Nat) : Array Bool := ((List.range n).map fun i => l.contains i).toArray
def au5 (md : Region.Mode) (ops : Array Oper) (keys : List (List Nat)) (es : List (Nat × Nat × Nat)) : Bool :=
 (List.range keys.length).all fun a =>
  let L := Wo_ ops.size (keys.getD a [])
  let rd := Region.ready md ops L
  decide ((keys.getD a []).length ≤ ops.size) &&
  (if rd.isEmpty then a + 1 == keys.length
  else decide ((keys.getD a []).length < ops.size) && rd.all fun i => es.any fun e => e.1 == a && e.2.1 == i && (ops[i]?).isSome && decide (e.2.2 < keys.length) &&
   (keys.getD e.2.2 []).length == (keys.getD a []).length + 1 && Wo_ ops.size (keys.getD e.2.2 []) == L.setIfInBounds i true)
def Se_ (P : Program) (cx : Cx) (n : Nat) (ops : Array Oper) (own : List Nat) (tab : List St) : List (Nat × Nat × Nat) → Prop
 | [] => True
 | (a, k, b) :: r => y0_ (own.contains k) P ops n [yq_ ops k] (tab.getD a ⟨[], []⟩) (fun st' => yy_ cx n st' (tab.getD b ⟨[], []⟩)) ∧ Se_ P cx n ops own tab r
def wj_ (P : Program) (ops : Array Oper) (n : Nat) (own : List Nat) : List Nat → St → (St → Prop) → Prop
 | [], st, K => K st
 | k :: ks, st, K => y0_ (own.contains k) P ops n [yq_ ops k] st (fun st' => wj_ P ops n own ks st' K)
def MVT (P : Program) (ops : Array Oper) (n : Nat) (own : List Nat) (ks : List Nat) (K : St → Prop) : St → Prop := fun st => wj_ P ops n own ks st K
def Yf_ (md : Region.Mode) (ops : Array Oper) (own : List Nat) : List Nat → Nat → Array Bool → Nat × Array Bool × Bool
 | [], fuel, listed => (fuel, listed, true)
 | k :: ks, fuel, listed =>
  let r := Yf_ md ops own ks (fuel - 1) (listed.setIfInBounds k true)
  (r.1, r.2.1, r.2.2 && fuel != 0 && !own.contains k && (match ops[k]? with
  | some o => bf8 o
  | none => false) && Region.free md ops listed k && (Region.ready md ops listed).contains k)
def KI_ (own ks : List Nat) (keys : List (List Nat)) (es : List (Nat × Nat × Nat)) (ops : Array Oper) : Bool :=
 Region.noSelect ops && (Yf_ .any ops own ks ops.size (Array.replicate ops.size false)).2.2 &&
 (Yf_ .any ops own ks ops.size (Array.replicate ops.size false)).1 + (keys.getD 0 []).length == ops.size &&
 (Yf_ .any ops own ks ops.size (Array.replicate ops.size false)).2.1 == Wo_ ops.size (keys.getD 0 []) && decide (0 < keys.length) && au5 .any ops keys es
section
variable {P : Program} {ops : Array Oper} {n : Nat} {own : List Nat} {st : St} {K : St → Prop} {cx : Cx} {Q : SQ} {cs : List Code}
theorem xm_ (R : List Nat) (σs : List (Nat × Nat)) {s z : St} (h1 : xs_ ⟨YO_ σs (yj_ R [] s.s), xD_ (qOf R []) (rmT R s.H)⟩ z.s := by simp only [go_sem, seval, AV.int.injEq, AV.bool.injEq, AV.l1.injEq, AV.l2.injEq, AV.l3.injEq])
  (h2 : zf_ (YP_ σs (xD_ (qOf R []) (rmT R s.H))) = z.H := by simp only [go_sem, seval]) : yy_ cx n s z := yJ_ (wg_ R) (xr_ σs h1 h2)
theorem xN_ {P : Program} {H : List (Nat × Tree)} {f : FuncId} {args : List AV} {T T' : List (Nat × Tree)} {r : AV} {X : List Nat} {K : AV → List Nat → List Nat → List (Nat × Tree) → Prop} (h : OwnCall P f args T T' r X) (hn : (Aw.ids T).Nodup := by simp [Aw.ids]) (hm : ∀ p ∈ T, find H p.1 = some p.2 := by simp [find])
  (hc : zQ_ T := by simp [zQ_, zC_, xH_, xu_, YV_, Aw.ids]) (ha : xH_ (YV_ T) args = args := by simp [xH_, xu_, YV_, Aw.ids]) (hfr : ∀ i ∈ Aw.ids T', i ∈ Aw.ids T ∨ i ∉ Aw.ids H := by simp [Aw.ids]) (k : K r ((Aw.ids T).filter (fun i => !X.contains i)) X (T' ++ xD_ (qOf ((Aw.ids T).filter (fun i => !X.contains i)) X) (rmT (Aw.ids T) H))) : Xv_ P H f args K := zz_ h hn hm hc ha hfr k
theorem Xq_ {s z : St} (h1 : xs_ s z.s) (h2 : zf_ s.H = z.H) : yy_ cx n s z := xr_ [] h1 h2
theorem PureCall.introR {f : FuncId} {fn : Func} {c : Code} {rs : List ResultVar} {ds : List AV} {r : AV} (hcall : ∀ args w, (callFunc f args).run P w = .ok (.enter f args) w) (hf : P.funcs[f]? = some fn) (hb : fn.body = some c)
  (hn : fn.ntmps = n) (hrs : fn.results = rs.toArray) (hl : ds.length ≤ n) (h : ∀ cx, cx.fix = 0 → cx.rd = none → AT P cx n c (fun e st => Ends e ∧ ∃ v, y1_ P st rs v ∧ xK_ st.H v = some r) ⟨xl_ 0 ds, []⟩) : PureCall P f ds r :=
 PureCall.introD hcall hf hb hn hrs hl fun cx hcx hrd => ATD.of_ATr fun cx' h1 h2 => h cx' (h1.trans hcx) (h2.trans hrd)
theorem FreshCall.introR {f : FuncId} {fn : Func} {c : Code} {rs : List ResultVar} {ds : List AV} {r : AV} (hcall : ∀ args w, (callFunc f args).run P w = .ok (.enter f args) w) (hf : P.funcs[f]? = some fn) (hb : fn.body = some c)
  (hn : fn.ntmps = n) (hrs : fn.results = rs.toArray) (hl : ds.length ≤ n) (h : ∀ cx, cx.fix = 0 → cx.rd = none → AT P cx n c (fun e st => Ends e ∧ ∃ v is, y1_ P st rs v ∧ zE_ st.H v = some (r, is) ∧ is.Nodup) ⟨xl_ 0 ds, []⟩) : FreshCall P f ds r :=
 FreshCall.introD hcall hf hb hn hrs hl fun cx hcx hrd => ATD.of_ATr fun cx' h1 h2 => h cx' (h1.trans hcx) (h2.trans hrd)
theorem au6 : wj_ P ops n own [] st K = K st := rfl
theorem ag0 (k : Nat) (ks : List Nat) : wj_ P ops n own (k :: ks) st K = y0_ (own.contains k) P ops n [yq_ ops k] st (MVT P ops n own ks K) := rfl
theorem aG1 (ks : List Nat) : MVT P ops n own ks K st = wj_ P ops n own ks st K := rfl
theorem WV_ {tab : List St} : ∀ {es : List (Nat × Nat × Nat)}, Se_ P cx n ops own tab es → ∀ e ∈ es, y0_ (own.contains e.2.1) P ops n [yq_ ops e.2.1] (tab.getD e.1 ⟨[], []⟩) (fun st' => yy_ cx n st' (tab.getD e.2.2 ⟨[], []⟩))
 | [], _, e, he => by cases he
 | (a, k, b) :: r, h, e, he => by
  rcases List.mem_cons.1 he with rfl | he
  ·exact h.1
  ·exact WV_ h.2 e he
theorem KJ_ {md : Region.Mode} {l : List Oper} {keys : List (List Nat)} {es : List (Nat × Nat × Nat)} {tab : List St} (hx : ∀ o ∈ l, ∀ d, o.dst = some d → cx.fix d = false) (hB : au5 md l.toArray keys es = true) (hs : Se_ P cx n l.toArray own tab es) :
  ∀ (fuel a : Nat) (tmps : Array Value) (w : World), a < keys.length → fuel + (keys.getD a []).length = l.toArray.size → SimF cx n (tab.getD a ⟨[], []⟩).get (tab.getD a ⟨[], []⟩).H tmps w →
   wpAnyIn (Fr cx.rd) 0 P md l.toArray (fun e a w => e = .normal ∧ After cx n (Vg_ fun st' => st' = tab.getD (keys.length - 1) ⟨[], []⟩) a w) fuel (Wo_ l.toArray.size (keys.getD a [])) ⟨tmps, cx.ds⟩ w := by
 have hB' := hB
 unfold au5 at hB'
 rw [List.all_eq_true] at hB'
 have fin : ∀ a, a < keys.length → Region.ready md l.toArray (Wo_ l.toArray.size (keys.getD a [])) = [] → a = keys.length - 1 := fun a ha hr => by
  have h1 := hB' a (List.mem_range.2 ha)
  simp only [hr, List.isEmpty_nil, if_true, Bool.and_eq_true, beq_iff_eq] at h1
  omega
 intro fuel
 induction fuel with
 | zero =>
  intro a tmps w ha hf hsim
  have h1 := hB' a (List.mem_range.2 ha)
  have hr : Region.ready md l.toArray (Wo_ l.toArray.size (keys.getD a [])) = [] := by
   cases he : (Region.ready md l.toArray (Wo_ l.toArray.size (keys.getD a []))).isEmpty with
   | true => simpa using he
   | false =>
    simp only [he, Bool.false_eq_true, if_false, Bool.and_eq_true, decide_eq_true_eq] at h1
    omega
  have e := fin a ha hr
  subst e
  exact ⟨hr, rfl, rfl, _, _, ⟨_, rfl, rfl, rfl⟩, hsim⟩
 | succ fuel ih =>
  intro a tmps w ha hf hsim
  have h1 := hB' a (List.mem_range.2 ha)
  refine ⟨fun hr => ?_, fun i hi => ?_⟩
  ·have e := fin a ha hr
   subst e
   exact ⟨rfl, rfl, _, _, ⟨_, rfl, rfl, rfl⟩, hsim⟩
  ·have hne : (Region.ready md l.toArray (Wo_ l.toArray.size (keys.getD a []))).isEmpty = false := by
    cases hl : Region.ready md l.toArray (Wo_ l.toArray.size (keys.getD a [])) with
    | nil => rw [hl] at hi; cases hi
    | cons x y => rfl
   simp only [hne, Bool.false_eq_true, if_false, Bool.and_eq_true, List.all_eq_true, List.any_eq_true, beq_iff_eq, decide_eq_true_eq] at h1
   obtain ⟨⟨a', k, b⟩, he, ⟨⟨⟨⟨e1, e2⟩, e3⟩, e4⟩, e5⟩, e6⟩ := h1.2.2 i hi
   simp only at e1 e2 e3 e4 e5 e6
   subst e1
   subst e2
   have hg := WV_ hs _ he
   simp only at hg
   have hea := T3_ (cx := cx) (K' := Vg_ fun st' => yy_ cx n st' (tab.getD b ⟨[], []⟩)) hx e3 hg (fun s hs => ⟨s, rfl, rfl, hs⟩)
   have next : ∀ a w, After cx n (Vg_ fun st' => yy_ cx n st' (tab.getD b ⟨[], []⟩)) a w → wpAnyIn (Fr cx.rd) 0 P md l.toArray (fun e a w => e = .normal ∧ After cx n (Vg_ fun st' => st' = tab.getD (keys.length - 1) ⟨[], []⟩) a w) fuel ((Wo_ l.toArray.size (keys.getD a' [])).setIfInBounds k true) a w := by
    rintro a2 w2 ⟨hd, g', H', ⟨st', rfl, rfl, hG⟩, hs'⟩
    rw [zD_ hd, ← e6]
    exact ih b _ _ e4 (by omega) (hG _ _ hs')
   obtain ⟨o, ho⟩ := Option.isSome_iff_exists.1 e3
   unfold eAt at hea
   unfold wpOpIn
   split
   ·rename_i ho'
    rw [ho'] at ho; cases ho
   ·rename_i o' ho'
    rw [ho'] at hea
    have := ZX_ (Q := fun e a w => e = .normal ∧ After cx n (Vg_ fun st' => st' = tab.getD (keys.length - 1) ⟨[], []⟩) a w) hsim hea
    split
    ·rename_i hw
     rw [if_pos hw] at this
     exact Oper.wpIn_mono next this
    ·rename_i hw
     rw [if_neg hw] at this
     exact ⟨fun _ _ => trivial, next _ _ this⟩
theorem UF_ {md : Region.Mode} {l : List Oper} {z : St} {Q' : Exit → Act → World → Prop} {fu : Nat} {lu : Array Bool} (hrd : cx.rd = none) (hx : ∀ o ∈ l, ∀ d, o.dst = some d → cx.fix d = false) (hsel : Region.noSelect l.toArray = true)
  (hQ' : ∀ c a w, ¬ Q' (.panic c) a w)
  (hz : ∀ tmps w, SimF cx n z.get z.H tmps w → wpAnyIn (Fr cx.rd) 0 P md l.toArray Q' fu lu ⟨tmps, cx.ds⟩ w) : ∀ (ks : List Nat) (fuel : Nat) (listed : Array Bool) (st : St) (tmps : Array Value) (w : World),
  Closed md l.toArray listed → Yf_ md l.toArray own ks fuel listed = (fu, lu, true) → wj_ P l.toArray n own ks st (fun s => yy_ cx n s z) → SimF cx n st.get st.H tmps w →
   wpAnyIn (Fr cx.rd) 0 P md l.toArray Q' fuel listed ⟨tmps, cx.ds⟩ w
 | [], fuel, listed, st, tmps, w, hcl, hB, h, hs => by
  simp only [Yf_, Prod.mk.injEq, and_true] at hB
  obtain ⟨rfl, rfl⟩ := hB
  exact hz _ _ (h _ _ hs)
 | k :: ks, fuel, listed, st, tmps, w, hcl, hB, h, hs => by
  simp only [Yf_, Prod.mk.injEq, Bool.and_eq_true, bne_iff_ne, ne_eq, Bool.not_eq_true'] at hB
  obtain ⟨q1, q2, ⟨⟨⟨⟨hB, h0⟩, hno⟩, hmv⟩, hfree⟩, hready⟩ := hB
  obtain ⟨fuel, rfl⟩ : ∃ f, fuel = f + 1 := ⟨fuel - 1, by omega⟩
  simp only [Nat.add_sub_cancel] at hB q1 q2
  cases hk : l.toArray[k]? with
  | none => rw [hk] at hmv; cases hmv
  | some o =>
   rw [hk] at hmv
   have he := T3_ (cx := cx) (K' := Vg_ fun st' => wj_ P l.toArray n own ks st' (fun s => yy_ cx n s z)) hx (by rw [hk]; rfl) h (fun s hs => ⟨s, rfl, rfl, hs⟩)
   unfold eAt at he
   simp only [hk, Wi_, hno] at he
   have hso := zS_ (Q := fun _ _ _ => True) hs he
   simp only [bf8, Bool.and_eq_true, Option.isNone_iff_eq_none] at hmv
   obtain ⟨hop, hgd⟩ := hmv
   have hw : Region.wanted o (yielded l.toArray tmps) = true := by simp [Region.wanted, hgd]
   rw [if_pos hw] at hso
   have hro : (Fr cx.rd).round = none := hrd
   obtain ⟨v, hv, hab⟩ : ∃ v, (∀ w, (execOp (⟨tmps, cx.ds⟩ : Act).eval o).run P w = .ok (.value v) w) ∧ ∀ w, o.about P w (⟨tmps, cx.ds⟩ : Act).eval = none := by
    obtain ⟨dst, op, ty, pos, af, gd⟩ := o
    simp only at hop
    cases op <;> simp only at hop <;> first | (cases hop; done) | skip
    ·exact ⟨_, fun w => rfl, fun w => rfl⟩
    ·exact ⟨_, fun w => rfl, fun w => rfl⟩
   unfold Oper.wpIn at hso
   have h2 := hso.2
   rw [hro, Oper.semAt_none, hv w] at h2
   simp only [Oper.uponIn] at h2
   obtain ⟨hds, g', H', ⟨st', rfl, rfl, hK⟩, hs'⟩ := h2
   have hr : k ∈ Region.ready md l.toArray listed := by simpa using hready
   refine wpAnyIn_take (v := v) hro hk hsel hfree hready (fun c a w h => absurd h (hQ' c _ w)) ⟨.inl ⟨hw, hv⟩, hab⟩ ?_
   have := UF_ hrd hx hsel hQ' hz ks fuel (listed.setIfInBounds k true) st' _ w (hcl.set hr) (Prod.ext q1 (Prod.ext q2 hB)) hK hs'
   rw [← zD_ hds] at this
   exact this
theorem w2_ (own ks : List Nat) (keys : List (List Nat)) (es : List (Nat × Nat × Nat)) (tab : List St) {id : Nat} {l : List Oper} (hrd : cx.rd = none) (hx : ∀ o ∈ l, ∀ d, o.dst = some d → cx.fix d = false) (hm : P.follows .mixedOrders = true) (hB : KI_ own ks keys es l.toArray = true)
  (h0 : wj_ P l.toArray n own ks st (fun s => yy_ cx n s (tab.getD 0 ⟨[], []⟩))) (hs : Se_ P cx n l.toArray own tab es) (hz : ATs P cx n cs Q (tab.getD (keys.length - 1) ⟨[], []⟩)) : ATs P cx n (.region id l.toArray true :: cs) Q st := by
 refine AT.weakG fun tmps w hsim => ?_
 refine wpIn_mono (wpIn_region_any hm (Q := fun e a w => e = .normal ∧ After cx n (Vg_ fun st' => st' = tab.getD (keys.length - 1) ⟨[], []⟩) a w) ?_) ?_
 ·have hs' : SimF cx n st.get st.H tmps { w with drawn := w.drawn + 1 } := by
   obtain ⟨h1, ι, F, h2, h3⟩ := hsim
   have e : Ext w { w with drawn := w.drawn + 1 } := (Below.refl _ _).drew
   exact ⟨h1, ι, F, h2.ext e, fun k => rep.le (zj_ e) _ _ (h3 k)⟩
  simp only [KI_, Bool.and_eq_true, beq_iff_eq, decide_eq_true_eq] at hB
  obtain ⟨⟨⟨⟨⟨b1, b2⟩, b3⟩, b4⟩, b5⟩, b6⟩ := hB
  refine UF_ (own := own) (z := tab.getD 0 ⟨[], []⟩) (fu := (Yf_ .any l.toArray own ks l.toArray.size (Array.replicate l.toArray.size false)).1) (lu := (Yf_ .any l.toArray own ks l.toArray.size (Array.replicate l.toArray.size false)).2.1) hrd hx b1 (fun c a w h => by cases h.1) (fun tmps w hsz => ?_) ks _ _ st _ _ (fun k o hk hl => by
   simp [Array.getD_eq_getD_getElem?, Array.getElem?_replicate] at hl
   split at hl <;> simp at hl) (by rw [← b2]) h0 hs'
  rw [b4]
  exact KJ_ hx b6 hs _ 0 _ _ b5 b3 hsz
 ·rintro e a w' ⟨rfl, h1, g, H, ⟨st', rfl, rfl, rfl⟩, h3⟩
  exact ⟨h1, _, ⟨_, fun _ _ h => h, hz⟩, h3⟩
attribute [go_sem] au6 ag0 aG1 YO_ rnL rn rns sw xs_ zf_ YY_ YP_ rnH be6 Wn_ YS_ Z8_ RL_ Qg_ W7_
end
end Go.Aw
namespace Go.Aw
end Go.Aw
