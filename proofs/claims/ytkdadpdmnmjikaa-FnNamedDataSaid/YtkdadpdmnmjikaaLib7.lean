import Derived.Test.YtkdadpdmnmjikaaLib6
import Derived.Test.YtkdadpdmnmjikaaLib1
set_option linter.unusedSimpArgs false
set_option linter.unusedVariables false
namespace Go.Aw
open Go.RowKit
def mvOk (o : Oper) : Bool := (match o.op with
 | .move _ => true
 | .assign _ => true
 | _ => false) && o.guard.isNone
section
variable {P : Program} {ops : Array Oper} {n : Nat} {own : List Nat} {st : St} {K : St → Prop} {p : Plan} {cx : Cx} {Q : SQ} {cs : List Code}
theorem ATD.of_ATr {c : Code} (h : ∀ cx', cx'.fix = cx.fix → cx'.rd = cx.rd → AT P cx' n c Q st) : ATD P cx n c Q st :=
 fun cx' hr hd tmps w hs => wpIn_mono (h cx' hr.fix hr.rd tmps w hs) fun e a w' ⟨h1, st', h2, h3⟩ => ⟨cx', hr, hd, h1, st', h2, h3⟩
theorem OwnCall.introR {f : FuncId} {fn : Func} {c : Code} {rs : List ResultVar} {args : List AV} {T T' : List (Nat × Tree)} {r : AV} (k : Nat) (J : List Nat) {X : List Nat} (hcall : ∀ args w, (callFunc f args).run P w = .ok (.enter f args) w) (hf : P.funcs[f]? = some fn) (hb : fn.body = some c)
  (hn : fn.ntmps = n) (hrs : fn.results = rs.toArray) (hl : args.length ≤ n) (hX : ∀ i ∈ X, i ∈ Aw.ids T' ∧ ∃ j ∈ J, j < k ∧ i ∈ rootsA (slotGet (argSlots 0 args) j))
  (h : ∀ cx, cx.fix = below k → cx.rd = none → AT P cx n c (fun e st => Ends e ∧ resL P st rs r ∧ (∀ j ∈ J, st.get j = slotGet (argSlots 0 args) j) ∧ st.H = T') ⟨argSlots 0 args, T⟩) : OwnCall P f args T T' r X :=
 OwnCall.introD k J hcall hf hb hn hrs hl hX fun cx hcx hrd => ATD.of_ATr fun cx' h1 h2 => h cx' (h1.trans hcx) (h2.trans hrd)
end
end Go.Aw
namespace Go.Aw
open Go.RowKit
def frzV (H : List (Nat × Tree)) (R : List Nat) : AV → AV
 | .ref i [] => if R.contains i then (match find H i with
  | some (.t1 xs) => .l1 xs
  | some (.t2 xs) => .l2 xs
  | some (.t3 xs) => .l3 xs
  | some (.r2 xs) => .l2 xs
  | some (.r3 xs) => .l3 xs
  | some (.a3 xs σ) => .l3 (σ.map fun k => xs.getD k [])
  | some (.lv vs) => .lv (killAs (qOf R []) vs)
  | _ => .junk) else .ref i []
 | v => killA (qOf R []) v
section
variable {P : Program} {cx : Cx} {n : Nat} {H : List (Nat × Tree)} {w : World} {ι : Nat → Value} {F : Nat → List Nat}
theorem frzV_rep (ho : Owns cx H w ι F) {R : List Nat} : ∀ (av : AV) (u : Value), rep (mem cx w H ι F) av u → rep (mem cx w (killH (qOf R []) (rmT R H)) ι F) (frzV H R av) u := by
 have hd : ∀ (av : AV) (u : Value), rep (mem cx w H ι F) av u → rep (mem cx w (killH (qOf R []) (rmT R H)) ι F) (killA (qOf R []) av) u := fun av u h => (ho.drop R).2 av u h
 intro av u h
 unfold frzV
 split
 ·rename_i i
  split
  ·rename_i hc
   have hi : i ∈ R := by simpa using hc
   simp only [rep, mem, pathV, Option.some.injEq] at h
   split
   ·rename_i xs hf
    have ht := ho.trees _ (find_mem hf)
    simp only [treeRep, mem] at ht
    rw [h.2] at ht
    simp only [rep]
    exact ht.l1 ((frz_imm ho).2 i _ hi hf)
   ·rename_i xs hf
    have ht := ho.trees _ (find_mem hf)
    simp only [treeRep, mem] at ht
    rw [h.2] at ht
    simp only [rep]
    exact ht.l2 ((frz_imm ho).2 i _ hi hf)
   ·rename_i xs hf
    have ht := ho.trees _ (find_mem hf)
    simp only [treeRep, mem] at ht
    rw [h.2] at ht
    simp only [rep]
    exact ht.l3 ((frz_imm ho).2 i _ hi hf)
   ·rename_i xs hf
    have ht := ho.trees _ (find_mem hf)
    simp only [treeRep, mem] at ht
    rw [h.2] at ht
    obtain ⟨us, h1, h2⟩ := ht
    simp only [rep]
    exact L2.le (fun b hb => ⟨hb, rfl⟩) ⟨us, h1.slC ((frz_imm ho).2 i _ hi hf), All2.mono (fun a b h3 => L1.le (fun b hb => ⟨(frz_imm ho).1 b hb, rfl⟩) h3) h2⟩
   ·rename_i xs hf
    have ht := ho.trees _ (find_mem hf)
    simp only [treeRep, mem] at ht
    rw [h.2] at ht
    obtain ⟨us, h1, h2⟩ := ht
    simp only [rep]
    exact L3.le (fun b hb => ⟨hb, rfl⟩) ⟨us, h1.slC ((frz_imm ho).2 i _ hi hf), All2.mono (fun a b h3 => L2.le (fun b hb => ⟨(frz_imm ho).1 b hb, rfl⟩) h3) h2⟩
   ·rename_i xs σ hf
    have ht := ho.trees _ (find_mem hf)
    simp only [treeRep, mem] at ht
    rw [h.2] at ht
    obtain ⟨rows, f0, fs, h1, h2, h3, h4⟩ := ht
    simp only [rep]
    have hS := (frz_imm ho).2 i _ hi hf
    refine ⟨_, h1.slC (fun b hb => hS b (by simp [h4, hb])), ?_⟩
    refine All2.of_get (by simp) (fun j a u' ha hu => ?_)
    rw [List.getElem?_map] at ha hu
    cases hs : σ[j]? with
    | none => rw [hs] at ha; cases ha
    | some k =>
     rw [hs] at ha hu
     simp only [Option.map_some, Option.some.injEq] at ha hu
     subst ha
     subst hu
     have hk : k < xs.length := h3 k (List.mem_of_getElem? hs)
     obtain ⟨f, c, hff, hc, hr⟩ := h2.get k _ (getD_some (d := []) hk)
     rw [hc]
     exact O2.l2 hr (fun b hb => hS b (by simp only [h4, List.mem_append, List.mem_flatten]; exact .inr ⟨f, List.mem_of_getElem? hff, hb⟩))
   ·rename_i vs hf
    have ht := ho.trees _ (find_mem hf)
    simp only [treeRep, mem] at ht
    rw [h.2] at ht
    obtain ⟨us, h1, h2⟩ := ht
    have h3 := (ho.drop R).2 (.agg vs) (.agg us.toArray) (by simp only [rep]; exact ⟨us, rfl, h2⟩)
    simp only [killA, rep] at h3
    obtain ⟨us', e, h3⟩ := h3
    obtain rfl : us = us' := by simpa using e
    simp only [rep]
    exact ⟨us, h1.slC ((frz_imm ho).2 i _ hi hf), h3⟩
   ·simp only [rep]
  ·rename_i hc
   have hq : qOf R [] i [] = false := by simpa [qOf] using hc
   have := hd (.ref i []) u h
   simpa only [killA, hq, Bool.false_eq_true, if_false] using this
 ·exact hd _ u h
theorem ats_upto {Q : SQ} {st : St} {c : Code} {cs : List Code} (z : St) (h : ATs P cx n [c] (fun e s => (e = .normal ∧ Ghost cx n s z) ∨ (e ≠ .normal ∧ Q e s)) st) (hz : ATs P cx n cs Q z) : ATs P cx n (c :: cs) Q st := by
 refine AT.weakG (AT.conseq (ats_of h) ?_)
 rintro e s (⟨rfl, hg⟩ | ⟨hne, hq⟩)
 ·exact ⟨z, hg, hz⟩
 ·refine ⟨s, fun _ _ h => h, ?_⟩
  cases e with
  | normal => exact absurd rfl hne
  | exit id => exact hq
  | goto l => exact hq
  | ret => exact hq
  | panic ch => exact hq
  | outgrown => exact hq
end
end Go.Aw
namespace Go.Aw
open Go.RowKit
section
variable {P : Program} {ops : Array Oper} {n : Nat} {st : St} {K : St → Prop} {cx : Cx} {Q : SQ} {cs : List Code}
end
end Go.Aw
namespace Go.Aw
open Go.RowKit
def frzW (H : List (Nat × Tree)) (R : List Nat) : AV → AV
 | .sub i [] lo hi => if R.contains i then (cutData lo hi (frzV H R (.ref i []))).getD .junk else .sub i [] lo hi
 | v => frzV H R v
def frzT (H : List (Nat × Tree)) (R : List Nat) : Tree → Tree
 | .bx vs => .bx (vs.map (frzW H R))
 | .lv vs => .lv (vs.map (frzW H R))
 | t => t
theorem frzT_e (H : List (Nat × Tree)) (R : List Nat) : (∀ x, frzT H R (.t1 x) = .t1 x) ∧ (∀ x, frzT H R (.t2 x) = .t2 x) ∧ (∀ x, frzT H R (.t3 x) = .t3 x) ∧ (∀ x, frzT H R (.r2 x) = .r2 x) ∧ (∀ x, frzT H R (.r3 x) = .r3 x) ∧ (∀ x s, frzT H R (.a3 x s) = .a3 x s) ∧ (∀ vs, frzT H R (.lv vs) = .lv (vs.map (frzW H R))) ∧ (∀ vs, frzT H R (.bx vs) = .bx (vs.map (frzW H R))) :=
 ⟨fun _ => rfl, fun _ => rfl, fun _ => rfl, fun _ => rfl, fun _ => rfl, fun _ _ => rfl, fun _ => rfl, fun _ => rfl⟩
def frzH (H : List (Nat × Tree)) (R : List Nat) : List (Nat × Tree) := (rmT R H).map fun p => (p.1, frzT H R p.2)
section
variable {P : Program} {cx : Cx} {n : Nat} {H : List (Nat × Tree)} {w : World} {ι : Nat → Value} {F : Nat → List Nat}
theorem frzW_rep (ho : Owns cx H w ι F) {R : List Nat} (av : AV) (u : Value) (h : rep (mem cx w H ι F) av u) : rep (mem cx w (killH (qOf R []) (rmT R H)) ι F) (frzW H R av) u := by
 unfold frzW
 split
 ·rename_i i lo hi
  split
  ·rename_i hc
   simp only [rep] at h
   obtain ⟨hd, a, k, cap, a', h1, h2, h3, h4, h5, rfl⟩ := h
   cases hx : cutData lo hi (frzV H R (.ref i [])) with
   | none => simp only [Option.getD_none, rep]
   | some d =>
    simp only [Option.getD_some]
    have hr : rep (mem cx w H ι F) (.ref i []) (.slice a k cap) := by
     simp only [rep]
     exact ⟨hd, h1⟩
    exact cut_rep hx (frzV_rep ho _ _ hr) h2 h3 h5
  ·rename_i hc
   have hq : qOf R [] i [] = false := by simpa [qOf] using hc
   have := (ho.drop R).2 (.sub i [] lo hi) u h
   simpa only [killA, hq, Bool.false_eq_true, if_false] using this
 ·exact frzV_rep ho _ _ h
theorem live_frz {R : List Nat} {k : Nat} {p : List Nat} : ∀ {l : List (Nat × Tree)}, livePath (find (l.map fun p => (p.1, frzT H R p.2)) k) p = livePath (find l k) p
 | [] => rfl
 | (j, x) :: r => by
  simp only [List.map_cons, find]
  split
  ·cases x <;> first | rfl | (cases p <;> rfl)
  ·exact live_frz
theorem slotGet_mapW (R : List Nat) : ∀ (s : List (Nat × AV)) (k : Nat), slotGet (s.map fun p => (p.1, frzW H R p.2)) k = frzW H R (slotGet s k)
 | [], k => rfl
 | (j, v) :: s, k => by
  simp only [List.map_cons, slotGet]
  split
  ·rfl
  ·exact slotGet_mapW R s k
theorem frzB_owns (ho : Owns cx H w ι F) (R : List Nat) : Owns cx (frzH H R) w ι F ∧ ∀ av u, rep (mem cx w H ι F) av u → rep (mem cx w (frzH H R) ι F) (frzW H R av) u := by
 obtain ⟨k1, k2⟩ := ho.drop R
 have ef : foot (frzH H R) F = foot (killH (qOf R []) (rmT R H)) F := by
  rw [foot_killH]
  simp [foot, frzH, Function.comp_def]
 have hle : (mem cx w (killH (qOf R []) (rmT R H)) ι F).le (mem cx w (frzH H R) ι F) := by
  refine ⟨fun b hb => ⟨⟨hb.1, hb.2.1, by rw [ef]; exact hb.2.2⟩, rfl⟩, fun i p hd => ⟨?_, rfl, fun v hv => hv⟩⟩
  simp only [mem] at hd ⊢
  unfold frzH
  rw [live_frz]
  rw [find_killH, livePath_kill] at hd
  exact hd
 have hW : ∀ av u, rep (mem cx w H ι F) av u → rep (mem cx w (frzH H R) ι F) (frzW H R av) u := fun av u h => rep.le hle _ _ (frzW_rep ho av u h)
 refine ⟨⟨k1.keep, fun p hp => ?_, by rw [ef]; exact k1.nodup, by rw [ef]; exact k1.mine, ?_, k1.old⟩, hW⟩
 ·simp only [frzH, List.mem_map] at hp
  obtain ⟨q, hq, rfl⟩ := hp
  have ho1 := ho.trees q (mem_rmT.1 hq).1
  have kt := k1.trees (q.1, killT (qOf R []) q.2) (List.mem_map.2 ⟨q, hq, rfl⟩)
  obtain ⟨i, t⟩ := q
  have hmap : ∀ (vs : List AV) (us : List Value), reps (mem cx w H ι F) vs us → reps (mem cx w (frzH H R) ι F) (vs.map (frzW H R)) us := by
   intro vs
   induction vs with
   | nil => intro us h; simpa only [reps, List.map_nil] using h
   | cons a as ih =>
    intro us h
    simp only [reps, List.map_cons] at h ⊢
    obtain ⟨u, us', rfl, h1, h2⟩ := h
    exact ⟨u, us', rfl, hW a u h1, ih us' h2⟩
  cases t with
  | bx vs =>
   obtain ⟨b, us, E, h1, h2, h3, h4⟩ := ho1
   exact ⟨b, us, E, h1, h2, h3, hmap vs us h4⟩
  | lv vs =>
   obtain ⟨us, h1, h2⟩ := ho1
   exact ⟨us, h1, hmap vs us h2⟩
  | t1 xs => exact treeRep.le hle (fun _ _ => rfl) kt
  | t2 xs => exact treeRep.le hle (fun _ _ => rfl) kt
  | t3 xs => exact treeRep.le hle (fun _ _ => rfl) kt
  | r2 xs => exact treeRep.le hle (fun _ _ => rfl) kt
  | r3 xs => exact treeRep.le hle (fun _ _ => rfl) kt
  | a3 xs s => exact treeRep.le hle (fun _ _ => rfl) kt
 ·have e : Aw.ids (frzH H R) = Aw.ids (rmT R H) := by simp [Aw.ids, frzH]
  rw [e]
  exact ids_rmT ho.ids
theorem ghost_frzB (R : List Nat) {s : List (Nat × AV)} : Ghost cx n ⟨s, H⟩ ⟨s.map fun p => (p.1, frzW H R p.2), frzH H R⟩ := by
 intro tmps w ⟨hsz, ι, F, ho, hr⟩
 obtain ⟨k1, hW⟩ := frzB_owns ho R
 refine ⟨hsz, ι, F, k1, fun k => ?_⟩
 show rep _ (slotGet (s.map fun p => (p.1, frzW H R p.2)) k) _
 rw [slotGet_mapW]
 exact hW _ _ (hr k)
end
end Go.Aw
namespace Go.Aw
open Go.RowKit
theorem rnT_e (σ : Nat → Nat) : (∀ x, rnT σ (.t1 x) = .t1 x) ∧ (∀ x, rnT σ (.t2 x) = .t2 x) ∧ (∀ x, rnT σ (.t3 x) = .t3 x) ∧ (∀ x, rnT σ (.r2 x) = .r2 x) ∧ (∀ x, rnT σ (.r3 x) = .r3 x) ∧ (∀ x s, rnT σ (.a3 x s) = .a3 x s) ∧ (∀ vs, rnT σ (.lv vs) = .lv (rns σ vs)) ∧ (∀ vs, rnT σ (.bx vs) = .bx (rns σ vs)) :=
 ⟨fun _ => rfl, fun _ => rfl, fun _ => rfl, fun _ => rfl, fun _ => rfl, fun _ _ => rfl, fun _ => rfl, fun _ => rfl⟩
def lstOf (n : Nat) (l : List Nat) : Array Bool := ((List.range n).map fun i => l.contains i).toArray
def tabOk (md : Region.Mode) (ops : Array Oper) (keys : List (List Nat)) (es : List (Nat × Nat × Nat)) : Bool :=
 (List.range keys.length).all fun a =>
  let L := lstOf ops.size (keys.getD a [])
  let rd := Region.ready md ops L
  decide ((keys.getD a []).length ≤ ops.size) &&
  (if rd.isEmpty then a + 1 == keys.length
  else decide ((keys.getD a []).length < ops.size) && rd.all fun i => es.any fun e => e.1 == a && e.2.1 == i && (ops[i]?).isSome && decide (e.2.2 < keys.length) &&
   (keys.getD e.2.2 []).length == (keys.getD a []).length + 1 && lstOf ops.size (keys.getD e.2.2 []) == L.setIfInBounds i true)
def stepsE (P : Program) (cx : Cx) (n : Nat) (ops : Array Oper) (own : List Nat) (tab : List St) : List (Nat × Nat × Nat) → Prop
 | [] => True
 | (a, k, b) :: r => gRun (own.contains k) P ops n [pickO ops k] (tab.getD a ⟨[], []⟩) (fun st' => Ghost cx n st' (tab.getD b ⟨[], []⟩)) ∧ stepsE P cx n ops own tab r
def mvTRun (P : Program) (ops : Array Oper) (n : Nat) (own : List Nat) : List Nat → St → (St → Prop) → Prop
 | [], st, K => K st
 | k :: ks, st, K => gRun (own.contains k) P ops n [pickO ops k] st (fun st' => mvTRun P ops n own ks st' K)
def MVT (P : Program) (ops : Array Oper) (n : Nat) (own : List Nat) (ks : List Nat) (K : St → Prop) : St → Prop := fun st => mvTRun P ops n own ks st K
def mvTChk (md : Region.Mode) (ops : Array Oper) (own : List Nat) : List Nat → Nat → Array Bool → Nat × Array Bool × Bool
 | [], fuel, listed => (fuel, listed, true)
 | k :: ks, fuel, listed =>
  let r := mvTChk md ops own ks (fuel - 1) (listed.setIfInBounds k true)
  (r.1, r.2.1, r.2.2 && fuel != 0 && !own.contains k && (match ops[k]? with
  | some o => mvOk o
  | none => false) && Region.free md ops listed k && (Region.ready md ops listed).contains k)
def drawTab (own ks : List Nat) (keys : List (List Nat)) (es : List (Nat × Nat × Nat)) (ops : Array Oper) : Bool :=
 Region.noSelect ops && (mvTChk .any ops own ks ops.size (Array.replicate ops.size false)).2.2 &&
 (mvTChk .any ops own ks ops.size (Array.replicate ops.size false)).1 + (keys.getD 0 []).length == ops.size &&
 (mvTChk .any ops own ks ops.size (Array.replicate ops.size false)).2.1 == lstOf ops.size (keys.getD 0 []) && decide (0 < keys.length) && tabOk .any ops keys es
section
variable {P : Program} {ops : Array Oper} {n : Nat} {own : List Nat} {st : St} {K : St → Prop} {cx : Cx} {Q : SQ} {cs : List Code}
theorem ghost_to (R : List Nat) (σs : List (Nat × Nat)) {s z : St} (h1 : SlotsLe ⟨rnLs σs (killL R [] s.s), killH (qOf R []) (rmT R s.H)⟩ z.s := by simp only [go_sem, seval, AV.int.injEq, AV.bool.injEq, AV.l1.injEq, AV.l2.injEq, AV.l3.injEq])
  (h2 : sortH (rnHs σs (killH (qOf R []) (rmT R s.H))) = z.H := by simp only [go_sem, seval]) : Ghost cx n s z := ghost_trans (ghost_drop R) (ghost_can σs h1 h2)
theorem fcall_bx {P : Program} {H : List (Nat × Tree)} {f : FuncId} {args : List AV} {T T' : List (Nat × Tree)} {r : AV} {X : List Nat} {K : AV → List Nat → List Nat → List (Nat × Tree) → Prop} (h : OwnCall P f args T T' r X) (hn : (Aw.ids T).Nodup := by simp [Aw.ids]) (hm : ∀ p ∈ T, find H p.1 = some p.2 := by simp [find])
  (hc : closedT T := by simp [closedT, killT_e, killAs, killA, outQ, Aw.ids]) (ha : killAs (outQ T) args = args := by simp [killAs, killA, outQ, Aw.ids]) (hfr : ∀ i ∈ Aw.ids T', i ∈ Aw.ids T ∨ i ∉ Aw.ids H := by simp [Aw.ids]) (k : K r ((Aw.ids T).filter (fun i => !X.contains i)) X (T' ++ killH (qOf ((Aw.ids T).filter (fun i => !X.contains i)) X) (rmT (Aw.ids T) H))) : FCall P H f args K := fcall_box h hn hm hc ha hfr k
theorem dt_can {s z : St} (h1 : SlotsLe s z.s) (h2 : sortH s.H = z.H) : Ghost cx n s z := ghost_can [] h1 h2
theorem PureCall.introR {f : FuncId} {fn : Func} {c : Code} {rs : List ResultVar} {ds : List AV} {r : AV} (hcall : ∀ args w, (callFunc f args).run P w = .ok (.enter f args) w) (hf : P.funcs[f]? = some fn) (hb : fn.body = some c)
  (hn : fn.ntmps = n) (hrs : fn.results = rs.toArray) (hl : ds.length ≤ n) (h : ∀ cx, cx.fix = 0 → cx.rd = none → AT P cx n c (fun e st => Ends e ∧ ∃ v, resL P st rs v ∧ view1 st.H v = some r) ⟨argSlots 0 ds, []⟩) : PureCall P f ds r :=
 PureCall.introD hcall hf hb hn hrs hl fun cx hcx hrd => ATD.of_ATr fun cx' h1 h2 => h cx' (h1.trans hcx) (h2.trans hrd)
theorem FreshCall.introR {f : FuncId} {fn : Func} {c : Code} {rs : List ResultVar} {ds : List AV} {r : AV} (hcall : ∀ args w, (callFunc f args).run P w = .ok (.enter f args) w) (hf : P.funcs[f]? = some fn) (hb : fn.body = some c)
  (hn : fn.ntmps = n) (hrs : fn.results = rs.toArray) (hl : ds.length ≤ n) (h : ∀ cx, cx.fix = 0 → cx.rd = none → AT P cx n c (fun e st => Ends e ∧ ∃ v is, resL P st rs v ∧ ownsA st.H v = some (r, is) ∧ is.Nodup) ⟨argSlots 0 ds, []⟩) : FreshCall P f ds r :=
 FreshCall.introD hcall hf hb hn hrs hl fun cx hcx hrd => ATD.of_ATr fun cx' h1 h2 => h cx' (h1.trans hcx) (h2.trans hrd)
theorem mvT_nil : mvTRun P ops n own [] st K = K st := rfl
theorem mvT_cons (k : Nat) (ks : List Nat) : mvTRun P ops n own (k :: ks) st K = gRun (own.contains k) P ops n [pickO ops k] st (MVT P ops n own ks K) := rfl
theorem MVT_ap (ks : List Nat) : MVT P ops n own ks K st = mvTRun P ops n own ks st K := rfl
theorem stepsE_mem {tab : List St} : ∀ {es : List (Nat × Nat × Nat)}, stepsE P cx n ops own tab es → ∀ e ∈ es, gRun (own.contains e.2.1) P ops n [pickO ops e.2.1] (tab.getD e.1 ⟨[], []⟩) (fun st' => Ghost cx n st' (tab.getD e.2.2 ⟨[], []⟩))
 | [], _, e, he => by cases he
 | (a, k, b) :: r, h, e, he => by
  rcases List.mem_cons.1 he with rfl | he
  ·exact h.1
  ·exact stepsE_mem h.2 e he
theorem tab_sound {md : Region.Mode} {l : List Oper} {keys : List (List Nat)} {es : List (Nat × Nat × Nat)} {tab : List St} (hx : ∀ o ∈ l, ∀ d, o.dst = some d → cx.fix d = false) (hB : tabOk md l.toArray keys es = true) (hs : stepsE P cx n l.toArray own tab es) :
  ∀ (fuel a : Nat) (tmps : Array Value) (w : World), a < keys.length → fuel + (keys.getD a []).length = l.toArray.size → SimF cx n (tab.getD a ⟨[], []⟩).get (tab.getD a ⟨[], []⟩).H tmps w →
   wpAnyIn (Fr cx.rd) 0 P md l.toArray (fun e a w => e = .normal ∧ After cx n (ofSt fun st' => st' = tab.getD (keys.length - 1) ⟨[], []⟩) a w) fuel (lstOf l.toArray.size (keys.getD a [])) ⟨tmps, cx.ds⟩ w := by
 have hB' := hB
 unfold tabOk at hB'
 rw [List.all_eq_true] at hB'
 have fin : ∀ a, a < keys.length → Region.ready md l.toArray (lstOf l.toArray.size (keys.getD a [])) = [] → a = keys.length - 1 := fun a ha hr => by
  have h1 := hB' a (List.mem_range.2 ha)
  simp only [hr, List.isEmpty_nil, if_true, Bool.and_eq_true, beq_iff_eq] at h1
  omega
 intro fuel
 induction fuel with
 | zero =>
  intro a tmps w ha hf hsim
  have h1 := hB' a (List.mem_range.2 ha)
  have hr : Region.ready md l.toArray (lstOf l.toArray.size (keys.getD a [])) = [] := by
   cases he : (Region.ready md l.toArray (lstOf l.toArray.size (keys.getD a []))).isEmpty with
   | true => simpa using he
   | false =>
    simp only [he, Bool.false_eq_true, if_false, Bool.and_eq_true, decide_eq_true_eq] at h1
    omega
  have e := fin a ha hr
  subst e
  exact ⟨hr, rfl, rfl, _, _, ⟨_, rfl, rfl, rfl⟩, hsim⟩
 | succ fuel ih =>
  intro a tmps w ha hf hsim
  have h1 := hB' a (List.mem_range.2 ha)
  refine ⟨fun hr => ?_, fun i hi => ?_⟩
  ·have e := fin a ha hr
   subst e
   exact ⟨rfl, rfl, _, _, ⟨_, rfl, rfl, rfl⟩, hsim⟩
  ·have hne : (Region.ready md l.toArray (lstOf l.toArray.size (keys.getD a []))).isEmpty = false := by
    cases hl : Region.ready md l.toArray (lstOf l.toArray.size (keys.getD a [])) with
    | nil => rw [hl] at hi; cases hi
    | cons x y => rfl
   simp only [hne, Bool.false_eq_true, if_false, Bool.and_eq_true, List.all_eq_true, List.any_eq_true, beq_iff_eq, decide_eq_true_eq] at h1
   obtain ⟨⟨a', k, b⟩, he, ⟨⟨⟨⟨e1, e2⟩, e3⟩, e4⟩, e5⟩, e6⟩ := h1.2.2 i hi
   simp only at e1 e2 e3 e4 e5 e6
   subst e1
   subst e2
   have hg := stepsE_mem hs _ he
   simp only at hg
   have hea := eAt_of (cx := cx) (K' := ofSt fun st' => Ghost cx n st' (tab.getD b ⟨[], []⟩)) hx e3 hg (fun s hs => ⟨s, rfl, rfl, hs⟩)
   have next : ∀ a w, After cx n (ofSt fun st' => Ghost cx n st' (tab.getD b ⟨[], []⟩)) a w → wpAnyIn (Fr cx.rd) 0 P md l.toArray (fun e a w => e = .normal ∧ After cx n (ofSt fun st' => st' = tab.getD (keys.length - 1) ⟨[], []⟩) a w) fuel ((lstOf l.toArray.size (keys.getD a' [])).setIfInBounds k true) a w := by
    rintro a2 w2 ⟨hd, g', H', ⟨st', rfl, rfl, hG⟩, hs'⟩
    rw [act_eta hd, ← e6]
    exact ih b _ _ e4 (by omega) (hG _ _ hs')
   obtain ⟨o, ho⟩ := Option.isSome_iff_exists.1 e3
   unfold eAt at hea
   unfold wpOpIn
   split
   ·rename_i ho'
    rw [ho'] at ho; cases ho
   ·rename_i o' ho'
    rw [ho'] at hea
    have := eOper_sound (Q := fun e a w => e = .normal ∧ After cx n (ofSt fun st' => st' = tab.getD (keys.length - 1) ⟨[], []⟩) a w) hsim hea
    split
    ·rename_i hw
     rw [if_pos hw] at this
     exact Oper.wpIn_mono next this
    ·rename_i hw
     rw [if_neg hw] at this
     exact ⟨fun _ _ => trivial, next _ _ this⟩
theorem mvT_sound {md : Region.Mode} {l : List Oper} {z : St} {Q' : Exit → Act → World → Prop} {fu : Nat} {lu : Array Bool} (hrd : cx.rd = none) (hx : ∀ o ∈ l, ∀ d, o.dst = some d → cx.fix d = false) (hsel : Region.noSelect l.toArray = true)
  (hQ' : ∀ c a w, ¬ Q' (.panic c) a w)
  (hz : ∀ tmps w, SimF cx n z.get z.H tmps w → wpAnyIn (Fr cx.rd) 0 P md l.toArray Q' fu lu ⟨tmps, cx.ds⟩ w) : ∀ (ks : List Nat) (fuel : Nat) (listed : Array Bool) (st : St) (tmps : Array Value) (w : World),
  Closed md l.toArray listed → mvTChk md l.toArray own ks fuel listed = (fu, lu, true) → mvTRun P l.toArray n own ks st (fun s => Ghost cx n s z) → SimF cx n st.get st.H tmps w →
   wpAnyIn (Fr cx.rd) 0 P md l.toArray Q' fuel listed ⟨tmps, cx.ds⟩ w
 | [], fuel, listed, st, tmps, w, hcl, hB, h, hs => by
  simp only [mvTChk, Prod.mk.injEq, and_true] at hB
  obtain ⟨rfl, rfl⟩ := hB
  exact hz _ _ (h _ _ hs)
 | k :: ks, fuel, listed, st, tmps, w, hcl, hB, h, hs => by
  simp only [mvTChk, Prod.mk.injEq, Bool.and_eq_true, bne_iff_ne, ne_eq, Bool.not_eq_true'] at hB
  obtain ⟨q1, q2, ⟨⟨⟨⟨hB, h0⟩, hno⟩, hmv⟩, hfree⟩, hready⟩ := hB
  obtain ⟨fuel, rfl⟩ : ∃ f, fuel = f + 1 := ⟨fuel - 1, by omega⟩
  simp only [Nat.add_sub_cancel] at hB q1 q2
  cases hk : l.toArray[k]? with
  | none => rw [hk] at hmv; cases hmv
  | some o =>
   rw [hk] at hmv
   have he := eAt_of (cx := cx) (K' := ofSt fun st' => mvTRun P l.toArray n own ks st' (fun s => Ghost cx n s z)) hx (by rw [hk]; rfl) h (fun s hs => ⟨s, rfl, rfl, hs⟩)
   unfold eAt at he
   simp only [hk, eOper, hno] at he
   have hso := aOper_sound (Q := fun _ _ _ => True) hs he
   simp only [mvOk, Bool.and_eq_true, Option.isNone_iff_eq_none] at hmv
   obtain ⟨hop, hgd⟩ := hmv
   have hw : Region.wanted o (yielded l.toArray tmps) = true := by simp [Region.wanted, hgd]
   rw [if_pos hw] at hso
   have hro : (Fr cx.rd).round = none := hrd
   obtain ⟨v, hv, hab⟩ : ∃ v, (∀ w, (execOp (⟨tmps, cx.ds⟩ : Act).eval o).run P w = .ok (.value v) w) ∧ ∀ w, o.about P w (⟨tmps, cx.ds⟩ : Act).eval = none := by
    obtain ⟨dst, op, ty, pos, af, gd⟩ := o
    simp only at hop
    cases op <;> simp only at hop <;> first | (cases hop; done) | skip
    ·exact ⟨_, fun w => rfl, fun w => rfl⟩
    ·exact ⟨_, fun w => rfl, fun w => rfl⟩
   unfold Oper.wpIn at hso
   have h2 := hso.2
   rw [hro, Oper.semAt_none, hv w] at h2
   simp only [Oper.uponIn] at h2
   obtain ⟨hds, g', H', ⟨st', rfl, rfl, hK⟩, hs'⟩ := h2
   have hr : k ∈ Region.ready md l.toArray listed := by simpa using hready
   refine wpAnyIn_take (v := v) hro hk hsel hfree hready (fun c a w h => absurd h (hQ' c _ w)) ⟨.inl ⟨hw, hv⟩, hab⟩ ?_
   have := mvT_sound hrd hx hsel hQ' hz ks fuel (listed.setIfInBounds k true) st' _ w (hcl.set hr) (Prod.ext q1 (Prod.ext q2 hB)) hK hs'
   rw [← act_eta hds] at this
   exact this
theorem ats_table (own ks : List Nat) (keys : List (List Nat)) (es : List (Nat × Nat × Nat)) (tab : List St) {id : Nat} {l : List Oper} (hrd : cx.rd = none) (hx : ∀ o ∈ l, ∀ d, o.dst = some d → cx.fix d = false) (hm : P.follows .mixedOrders = true) (hB : drawTab own ks keys es l.toArray = true)
  (h0 : mvTRun P l.toArray n own ks st (fun s => Ghost cx n s (tab.getD 0 ⟨[], []⟩))) (hs : stepsE P cx n l.toArray own tab es) (hz : ATs P cx n cs Q (tab.getD (keys.length - 1) ⟨[], []⟩)) : ATs P cx n (.region id l.toArray true :: cs) Q st := by
 refine AT.weakG fun tmps w hsim => ?_
 refine wpIn_mono (wpIn_region_any hm (Q := fun e a w => e = .normal ∧ After cx n (ofSt fun st' => st' = tab.getD (keys.length - 1) ⟨[], []⟩) a w) ?_) ?_
 ·have hs' : SimF cx n st.get st.H tmps { w with drawn := w.drawn + 1 } := by
   obtain ⟨h1, ι, F, h2, h3⟩ := hsim
   have e : Ext w { w with drawn := w.drawn + 1 } := (Below.refl _ _).drew
   exact ⟨h1, ι, F, h2.ext e, fun k => rep.le (mem_ext e) _ _ (h3 k)⟩
  simp only [drawTab, Bool.and_eq_true, beq_iff_eq, decide_eq_true_eq] at hB
  obtain ⟨⟨⟨⟨⟨b1, b2⟩, b3⟩, b4⟩, b5⟩, b6⟩ := hB
  refine mvT_sound (own := own) (z := tab.getD 0 ⟨[], []⟩) (fu := (mvTChk .any l.toArray own ks l.toArray.size (Array.replicate l.toArray.size false)).1) (lu := (mvTChk .any l.toArray own ks l.toArray.size (Array.replicate l.toArray.size false)).2.1) hrd hx b1 (fun c a w h => by cases h.1) (fun tmps w hsz => ?_) ks _ _ st _ _ (fun k o hk hl => by
   simp [Array.getD_eq_getD_getElem?, Array.getElem?_replicate] at hl
   split at hl <;> simp at hl) (by rw [← b2]) h0 hs'
  rw [b4]
  exact tab_sound hx b6 hs _ 0 _ _ b5 b3 hsz
 ·rintro e a w' ⟨rfl, h1, g, H, ⟨st', rfl, rfl, rfl⟩, h3⟩
  exact ⟨h1, _, ⟨_, fun _ _ h => h, hz⟩, h3⟩
attribute [go_sem] mvT_nil mvT_cons MVT_ap rnLs rnL rn rns sw SlotsLe sortH insH rnHs rnH rnT_e frzH frzT_e frzW frzV frzA frzAs
end
end Go.Aw
namespace Go.Aw
end Go.Aw
namespace Go.Aw
theorem gD7 {X : Prop} (x : X := by repeat' (first | exact dt_can ⟨rfl, rfl, rfl, rfl, rfl, rfl, rfl, trivial⟩ rfl | with_reducible refine And.intro ?_ ?_ | omega)) : X := x
theorem gD8 {X : Prop} (x : X := by repeat' (first | exact dt_can ⟨rfl, rfl, rfl, rfl, rfl, rfl, rfl, rfl, trivial⟩ rfl | with_reducible refine And.intro ?_ ?_ | omega)) : X := x
theorem gD9 {X : Prop} (x : X := by repeat' (first | exact dt_can ⟨rfl, rfl, rfl, rfl, rfl, rfl, rfl, rfl, rfl, trivial⟩ rfl | with_reducible refine And.intro ?_ ?_ | omega)) : X := x
theorem gD10 {X : Prop} (x : X := by repeat' (first | exact dt_can ⟨rfl, rfl, rfl, rfl, rfl, rfl, rfl, rfl, rfl, rfl, trivial⟩ rfl | with_reducible refine And.intro ?_ ?_ | omega)) : X := x
theorem gD11 {X : Prop} (x : X := by repeat' (first | exact dt_can ⟨rfl, rfl, rfl, rfl, rfl, rfl, rfl, rfl, rfl, rfl, rfl, trivial⟩ rfl | with_reducible refine And.intro ?_ ?_ | omega)) : X := x
theorem gD12 {X : Prop} (x : X := by repeat' (first | exact dt_can ⟨rfl, rfl, rfl, rfl, rfl, rfl, rfl, rfl, rfl, rfl, rfl, rfl, trivial⟩ rfl | with_reducible refine And.intro ?_ ?_ | omega)) : X := x
theorem gD13 {X : Prop} (x : X := by repeat' (first | exact dt_can ⟨rfl, rfl, rfl, rfl, rfl, rfl, rfl, rfl, rfl, rfl, rfl, rfl, rfl, trivial⟩ rfl | with_reducible refine And.intro ?_ ?_ | omega)) : X := x
end Go.Aw
