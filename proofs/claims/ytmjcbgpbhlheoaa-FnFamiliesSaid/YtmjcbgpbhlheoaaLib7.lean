import Derived.Test.YtmjcbgpbhlheoaaLib6
import Derived.Test.YtmjcbgpbhlheoaaLib1
set_option linter.unusedSimpArgs false
set_option linter.unusedVariables false
namespace Go.Aw
open Go.RowKit
def mvOk (o : Oper) : Bool := (match o.op with
 | .move _ => true
 | .assign _ => true
 | _ => false) && o.guard.isNone
def mvChk (P : Program) (md : Region.Mode) (ops : Array Oper) (own : List Nat) (p : Plan) : List Nat → Nat → Array Bool → Bool
 | [], fuel, listed => planOk P md ops (fun k => own.contains k) true p fuel listed
 | k :: ks, fuel, listed => fuel != 0 && !own.contains k && (match ops[k]? with
  | some o => mvOk o
  | none => false) && Region.free md ops listed k && (Region.ready md ops listed).contains k && mvChk P md ops own p ks (fuel - 1) (listed.setIfInBounds k true)
def drawMv (P : Program) (own ks : List Nat) (p : Plan) (ops : Array Oper) : Bool := Region.noSelect ops && mvChk P .any ops own p ks ops.size (Array.replicate ops.size false)
def mvRun (P : Program) (ops : Array Oper) (n : Nat) (own : List Nat) (p : Plan) : List Nat → St → (St → Prop) → Prop
 | [], st, K => plRun P ops n own p st K
 | k :: ks, st, K => gRun (own.contains k) P ops n [pickO ops k] st (fun st' => mvRun P ops n own p ks st' K)
def MVK (P : Program) (ops : Array Oper) (n : Nat) (own : List Nat) (p : Plan) (ks : List Nat) (K : St → Prop) : St → Prop := fun st => mvRun P ops n own p ks st K
section
variable {P : Program} {ops : Array Oper} {n : Nat} {own : List Nat} {st : St} {K : St → Prop} {p : Plan} {cx : Cx} {Q : SQ} {cs : List Code}
theorem mv_nil : mvRun P ops n own p [] st K = plRun P ops n own p st K := rfl
theorem mv_cons (k : Nat) (ks : List Nat) : mvRun P ops n own p (k :: ks) st K = gRun (own.contains k) P ops n [pickO ops k] st (MVK P ops n own p ks K) := rfl
theorem MVK_ap (ks : List Nat) : MVK P ops n own p ks K st = mvRun P ops n own p ks st K := rfl
theorem mv_sound {md : Region.Mode} {l : List Oper} (hrd : cx.rd = none) (hx : ∀ o ∈ l, ∀ d, o.dst = some d → cx.fix d = false) (hsel : Region.noSelect l.toArray = true) : ∀ (ks : List Nat) (fuel : Nat) (listed : Array Bool) (st : St) (tmps : Array Value) (w : World),
  Closed md l.toArray listed → mvChk P md l.toArray own p ks fuel listed = true → mvRun P l.toArray n own p ks st K → SimF cx n st.get st.H tmps w →
   wpAnyIn (Fr cx.rd) 0 P md l.toArray (fun e a w => e = .normal ∧ After cx n (ofSt K) a w) fuel listed ⟨tmps, cx.ds⟩ w
 | [], fuel, listed, st, tmps, w, hcl, hB, h, hs =>
  eAny_sound (ow := fun k => own.contains k) (Q := ofSt K) (fun a w h => ⟨rfl, h⟩) fuel listed hs (plan_any (md := md) p.sz p (Nat.le_refl _) _ _ st.get st.H hcl hB (plRun_pRunA hx p hB h))
 | k :: ks, fuel, listed, st, tmps, w, hcl, hB, h, hs => by
  simp only [mvChk, Bool.and_eq_true, bne_iff_ne, ne_eq, Bool.not_eq_true'] at hB
  obtain ⟨⟨⟨⟨⟨h0, hno⟩, hmv⟩, hfree⟩, hready⟩, hB⟩ := hB
  obtain ⟨fuel, rfl⟩ : ∃ f, fuel = f + 1 := ⟨fuel - 1, by omega⟩
  simp only [Nat.add_sub_cancel] at hB
  cases hk : l.toArray[k]? with
  | none => rw [hk] at hmv; cases hmv
  | some o =>
   rw [hk] at hmv
   have he := eAt_of (cx := cx) (K' := ofSt fun st' => mvRun P l.toArray n own p ks st' K) hx (by rw [hk]; rfl) h (fun s hs => ⟨s, rfl, rfl, hs⟩)
   unfold eAt at he
   simp only [hk, eOper, hno] at he
   have hso := aOper_sound (Q := fun _ _ _ => True) hs he
   simp only [mvOk, Bool.and_eq_true, Option.isNone_iff_eq_none] at hmv
   obtain ⟨hop, hgd⟩ := hmv
   have hw : Region.wanted o (yielded l.toArray tmps) = true := by simp [Region.wanted, hgd]
   rw [if_pos hw] at hso
   have hro : (Fr cx.rd).round = none := hrd
   obtain ⟨v, hv, hab⟩ : ∃ v, (∀ w, (execOp (⟨tmps, cx.ds⟩ : Act).eval o).run P w = .ok (.value v) w) ∧ ∀ w, o.about P w (⟨tmps, cx.ds⟩ : Act).eval = none := by
    obtain ⟨dst, op, ty, pos, af, gd⟩ := o
    simp only at hop
    cases op <;> simp only at hop <;> first | (cases hop; done) | skip
    ·exact ⟨_, fun w => rfl, fun w => rfl⟩
    ·exact ⟨_, fun w => rfl, fun w => rfl⟩
   unfold Oper.wpIn at hso
   have h2 := hso.2
   rw [hro, Oper.semAt_none, hv w] at h2
   simp only [Oper.uponIn] at h2
   obtain ⟨hds, g', H', ⟨st', rfl, rfl, hK⟩, hs'⟩ := h2
   have hr : k ∈ Region.ready md l.toArray listed := by simpa using hready
   refine wpAnyIn_take (v := v) hro hk hsel hfree hready (fun c a w h => (by cases h.1)) ⟨.inl ⟨hw, hv⟩, hab⟩ ?_
   have := mv_sound hrd hx hsel ks fuel (listed.setIfInBounds k true) st' _ w (hcl.set hr) hB hK hs'
   rw [← act_eta hds] at this
   exact this
theorem AT.drawMv {id : Nat} {l : List Oper} {ks : List Nat} (hrd : cx.rd = none) (hx : ∀ o ∈ l, ∀ d, o.dst = some d → cx.fix d = false) (hm : P.follows .mixedOrders = true) (hB : Aw.drawMv P own ks p l.toArray = true) (h : mvRun P l.toArray n own p ks st (fun st' => Q .normal st')) : AT P cx n (.region id l.toArray true) Q st := by
 intro tmps w hs
 refine wpIn_mono (wpIn_region_any hm (Q := fun e a w => e = .normal ∧ After cx n (ofSt fun st' => Q .normal st') a w) ?_) ?_
 ·have hs' : SimF cx n st.get st.H tmps { w with drawn := w.drawn + 1 } := by
   obtain ⟨h1, ι, F, h2, h3⟩ := hs
   have e : Ext w { w with drawn := w.drawn + 1 } := (Below.refl _ _).drew
   exact ⟨h1, ι, F, h2.ext e, fun k => rep.le (mem_ext e) _ _ (h3 k)⟩
  simp only [Aw.drawMv, Bool.and_eq_true] at hB
  exact mv_sound hrd hx hB.1 ks _ _ st _ _ (fun k o hk hl => by
   simp [Array.getD_eq_getD_getElem?, Array.getElem?_replicate] at hl
   split at hl <;> simp at hl) hB.2 h hs'
 ·rintro e a w' ⟨rfl, h1, g, H, ⟨st', rfl, rfl, h2⟩, h3⟩
  exact ⟨h1, st', h2, h3⟩
theorem ats_planM (own ks : List Nat) (p : Plan) (z : St) {id : Nat} {l : List Oper} (hrd : cx.rd = none) (hx : ∀ o ∈ l, ∀ d, o.dst = some d → cx.fix d = false) (hm : P.follows .mixedOrders = true) (hB : drawMv P own ks p l.toArray = true) (h : ∀ K : St → Prop, (∀ s, Le s z → K s) → mvRun P l.toArray n own p ks st K) (hz : ATs P cx n cs Q z) : ATs P cx n (.region id l.toArray true :: cs) Q st :=
 AT.weak (AT.drawMv hrd hx hm hB (h _ fun s hl => ⟨z, hl, hz⟩))
theorem ATD.of_ATr {c : Code} (h : ∀ cx', cx'.fix = cx.fix → cx'.rd = cx.rd → AT P cx' n c Q st) : ATD P cx n c Q st :=
 fun cx' hr hd tmps w hs => wpIn_mono (h cx' hr.fix hr.rd tmps w hs) fun e a w' ⟨h1, st', h2, h3⟩ => ⟨cx', hr, hd, h1, st', h2, h3⟩
theorem OwnCall.introR {f : FuncId} {fn : Func} {c : Code} {rs : List ResultVar} {args : List AV} {T T' : List (Nat × Tree)} {r : AV} (k : Nat) (J : List Nat) {X : List Nat} (hcall : ∀ args w, (callFunc f args).run P w = .ok (.enter f args) w) (hf : P.funcs[f]? = some fn) (hb : fn.body = some c)
  (hn : fn.ntmps = n) (hrs : fn.results = rs.toArray) (hl : args.length ≤ n) (hX : ∀ i ∈ X, i ∈ Aw.ids T' ∧ ∃ j ∈ J, j < k ∧ i ∈ rootsA (slotGet (argSlots 0 args) j))
  (h : ∀ cx, cx.fix = below k → cx.rd = none → AT P cx n c (fun e st => Ends e ∧ resL P st rs r ∧ (∀ j ∈ J, st.get j = slotGet (argSlots 0 args) j) ∧ st.H = T') ⟨argSlots 0 args, T⟩) : OwnCall P f args T T' r X :=
 OwnCall.introD k J hcall hf hb hn hrs hl hX fun cx hcx hrd => ATD.of_ATr fun cx' h1 h2 => h cx' (h1.trans hcx) (h2.trans hrd)
end
end Go.Aw
namespace Go.Aw
open Go.RowKit
def frzV (H : List (Nat × Tree)) (R : List Nat) : AV → AV
 | .ref i [] => if R.contains i then (match find H i with
  | some (.t1 xs) => .l1 xs
  | some (.t2 xs) => .l2 xs
  | some (.t3 xs) => .l3 xs
  | some (.r2 xs) => .l2 xs
  | some (.r3 xs) => .l3 xs
  | some (.a3 xs σ) => .l3 (σ.map fun k => xs.getD k [])
  | some (.lv vs) => .lv (killAs (qOf R []) vs)
  | _ => .junk) else .ref i []
 | v => killA (qOf R []) v
section
variable {P : Program} {cx : Cx} {n : Nat} {H : List (Nat × Tree)} {w : World} {ι : Nat → Value} {F : Nat → List Nat}
theorem frzV_rep (ho : Owns cx H w ι F) {R : List Nat} : ∀ (av : AV) (u : Value), rep (mem cx w H ι F) av u → rep (mem cx w (killH (qOf R []) (rmT R H)) ι F) (frzV H R av) u := by
 have hd : ∀ (av : AV) (u : Value), rep (mem cx w H ι F) av u → rep (mem cx w (killH (qOf R []) (rmT R H)) ι F) (killA (qOf R []) av) u := fun av u h => (ho.drop R).2 av u h
 intro av u h
 unfold frzV
 split
 ·rename_i i
  split
  ·rename_i hc
   have hi : i ∈ R := by simpa using hc
   simp only [rep, mem, pathV, Option.some.injEq] at h
   split
   ·rename_i xs hf
    have ht := ho.trees _ (find_mem hf)
    simp only [treeRep, mem] at ht
    rw [h.2] at ht
    simp only [rep]
    exact ht.l1 ((frz_imm ho).2 i _ hi hf)
   ·rename_i xs hf
    have ht := ho.trees _ (find_mem hf)
    simp only [treeRep, mem] at ht
    rw [h.2] at ht
    simp only [rep]
    exact ht.l2 ((frz_imm ho).2 i _ hi hf)
   ·rename_i xs hf
    have ht := ho.trees _ (find_mem hf)
    simp only [treeRep, mem] at ht
    rw [h.2] at ht
    simp only [rep]
    exact ht.l3 ((frz_imm ho).2 i _ hi hf)
   ·rename_i xs hf
    have ht := ho.trees _ (find_mem hf)
    simp only [treeRep, mem] at ht
    rw [h.2] at ht
    obtain ⟨us, h1, h2⟩ := ht
    simp only [rep]
    exact L2.le (fun b hb => ⟨hb, rfl⟩) ⟨us, h1.slC ((frz_imm ho).2 i _ hi hf), All2.mono (fun a b h3 => L1.le (fun b hb => ⟨(frz_imm ho).1 b hb, rfl⟩) h3) h2⟩
   ·rename_i xs hf
    have ht := ho.trees _ (find_mem hf)
    simp only [treeRep, mem] at ht
    rw [h.2] at ht
    obtain ⟨us, h1, h2⟩ := ht
    simp only [rep]
    exact L3.le (fun b hb => ⟨hb, rfl⟩) ⟨us, h1.slC ((frz_imm ho).2 i _ hi hf), All2.mono (fun a b h3 => L2.le (fun b hb => ⟨(frz_imm ho).1 b hb, rfl⟩) h3) h2⟩
   ·rename_i xs σ hf
    have ht := ho.trees _ (find_mem hf)
    simp only [treeRep, mem] at ht
    rw [h.2] at ht
    obtain ⟨rows, f0, fs, h1, h2, h3, h4⟩ := ht
    simp only [rep]
    have hS := (frz_imm ho).2 i _ hi hf
    refine ⟨_, h1.slC (fun b hb => hS b (by simp [h4, hb])), ?_⟩
    refine All2.of_get (by simp) (fun j a u' ha hu => ?_)
    rw [List.getElem?_map] at ha hu
    cases hs : σ[j]? with
    | none => rw [hs] at ha; cases ha
    | some k =>
     rw [hs] at ha hu
     simp only [Option.map_some, Option.some.injEq] at ha hu
     subst ha
     subst hu
     have hk : k < xs.length := h3 k (List.mem_of_getElem? hs)
     obtain ⟨f, c, hff, hc, hr⟩ := h2.get k _ (getD_some (d := []) hk)
     rw [hc]
     exact O2.l2 hr (fun b hb => hS b (by simp only [h4, List.mem_append, List.mem_flatten]; exact .inr ⟨f, List.mem_of_getElem? hff, hb⟩))
   ·rename_i vs hf
    have ht := ho.trees _ (find_mem hf)
    simp only [treeRep, mem] at ht
    rw [h.2] at ht
    obtain ⟨us, h1, h2⟩ := ht
    have h3 := (ho.drop R).2 (.agg vs) (.agg us.toArray) (by simp only [rep]; exact ⟨us, rfl, h2⟩)
    simp only [killA, rep] at h3
    obtain ⟨us', e, h3⟩ := h3
    obtain rfl : us = us' := by simpa using e
    simp only [rep]
    exact ⟨us, h1.slC ((frz_imm ho).2 i _ hi hf), h3⟩
   ·simp only [rep]
  ·rename_i hc
   have hq : qOf R [] i [] = false := by simpa [qOf] using hc
   have := hd (.ref i []) u h
   simpa only [killA, hq, Bool.false_eq_true, if_false] using this
 ·exact hd _ u h
theorem slotGet_mapV (R : List Nat) : ∀ (s : List (Nat × AV)) (k : Nat), slotGet (s.map fun p => (p.1, frzV H R p.2)) k = frzV H R (slotGet s k)
 | [], k => rfl
 | (j, v) :: s, k => by
  simp only [List.map_cons, slotGet]
  split
  ·rfl
  ·exact slotGet_mapV R s k
theorem ghost_frz (R : List Nat) {s : List (Nat × AV)} : Ghost cx n ⟨s, H⟩ ⟨s.map fun p => (p.1, frzV H R p.2), killH (qOf R []) (rmT R H)⟩ := by
 intro tmps w ⟨hsz, ι, F, ho, hr⟩
 obtain ⟨k1, k2⟩ := ho.drop R
 refine ⟨hsz, ι, F, k1, fun k => ?_⟩
 show rep _ (slotGet (s.map fun p => (p.1, frzV H R p.2)) k) _
 rw [slotGet_mapV]
 exact frzV_rep ho _ _ (hr k)
theorem ats_upto {Q : SQ} {st : St} {c : Code} {cs : List Code} (z : St) (h : ATs P cx n [c] (fun e s => (e = .normal ∧ Ghost cx n s z) ∨ (e ≠ .normal ∧ Q e s)) st) (hz : ATs P cx n cs Q z) : ATs P cx n (c :: cs) Q st := by
 refine AT.weakG (AT.conseq (ats_of h) ?_)
 rintro e s (⟨rfl, hg⟩ | ⟨hne, hq⟩)
 ·exact ⟨z, hg, hz⟩
 ·refine ⟨s, fun _ _ h => h, ?_⟩
  cases e with
  | normal => exact absurd rfl hne
  | exit id => exact hq
  | goto l => exact hq
  | ret => exact hq
  | panic ch => exact hq
  | outgrown => exact hq
end
end Go.Aw
namespace Go.Aw
open Go.RowKit
section
variable {P : Program} {ops : Array Oper} {n : Nat} {st : St} {K : St → Prop} {cx : Cx} {Q : SQ} {cs : List Code}
end
end Go.Aw
namespace Go.Aw
open Go.RowKit
def frzW (H : List (Nat × Tree)) (R : List Nat) : AV → AV
 | .sub i [] lo hi => if R.contains i then (cutData lo hi (frzV H R (.ref i []))).getD .junk else .sub i [] lo hi
 | v => frzV H R v
def frzT (H : List (Nat × Tree)) (R : List Nat) : Tree → Tree
 | .bx vs => .bx (vs.map (frzW H R))
 | .lv vs => .lv (vs.map (frzW H R))
 | t => t
theorem frzT_e (H : List (Nat × Tree)) (R : List Nat) : (∀ x, frzT H R (.t1 x) = .t1 x) ∧ (∀ x, frzT H R (.t2 x) = .t2 x) ∧ (∀ x, frzT H R (.t3 x) = .t3 x) ∧ (∀ x, frzT H R (.r2 x) = .r2 x) ∧ (∀ x, frzT H R (.r3 x) = .r3 x) ∧ (∀ x s, frzT H R (.a3 x s) = .a3 x s) ∧ (∀ vs, frzT H R (.lv vs) = .lv (vs.map (frzW H R))) ∧ (∀ vs, frzT H R (.bx vs) = .bx (vs.map (frzW H R))) :=
 ⟨fun _ => rfl, fun _ => rfl, fun _ => rfl, fun _ => rfl, fun _ => rfl, fun _ _ => rfl, fun _ => rfl, fun _ => rfl⟩
def frzH (H : List (Nat × Tree)) (R : List Nat) : List (Nat × Tree) := (rmT R H).map fun p => (p.1, frzT H R p.2)
section
variable {P : Program} {cx : Cx} {n : Nat} {H : List (Nat × Tree)} {w : World} {ι : Nat → Value} {F : Nat → List Nat}
end
end Go.Aw
namespace Go.Aw
open Go.RowKit
theorem rnT_e (σ : Nat → Nat) : (∀ x, rnT σ (.t1 x) = .t1 x) ∧ (∀ x, rnT σ (.t2 x) = .t2 x) ∧ (∀ x, rnT σ (.t3 x) = .t3 x) ∧ (∀ x, rnT σ (.r2 x) = .r2 x) ∧ (∀ x, rnT σ (.r3 x) = .r3 x) ∧ (∀ x s, rnT σ (.a3 x s) = .a3 x s) ∧ (∀ vs, rnT σ (.lv vs) = .lv (rns σ vs)) ∧ (∀ vs, rnT σ (.bx vs) = .bx (rns σ vs)) :=
 ⟨fun _ => rfl, fun _ => rfl, fun _ => rfl, fun _ => rfl, fun _ => rfl, fun _ _ => rfl, fun _ => rfl, fun _ => rfl⟩
def mvTRun (P : Program) (ops : Array Oper) (n : Nat) (own : List Nat) : List Nat → St → (St → Prop) → Prop
 | [], st, K => K st
 | k :: ks, st, K => gRun (own.contains k) P ops n [pickO ops k] st (fun st' => mvTRun P ops n own ks st' K)
def MVT (P : Program) (ops : Array Oper) (n : Nat) (own : List Nat) (ks : List Nat) (K : St → Prop) : St → Prop := fun st => mvTRun P ops n own ks st K
section
variable {P : Program} {ops : Array Oper} {n : Nat} {own : List Nat} {st : St} {K : St → Prop} {cx : Cx} {Q : SQ} {cs : List Code}
theorem ghost_to (R : List Nat) (σs : List (Nat × Nat)) {s z : St} (h1 : SlotsLe ⟨rnLs σs (killL R [] s.s), killH (qOf R []) (rmT R s.H)⟩ z.s := by simp only [go_sem, seval, AV.int.injEq, AV.bool.injEq, AV.l1.injEq, AV.l2.injEq, AV.l3.injEq])
  (h2 : sortH (rnHs σs (killH (qOf R []) (rmT R s.H))) = z.H := by simp only [go_sem, seval]) : Ghost cx n s z := ghost_trans (ghost_drop R) (ghost_can σs h1 h2)
theorem fcall_bx {P : Program} {H : List (Nat × Tree)} {f : FuncId} {args : List AV} {T T' : List (Nat × Tree)} {r : AV} {X : List Nat} {K : AV → List Nat → List Nat → List (Nat × Tree) → Prop} (h : OwnCall P f args T T' r X) (hn : (Aw.ids T).Nodup := by simp [Aw.ids]) (hm : ∀ p ∈ T, find H p.1 = some p.2 := by simp [find])
  (hc : closedT T := by simp [closedT, killT_e, killAs, killA, outQ, Aw.ids]) (ha : killAs (outQ T) args = args := by simp [killAs, killA, outQ, Aw.ids]) (hfr : ∀ i ∈ Aw.ids T', i ∈ Aw.ids T ∨ i ∉ Aw.ids H := by simp [Aw.ids]) (k : K r ((Aw.ids T).filter (fun i => !X.contains i)) X (T' ++ killH (qOf ((Aw.ids T).filter (fun i => !X.contains i)) X) (rmT (Aw.ids T) H))) : FCall P H f args K := fcall_box h hn hm hc ha hfr k
theorem PureCall.introR {f : FuncId} {fn : Func} {c : Code} {rs : List ResultVar} {ds : List AV} {r : AV} (hcall : ∀ args w, (callFunc f args).run P w = .ok (.enter f args) w) (hf : P.funcs[f]? = some fn) (hb : fn.body = some c)
  (hn : fn.ntmps = n) (hrs : fn.results = rs.toArray) (hl : ds.length ≤ n) (h : ∀ cx, cx.fix = 0 → cx.rd = none → AT P cx n c (fun e st => Ends e ∧ ∃ v, resL P st rs v ∧ view1 st.H v = some r) ⟨argSlots 0 ds, []⟩) : PureCall P f ds r :=
 PureCall.introD hcall hf hb hn hrs hl fun cx hcx hrd => ATD.of_ATr fun cx' h1 h2 => h cx' (h1.trans hcx) (h2.trans hrd)
theorem FreshCall.introR {f : FuncId} {fn : Func} {c : Code} {rs : List ResultVar} {ds : List AV} {r : AV} (hcall : ∀ args w, (callFunc f args).run P w = .ok (.enter f args) w) (hf : P.funcs[f]? = some fn) (hb : fn.body = some c)
  (hn : fn.ntmps = n) (hrs : fn.results = rs.toArray) (hl : ds.length ≤ n) (h : ∀ cx, cx.fix = 0 → cx.rd = none → AT P cx n c (fun e st => Ends e ∧ ∃ v is, resL P st rs v ∧ ownsA st.H v = some (r, is) ∧ is.Nodup) ⟨argSlots 0 ds, []⟩) : FreshCall P f ds r :=
 FreshCall.introD hcall hf hb hn hrs hl fun cx hcx hrd => ATD.of_ATr fun cx' h1 h2 => h cx' (h1.trans hcx) (h2.trans hrd)
theorem mvT_nil : mvTRun P ops n own [] st K = K st := rfl
theorem mvT_cons (k : Nat) (ks : List Nat) : mvTRun P ops n own (k :: ks) st K = gRun (own.contains k) P ops n [pickO ops k] st (MVT P ops n own ks K) := rfl
theorem MVT_ap (ks : List Nat) : MVT P ops n own ks K st = mvTRun P ops n own ks st K := rfl
attribute [go_sem] mvT_nil mvT_cons MVT_ap rnLs rnL rn rns sw SlotsLe sortH insH rnHs rnH rnT_e frzH frzT_e frzW frzV frzA frzAs
end
end Go.Aw
namespace Go.Aw
theorem wrapS {n : Nat} (h : n < 9223372036854775808) : IntKind.i64.wrap (n : Int) = n := by
 simp only [IntKind.wrap, IntKind.signed, IntKind.bits]
 simp
 omega
theorem ofIntN (a : Nat) : BitVec.ofInt 64 (a : Int) = BitVec.ofNat 64 a := by simp
theorem toNatN {a : Nat} (h : a < 9223372036854775808) : (BitVec.ofNat 64 a).toNat = a := by
 rw [BitVec.toNat_ofNat]; exact Nat.mod_eq_of_lt (by omega)
theorem xorI_nat {a b : Nat} (ha : a < 9223372036854775808) (hb : b < 9223372036854775808) : xorI a b = ((a ^^^ b : Nat) : Int) := by
 unfold xorI
 rw [ofIntN, ofIntN, BitVec.toNat_xor, toNatN ha, toNatN hb]
 exact wrapS (Nat.xor_lt_two_pow (n := 63) ha hb)
end Go.Aw
