import Derived.Test.YtaijdhkjemffhaaLib6
set_option linter.unusedSimpArgs false
set_option linter.unusedVariables false
namespace Go.Aw
open Go.RowKit
def mvOk (o : Oper) : Bool := (match o.op with
  | .move _ => true
  | .assign _ => true
  | _ => false) && o.guard.isNone
def mvChk (P : Program) (md : Region.Mode) (ops : Array Oper) (own : List Nat) (p : Plan) : List Nat → Nat → Array Bool → Bool
  | [], fuel, listed => planOk P md ops (fun k => own.contains k) true p fuel listed
  | k :: ks, fuel, listed => fuel != 0 && !own.contains k && (match ops[k]? with
    | some o => mvOk o
    | none => false) && Region.free md ops listed k && (Region.ready md ops listed).contains k && mvChk P md ops own p ks (fuel - 1) (listed.setIfInBounds k true)
def drawMv (P : Program) (own ks : List Nat) (p : Plan) (ops : Array Oper) : Bool := Region.noSelect ops && mvChk P .any ops own p ks ops.size (Array.replicate ops.size false)
def mvRun (P : Program) (ops : Array Oper) (n : Nat) (own : List Nat) (p : Plan) : List Nat → St → (St → Prop) → Prop
  | [], st, K => plRun P ops n own p st K
  | k :: ks, st, K => gRun (own.contains k) P ops n [pickO ops k] st (fun st' => mvRun P ops n own p ks st' K)
def MVK (P : Program) (ops : Array Oper) (n : Nat) (own : List Nat) (p : Plan) (ks : List Nat) (K : St → Prop) : St → Prop := fun st => mvRun P ops n own p ks st K
section
variable {P : Program} {ops : Array Oper} {n : Nat} {own : List Nat} {st : St} {K : St → Prop} {p : Plan} {cx : Cx} {Q : SQ} {cs : List Code}
theorem mv_nil : mvRun P ops n own p [] st K = plRun P ops n own p st K := rfl
theorem mv_cons (k : Nat) (ks : List Nat) : mvRun P ops n own p (k :: ks) st K = gRun (own.contains k) P ops n [pickO ops k] st (MVK P ops n own p ks K) := rfl
theorem MVK_ap (ks : List Nat) : MVK P ops n own p ks K st = mvRun P ops n own p ks st K := rfl
theorem mv_sound {md : Region.Mode} {l : List Oper} (hrd : cx.rd = none) (hx : ∀ o ∈ l, ∀ d, o.dst = some d → cx.fix d = false) (hsel : Region.noSelect l.toArray = true) : ∀ (ks : List Nat) (fuel : Nat) (listed : Array Bool) (st : St) (tmps : Array Value) (w : World),
    Closed md l.toArray listed → mvChk P md l.toArray own p ks fuel listed = true → mvRun P l.toArray n own p ks st K → SimF cx n st.get st.H tmps w →
      wpAnyIn (Fr cx.rd) 0 P md l.toArray (fun e a w => e = .normal ∧ After cx n (ofSt K) a w) fuel listed ⟨tmps, cx.ds⟩ w
  | [], fuel, listed, st, tmps, w, hcl, hB, h, hs =>
    eAny_sound (ow := fun k => own.contains k) (Q := ofSt K) (fun a w h => ⟨rfl, h⟩) fuel listed hs (plan_any (md := md) p.sz p (Nat.le_refl _) _ _ st.get st.H hcl hB (plRun_pRunA hx p hB h))
  | k :: ks, fuel, listed, st, tmps, w, hcl, hB, h, hs => by
    simp only [mvChk, Bool.and_eq_true, bne_iff_ne, ne_eq, Bool.not_eq_true'] at hB
    obtain ⟨⟨⟨⟨⟨h0, hno⟩, hmv⟩, hfree⟩, hready⟩, hB⟩ := hB
    obtain ⟨fuel, rfl⟩ : ∃ f, fuel = f + 1 := ⟨fuel - 1, by omega⟩
    simp only [Nat.add_sub_cancel] at hB
    cases hk : l.toArray[k]? with
    | none => rw [hk] at hmv; cases hmv
    | some o =>
      rw [hk] at hmv
      have he := eAt_of (cx := cx) (K' := ofSt fun st' => mvRun P l.toArray n own p ks st' K) hx (by rw [hk]; rfl) h (fun s hs => ⟨s, rfl, rfl, hs⟩)
      unfold eAt at he
      simp only [hk, eOper, hno] at he
      have hso := aOper_sound (Q := fun _ _ _ => True) hs he
      simp only [mvOk, Bool.and_eq_true, Option.isNone_iff_eq_none] at hmv
      obtain ⟨hop, hgd⟩ := hmv
      have hw : Region.wanted o (yielded l.toArray tmps) = true := by simp [Region.wanted, hgd]
      rw [if_pos hw] at hso
      have hro : (Fr cx.rd).round = none := hrd
      obtain ⟨v, hv, hab⟩ : ∃ v, (∀ w, (execOp (⟨tmps, cx.ds⟩ : Act).eval o).run P w = .ok (.value v) w) ∧ ∀ w, o.about P w (⟨tmps, cx.ds⟩ : Act).eval = none := by
        obtain ⟨dst, op, ty, pos, af, gd⟩ := o
        simp only at hop
        cases op <;> simp only at hop <;> first | (cases hop; done) | skip
        · exact ⟨_, fun w => rfl, fun w => rfl⟩
        · exact ⟨_, fun w => rfl, fun w => rfl⟩
      unfold Oper.wpIn at hso
      have h2 := hso.2
      rw [hro, Oper.semAt_none, hv w] at h2
      simp only [Oper.uponIn] at h2
      obtain ⟨hds, g', H', ⟨st', rfl, rfl, hK⟩, hs'⟩ := h2
      have hr : k ∈ Region.ready md l.toArray listed := by simpa using hready
      refine wpAnyIn_take (v := v) hro hk hsel hfree hready (fun c a w h => (by cases h.1)) ⟨.inl ⟨hw, hv⟩, hab⟩ ?_
      have := mv_sound hrd hx hsel ks fuel (listed.setIfInBounds k true) st' _ w (hcl.set hr) hB hK hs'
      rw [← act_eta hds] at this
      exact this
theorem AT.drawMv {id : Nat} {l : List Oper} {ks : List Nat} (hrd : cx.rd = none) (hx : ∀ o ∈ l, ∀ d, o.dst = some d → cx.fix d = false) (hm : P.follows .mixedOrders = true) (hB : Aw.drawMv P own ks p l.toArray = true) (h : mvRun P l.toArray n own p ks st (fun st' => Q .normal st')) : AT P cx n (.region id l.toArray true) Q st := by
  intro tmps w hs
  refine wpIn_mono (wpIn_region_any hm (Q := fun e a w => e = .normal ∧ After cx n (ofSt fun st' => Q .normal st') a w) ?_) ?_
  · have hs' : SimF cx n st.get st.H tmps { w with drawn := w.drawn + 1 } := by
      obtain ⟨h1, ι, F, h2, h3⟩ := hs
      have e : Ext w { w with drawn := w.drawn + 1 } := (Below.refl _ _).drew
      exact ⟨h1, ι, F, h2.ext e, fun k => rep.le (mem_ext e) _ _ (h3 k)⟩
    simp only [Aw.drawMv, Bool.and_eq_true] at hB
    exact mv_sound hrd hx hB.1 ks _ _ st _ _ (fun k o hk hl => by
      simp [Array.getD_eq_getD_getElem?, Array.getElem?_replicate] at hl
      split at hl <;> simp at hl) hB.2 h hs'
  · rintro e a w' ⟨rfl, h1, g, H, ⟨st', rfl, rfl, h2⟩, h3⟩
    exact ⟨h1, st', h2, h3⟩
theorem ats_planM (own ks : List Nat) (p : Plan) (z : St) {id : Nat} {l : List Oper} (hrd : cx.rd = none) (hx : ∀ o ∈ l, ∀ d, o.dst = some d → cx.fix d = false) (hm : P.follows .mixedOrders = true) (hB : drawMv P own ks p l.toArray = true) (h : ∀ K : St → Prop, (∀ s, Le s z → K s) → mvRun P l.toArray n own p ks st K) (hz : ATs P cx n cs Q z) : ATs P cx n (.region id l.toArray true :: cs) Q st :=
  AT.weak (AT.drawMv hrd hx hm hB (h _ fun s hl => ⟨z, hl, hz⟩))
theorem ATD.of_ATr {c : Code} (h : ∀ cx', cx'.fix = cx.fix → cx'.rd = cx.rd → AT P cx' n c Q st) : ATD P cx n c Q st :=
  fun cx' hr hd tmps w hs => wpIn_mono (h cx' hr.fix hr.rd tmps w hs) fun e a w' ⟨h1, st', h2, h3⟩ => ⟨cx', hr, hd, h1, st', h2, h3⟩
theorem OwnCall.introR {f : FuncId} {fn : Func} {c : Code} {rs : List ResultVar} {args : List AV} {T T' : List (Nat × Tree)} {r : AV} (k : Nat) (J : List Nat) {X : List Nat} (hcall : ∀ args w, (callFunc f args).run P w = .ok (.enter f args) w) (hf : P.funcs[f]? = some fn) (hb : fn.body = some c)
    (hn : fn.ntmps = n) (hrs : fn.results = rs.toArray) (hl : args.length ≤ n) (hX : ∀ i ∈ X, i ∈ Aw.ids T' ∧ ∃ j ∈ J, j < k ∧ i ∈ rootsA (slotGet (argSlots 0 args) j))
    (h : ∀ cx, cx.fix = below k → cx.rd = none → AT P cx n c (fun e st => Ends e ∧ resL P st rs r ∧ (∀ j ∈ J, st.get j = slotGet (argSlots 0 args) j) ∧ st.H = T') ⟨argSlots 0 args, T⟩) : OwnCall P f args T T' r X :=
  OwnCall.introD k J hcall hf hb hn hrs hl hX fun cx hcx hrd => ATD.of_ATr fun cx' h1 h2 => h cx' (h1.trans hcx) (h2.trans hrd)
end
end Go.Aw
namespace Go.Aw
open Go.RowKit
def frzV (H : List (Nat × Tree)) (R : List Nat) : AV → AV
  | .ref i [] => if R.contains i then (match find H i with
    | some (.t1 xs) => .l1 xs
    | some (.t2 xs) => .l2 xs
    | some (.t3 xs) => .l3 xs
    | some (.r2 xs) => .l2 xs
    | some (.r3 xs) => .l3 xs
    | _ => .junk) else .ref i []
  | v => killA (qOf R []) v
section
variable {P : Program} {cx : Cx} {n : Nat} {H : List (Nat × Tree)} {w : World} {ι : Nat → Value} {F : Nat → List Nat}
theorem frzV_rep (ho : Owns cx H w ι F) {R : List Nat} : ∀ (av : AV) (u : Value), rep (mem cx w H ι F) av u → rep (mem cx w (killH (qOf R []) (rmT R H)) ι F) (frzV H R av) u := by
  have hd : ∀ (av : AV) (u : Value), rep (mem cx w H ι F) av u → rep (mem cx w (killH (qOf R []) (rmT R H)) ι F) (killA (qOf R []) av) u := fun av u h => (ho.drop R).2 av u h
  intro av u h
  unfold frzV
  split
  · rename_i i
    split
    · rename_i hc
      have hi : i ∈ R := by simpa using hc
      simp only [rep, mem, pathV, Option.some.injEq] at h
      split
      · rename_i xs hf
        have ht := ho.trees _ (find_mem hf)
        simp only [treeRep, mem] at ht
        rw [h.2] at ht
        simp only [rep]
        exact ht.l1 ((frz_imm ho).2 i _ hi hf)
      · rename_i xs hf
        have ht := ho.trees _ (find_mem hf)
        simp only [treeRep, mem] at ht
        rw [h.2] at ht
        simp only [rep]
        exact ht.l2 ((frz_imm ho).2 i _ hi hf)
      · rename_i xs hf
        have ht := ho.trees _ (find_mem hf)
        simp only [treeRep, mem] at ht
        rw [h.2] at ht
        simp only [rep]
        exact ht.l3 ((frz_imm ho).2 i _ hi hf)
      · rename_i xs hf
        have ht := ho.trees _ (find_mem hf)
        simp only [treeRep, mem] at ht
        rw [h.2] at ht
        obtain ⟨us, h1, h2⟩ := ht
        simp only [rep]
        exact L2.le (fun b hb => ⟨hb, rfl⟩) ⟨us, h1.slC ((frz_imm ho).2 i _ hi hf), All2.mono (fun a b h3 => L1.le (fun b hb => ⟨(frz_imm ho).1 b hb, rfl⟩) h3) h2⟩
      · rename_i xs hf
        have ht := ho.trees _ (find_mem hf)
        simp only [treeRep, mem] at ht
        rw [h.2] at ht
        obtain ⟨us, h1, h2⟩ := ht
        simp only [rep]
        exact L3.le (fun b hb => ⟨hb, rfl⟩) ⟨us, h1.slC ((frz_imm ho).2 i _ hi hf), All2.mono (fun a b h3 => L2.le (fun b hb => ⟨(frz_imm ho).1 b hb, rfl⟩) h3) h2⟩
      · simp only [rep]
    · rename_i hc
      have hq : qOf R [] i [] = false := by simpa [qOf] using hc
      have := hd (.ref i []) u h
      simpa only [killA, hq, Bool.false_eq_true, if_false] using this
  · exact hd _ u h
theorem slotGet_mapV (R : List Nat) : ∀ (s : List (Nat × AV)) (k : Nat), slotGet (s.map fun p => (p.1, frzV H R p.2)) k = frzV H R (slotGet s k)
  | [], k => rfl
  | (j, v) :: s, k => by
    simp only [List.map_cons, slotGet]
    split
    · rfl
    · exact slotGet_mapV R s k
theorem ghost_frz (R : List Nat) {s : List (Nat × AV)} : Ghost cx n ⟨s, H⟩ ⟨s.map fun p => (p.1, frzV H R p.2), killH (qOf R []) (rmT R H)⟩ := by
  intro tmps w ⟨hsz, ι, F, ho, hr⟩
  obtain ⟨k1, k2⟩ := ho.drop R
  refine ⟨hsz, ι, F, k1, fun k => ?_⟩
  show rep _ (slotGet (s.map fun p => (p.1, frzV H R p.2)) k) _
  rw [slotGet_mapV]
  exact frzV_rep ho _ _ (hr k)
theorem ats_upto {Q : SQ} {st : St} {c : Code} {cs : List Code} (z : St) (h : ATs P cx n [c] (fun e s => (e = .normal ∧ Ghost cx n s z) ∨ (e ≠ .normal ∧ Q e s)) st) (hz : ATs P cx n cs Q z) : ATs P cx n (c :: cs) Q st := by
  refine AT.weakG (AT.conseq (ats_of h) ?_)
  rintro e s (⟨rfl, hg⟩ | ⟨hne, hq⟩)
  · exact ⟨z, hg, hz⟩
  · refine ⟨s, fun _ _ h => h, ?_⟩
    cases e with
    | normal => exact absurd rfl hne
    | exit id => exact hq
    | goto l => exact hq
    | ret => exact hq
    | panic ch => exact hq
    | outgrown => exact hq
end
end Go.Aw
namespace Go.Aw
open Go.RowKit
def ung (o : Oper) : Oper := ⟨o.dst, o.op, o.type, o.pos, o.after, none⟩
def gOk (ops : Array Oper) (st : St) (o : Oper) : Prop :=
  match o.guard with
  | none => True
  | some (j, b) => match ops[j]? with
    | some oj => match oj.dst with
      | some d => st.get d = .bool b
      | none => False
    | none => False
def uRun (P : Program) (ops : Array Oper) (n : Nat) : List Oper → St → (St → Prop) → Prop
  | [], st, K => K st
  | o :: r, st, K => gOk ops st o ∧ gRun true P ops n [ung o] st (fun st' => uRun P ops n r st' K)
def UK (P : Program) (ops : Array Oper) (n : Nat) (r : List Oper) (K : St → Prop) : St → Prop := fun st => uRun P ops n r st K
section
variable {P : Program} {ops : Array Oper} {n : Nat} {st : St} {K : St → Prop} {cx : Cx} {Q : SQ} {cs : List Code}
theorem u_nil : uRun P ops n [] st K = K st := rfl
theorem u_cons (o : Oper) (r : List Oper) : uRun P ops n (o :: r) st K = (gOk ops st o ∧ gRun true P ops n [ung o] st (UK P ops n r K)) := rfl
theorem UK_ap (r : List Oper) : UK P ops n r K st = uRun P ops n r st K := rfl
theorem ung_eq {d : Option Nat} {op : Op} {ty : TypeId} {pos : String} {af : Array Edge} {gd : Option (Nat × Bool)} : ung ⟨d, op, ty, pos, af, gd⟩ = ⟨d, op, ty, pos, af, none⟩ := rfl
theorem gOk_none {d : Option Nat} {op : Op} {ty : TypeId} {pos : String} {af : Array Edge} : gOk ops st ⟨d, op, ty, pos, af, none⟩ = True := rfl
theorem gOk_some {d : Option Nat} {op : Op} {ty : TypeId} {pos : String} {af : Array Edge} {j : Nat} {b : Bool} : gOk ops st ⟨d, op, ty, pos, af, some (j, b)⟩ = (match ops[j]? with
    | some oj => match oj.dst with
      | some d => st.get d = .bool b
      | none => False
    | none => False) := rfl
theorem gOk_wanted {o : Oper} {tmps : Array Value} {w : World} (hs : SimF cx n st.get st.H tmps w) (h : gOk ops st o) : Region.wanted o (yielded ops tmps) = true := by
  obtain ⟨_, ι, F, ho, hr⟩ := hs
  refine wanted_gam hr (γ := true) ?_
  unfold gOk at h
  unfold gam
  cases hg : o.guard with
  | none => rfl
  | some jb =>
    obtain ⟨j, b⟩ := jb
    rw [hg] at h
    simp only at h ⊢
    cases hj : ops[j]? with
    | none => rw [hj] at h; exact h.elim
    | some oj =>
      rw [hj] at h
      simp only at h
      cases hd : oj.dst with
      | none => rw [hd] at h; exact h.elim
      | some d =>
        rw [hd] at h
        simp only at h
        simp only [Option.bind_some, hd, h, boolOf]
        simp
theorem wpIn_ung {o : Oper} {a : Act} {w : World} {next : Act → World → Prop} {Q : Exit → Act → World → Prop} {m : Nat} {F : Fence} : (ung o).wpIn F m P a w next Q ↔ o.wpIn F m P a w next Q := Iff.rfl
theorem uRun_sound {K : St → Prop} {Q' : Exit → Act → World → Prop} (hQ : ∀ a w, After cx n (ofSt K) a w → Q' .normal a w) : ∀ (l : List Oper) {st : St} {tmps : Array Value} {w : World}, (∀ o ∈ l, ∀ d, o.dst = some d → cx.fix d = false) →
    SimF cx n st.get st.H tmps w → uRun P ops n l st K → wpListIn (Fr cx.rd) 0 P ops Q' l ⟨tmps, cx.ds⟩ w
  | [], st, tmps, w, _, hs, h => hQ _ _ ⟨rfl, _, _, ⟨st, rfl, rfl, h⟩, hs⟩
  | o :: l, st, tmps, w, hx, hs, h => by
    obtain ⟨hg, hf⟩ := h
    have hf' : fOper P ops n st (ung o) (fun st' => uRun P ops n l st' K) := hf
    have h1 := fOper_sound (Q := Q') hs (o := ung o) (fun d hd => hx o (List.mem_cons_self ..) d hd) hf'
    rw [if_pos (by simp [Region.wanted, ung])] at h1
    have next : ∀ a w, After cx n (ofSt (fun st' => uRun P ops n l st' K)) a w → wpListIn (Fr cx.rd) 0 P ops Q' l a w := by
      rintro a w ⟨hd, g', H', ⟨st', rfl, rfl, hK⟩, hs'⟩
      rw [act_eta hd]
      exact uRun_sound hQ l (fun o ho => hx o (List.mem_cons_of_mem _ ho)) hs' hK
    unfold wpListIn
    rw [if_pos (gOk_wanted hs hg)]
    exact Oper.wpIn_mono next (wpIn_ung.1 h1)
theorem ats_goU {id : Nat} {l : List Oper} (hx : ∀ o ∈ l, ∀ d, o.dst = some d → cx.fix d = false) (h : ∀ K : St → Prop, (∀ s, ATs P cx n cs Q s → K s) → uRun P l.toArray n l st K) : ATs P cx n (.region id l.toArray false :: cs) Q st := by
  have h := h _ fun _ h => h
  intro tmps w hs
  refine wpIn_region_list ?_
  have : wpListIn (Fr cx.rd) 0 P l.toArray _ l ⟨tmps, cx.ds⟩ w := uRun_sound (Q' := fun e a w' => a.defers = cx.ds ∧ ∃ st', thn (ATs P cx n cs Q) Q e st' ∧ SimF cx n st'.get st'.H a.tmps w') (K := fun st' => ATs P cx n cs Q st')
    (fun a w' ⟨h1, g, H, ⟨st', e1, e2, h2⟩, h3⟩ => by subst e1; subst e2; exact ⟨h1, st', h2, h3⟩) l hx hs h
  simpa using this
end
end Go.Aw
