/-
  The rules of a walk over abstract states. Of no program.
-/
import Derived.Test.YtomfedhhfcelkaaAwN
set_option linter.unusedSimpArgs false
set_option linter.unusedVariables false
namespace Go.Aw
open Go.RowKit

structure St where
  s : List (Nat × AV)
  H : List (Nat × Tree)

def St.get (st : St) (k : Nat) : AV := slotGet st.s k
def putL (d : Option Nat) (v : AV) (s : List (Nat × AV)) : List (Nat × AV) :=
  match d with
  | none => s
  | some d => (d, v) :: s
def killL (all subs : List Nat) (s : List (Nat × AV)) : List (Nat × AV) := s.map fun p => (p.1, killA (qOf all subs) p.2)

theorem get_put (st : St) (d : Option Nat) (v : AV) : (fun k => slotGet (putL d v st.s) k) = upd st.get d v := by
  cases d with
  | none => rfl
  | some d =>
    funext k
    simp only [putL, slotGet, upd, St.get]
theorem get_kill (st : St) (all subs : List Nat) : (fun k => slotGet (killL all subs st.s) k) = fun k => killA (qOf all subs) (st.get k) := by
  funext k
  simp only [St.get, killL]
  induction st.s with
  | nil => simp [slotGet, killA]
  | cons p r ih =>
    simp only [List.map_cons, slotGet]
    split
    · rfl
    · exact ih

/-- A value there is, and what follows it: what follows waits until the value is told. -/
def Yl (p K : AV → Prop) : Prop := ∃ v, p v ∧ K v
@[congr] theorem yl_congr {p p' K : AV → Prop} (h : ∀ v, p v = p' v) : Yl p K = Yl p' K := by rw [funext h]
theorem Yl_eq (a : AV) (K : AV → Prop) : Yl (fun v => v = a) K = K a := propext ⟨fun ⟨_, h, k⟩ => h ▸ k, fun k => ⟨a, rfl, k⟩⟩
theorem Yl_and (c : Prop) (p K : AV → Prop) : Yl (fun v => c ∧ p v) K = (c ∧ Yl p K) := propext ⟨fun ⟨v, ⟨h1, h2⟩, k⟩ => ⟨h1, v, h2, k⟩, fun ⟨h1, v, h2, k⟩ => ⟨v, ⟨h1, h2⟩, k⟩⟩
theorem yl_intro {p K : AV → Prop} {v : AV} (h : p v) (k : K v) : Yl p K := ⟨v, h, k⟩
@[congr] theorem aheap_congr {P : Program} {H H2 : List (Nat × Tree)} {ρ : Operand → AV} {op : Op} {K : AV → List Nat → List Nat → List (Nat × Tree) → Prop} (h : H = H2) : AHeap P H ρ op K = AHeap P H2 ρ op K := by rw [h]
@[congr] theorem astore_congr {P : Program} {H H2 : List (Nat × Tree)} {t : TypeId} {p p2 v v2 : AV} {K : List Nat → List Nat → List (Nat × Tree) → Prop} (h : H = H2) (h1 : p = p2) (h3 : v = v2) : AStore P H t p v K = AStore P H2 t p2 v2 K := by rw [h, h1, h3]
@[congr] theorem abuild_congr {P : Program} {H H2 : List (Nat × Tree)} {t : TypeId} {p p2 : List AV} {K : AV → List Nat → List Nat → List (Nat × Tree) → Prop} (h : H = H2) (h1 : p = p2) : ABuild P H t p K = ABuild P H2 t p2 K := by rw [h, h1]
@[congr] theorem amake_congr {P : Program} {H H2 : List (Nat × Tree)} {t : TypeId} {p p2 : Int} {K : AV → List Nat → List Nat → List (Nat × Tree) → Prop} (h : H = H2) (h1 : p = p2) : AMake P H t p K = AMake P H2 t p2 K := by rw [h, h1]
@[congr] theorem aappend_congr {P : Program} {H H2 : List (Nat × Tree)} {t : TypeId} {p p2 v v2 : AV} {K : AV → List Nat → List Nat → List (Nat × Tree) → Prop} (h : H = H2) (h1 : p = p2) (h3 : v = v2) : AAppend P H t p v K = AAppend P H2 t p2 v2 K := by rw [h, h1, h3]

def lOper (P : Program) (ops : Array Oper) (n : Nat) (st : St) (o : Oper) (K : St → Prop) : Prop :=
  (match o.dst with
    | some d => d < n
    | none => True) ∧
  match gam ops st.get o with
  | none => False
  | some γ =>
    if pureOp o.op then Yl (fun v => AVal P st.H γ (evF st.get) o.op v) (fun v => K ⟨putL o.dst (wrapG o γ v) st.s, st.H⟩)
    else o.guard = none ∧ AHeap P st.H (evF st.get) o.op (fun v all subs H' => K ⟨putL o.dst v (killL all subs st.s), H'⟩)

@[congr] theorem loper_congr {P : Program} {ops : Array Oper} {n : Nat} {st st2 : St} {o : Oper} {K : St → Prop} (h : st = st2) : lOper P ops n st o K = lOper P ops n st2 o K := by rw [h]

def lRun (P : Program) (ops : Array Oper) (n : Nat) : List Oper → St → (St → Prop) → Prop
  | [], st, K => K st
  | o :: r, st, K => lOper P ops n st o (fun st' => lRun P ops n r st' K)

def ofSt (K : St → Prop) : Post := fun g H => ∃ st : St, st.get = g ∧ st.H = H ∧ K st

theorem lOper_aOper {P : Program} {ops : Array Oper} {fx n : Nat} {st : St} {o : Oper} {K : St → Prop} (hx : ∀ d, o.dst = some d → fx ≤ d) (h : lOper P ops n st o K) : aOper P ops fx n st.get st.H o (ofSt K) := by
  obtain ⟨h1, h2⟩ := h
  refine ⟨fun d hd => ⟨hx d hd, by rw [hd] at h1; exact h1⟩, ?_⟩
  split at h2 <;> first | exact h2.elim | skip
  rename_i γ hγ
  split at h2
  · rename_i hp
    rw [if_pos hp]
    obtain ⟨v, k1, k2⟩ := h2
    exact ⟨_, ⟨γ, v, hγ, k1, rfl⟩, ⟨⟨putL o.dst (wrapG o γ v) st.s, st.H⟩, get_put st _ _, rfl, k2⟩⟩
  · rename_i hp
    rw [if_neg hp]
    refine ⟨h2.1, AHeap_mono (fun v all subs H' hk => ?_) h2.2⟩
    refine ⟨⟨putL o.dst v (killL all subs st.s), H'⟩, ?_, rfl, hk⟩
    show (fun k => slotGet (putL o.dst v (killL all subs st.s)) k) = _
    have := get_put ⟨killL all subs st.s, H'⟩ o.dst v
    rw [this]
    show upd (fun k => slotGet (killL all subs st.s) k) o.dst v = _
    rw [get_kill]

theorem lRun_aRun {P : Program} {ops : Array Oper} {cx : Cx} {n : Nat} : ∀ {l : List Oper} {st : St} {K : St → Prop}, (∀ o ∈ l, ∀ d, o.dst = some d → cx.fix ≤ d) → lRun P ops n l st K → aRun P ops cx.fix n (ofSt K) l st.get st.H
  | [], st, _, _, h => ⟨st, rfl, rfl, h⟩
  | o :: l, st, K, hx, h => by
    refine aOper_mono ?_ (lOper_aOper (hx o (List.mem_cons_self ..)) h)
    rintro g H ⟨st', rfl, rfl, h'⟩
    exact lRun_aRun (fun o ho => hx o (List.mem_cons_of_mem _ ho)) h'

/-! ### Triples -/
abbrev SQ := Exit → St → Prop

def AT (P : Program) (cx : Cx) (n : Nat) (c : Code) (Q : SQ) (st : St) : Prop :=
  ∀ tmps w, SimF cx n st.get st.H tmps w → c.wp P (fun e a w' => a.defers = [] ∧ ∃ st', Q e st' ∧ SimF cx n st'.get st'.H a.tmps w') ⟨tmps, []⟩ w

def thn (K : St → Prop) (Q : SQ) : SQ
  | .normal, st => K st
  | e, st => Q e st
def inBl (id : Nat) (Q : SQ) : SQ
  | .exit id', st => if id' = id then Q .normal st else Q (.exit id') st
  | e, st => Q e st

section
variable {P : Program} {cx : Cx} {n : Nat} {Q : SQ} {st : St}

theorem AT.conseq {c : Code} {Q' : SQ} (h : AT P cx n c Q' st) (hq : ∀ e s, Q' e s → Q e s) : AT P cx n c Q st :=
  fun tmps w hs => wp_mono (h tmps w hs) fun _ _ _ ⟨h1, st', h2, h3⟩ => ⟨h1, st', hq _ _ h2, h3⟩

theorem AT.skip (h : Q .normal st) : AT P cx n .skip Q st := fun _ _ hs => wp_skip ⟨rfl, st, h, hs⟩
theorem AT.exit {id : Nat} (h : Q (.exit id) st) : AT P cx n (.exit id) Q st := fun _ _ hs => wp_exit ⟨rfl, st, h, hs⟩
theorem AT.ret (h : Q .ret st) : AT P cx n .ret Q st := fun _ _ hs => wp_ret ⟨rfl, st, h, hs⟩

theorem AT.seq {a b : Code} (h : AT P cx n a (thn (AT P cx n b Q) Q) st) : AT P cx n (.seq a b) Q st := by
  intro tmps w hs
  refine wp_seq (wp_mono (h tmps w hs) ?_)
  rintro e a' w' ⟨h1, st', h2, h3⟩
  cases e with
  | normal =>
    simp only [Exit.then]
    rw [act_eta h1]
    exact h2 _ _ h3
  | _ => exact ⟨h1, st', h2, h3⟩

theorem AT.flat {id : Nat} {l : List Oper} (hx : ∀ o ∈ l, ∀ d, o.dst = some d → cx.fix ≤ d) (h : lRun P l.toArray n l st (fun st' => Q .normal st')) : AT P cx n (.region id l.toArray false) Q st := by
  intro tmps w hs
  refine region_flat (Q := ofSt (fun st' => Q .normal st')) ?_ hs (by simpa using lRun_aRun hx h)
  rintro a w' ⟨h1, g, H, ⟨st', rfl, rfl, h2⟩, h3⟩
  exact ⟨h1, st', h2, h3⟩
theorem AT.draw {id : Nat} {l : List Oper} (hx : ∀ o ∈ l, ∀ d, o.dst = some d → cx.fix ≤ d) (hm : P.follows .mixedOrders = true) (hB : drawOk l.toArray = true) (h : lRun P l.toArray n l st (fun st' => Q .normal st')) : AT P cx n (.region id l.toArray true) Q st := by
  intro tmps w hs
  refine region_draw (Q := ofSt (fun st' => Q .normal st')) ?_ hm hB hs (by simpa using lRun_aRun hx h)
  rintro a w' ⟨h1, g, H, ⟨st', rfl, rfl, h2⟩, h3⟩
  exact ⟨h1, st', h2, h3⟩

theorem AT.cond {x : Operand} {a b : Code} {cb : Bool} (hx : strip (evF st.get x) = .bool cb) (hg : okG true (evF st.get x)) (ht : cb = true → AT P cx n a Q st) (hf : cb = false → AT P cx n b Q st) : AT P cx n (.cond x a b) Q st := by
  intro tmps w hs
  obtain ⟨hsz, ι, F, ho, hr⟩ := hs
  have hv := strip_rep rfl hg (ev_rep hr x)
  rw [hx] at hv
  simp only [rep] at hv
  exact wp_cond_split hv (fun h => ht h tmps w ⟨hsz, ι, F, ho, hr⟩) (fun h => hf h tmps w ⟨hsz, ι, F, ho, hr⟩)

theorem AT.block {id : Nat} {c : Code} (h : AT P cx n c (inBl id Q) st) : AT P cx n (.block id c) Q st := by
  intro tmps w hs
  refine wp_block (wp_mono (h tmps w hs) ?_)
  rintro e a' w' ⟨h1, st', h2, h3⟩
  cases e with
  | exit id' =>
    simp only [Exit.inBlock]
    simp only [inBl] at h2
    split
    · rename_i hi; rw [if_pos hi] at h2; exact ⟨h1, st', h2, h3⟩
    · rename_i hi; rw [if_neg hi] at h2; exact ⟨h1, st', h2, h3⟩
  | _ => exact ⟨h1, st', h2, h3⟩

/-! ### Less known: slots forgotten -/
def SlotsLe (st : St) : List (Nat × AV) → Prop
  | [] => True
  | (k, v) :: r => st.get k = v ∧ SlotsLe st r

theorem slotsLe_get {t : List (Nat × AV)} (h : SlotsLe st t) (k : Nat) : slotGet t k = .junk ∨ slotGet t k = st.get k := by
  induction t with
  | nil => exact .inl rfl
  | cons p r ih =>
    obtain ⟨j, v⟩ := p
    simp only [slotGet]
    split
    · rename_i hj; subst hj; exact .inr h.1.symm
    · exact ih h.2

def Le (st st' : St) : Prop := SlotsLe st st'.s ∧ st.H = st'.H

theorem Le.sim {st' : St} (h : Le st st') {tmps : Array Value} {w : World} (hs : SimF cx n st.get st.H tmps w) : SimF cx n st'.get st'.H tmps w := by
  obtain ⟨hsz, ι, F, ho, hr⟩ := hs
  obtain ⟨h1, h2⟩ := h
  rw [h2] at ho hr
  refine ⟨hsz, ι, F, ho, fun k => ?_⟩
  rcases slotsLe_get h1 k with h | h
  · show rep _ (slotGet st'.s k) _
    rw [h]; simp only [rep]
  · show rep _ (slotGet st'.s k) _
    rw [h]; exact hr k

theorem AT.le {c : Code} {st' : St} (hl : Le st st') (h : AT P cx n c Q st') : AT P cx n c Q st := fun tmps w hs => h tmps w (hl.sim hs)

/-- Trees that nobody looks at any more are let go. -/
theorem Owns.drop {H : List (Nat × Tree)} {w : World} {ι : Nat → Value} {F : Nat → List Nat} (ho : Owns cx H w ι F) (R : List Nat) :
    Owns cx (killH (qOf R []) (rmT R H)) w ι F ∧ ∀ av v, rep (mem cx w H ι F) av v → rep (mem cx w (killH (qOf R []) (rmT R H)) ι F) (killA (qOf R []) av) v := by
  have hsub : (foot (killH (qOf R []) (rmT R H)) F).Sublist (foot H F) := by rw [foot_killH]; exact foot_rmT_sub R F H
  have hle : ((mem cx w H ι F).less (qOf R [])).le (mem cx w (killH (qOf R []) (rmT R H)) ι F) := by
    refine ⟨fun b hb => ⟨⟨hb.1, hb.2.1, fun hm => hb.2.2 (hsub.subset hm)⟩, rfl⟩, fun i p hd => ?_⟩
    obtain ⟨hd, hqf⟩ := hd
    simp only [mem] at hd ⊢
    have hi : R.contains i = false := by
      simp only [qOf, Bool.or_eq_false_iff] at hqf
      exact hqf.1
    rw [find_killH, find_rmT, hi]
    exact ⟨by simpa [livePath_kill] using hd, rfl, fun v hv => hv⟩
  refine ⟨⟨ho.keep, fun p hp => ?_, ho.nodup.sublist hsub, fun b hb => ho.mine b (hsub.subset hb), by rw [ids_killH]; exact ids_rmT ho.ids, ho.old⟩, fun av v h => rep.le hle _ _ (rep_kill av v h)⟩
  simp only [killH, List.mem_map] at hp
  obtain ⟨p0, hp0, rfl⟩ := hp
  rw [mem_rmT] at hp0
  exact (treeRep_kill (ho.trees p0 hp0.1)).le hle (fun _ _ => rfl)

def Lq (st st' : St) : Prop := Le st st' ∨ ∃ R, SlotsLe ⟨killL R [] st.s, st.H⟩ st'.s ∧ killH (qOf R []) (rmT R st.H) = st'.H
theorem Lq.sim {st' : St} (h : Lq st st') {tmps : Array Value} {w : World} (hs : SimF cx n st.get st.H tmps w) : SimF cx n st'.get st'.H tmps w := by
  rcases h with h | ⟨R, h1, h2⟩
  · exact h.sim hs
  · obtain ⟨hsz, ι, F, ho, hr⟩ := hs
    obtain ⟨k1, k2⟩ := ho.drop R
    refine Le.sim (st := ⟨killL R [] st.s, killH (qOf R []) (rmT R st.H)⟩) ⟨?_, h2⟩ ⟨hsz, ι, F, k1, fun k => ?_⟩
    · have : ∀ (l : List (Nat × AV)) (H1 H2 : List (Nat × Tree)), SlotsLe ⟨killL R [] st.s, H1⟩ l → SlotsLe ⟨killL R [] st.s, H2⟩ l := by
        intro l H1 H2
        induction l with
        | nil => exact id
        | cons p l ih => exact fun h => ⟨h.1, ih h.2⟩
      exact this _ _ _ h1
    · have e := congrFun (get_kill st R []) k
      show rep _ (slotGet (killL R [] st.s) k) _
      rw [e]
      exact k2 _ _ (hr k)

/-- A step that is only in the mind: what is known is told otherwise. -/
def Ghost (cx : Cx) (n : Nat) (st st' : St) : Prop := ∀ tmps w, SimF cx n st.get st.H tmps w → SimF cx n st'.get st'.H tmps w
theorem AT.ghost {c : Code} {st' : St} (hl : Ghost cx n st st') (h : AT P cx n c Q st') : AT P cx n c Q st := fun tmps w hs => h tmps w (hl tmps w hs)

/-- A loop: a family of states, each round to a state of it with a smaller measure. -/
theorem AT.loop {c : Code} {σ : Type} (I : σ → St) (inv : σ → Prop) (μ : σ → Nat) (x0 : σ) (h0 : inv x0) (hst : Le st (I x0))
    (round : ∀ x, inv x → AT P cx n c (thn (fun st' => ∃ y, inv y ∧ μ y < μ x ∧ Lq st' (I y)) Q) (I x)) : AT P cx n (.loop c) Q st := by
  intro tmps w hs b k cs
  have key : ∀ m (x : σ) tmps w, μ x = m → inv x → SimF cx n (I x).get (I x).H tmps w →
      ∃ e a' w', (a'.defers = [] ∧ ∃ st', Q e st' ∧ SimF cx n st'.get st'.H a'.tmps w') ∧ Arrives P (lone (b.at ⟨tmps, []⟩ (.code c :: .inLoop c :: k)) cs w) b k cs e a' w' := by
    intro m
    induction m using Nat.strongRecOn with
    | _ m ih =>
      intro x tmps w hm hx hsx
      obtain ⟨e, a₁, w₁, ⟨hd, st', hq, hs'⟩, harr⟩ := round x hx tmps w hsx b (.inLoop c :: k) cs
      cases e with
      | normal =>
        obtain ⟨y, hy, hlt, hle⟩ := hq
        rw [act_eta hd] at harr
        obtain ⟨e₂, a₂, w₂, hq₂, harr₂⟩ := ih (μ y) (hm ▸ hlt) y a₁.tmps w₁ rfl hy (hle.sim hs')
        exact ⟨e₂, a₂, w₂, hq₂, .of_steps (Steps.trans harr (.one step_inLoop)) harr₂⟩
      | exit id => exact ⟨_, a₁, w₁, ⟨hd, st', hq, hs'⟩, .pass (x := .inLoop c) rfl (fun _ _ => .inl (by simp)) harr⟩
      | goto l => exact ⟨_, a₁, w₁, ⟨hd, st', hq, hs'⟩, .pass (x := .inLoop c) rfl (fun _ _ => .inl (by simp)) harr⟩
      | ret => exact ⟨_, a₁, w₁, ⟨hd, st', hq, hs'⟩, .pass (x := .inLoop c) rfl (fun _ _ => .inl (by simp)) harr⟩
      | panic ch => exact ⟨_, a₁, w₁, ⟨hd, st', hq, hs'⟩, .pass (x := .inLoop c) rfl (fun _ _ => .inl (by simp)) harr⟩
      | outgrown => exact ⟨_, a₁, w₁, ⟨hd, st', hq, hs'⟩, .pass (x := .inLoop c) rfl (fun _ _ => .inl (by simp)) harr⟩
  obtain ⟨e, a', w', hq, harr⟩ := key _ x0 tmps w rfl h0 (hst.sim hs)
  exact ⟨e, a', w', hq, .of_steps (.one step_loop) harr⟩

end
end Go.Aw
