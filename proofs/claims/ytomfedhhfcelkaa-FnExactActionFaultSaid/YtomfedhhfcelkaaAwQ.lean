/-
  The rules of a walk over a list of codes, one for each shape. Of no program.
-/
import Derived.Test.YtomfedhhfcelkaaAwP
set_option linter.unusedSimpArgs false
set_option linter.unusedVariables false
namespace Go.Aw
open Go.RowKit

def ATs (P : Program) (cx : Cx) (n : Nat) : List Code → SQ → St → Prop
  | [], Q, st => Q .normal st
  | c :: cs, Q, st => AT P cx n c (thn (ATs P cx n cs Q) Q) st

def bq (id : Nat) (K : St → Prop) (Q : SQ) : SQ
  | .normal, st => K st
  | .exit id', st => if id' = id then K st else Q (.exit id') st
  | e, st => Q e st
def lq (id : Nat) (N X : St → Prop) (Q : SQ) : SQ
  | .normal, st => N st
  | .exit id', st => if id' = id then X st else Q (.exit id') st
  | e, st => Q e st

section
variable {P : Program} {cx : Cx} {n : Nat} {Q : SQ} {st : St} {cs : List Code}

theorem bq_n {id : Nat} {K : St → Prop} (h : K st) : bq id K Q .normal st := h
theorem bq_x {id : Nat} {K : St → Prop} (h : K st) : bq id K Q (.exit id) st := by simp only [bq, if_true]; exact h
theorem bq_o {id id' : Nat} {K : St → Prop} (hne : id' ≠ id) (h : Q (.exit id') st) : bq id K Q (.exit id') st := by simp only [bq, if_neg hne]; exact h
theorem bq_r {id : Nat} {K : St → Prop} (h : Q .ret st) : bq id K Q .ret st := h
theorem lq_n {id : Nat} {N X : St → Prop} (h : N st) : lq id N X Q .normal st := h
theorem lq_x {id : Nat} {N X : St → Prop} (h : X st) : lq id N X Q (.exit id) st := by simp only [lq, if_true]; exact h
theorem lq_o {id id' : Nat} {N X : St → Prop} (hne : id' ≠ id) (h : Q (.exit id') st) : lq id N X Q (.exit id') st := by simp only [lq, if_neg hne]; exact h
theorem lq_r {id : Nat} {N X : St → Prop} (h : Q .ret st) : lq id N X Q .ret st := h

theorem ats_of {c : Code} (h : ATs P cx n [c] Q st) : AT P cx n c Q st := AT.conseq h (fun e s hq => by cases e <;> exact hq)

theorem ats_nil (h : Q .normal st) : ATs P cx n [] Q st := h
theorem ats_seq {a b : Code} (h : ATs P cx n (a :: b :: cs) Q st) : ATs P cx n (.seq a b :: cs) Q st :=
  AT.seq (AT.conseq h (fun e s hq => by cases e <;> exact hq))
theorem ats_skip (h : ATs P cx n cs Q st) : ATs P cx n (.skip :: cs) Q st := AT.skip h
theorem ats_ret (h : Q .ret st) : ATs P cx n (.ret :: cs) Q st := AT.ret h
theorem ats_exit {id : Nat} (h : Q (.exit id) st) : ATs P cx n (.exit id :: cs) Q st := AT.exit h
theorem fix0 {l : List Oper} (h0 : cx.fix = 0) : ∀ o ∈ l, ∀ d, o.dst = some d → cx.fix ≤ d := fun _ _ _ _ => by rw [h0]; exact Nat.zero_le _
theorem fix1 {l : List Oper} (h0 : cx.fix = 1) (h : (l.all fun o => o.dst != some 0) = true) : ∀ o ∈ l, ∀ d, o.dst = some d → cx.fix ≤ d := fun o ho d hd => by
  have := (List.all_eq_true.1 h) o ho
  rw [hd] at this
  rw [h0]
  cases d with
  | zero => simp at this
  | succ d => exact Nat.succ_le_succ (Nat.zero_le _)
theorem ats_flat {id : Nat} {l : List Oper} (hx : ∀ o ∈ l, ∀ d, o.dst = some d → cx.fix ≤ d) (h : ∀ K : St → Prop, (∀ s, ATs P cx n cs Q s → K s) → lRun P l.toArray n l st K) : ATs P cx n (.region id l.toArray false :: cs) Q st := AT.flat hx (h _ fun _ h => h)
theorem ats_draw {id : Nat} {l : List Oper} (hx : ∀ o ∈ l, ∀ d, o.dst = some d → cx.fix ≤ d) (hm : P.follows .mixedOrders = true) (hB : drawOk l.toArray = true) (h : ∀ K : St → Prop, (∀ s, ATs P cx n cs Q s → K s) → lRun P l.toArray n l st K) : ATs P cx n (.region id l.toArray true :: cs) Q st :=
  AT.draw hx hm hB (h _ fun _ h => h)
theorem ats_cond {x : Operand} {a b : Code} {cb : Bool} (hx : strip (evF st.get x) = .bool cb) (hg : okG true (evF st.get x)) (ht : cb = true → ATs P cx n (a :: cs) Q st) (hf : cb = false → ATs P cx n (b :: cs) Q st) : ATs P cx n (.cond x a b :: cs) Q st :=
  AT.cond hx hg ht hf
theorem ats_block {id : Nat} {c : Code} (h : ATs P cx n [c] (bq id (ATs P cx n cs Q) Q) st) : ATs P cx n (.block id c :: cs) Q st :=
  AT.block (AT.conseq (ats_of h) (fun e s hq => by
    cases e with
    | normal => exact hq
    | exit id' =>
      simp only [bq] at hq
      simp only [inBl]
      split
      · rename_i hi; rw [if_pos hi] at hq; exact hq
      · rename_i hi; rw [if_neg hi] at hq; exact hq
    | _ => exact hq))
/-- A block whose body is a loop: a family of states, each round to a state of it with a smaller measure; the way out leads behind the block. -/
theorem ats_loop {id : Nat} {c : Code} {σ : Type} (I : σ → St) (inv : σ → Prop) (μ : σ → Nat) (x0 : σ) (h0 : inv x0) (hst : Le st (I x0))
    (round : ∀ x, inv x → ATs P cx n [c] (lq id (fun st' => ∃ y, inv y ∧ μ y < μ x ∧ Lq st' (I y)) (ATs P cx n cs Q) Q) (I x)) : ATs P cx n (.block id (.loop c) :: cs) Q st :=
  AT.block (AT.loop I inv μ x0 h0 hst (fun x hx => AT.conseq (ats_of (round x hx)) (fun e s hq => by
    cases e with
    | normal => exact hq
    | exit id' =>
      simp only [lq] at hq
      simp only [thn, inBl]
      split
      · rename_i hi; rw [if_pos hi] at hq; exact hq
      · rename_i hi; rw [if_neg hi] at hq; exact hq
    | _ => exact hq)))
theorem ats_le {st' : St} {c : Code} (hl : Le st st') (h : ATs P cx n (c :: cs) Q st') : ATs P cx n (c :: cs) Q st := AT.le hl h
theorem ats_ghost {st' : St} {c : Code} (hl : Ghost cx n st st') (h : ATs P cx n (c :: cs) Q st') : ATs P cx n (c :: cs) Q st := AT.ghost hl h
/-- Ways that meet again: what follows is walked once, from each state of a family. -/
theorem ats_cut {a : Code} {σ : Type} (I : σ → St) (inv : σ → Prop) (h : ATs P cx n [a] (thn (fun s => ∃ x, inv x ∧ Le s (I x)) Q) st) {c : Code} (h2 : ∀ x, inv x → ATs P cx n (c :: cs) Q (I x)) : ATs P cx n (a :: c :: cs) Q st :=
  AT.conseq (ats_of h) (fun e s hq => by
    cases e with
    | normal =>
      obtain ⟨x, hx, hl⟩ := hq
      exact AT.le hl (h2 x hx)
    | _ => exact hq)

/-! ### Calls -/
theorem acall_data {H : List (Nat × Tree)} {f : FuncId} {args : List AV} {v : AV} (h : PureCall P f args v) (hd : areData args = true) : ACall P H f args v := .inl ⟨hd, h⟩
theorem acall_free {H : List (Nat × Tree)} {f : FuncId} {args ds : List AV} {v : AV} (hv : views H args = some ds) (hm : memFree v = true) (h : PureCall P f ds v) : ACall P H f args v := .inr ⟨ds, hv, .inl ⟨hm, h⟩⟩
theorem acall_fresh {H : List (Nat × Tree)} {f : FuncId} {args ds : List AV} {v : AV} (hv : views H args = some ds) (h : FreshCall P f ds v) : ACall P H f args v := .inr ⟨ds, hv, .inr h⟩

/-! ### Ends -/
theorem fin1 {t : Nat} {r : AV} (h1 : okG true (st.get t)) (h2 : view1 st.H (strip (st.get t)) = some r) : Ends .ret ∧ ∃ v, resL P st [.tmp t] v ∧ view1 st.H v = some r := ⟨.inr rfl, _, ⟨h1, rfl⟩, h2⟩
theorem fin2 {t u : Nat} {r : AV} (h1 : okG true (st.get t)) (h1' : okG true (st.get u)) (h2 : view1 st.H (.tup [strip (st.get t), strip (st.get u)]) = some r) : Ends .ret ∧ ∃ v, resL P st [.tmp t, .tmp u] v ∧ view1 st.H v = some r :=
  ⟨.inr rfl, _, ⟨_, _, ⟨h1, rfl⟩, ⟨h1', rfl⟩, rfl⟩, h2⟩
theorem own1 {t : Nat} {r : AV} {is : List Nat} (h1 : okG true (st.get t)) (h2 : ownsA st.H (strip (st.get t)) = some (r, is)) (h3 : is.Nodup) : Ends .ret ∧ ∃ v is, resL P st [.tmp t] v ∧ ownsA st.H v = some (r, is) ∧ is.Nodup := ⟨.inr rfl, _, is, ⟨h1, rfl⟩, h2, h3⟩
theorem own2 {t u : Nat} {r : AV} {is : List Nat} (h1 : okG true (st.get t)) (h1' : okG true (st.get u)) (h2 : ownsA st.H (.tup [strip (st.get t), strip (st.get u)]) = some (r, is)) (h3 : is.Nodup) :
    Ends .ret ∧ ∃ v is, resL P st [.tmp t, .tmp u] v ∧ ownsA st.H v = some (r, is) ∧ is.Nodup := ⟨.inr rfl, _, is, ⟨_, _, ⟨h1, rfl⟩, ⟨h1', rfl⟩, rfl⟩, h2, h3⟩

theorem le_nil {s : List (Nat × AV)} {H : List (Nat × Tree)} : SlotsLe ⟨s, H⟩ [] := trivial
theorem le_cons {s : List (Nat × AV)} {H : List (Nat × Tree)} {k : Nat} {v : AV} {r : List (Nat × AV)} (h : slotGet s k = v) (h2 : SlotsLe ⟨s, H⟩ r) : SlotsLe ⟨s, H⟩ ((k, v) :: r) := ⟨h, h2⟩

theorem ofV_int {n : Int} (h1 : -9223372036854775808 ≤ n) (h2 : n ≤ 9223372036854775807) : ofV (.int .i64 n) = .int n := by simp only [ofV]; rw [if_pos ⟨h1, h2⟩]
theorem inR_iff {n : Int} : InR n ↔ -9223372036854775808 ≤ n ∧ n ≤ 9223372036854775807 := Iff.rfl

end
end Go.Aw
