/-
  Runs as rules for rewriting: what follows an operation is held as data, and is looked at only when the operation is done. Of no program.
-/
import Derived.Test.YtomfedhhfcelkaaAwX
set_option linter.unusedSimpArgs false
set_option linter.unusedVariables false
namespace Go.Aw
open Go.RowKit

/-- A run in one order, or in a drawn one. -/
def gRun (b : Bool) (P : Program) (ops : Array Oper) (n : Nat) (l : List Oper) (st : St) (K : St → Prop) : Prop :=
  match b with
  | true => fRun P ops n l st K
  | false => lRun P ops n l st K
def wrp (w : Option Bool) (v : AV) : AV :=
  match w with
  | none => v
  | some γ => .when γ v
theorem wrp_none (v : AV) : wrp none v = v := rfl
theorem wrp_some (γ : Bool) (v : AV) : wrp (some γ) v = .when γ v := rfl

/-- A value there is, and then the rest. -/
def YR (b : Bool) (P : Program) (ops : Array Oper) (n : Nat) (r : List Oper) (st : St) (d : Option Nat) (w : Option Bool) (K : St → Prop) (p : AV → Prop) : Prop := ∃ v, p v ∧ gRun b P ops n r ⟨putL d (wrp w v) st.s, st.H⟩ K
/-- The rest behind a turn of memory. -/
def MK (b : Bool) (P : Program) (ops : Array Oper) (n : Nat) (r : List Oper) (st : St) (d : Option Nat) (K : St → Prop) (v : AV) (all subs : List Nat) (H' : List (Nat × Tree)) : Prop := gRun b P ops n r ⟨putL d v (killL all subs st.s), H'⟩ K
/-- The rest behind a call. -/
def FK (P : Program) (ops : Array Oper) (n : Nat) (r : List Oper) (st : St) (d : Option Nat) (K : St → Prop) (v : AV) (subs : List Nat) (H' : List (Nat × Tree)) : Prop := gRun true P ops n r ⟨putL d v (killS subs st.s), H'⟩ K

section
variable {b : Bool} {P : Program} {ops : Array Oper} {n : Nat} {r : List Oper} {st : St} {K : St → Prop}
theorem YR_eq {d : Option Nat} {w : Option Bool} (a : AV) : YR b P ops n r st d w K (fun v => v = a) = gRun b P ops n r ⟨putL d (wrp w a) st.s, st.H⟩ K := propext ⟨fun ⟨_, h, k⟩ => h ▸ k, fun k => ⟨a, rfl, k⟩⟩
theorem YR_and {d : Option Nat} {w : Option Bool} (c : Prop) (p : AV → Prop) : YR b P ops n r st d w K (fun v => c ∧ p v) = (c ∧ YR b P ops n r st d w K p) := propext ⟨fun ⟨v, ⟨h1, h2⟩, k⟩ => ⟨h1, v, h2, k⟩, fun ⟨h1, v, h2, k⟩ => ⟨v, ⟨h1, h2⟩, k⟩⟩
theorem YR_intro {d : Option Nat} {w : Option Bool} {p : AV → Prop} {v : AV} (h : p v) (k : gRun b P ops n r ⟨putL d (wrp w v) st.s, st.H⟩ K) : YR b P ops n r st d w K p := ⟨v, h, k⟩
theorem MK_00 {d : Option Nat} (v : AV) (H' : List (Nat × Tree)) : MK b P ops n r st d K v [] [] H' = gRun b P ops n r ⟨putL d v st.s, H'⟩ K := by
  unfold MK; rw [← killS_eq]; rfl
theorem MK_10 {d : Option Nat} (v : AV) (i : Nat) (H' : List (Nat × Tree)) : MK b P ops n r st d K v [i] [] H' = gRun b P ops n r ⟨putL d v (killL [i] [] st.s), H'⟩ K := rfl
theorem MK_01 {d : Option Nat} (v : AV) (i : Nat) (H' : List (Nat × Tree)) : MK b P ops n r st d K v [] [i] H' = gRun b P ops n r ⟨putL d v (killL [] [i] st.s), H'⟩ K := rfl
theorem MK_11 {d : Option Nat} (v : AV) (i j : Nat) (H' : List (Nat × Tree)) : MK b P ops n r st d K v [i] [j] H' = gRun b P ops n r ⟨putL d v (killL [i] [j] st.s), H'⟩ K := rfl
theorem MK_20 {d : Option Nat} (v : AV) (i j : Nat) (H' : List (Nat × Tree)) : MK b P ops n r st d K v [i, j] [] H' = gRun b P ops n r ⟨putL d v (killL [i, j] [] st.s), H'⟩ K := rfl
theorem FK_0 {d : Option Nat} (v : AV) (H' : List (Nat × Tree)) : FK P ops n r st d K v [] H' = gRun true P ops n r ⟨putL d v st.s, H'⟩ K := rfl
theorem FK_s {d : Option Nat} (v : AV) (i : Nat) (is : List Nat) (H' : List (Nat × Tree)) : FK P ops n r st d K v (i :: is) H' = gRun true P ops n r ⟨putL d v (killL [] (i :: is) st.s), H'⟩ K := rfl
theorem gRun_nil : gRun b P ops n [] st K = K st := by cases b <;> rfl

/-- An operation that leaves memory alone, and the rest. -/
def pRun (b : Bool) (P : Program) (ops : Array Oper) (n : Nat) (r : List Oper) (st : St) (d : Option Nat) (op : Op) (gd : Option (Nat × Bool)) (K : St → Prop) : Prop :=
  dstLt n d ∧ match gd with
  | none => YR b P ops n r st d none K (fun v => AVal P st.H true (evF st.get) op v)
  | some (j, want) => match (ops[j]?).bind (·.dst) with
    | some e => match boolOf (st.get e) with
      | some (gg, q) => YR b P ops n r st d (some (gg && (q == want))) K (fun v => AVal P st.H (gg && (q == want)) (evF st.get) op v)
      | none => False
    | none => False
theorem pRun_none (d : Option Nat) (op : Op) : pRun b P ops n r st d op none K = (dstLt n d ∧ YR b P ops n r st d none K (fun v => AVal P st.H true (evF st.get) op v)) := rfl
theorem pRun_some (d : Option Nat) (op : Op) (j : Nat) (want : Bool) : pRun b P ops n r st d op (some (j, want)) K = (dstLt n d ∧ match (ops[j]?).bind (·.dst) with
    | some e => match boolOf (st.get e) with
      | some (gg, q) => YR b P ops n r st d (some (gg && (q == want))) K (fun v => AVal P st.H (gg && (q == want)) (evF st.get) op v)
      | none => False
    | none => False) := rfl
theorem pRun_of {d : Option Nat} {op : Op} {gd : Option (Nat × Bool)} : pOper P ops n st d op gd (fun st' => gRun b P ops n r st' K) = pRun b P ops n r st d op gd K := by
  unfold pOper pRun
  congr 1
def mRun (b : Bool) (P : Program) (ops : Array Oper) (n : Nat) (r : List Oper) (st : St) (d : Option Nat) (op : Op) (K : St → Prop) : Prop := dstLt n d ∧ AHeap P st.H (evF st.get) op (MK b P ops n r st d K)
theorem mRun_def (d : Option Nat) (op : Op) : mRun b P ops n r st d op K = (dstLt n d ∧ AHeap P st.H (evF st.get) op (MK b P ops n r st d K)) := rfl
theorem gRun_pure {d : Option Nat} {op : Op} {ty : TypeId} {pos : String} {af : Array Edge} {gd : Option (Nat × Bool)} (hp : pureOp op = true) (hc : b = true → ∀ K, fOper P ops n st ⟨d, op, ty, pos, af, gd⟩ K = pOper P ops n st d op gd K) :
    gRun b P ops n (⟨d, op, ty, pos, af, gd⟩ :: r) st K = pRun b P ops n r st d op gd K := by
  rw [← pRun_of]
  cases b with
  | true =>
    show fOper P ops n st ⟨d, op, ty, pos, af, gd⟩ (fun st' => fRun P ops n r st' K) = _
    exact hc rfl _
  | false =>
    show lOper P ops n st ⟨d, op, ty, pos, af, gd⟩ (fun st' => lRun P ops n r st' K) = _
    exact lOper_pure hp
theorem gRun_heap {d : Option Nat} {op : Op} {ty : TypeId} {pos : String} {af : Array Edge} (hp : pureOp op = false) (hc : ∀ K, fOper P ops n st ⟨d, op, ty, pos, af, none⟩ K = mOper P n st d op K) :
    gRun b P ops n (⟨d, op, ty, pos, af, none⟩ :: r) st K = mRun b P ops n r st d op K := by
  cases b with
  | true =>
    show fOper P ops n st ⟨d, op, ty, pos, af, none⟩ (fun st' => fRun P ops n r st' K) = _
    exact hc _
  | false =>
    show lOper P ops n st ⟨d, op, ty, pos, af, none⟩ (fun st' => lRun P ops n r st' K) = _
    exact lOper_heap (ops := ops) hp
theorem gr_move {d : Option Nat} {ty : TypeId} {pos : String} {af : Array Edge} {gd : Option (Nat × Bool)} (x : Operand) : gRun b P ops n (⟨d, (.move x), ty, pos, af, gd⟩ :: r) st K = pRun b P ops n r st d (.move x) gd K := gRun_pure rfl (fun _ _ => fo_move ..)
theorem gr_assign {d : Option Nat} {ty : TypeId} {pos : String} {af : Array Edge} {gd : Option (Nat × Bool)} (x : Operand) : gRun b P ops n (⟨d, (.assign x), ty, pos, af, gd⟩ :: r) st K = pRun b P ops n r st d (.assign x) gd K := gRun_pure rfl (fun _ _ => fo_assign ..)
theorem gr_pick {d : Option Nat} {ty : TypeId} {pos : String} {af : Array Edge} {gd : Option (Nat × Bool)} (c a q : Operand) : gRun b P ops n (⟨d, (.pick c a q), ty, pos, af, gd⟩ :: r) st K = pRun b P ops n r st d (.pick c a q) gd K := gRun_pure rfl (fun _ _ => fo_pick ..)
theorem gr_load {d : Option Nat} {ty : TypeId} {pos : String} {af : Array Edge} {gd : Option (Nat × Bool)} (t : TypeId) (p : Operand) : gRun b P ops n (⟨d, (.load t p), ty, pos, af, gd⟩ :: r) st K = pRun b P ops n r st d (.load t p) gd K := gRun_pure rfl (fun _ _ => fo_load ..)
theorem gr_indexAddr {d : Option Nat} {ty : TypeId} {pos : String} {af : Array Edge} {gd : Option (Nat × Bool)} (t : TypeId) (x i : Operand) : gRun b P ops n (⟨d, (.indexAddr t x i), ty, pos, af, gd⟩ :: r) st K = pRun b P ops n r st d (.indexAddr t x i) gd K := gRun_pure rfl (fun _ _ => fo_indexAddr ..)
theorem gr_fieldAddr {d : Option Nat} {ty : TypeId} {pos : String} {af : Array Edge} {gd : Option (Nat × Bool)} (t : TypeId) (p : Operand) (f : Nat) : gRun b P ops n (⟨d, (.fieldAddr t p f), ty, pos, af, gd⟩ :: r) st K = pRun b P ops n r st d (.fieldAddr t p f) gd K := gRun_pure rfl (fun _ _ => fo_fieldAddr ..)
theorem gr_field {d : Option Nat} {ty : TypeId} {pos : String} {af : Array Edge} {gd : Option (Nat × Bool)} (t : TypeId) (p : Operand) (f : Nat) : gRun b P ops n (⟨d, (.field t p f), ty, pos, af, gd⟩ :: r) st K = pRun b P ops n r st d (.field t p f) gd K := gRun_pure rfl (fun _ _ => fo_field ..)
theorem gr_binOp {d : Option Nat} {ty : TypeId} {pos : String} {af : Array Edge} {gd : Option (Nat × Bool)} (bo : BinOp) (t : TypeId) (x y : Operand) (t' : TypeId) : gRun b P ops n (⟨d, (.binOp bo t x y t'), ty, pos, af, gd⟩ :: r) st K = pRun b P ops n r st d (.binOp bo t x y t') gd K := gRun_pure rfl (fun _ _ => fo_binOp ..)
theorem gr_unOp {d : Option Nat} {ty : TypeId} {pos : String} {af : Array Edge} {gd : Option (Nat × Bool)} (u : UnOp) (t : TypeId) (x : Operand) : gRun b P ops n (⟨d, (.unOp u t x), ty, pos, af, gd⟩ :: r) st K = pRun b P ops n r st d (.unOp u t x) gd K := gRun_pure rfl (fun _ _ => fo_unOp ..)
theorem gr_convert {d : Option Nat} {ty : TypeId} {pos : String} {af : Array Edge} {gd : Option (Nat × Bool)} (s d' : TypeId) (x : Operand) : gRun b P ops n (⟨d, (.convert s d' x), ty, pos, af, gd⟩ :: r) st K = pRun b P ops n r st d (.convert s d' x) gd K := gRun_pure rfl (fun _ _ => fo_convert ..)
theorem gr_extract {d : Option Nat} {ty : TypeId} {pos : String} {af : Array Edge} {gd : Option (Nat × Bool)} (x : Operand) (i : Nat) : gRun b P ops n (⟨d, (.extract x i), ty, pos, af, gd⟩ :: r) st K = pRun b P ops n r st d (.extract x i) gd K := gRun_pure rfl (fun _ _ => fo_extract ..)
theorem gr_slice {d : Option Nat} {ty : TypeId} {pos : String} {af : Array Edge} {gd : Option (Nat × Bool)} (t : TypeId) (x : Operand) (lo hi mx : Option Operand) : gRun b P ops n (⟨d, (.slice t x lo hi mx), ty, pos, af, gd⟩ :: r) st K = pRun b P ops n r st d (.slice t x lo hi mx) gd K := gRun_pure rfl (fun _ _ => fo_slice ..)
theorem gr_makeFunc {d : Option Nat} {ty : TypeId} {pos : String} {af : Array Edge} {gd : Option (Nat × Bool)} (g : Fn) (first : Array Operand) (caps : Array Operand) : gRun b P ops n (⟨d, (.makeFunc g first caps), ty, pos, af, gd⟩ :: r) st K = pRun b P ops n r st d (.makeFunc g first caps) gd K := gRun_pure rfl (fun _ _ => fo_makeFunc ..)
theorem gr_len {d : Option Nat} {ty : TypeId} {pos : String} {af : Array Edge} {gd : Option (Nat × Bool)} (args : Array Operand) (ts : Array TypeId) : gRun b P ops n (⟨d, (.call ⟨.builtin .len, args, ts⟩), ty, pos, af, gd⟩ :: r) st K = pRun b P ops n r st d (.call ⟨.builtin .len, args, ts⟩) gd K := gRun_pure rfl (fun _ _ => fo_len ..)
theorem gr_max {d : Option Nat} {ty : TypeId} {pos : String} {af : Array Edge} {gd : Option (Nat × Bool)} (args : Array Operand) (ts : Array TypeId) : gRun b P ops n (⟨d, (.call ⟨.builtin .max, args, ts⟩), ty, pos, af, gd⟩ :: r) st K = pRun b P ops n r st d (.call ⟨.builtin .max, args, ts⟩) gd K := gRun_pure rfl (fun _ _ => fo_max ..)
theorem gr_min {d : Option Nat} {ty : TypeId} {pos : String} {af : Array Edge} {gd : Option (Nat × Bool)} (args : Array Operand) (ts : Array TypeId) : gRun b P ops n (⟨d, (.call ⟨.builtin .min, args, ts⟩), ty, pos, af, gd⟩ :: r) st K = pRun b P ops n r st d (.call ⟨.builtin .min, args, ts⟩) gd K := gRun_pure rfl (fun _ _ => fo_min ..)
theorem gr_alloc {d : Option Nat} {ty : TypeId} {pos : String} {af : Array Edge} (t : TypeId) : gRun b P ops n (⟨d, (.alloc t), ty, pos, af, none⟩ :: r) st K = mRun b P ops n r st d (.alloc t) K := gRun_heap rfl (fun _ => fo_alloc ..)
theorem gr_box {d : Option Nat} {ty : TypeId} {pos : String} {af : Array Edge} (t : TypeId) (x : Operand) : gRun b P ops n (⟨d, (.box t x), ty, pos, af, none⟩ :: r) st K = mRun b P ops n r st d (.box t x) K := gRun_heap rfl (fun _ => fo_box ..)
theorem gr_build {d : Option Nat} {ty : TypeId} {pos : String} {af : Array Edge} (t : TypeId) (len : Nat) (parts : Array (Nat × Operand)) : gRun b P ops n (⟨d, (.buildSlice t len parts), ty, pos, af, none⟩ :: r) st K = mRun b P ops n r st d (.buildSlice t len parts) K := gRun_heap rfl (fun _ => fo_build ..)
theorem gr_make {d : Option Nat} {ty : TypeId} {pos : String} {af : Array Edge} (t : TypeId) (l c : Operand) : gRun b P ops n (⟨d, (.makeSlice t l c), ty, pos, af, none⟩ :: r) st K = mRun b P ops n r st d (.makeSlice t l c) K := gRun_heap rfl (fun _ => fo_make ..)
theorem gr_store {d : Option Nat} {ty : TypeId} {pos : String} {af : Array Edge} (t : TypeId) (p v : Operand) : gRun b P ops n (⟨d, (.store t p v), ty, pos, af, none⟩ :: r) st K = mRun b P ops n r st d (.store t p v) K := gRun_heap rfl (fun _ => fo_store ..)
theorem gr_append {d : Option Nat} {ty : TypeId} {pos : String} {af : Array Edge} (args : Array Operand) (ts : Array TypeId) : gRun b P ops n (⟨d, (.call ⟨.builtin .append, args, ts⟩), ty, pos, af, none⟩ :: r) st K = mRun b P ops n r st d (.call ⟨.builtin .append, args, ts⟩) K := gRun_heap rfl (fun _ => fo_append ..)
theorem gr_callg {d : Option Nat} {ty : TypeId} {pos : String} {af : Array Edge} {gd : Nat × Bool} (g : Operand) (args : Array Operand) (ts : Array TypeId) : gRun b P ops n (⟨d, .call ⟨.value g, args, ts⟩, ty, pos, af, some gd⟩ :: r) st K = pRun b P ops n r st d (.call ⟨.value g, args, ts⟩) (some gd) K :=
  gRun_pure rfl (fun _ _ => fo_callg ..)
theorem gr_calld {d : Option Nat} {ty : TypeId} {pos : String} {af : Array Edge} {gd : Option (Nat × Bool)} (g : Operand) (args : Array Operand) (ts : Array TypeId) : gRun false P ops n (⟨d, .call ⟨.value g, args, ts⟩, ty, pos, af, gd⟩ :: r) st K = pRun false P ops n r st d (.call ⟨.value g, args, ts⟩) gd K :=
  gRun_pure rfl (fun h => by cases h)
def cRun (P : Program) (ops : Array Oper) (n : Nat) (r : List Oper) (st : St) (d : Option Nat) (K : St → Prop) (args : List AV) (g : AV) : Prop :=
  match strip g with
  | .fn f caps => okG true g ∧ okGs true args ∧ FCall P st.H f (args.map strip ++ caps) (FK P ops n r st d K)
  | _ => False
theorem cRun_fn {d : Option Nat} (args : List AV) (f : Nat) (caps : List AV) : cRun P ops n r st d K args (.fn f caps) = (okGs true args ∧ FCall P st.H f (args.map strip ++ caps) (FK P ops n r st d K)) := by
  simp only [cRun, strip, okG, true_and]
theorem gr_call {d : Option Nat} {ty : TypeId} {pos : String} {af : Array Edge} (g : Operand) (args : Array Operand) (ts : Array TypeId) : gRun true P ops n (⟨d, .call ⟨.value g, args, ts⟩, ty, pos, af, none⟩ :: r) st K = (dstLt n d ∧ cRun P ops n r st d K (args.toList.map (evF st.get)) (evF st.get g)) := rfl
end

section
variable {P : Program} {cx : Cx} {n : Nat} {Q : SQ} {st : St} {cs : List Code}
theorem ats_go {id : Nat} {l : List Oper} (hx : ∀ o ∈ l, ∀ d, o.dst = some d → cx.fix ≤ d) (h : ∀ K : St → Prop, (∀ s, ATs P cx n cs Q s → K s) → gRun true P l.toArray n l st K) : ATs P cx n (.region id l.toArray false :: cs) Q st := ats_run hx h
theorem ats_pick {id : Nat} {l : List Oper} (hx : ∀ o ∈ l, ∀ d, o.dst = some d → cx.fix ≤ d) (hm : P.follows .mixedOrders = true) (hB : drawOk l.toArray = true) (h : ∀ K : St → Prop, (∀ s, ATs P cx n cs Q s → K s) → gRun false P l.toArray n l st K) : ATs P cx n (.region id l.toArray true :: cs) Q st := ats_draw hx hm hB h
theorem ats_yes {x : Operand} {a b : Code} (hx : strip (evF st.get x) = .bool true) (hg : okG true (evF st.get x)) (h : ATs P cx n (a :: cs) Q st) : ATs P cx n (.cond x a b :: cs) Q st := ats_cond hx hg (fun _ => h) (fun h => by cases h)
theorem ats_no {x : Operand} {a b : Code} (hx : strip (evF st.get x) = .bool false) (hg : okG true (evF st.get x)) (h : ATs P cx n (b :: cs) Q st) : ATs P cx n (.cond x a b :: cs) Q st := ats_cond hx hg (fun h => by cases h) (fun _ => h)
end

/-! ### A body cut into its parts -/
def flatC : Code → List Code
  | .seq a b => flatC a ++ flatC b
  | c => [c]
def nth (k : Nat) (o : Option Code) : Code :=
  match o with
  | some c => (flatC c).getD k .skip
  | none => .skip
section
variable {P : Program} {cx : Cx} {n : Nat} {Q : SQ} {st : St} {cs : List Code}
theorem ats_code {c c' : Code} (h : c = c') (hx : ATs P cx n (c' :: cs) Q st) : ATs P cx n (c :: cs) Q st := by rw [h]; exact hx
end

end Go.Aw
