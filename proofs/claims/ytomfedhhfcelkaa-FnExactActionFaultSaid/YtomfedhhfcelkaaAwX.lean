/-
  The steps of a walk as rules for rewriting, one for each shape, none with a side condition that has to be searched. Of no program.
-/
import Derived.Test.YtomfedhhfcelkaaAwW
set_option linter.unusedSimpArgs false
set_option linter.unusedVariables false
namespace Go.Aw
open Go.RowKit

/-! ### Values -/
theorem strip_int (n : Int) : strip (.int n : AV) = (.int n : AV) := rfl
theorem okG_int (γ : Bool) (n : Int) : okG γ (.int n : AV) = True := rfl
theorem strip_ik (k : IntKind) (n : Int) : strip (.ik k n : AV) = (.ik k n : AV) := rfl
theorem okG_ik (γ : Bool) (k : IntKind) (n : Int) : okG γ (.ik k n : AV) = True := rfl
theorem strip_bool (b : Bool) : strip (.bool b : AV) = (.bool b : AV) := rfl
theorem okG_bool (γ : Bool) (b : Bool) : okG γ (.bool b : AV) = True := rfl
theorem strip_str (s : ByteArray) : strip (.str s : AV) = (.str s : AV) := rfl
theorem okG_str (γ : Bool) (s : ByteArray) : okG γ (.str s : AV) = True := rfl
theorem strip_nil  : strip (.nil : AV) = (.nil : AV) := rfl
theorem okG_nil (γ : Bool)  : okG γ (.nil : AV) = True := rfl
theorem strip_nilfn  : strip (.nilfn : AV) = (.nilfn : AV) := rfl
theorem okG_nilfn (γ : Bool)  : okG γ (.nilfn : AV) = True := rfl
theorem strip_l1 (xs : List Int) : strip (.l1 xs : AV) = (.l1 xs : AV) := rfl
theorem okG_l1 (γ : Bool) (xs : List Int) : okG γ (.l1 xs : AV) = True := rfl
theorem strip_l2 (xs : List (List Int)) : strip (.l2 xs : AV) = (.l2 xs : AV) := rfl
theorem okG_l2 (γ : Bool) (xs : List (List Int)) : okG γ (.l2 xs : AV) = True := rfl
theorem strip_l3 (xs : List (List (List Int))) : strip (.l3 xs : AV) = (.l3 xs : AV) := rfl
theorem okG_l3 (γ : Bool) (xs : List (List (List Int))) : okG γ (.l3 xs : AV) = True := rfl
theorem strip_lv (vs : List AV) : strip (.lv vs : AV) = (.lv vs : AV) := rfl
theorem okG_lv (γ : Bool) (vs : List AV) : okG γ (.lv vs : AV) = True := rfl
theorem strip_agg (vs : List AV) : strip (.agg vs : AV) = (.agg vs : AV) := rfl
theorem okG_agg (γ : Bool) (vs : List AV) : okG γ (.agg vs : AV) = True := rfl
theorem strip_tup (vs : List AV) : strip (.tup vs : AV) = (.tup vs : AV) := rfl
theorem okG_tup (γ : Bool) (vs : List AV) : okG γ (.tup vs : AV) = True := rfl
theorem strip_fn (f : Nat) (caps : List AV) : strip (.fn f caps : AV) = (.fn f caps : AV) := rfl
theorem okG_fn (γ : Bool) (f : Nat) (caps : List AV) : okG γ (.fn f caps : AV) = True := rfl
theorem strip_eptr (av : AV) (i : Nat) : strip (.eptr av i : AV) = (.eptr av i : AV) := rfl
theorem okG_eptr (γ : Bool) (av : AV) (i : Nat) : okG γ (.eptr av i : AV) = True := rfl
theorem strip_cptr (vs : List AV) (off : Nat) : strip (.cptr vs off : AV) = (.cptr vs off : AV) := rfl
theorem okG_cptr (γ : Bool) (vs : List AV) (off : Nat) : okG γ (.cptr vs off : AV) = True := rfl
theorem strip_ref (id : Nat) (path : List Nat) : strip (.ref id path : AV) = (.ref id path : AV) := rfl
theorem okG_ref (γ : Bool) (id : Nat) (path : List Nat) : okG γ (.ref id path : AV) = True := rfl
theorem strip_sub (id : Nat) (path : List Nat) (lo hi : Nat) : strip (.sub id path lo hi : AV) = (.sub id path lo hi : AV) := rfl
theorem okG_sub (γ : Bool) (id : Nat) (path : List Nat) (lo hi : Nat) : okG γ (.sub id path lo hi : AV) = True := rfl
theorem strip_eref (id : Nat) (path : List Nat) (i : Nat) : strip (.eref id path i : AV) = (.eref id path i : AV) := rfl
theorem okG_eref (γ : Bool) (id : Nat) (path : List Nat) (i : Nat) : okG γ (.eref id path i : AV) = True := rfl
theorem strip_bptr (id : Nat) (off : Nat) : strip (.bptr id off : AV) = (.bptr id off : AV) := rfl
theorem okG_bptr (γ : Bool) (id : Nat) (off : Nat) : okG γ (.bptr id off : AV) = True := rfl
theorem strip_junk  : strip (.junk : AV) = (.junk : AV) := rfl
theorem okG_junk (γ : Bool)  : okG γ (.junk : AV) = True := rfl
theorem strip_when (g : Bool) (v : AV) : strip (.when g v) = v := rfl
theorem okG_when (γ g : Bool) (v : AV) : okG γ (.when g v) = (γ = true → g = true) := rfl
theorem view1_int (H : List (Nat × Tree)) (n : Int) : view1 H (.int n : AV) = some (.int n : AV) := rfl
theorem viewB_int (H : List (Nat × Tree)) (n : Int) : viewB H (.int n : AV) = some (.int n : AV) := rfl
theorem view_int (H : List (Nat × Tree)) (n : Int) : view H (.int n : AV) = some (.int n : AV) := rfl
theorem cellsA_int (H : List (Nat × Tree)) (n : Int) : cellsA H (.int n : AV) = some [(.int n : AV)] := rfl
theorem oneA_int (H : List (Nat × Tree)) (n : Int) : oneA H (.int n : AV) = true := rfl
theorem killA_int (q : Nat → List Nat → Bool) (n : Int) : killA q (.int n : AV) = (.int n : AV) := rfl
theorem view1_ik (H : List (Nat × Tree)) (k : IntKind) (n : Int) : view1 H (.ik k n : AV) = some (.ik k n : AV) := rfl
theorem viewB_ik (H : List (Nat × Tree)) (k : IntKind) (n : Int) : viewB H (.ik k n : AV) = some (.ik k n : AV) := rfl
theorem view_ik (H : List (Nat × Tree)) (k : IntKind) (n : Int) : view H (.ik k n : AV) = some (.ik k n : AV) := rfl
theorem cellsA_ik (H : List (Nat × Tree)) (k : IntKind) (n : Int) : cellsA H (.ik k n : AV) = some [(.ik k n : AV)] := rfl
theorem oneA_ik (H : List (Nat × Tree)) (k : IntKind) (n : Int) : oneA H (.ik k n : AV) = true := rfl
theorem killA_ik (q : Nat → List Nat → Bool) (k : IntKind) (n : Int) : killA q (.ik k n : AV) = (.ik k n : AV) := rfl
theorem view1_bool (H : List (Nat × Tree)) (b : Bool) : view1 H (.bool b : AV) = some (.bool b : AV) := rfl
theorem viewB_bool (H : List (Nat × Tree)) (b : Bool) : viewB H (.bool b : AV) = some (.bool b : AV) := rfl
theorem view_bool (H : List (Nat × Tree)) (b : Bool) : view H (.bool b : AV) = some (.bool b : AV) := rfl
theorem cellsA_bool (H : List (Nat × Tree)) (b : Bool) : cellsA H (.bool b : AV) = some [(.bool b : AV)] := rfl
theorem oneA_bool (H : List (Nat × Tree)) (b : Bool) : oneA H (.bool b : AV) = true := rfl
theorem killA_bool (q : Nat → List Nat → Bool) (b : Bool) : killA q (.bool b : AV) = (.bool b : AV) := rfl
theorem view1_str (H : List (Nat × Tree)) (s : ByteArray) : view1 H (.str s : AV) = some (.str s : AV) := rfl
theorem viewB_str (H : List (Nat × Tree)) (s : ByteArray) : viewB H (.str s : AV) = some (.str s : AV) := rfl
theorem view_str (H : List (Nat × Tree)) (s : ByteArray) : view H (.str s : AV) = some (.str s : AV) := rfl
theorem cellsA_str (H : List (Nat × Tree)) (s : ByteArray) : cellsA H (.str s : AV) = some [(.str s : AV)] := rfl
theorem oneA_str (H : List (Nat × Tree)) (s : ByteArray) : oneA H (.str s : AV) = true := rfl
theorem killA_str (q : Nat → List Nat → Bool) (s : ByteArray) : killA q (.str s : AV) = (.str s : AV) := rfl
theorem view1_nil (H : List (Nat × Tree))  : view1 H (.nil : AV) = some (.nil : AV) := rfl
theorem viewB_nil (H : List (Nat × Tree))  : viewB H (.nil : AV) = some (.nil : AV) := rfl
theorem view_nil (H : List (Nat × Tree))  : view H (.nil : AV) = some (.nil : AV) := rfl
theorem cellsA_nil (H : List (Nat × Tree))  : cellsA H (.nil : AV) = some [(.nil : AV)] := rfl
theorem oneA_nil (H : List (Nat × Tree))  : oneA H (.nil : AV) = true := rfl
theorem killA_nil (q : Nat → List Nat → Bool)  : killA q (.nil : AV) = (.nil : AV) := rfl
theorem view1_nilfn (H : List (Nat × Tree))  : view1 H (.nilfn : AV) = some (.nilfn : AV) := rfl
theorem viewB_nilfn (H : List (Nat × Tree))  : viewB H (.nilfn : AV) = some (.nilfn : AV) := rfl
theorem view_nilfn (H : List (Nat × Tree))  : view H (.nilfn : AV) = some (.nilfn : AV) := rfl
theorem cellsA_nilfn (H : List (Nat × Tree))  : cellsA H (.nilfn : AV) = some [(.nilfn : AV)] := rfl
theorem oneA_nilfn (H : List (Nat × Tree))  : oneA H (.nilfn : AV) = true := rfl
theorem killA_nilfn (q : Nat → List Nat → Bool)  : killA q (.nilfn : AV) = (.nilfn : AV) := rfl
theorem view1_l1 (H : List (Nat × Tree)) (xs : List Int) : view1 H (.l1 xs : AV) = some (.l1 xs : AV) := rfl
theorem viewB_l1 (H : List (Nat × Tree)) (xs : List Int) : viewB H (.l1 xs : AV) = some (.l1 xs : AV) := rfl
theorem view_l1 (H : List (Nat × Tree)) (xs : List Int) : view H (.l1 xs : AV) = some (.l1 xs : AV) := rfl
theorem cellsA_l1 (H : List (Nat × Tree)) (xs : List Int) : cellsA H (.l1 xs : AV) = some [(.l1 xs : AV)] := rfl
theorem oneA_l1 (H : List (Nat × Tree)) (xs : List Int) : oneA H (.l1 xs : AV) = true := rfl
theorem killA_l1 (q : Nat → List Nat → Bool) (xs : List Int) : killA q (.l1 xs : AV) = (.l1 xs : AV) := rfl
theorem view1_l2 (H : List (Nat × Tree)) (xs : List (List Int)) : view1 H (.l2 xs : AV) = some (.l2 xs : AV) := rfl
theorem viewB_l2 (H : List (Nat × Tree)) (xs : List (List Int)) : viewB H (.l2 xs : AV) = some (.l2 xs : AV) := rfl
theorem view_l2 (H : List (Nat × Tree)) (xs : List (List Int)) : view H (.l2 xs : AV) = some (.l2 xs : AV) := rfl
theorem cellsA_l2 (H : List (Nat × Tree)) (xs : List (List Int)) : cellsA H (.l2 xs : AV) = some [(.l2 xs : AV)] := rfl
theorem oneA_l2 (H : List (Nat × Tree)) (xs : List (List Int)) : oneA H (.l2 xs : AV) = true := rfl
theorem killA_l2 (q : Nat → List Nat → Bool) (xs : List (List Int)) : killA q (.l2 xs : AV) = (.l2 xs : AV) := rfl
theorem view1_l3 (H : List (Nat × Tree)) (xs : List (List (List Int))) : view1 H (.l3 xs : AV) = some (.l3 xs : AV) := rfl
theorem viewB_l3 (H : List (Nat × Tree)) (xs : List (List (List Int))) : viewB H (.l3 xs : AV) = some (.l3 xs : AV) := rfl
theorem view_l3 (H : List (Nat × Tree)) (xs : List (List (List Int))) : view H (.l3 xs : AV) = some (.l3 xs : AV) := rfl
theorem cellsA_l3 (H : List (Nat × Tree)) (xs : List (List (List Int))) : cellsA H (.l3 xs : AV) = some [(.l3 xs : AV)] := rfl
theorem oneA_l3 (H : List (Nat × Tree)) (xs : List (List (List Int))) : oneA H (.l3 xs : AV) = true := rfl
theorem killA_l3 (q : Nat → List Nat → Bool) (xs : List (List (List Int))) : killA q (.l3 xs : AV) = (.l3 xs : AV) := rfl
theorem killA_junk (q : Nat → List Nat → Bool) : killA q (.junk : AV) = .junk := rfl
theorem killA_ref (q : Nat → List Nat → Bool) (id : Nat) (p : List Nat) : killA q (.ref id p) = if q id p then .junk else .ref id p := rfl
theorem killA_sub (q : Nat → List Nat → Bool) (id : Nat) (p : List Nat) (lo hi : Nat) : killA q (.sub id p lo hi) = if q id p then .junk else .sub id p lo hi := rfl
theorem killA_eref (q : Nat → List Nat → Bool) (id : Nat) (p : List Nat) (i : Nat) : killA q (.eref id p i) = if q id p then .junk else .eref id p i := rfl
theorem killA_bptr (q : Nat → List Nat → Bool) (id : Nat) (off : Nat) : killA q (.bptr id off) = if q id [] then .junk else .bptr id off := rfl
theorem killA_lv (q : Nat → List Nat → Bool) (vs : List AV) : killA q (.lv vs) = .lv (killAs q vs) := rfl
theorem killA_agg (q : Nat → List Nat → Bool) (vs : List AV) : killA q (.agg vs) = .agg (killAs q vs) := rfl
theorem killA_tup (q : Nat → List Nat → Bool) (vs : List AV) : killA q (.tup vs) = .tup (killAs q vs) := rfl
theorem killA_fn (q : Nat → List Nat → Bool) (f : Nat) (vs : List AV) : killA q (.fn f vs) = .fn f (killAs q vs) := rfl
theorem killA_cptr (q : Nat → List Nat → Bool) (f : Nat) (vs : List AV) : killA q (.cptr vs f) = .cptr (killAs q vs) f := rfl
theorem killA_eptr (q : Nat → List Nat → Bool) (i : Nat) (v : AV) : killA q (.eptr v i) = .eptr (killA q v) i := rfl
theorem killA_when (q : Nat → List Nat → Bool) (g : Bool) (v : AV) : killA q (.when g v) = .when g (killA q v) := rfl
theorem view1_ref (H : List (Nat × Tree)) (id : Nat) (p : List Nat) : view1 H (.ref id p) = viewT (find H id) p := rfl
theorem view1_sub (H : List (Nat × Tree)) (id : Nat) (p : List Nat) (lo hi : Nat) : view1 H (.sub id p lo hi) = (viewT (find H id) p).bind (cutData lo hi) := rfl
theorem view1_agg (H : List (Nat × Tree)) (vs : List AV) : view1 H (.agg vs) = (views1 H vs).map .agg := rfl
theorem view1_tup (H : List (Nat × Tree)) (vs : List AV) : view1 H (.tup vs) = (views1 H vs).map .tup := rfl
theorem viewB_ref (H : List (Nat × Tree)) (id : Nat) (p : List Nat) : viewB H (.ref id p) = view1 H (.ref id p) := rfl
theorem view_ref (H : List (Nat × Tree)) (id : Nat) (p : List Nat) : view H (.ref id p) = view1 H (.ref id p) := rfl
theorem viewB_sub (H : List (Nat × Tree)) (id : Nat) (p : List Nat) (lo hi : Nat) : viewB H (.sub id p lo hi) = view1 H (.sub id p lo hi) := rfl
theorem view_sub (H : List (Nat × Tree)) (id : Nat) (p : List Nat) (lo hi : Nat) : view H (.sub id p lo hi) = view1 H (.sub id p lo hi) := rfl
theorem viewB_agg (H : List (Nat × Tree)) (vs : List AV) : viewB H (.agg vs) = view1 H (.agg vs) := rfl
theorem view_agg (H : List (Nat × Tree)) (vs : List AV) : view H (.agg vs) = view1 H (.agg vs) := rfl
theorem viewB_tup (H : List (Nat × Tree)) (vs : List AV) : viewB H (.tup vs) = view1 H (.tup vs) := rfl
theorem view_tup (H : List (Nat × Tree)) (vs : List AV) : view H (.tup vs) = view1 H (.tup vs) := rfl
theorem viewB_cptr (H : List (Nat × Tree)) (vs : List AV) (o : Nat) : viewB H (.cptr vs o) = view1 H (.cptr vs o) := rfl
theorem view_cptr (H : List (Nat × Tree)) (vs : List AV) (o : Nat) : view H (.cptr vs o) = view1 H (.cptr vs o) := rfl
theorem viewB_lv (H : List (Nat × Tree)) (vs : List AV) : viewB H (.lv vs) = view1 H (.lv vs) := rfl
theorem view_lv (H : List (Nat × Tree)) (vs : List AV) : view H (.lv vs) = view1 H (.lv vs) := rfl
theorem viewB_bptr (H : List (Nat × Tree)) (id off : Nat) : viewB H (.bptr id off) = match find H id with | some (.bx vs) => (views1 H vs).map (.cptr · off) | _ => none := rfl
theorem view_bptr (H : List (Nat × Tree)) (id off : Nat) : view H (.bptr id off) = viewB H (.bptr id off) := rfl
theorem view_fn (H : List (Nat × Tree)) (f : Nat) (caps : List AV) : view H (.fn f caps) = (viewsB H caps).map (.fn f) := rfl
theorem view1_lv (H : List (Nat × Tree)) (vs : List AV) : view1 H (.lv vs) = if isData (.lv vs) then some (.lv vs) else none := rfl
theorem view1_fn (H : List (Nat × Tree)) (f : Nat) (vs : List AV) : view1 H (.fn f vs) = if isData (.fn f vs) then some (.fn f vs) else none := rfl
theorem view1_cptr (H : List (Nat × Tree)) (f : Nat) (vs : List AV) : view1 H (.cptr vs f) = if isData (.cptr vs f) then some (.cptr vs f) else none := rfl
theorem cellsA_agg (H : List (Nat × Tree)) (vs : List AV) : cellsA H (.agg vs) = some vs := rfl
theorem cellsA_ref (H : List (Nat × Tree)) (id : Nat) (p : List Nat) : cellsA H (.ref id p) = if (elemsT H id p).isSome then some [.ref id p] else none := rfl
theorem cellsA_sub (H : List (Nat × Tree)) (id : Nat) (p : List Nat) (lo hi : Nat) : cellsA H (.sub id p lo hi) = some [.sub id p lo hi] := rfl
theorem cellsA_lv (H : List (Nat × Tree)) (vs : List AV) : cellsA H (.lv vs) = some [.lv vs] := rfl
theorem cellsA_fn (H : List (Nat × Tree)) (f : Nat) (vs : List AV) : cellsA H (.fn f vs) = some [.fn f vs] := rfl
theorem cellsA_cptr (H : List (Nat × Tree)) (f : Nat) (vs : List AV) : cellsA H (.cptr vs f) = some [.cptr vs f] := rfl
theorem cellsA_eptr (H : List (Nat × Tree)) (i : Nat) (v : AV) : cellsA H (.eptr v i) = some [.eptr v i] := rfl
theorem cellsA_bptr (H : List (Nat × Tree)) (i f : Nat) : cellsA H (.bptr i f) = some [.bptr i f] := rfl
theorem oneA_agg (H : List (Nat × Tree)) (vs : List AV) : oneA H (.agg vs) = false := rfl
theorem oneA_ref (H : List (Nat × Tree)) (id : Nat) (p : List Nat) : oneA H (.ref id p) = (elemsT H id p).isSome := by unfold oneA cellsA; cases h : (elemsT H id p) <;> simp [h]
theorem oneA_sub (H : List (Nat × Tree)) (id : Nat) (p : List Nat) (lo hi : Nat) : oneA H (.sub id p lo hi) = true := rfl
theorem oneA_lv (H : List (Nat × Tree)) (vs : List AV) : oneA H (.lv vs) = true := rfl
theorem oneA_fn (H : List (Nat × Tree)) (f : Nat) (vs : List AV) : oneA H (.fn f vs) = true := rfl
theorem oneA_bptr (H : List (Nat × Tree)) (i f : Nat) : oneA H (.bptr i f) = true := rfl

/-! ### Operations -/
section
variable {P : Program} {ops : Array Oper} {n : Nat} {st : St} {K : St → Prop}

def dstLt (n : Nat) : Option Nat → Prop
  | some d => d < n
  | none => True
theorem dstLt_some (n d : Nat) : dstLt n (some d) = (d < n) := rfl
theorem dstLt_none (n : Nat) : dstLt n none = True := rfl

/-- An operation that leaves memory alone. -/
def pOper (P : Program) (ops : Array Oper) (n : Nat) (st : St) (d : Option Nat) (op : Op) (gd : Option (Nat × Bool)) (K : St → Prop) : Prop :=
  dstLt n d ∧ match gd with
  | none => Yl (fun v => AVal P st.H true (evF st.get) op v) (fun v => K ⟨putL d v st.s, st.H⟩)
  | some (j, want) => match (ops[j]?).bind (·.dst) with
    | some e => match boolOf (st.get e) with
      | some (gg, b) => Yl (fun v => AVal P st.H (gg && (b == want)) (evF st.get) op v) (fun v => K ⟨putL d (.when (gg && (b == want)) v) st.s, st.H⟩)
      | none => False
    | none => False
@[congr] theorem poper_congr {d : Option Nat} {op : Op} {gd : Option (Nat × Bool)} {st2 : St} (h : st = st2) : pOper P ops n st d op gd K = pOper P ops n st2 d op gd K := by rw [h]
theorem pOper_none (d : Option Nat) (op : Op) : pOper P ops n st d op none K = (dstLt n d ∧ Yl (fun v => AVal P st.H true (evF st.get) op v) (fun v => K ⟨putL d v st.s, st.H⟩)) := rfl
theorem pOper_some (d : Option Nat) (op : Op) (j : Nat) (want : Bool) : pOper P ops n st d op (some (j, want)) K = (dstLt n d ∧ match (ops[j]?).bind (·.dst) with
    | some e => match boolOf (st.get e) with
      | some (gg, b) => Yl (fun v => AVal P st.H (gg && (b == want)) (evF st.get) op v) (fun v => K ⟨putL d (.when (gg && (b == want)) v) st.s, st.H⟩)
      | none => False
    | none => False) := rfl
theorem lOper_pure {d : Option Nat} {op : Op} {ty : TypeId} {pos : String} {af : Array Edge} {gd : Option (Nat × Bool)} (hp : pureOp op = true) : lOper P ops n st ⟨d, op, ty, pos, af, gd⟩ K = pOper P ops n st d op gd K := by
  unfold lOper pOper gam
  simp only [hp, if_true]
  congr 1
  cases gd with
  | none => rfl
  | some g =>
    obtain ⟨j, want⟩ := g
    simp only
    cases (ops[j]?).bind (·.dst) with
    | none => rfl
    | some e =>
      simp only
      cases boolOf (st.get e) with
      | none => rfl
      | some q => rfl

/-- An operation that makes or turns memory. -/
def mOper (P : Program) (n : Nat) (st : St) (d : Option Nat) (op : Op) (K : St → Prop) : Prop := dstLt n d ∧ AHeap P st.H (evF st.get) op (fun v all subs H' => K ⟨putL d v (killL all subs st.s), H'⟩)
@[congr] theorem moper_congr {d : Option Nat} {op : Op} {st2 : St} (h : st = st2) : mOper P n st d op K = mOper P n st2 d op K := by rw [h]
theorem lOper_heap {d : Option Nat} {op : Op} {ty : TypeId} {pos : String} {af : Array Edge} (hp : pureOp op = false) : lOper P ops n st ⟨d, op, ty, pos, af, none⟩ K = mOper P n st d op K := by
  unfold lOper mOper gam
  simp only [hp, Bool.false_eq_true, if_false, true_and]
  rfl
theorem fo_move {d : Option Nat} {ty : TypeId} {pos : String} {af : Array Edge} {gd : Option (Nat × Bool)} (x : Operand) : fOper P ops n st ⟨d, (.move x), ty, pos, af, gd⟩ K = pOper P ops n st d (.move x) gd K := lOper_pure rfl
theorem lo_move {d : Option Nat} {ty : TypeId} {pos : String} {af : Array Edge} {gd : Option (Nat × Bool)} (x : Operand) : lOper P ops n st ⟨d, (.move x), ty, pos, af, gd⟩ K = pOper P ops n st d (.move x) gd K := lOper_pure rfl
theorem fo_assign {d : Option Nat} {ty : TypeId} {pos : String} {af : Array Edge} {gd : Option (Nat × Bool)} (x : Operand) : fOper P ops n st ⟨d, (.assign x), ty, pos, af, gd⟩ K = pOper P ops n st d (.assign x) gd K := lOper_pure rfl
theorem lo_assign {d : Option Nat} {ty : TypeId} {pos : String} {af : Array Edge} {gd : Option (Nat × Bool)} (x : Operand) : lOper P ops n st ⟨d, (.assign x), ty, pos, af, gd⟩ K = pOper P ops n st d (.assign x) gd K := lOper_pure rfl
theorem fo_pick {d : Option Nat} {ty : TypeId} {pos : String} {af : Array Edge} {gd : Option (Nat × Bool)} (c a b : Operand) : fOper P ops n st ⟨d, (.pick c a b), ty, pos, af, gd⟩ K = pOper P ops n st d (.pick c a b) gd K := lOper_pure rfl
theorem lo_pick {d : Option Nat} {ty : TypeId} {pos : String} {af : Array Edge} {gd : Option (Nat × Bool)} (c a b : Operand) : lOper P ops n st ⟨d, (.pick c a b), ty, pos, af, gd⟩ K = pOper P ops n st d (.pick c a b) gd K := lOper_pure rfl
theorem fo_load {d : Option Nat} {ty : TypeId} {pos : String} {af : Array Edge} {gd : Option (Nat × Bool)} (t : TypeId) (p : Operand) : fOper P ops n st ⟨d, (.load t p), ty, pos, af, gd⟩ K = pOper P ops n st d (.load t p) gd K := lOper_pure rfl
theorem lo_load {d : Option Nat} {ty : TypeId} {pos : String} {af : Array Edge} {gd : Option (Nat × Bool)} (t : TypeId) (p : Operand) : lOper P ops n st ⟨d, (.load t p), ty, pos, af, gd⟩ K = pOper P ops n st d (.load t p) gd K := lOper_pure rfl
theorem fo_indexAddr {d : Option Nat} {ty : TypeId} {pos : String} {af : Array Edge} {gd : Option (Nat × Bool)} (t : TypeId) (x i : Operand) : fOper P ops n st ⟨d, (.indexAddr t x i), ty, pos, af, gd⟩ K = pOper P ops n st d (.indexAddr t x i) gd K := lOper_pure rfl
theorem lo_indexAddr {d : Option Nat} {ty : TypeId} {pos : String} {af : Array Edge} {gd : Option (Nat × Bool)} (t : TypeId) (x i : Operand) : lOper P ops n st ⟨d, (.indexAddr t x i), ty, pos, af, gd⟩ K = pOper P ops n st d (.indexAddr t x i) gd K := lOper_pure rfl
theorem fo_fieldAddr {d : Option Nat} {ty : TypeId} {pos : String} {af : Array Edge} {gd : Option (Nat × Bool)} (t : TypeId) (p : Operand) (f : Nat) : fOper P ops n st ⟨d, (.fieldAddr t p f), ty, pos, af, gd⟩ K = pOper P ops n st d (.fieldAddr t p f) gd K := lOper_pure rfl
theorem lo_fieldAddr {d : Option Nat} {ty : TypeId} {pos : String} {af : Array Edge} {gd : Option (Nat × Bool)} (t : TypeId) (p : Operand) (f : Nat) : lOper P ops n st ⟨d, (.fieldAddr t p f), ty, pos, af, gd⟩ K = pOper P ops n st d (.fieldAddr t p f) gd K := lOper_pure rfl
theorem fo_field {d : Option Nat} {ty : TypeId} {pos : String} {af : Array Edge} {gd : Option (Nat × Bool)} (t : TypeId) (p : Operand) (f : Nat) : fOper P ops n st ⟨d, (.field t p f), ty, pos, af, gd⟩ K = pOper P ops n st d (.field t p f) gd K := lOper_pure rfl
theorem lo_field {d : Option Nat} {ty : TypeId} {pos : String} {af : Array Edge} {gd : Option (Nat × Bool)} (t : TypeId) (p : Operand) (f : Nat) : lOper P ops n st ⟨d, (.field t p f), ty, pos, af, gd⟩ K = pOper P ops n st d (.field t p f) gd K := lOper_pure rfl
theorem fo_binOp {d : Option Nat} {ty : TypeId} {pos : String} {af : Array Edge} {gd : Option (Nat × Bool)} (b : BinOp) (t : TypeId) (x y : Operand) (t' : TypeId) : fOper P ops n st ⟨d, (.binOp b t x y t'), ty, pos, af, gd⟩ K = pOper P ops n st d (.binOp b t x y t') gd K := lOper_pure rfl
theorem lo_binOp {d : Option Nat} {ty : TypeId} {pos : String} {af : Array Edge} {gd : Option (Nat × Bool)} (b : BinOp) (t : TypeId) (x y : Operand) (t' : TypeId) : lOper P ops n st ⟨d, (.binOp b t x y t'), ty, pos, af, gd⟩ K = pOper P ops n st d (.binOp b t x y t') gd K := lOper_pure rfl
theorem fo_unOp {d : Option Nat} {ty : TypeId} {pos : String} {af : Array Edge} {gd : Option (Nat × Bool)} (u : UnOp) (t : TypeId) (x : Operand) : fOper P ops n st ⟨d, (.unOp u t x), ty, pos, af, gd⟩ K = pOper P ops n st d (.unOp u t x) gd K := lOper_pure rfl
theorem lo_unOp {d : Option Nat} {ty : TypeId} {pos : String} {af : Array Edge} {gd : Option (Nat × Bool)} (u : UnOp) (t : TypeId) (x : Operand) : lOper P ops n st ⟨d, (.unOp u t x), ty, pos, af, gd⟩ K = pOper P ops n st d (.unOp u t x) gd K := lOper_pure rfl
theorem fo_convert {d : Option Nat} {ty : TypeId} {pos : String} {af : Array Edge} {gd : Option (Nat × Bool)} (s d' : TypeId) (x : Operand) : fOper P ops n st ⟨d, (.convert s d' x), ty, pos, af, gd⟩ K = pOper P ops n st d (.convert s d' x) gd K := lOper_pure rfl
theorem lo_convert {d : Option Nat} {ty : TypeId} {pos : String} {af : Array Edge} {gd : Option (Nat × Bool)} (s d' : TypeId) (x : Operand) : lOper P ops n st ⟨d, (.convert s d' x), ty, pos, af, gd⟩ K = pOper P ops n st d (.convert s d' x) gd K := lOper_pure rfl
theorem fo_extract {d : Option Nat} {ty : TypeId} {pos : String} {af : Array Edge} {gd : Option (Nat × Bool)} (x : Operand) (i : Nat) : fOper P ops n st ⟨d, (.extract x i), ty, pos, af, gd⟩ K = pOper P ops n st d (.extract x i) gd K := lOper_pure rfl
theorem lo_extract {d : Option Nat} {ty : TypeId} {pos : String} {af : Array Edge} {gd : Option (Nat × Bool)} (x : Operand) (i : Nat) : lOper P ops n st ⟨d, (.extract x i), ty, pos, af, gd⟩ K = pOper P ops n st d (.extract x i) gd K := lOper_pure rfl
theorem fo_slice {d : Option Nat} {ty : TypeId} {pos : String} {af : Array Edge} {gd : Option (Nat × Bool)} (t : TypeId) (x : Operand) (lo hi mx : Option Operand) : fOper P ops n st ⟨d, (.slice t x lo hi mx), ty, pos, af, gd⟩ K = pOper P ops n st d (.slice t x lo hi mx) gd K := lOper_pure rfl
theorem lo_slice {d : Option Nat} {ty : TypeId} {pos : String} {af : Array Edge} {gd : Option (Nat × Bool)} (t : TypeId) (x : Operand) (lo hi mx : Option Operand) : lOper P ops n st ⟨d, (.slice t x lo hi mx), ty, pos, af, gd⟩ K = pOper P ops n st d (.slice t x lo hi mx) gd K := lOper_pure rfl
theorem fo_makeFunc {d : Option Nat} {ty : TypeId} {pos : String} {af : Array Edge} {gd : Option (Nat × Bool)} (g : Fn) (first : Array Operand) (caps : Array Operand) : fOper P ops n st ⟨d, (.makeFunc g first caps), ty, pos, af, gd⟩ K = pOper P ops n st d (.makeFunc g first caps) gd K := lOper_pure rfl
theorem lo_makeFunc {d : Option Nat} {ty : TypeId} {pos : String} {af : Array Edge} {gd : Option (Nat × Bool)} (g : Fn) (first : Array Operand) (caps : Array Operand) : lOper P ops n st ⟨d, (.makeFunc g first caps), ty, pos, af, gd⟩ K = pOper P ops n st d (.makeFunc g first caps) gd K := lOper_pure rfl
theorem fo_len {d : Option Nat} {ty : TypeId} {pos : String} {af : Array Edge} {gd : Option (Nat × Bool)} (args : Array Operand) (ts : Array TypeId) : fOper P ops n st ⟨d, (.call ⟨.builtin .len, args, ts⟩), ty, pos, af, gd⟩ K = pOper P ops n st d (.call ⟨.builtin .len, args, ts⟩) gd K := lOper_pure rfl
theorem lo_len {d : Option Nat} {ty : TypeId} {pos : String} {af : Array Edge} {gd : Option (Nat × Bool)} (args : Array Operand) (ts : Array TypeId) : lOper P ops n st ⟨d, (.call ⟨.builtin .len, args, ts⟩), ty, pos, af, gd⟩ K = pOper P ops n st d (.call ⟨.builtin .len, args, ts⟩) gd K := lOper_pure rfl
theorem fo_max {d : Option Nat} {ty : TypeId} {pos : String} {af : Array Edge} {gd : Option (Nat × Bool)} (args : Array Operand) (ts : Array TypeId) : fOper P ops n st ⟨d, (.call ⟨.builtin .max, args, ts⟩), ty, pos, af, gd⟩ K = pOper P ops n st d (.call ⟨.builtin .max, args, ts⟩) gd K := lOper_pure rfl
theorem lo_max {d : Option Nat} {ty : TypeId} {pos : String} {af : Array Edge} {gd : Option (Nat × Bool)} (args : Array Operand) (ts : Array TypeId) : lOper P ops n st ⟨d, (.call ⟨.builtin .max, args, ts⟩), ty, pos, af, gd⟩ K = pOper P ops n st d (.call ⟨.builtin .max, args, ts⟩) gd K := lOper_pure rfl
theorem fo_min {d : Option Nat} {ty : TypeId} {pos : String} {af : Array Edge} {gd : Option (Nat × Bool)} (args : Array Operand) (ts : Array TypeId) : fOper P ops n st ⟨d, (.call ⟨.builtin .min, args, ts⟩), ty, pos, af, gd⟩ K = pOper P ops n st d (.call ⟨.builtin .min, args, ts⟩) gd K := lOper_pure rfl
theorem lo_min {d : Option Nat} {ty : TypeId} {pos : String} {af : Array Edge} {gd : Option (Nat × Bool)} (args : Array Operand) (ts : Array TypeId) : lOper P ops n st ⟨d, (.call ⟨.builtin .min, args, ts⟩), ty, pos, af, gd⟩ K = pOper P ops n st d (.call ⟨.builtin .min, args, ts⟩) gd K := lOper_pure rfl
theorem fo_alloc {d : Option Nat} {ty : TypeId} {pos : String} {af : Array Edge} (t : TypeId) : fOper P ops n st ⟨d, (.alloc t), ty, pos, af, none⟩ K = mOper P n st d (.alloc t) K := lOper_heap (ops := ops) rfl
theorem lo_alloc {d : Option Nat} {ty : TypeId} {pos : String} {af : Array Edge} (t : TypeId) : lOper P ops n st ⟨d, (.alloc t), ty, pos, af, none⟩ K = mOper P n st d (.alloc t) K := lOper_heap rfl
theorem fo_box {d : Option Nat} {ty : TypeId} {pos : String} {af : Array Edge} (t : TypeId) (x : Operand) : fOper P ops n st ⟨d, (.box t x), ty, pos, af, none⟩ K = mOper P n st d (.box t x) K := lOper_heap (ops := ops) rfl
theorem lo_box {d : Option Nat} {ty : TypeId} {pos : String} {af : Array Edge} (t : TypeId) (x : Operand) : lOper P ops n st ⟨d, (.box t x), ty, pos, af, none⟩ K = mOper P n st d (.box t x) K := lOper_heap rfl
theorem fo_build {d : Option Nat} {ty : TypeId} {pos : String} {af : Array Edge} (t : TypeId) (len : Nat) (parts : Array (Nat × Operand)) : fOper P ops n st ⟨d, (.buildSlice t len parts), ty, pos, af, none⟩ K = mOper P n st d (.buildSlice t len parts) K := lOper_heap (ops := ops) rfl
theorem lo_build {d : Option Nat} {ty : TypeId} {pos : String} {af : Array Edge} (t : TypeId) (len : Nat) (parts : Array (Nat × Operand)) : lOper P ops n st ⟨d, (.buildSlice t len parts), ty, pos, af, none⟩ K = mOper P n st d (.buildSlice t len parts) K := lOper_heap rfl
theorem fo_make {d : Option Nat} {ty : TypeId} {pos : String} {af : Array Edge} (t : TypeId) (l c : Operand) : fOper P ops n st ⟨d, (.makeSlice t l c), ty, pos, af, none⟩ K = mOper P n st d (.makeSlice t l c) K := lOper_heap (ops := ops) rfl
theorem lo_make {d : Option Nat} {ty : TypeId} {pos : String} {af : Array Edge} (t : TypeId) (l c : Operand) : lOper P ops n st ⟨d, (.makeSlice t l c), ty, pos, af, none⟩ K = mOper P n st d (.makeSlice t l c) K := lOper_heap rfl
theorem fo_store {d : Option Nat} {ty : TypeId} {pos : String} {af : Array Edge} (t : TypeId) (p v : Operand) : fOper P ops n st ⟨d, (.store t p v), ty, pos, af, none⟩ K = mOper P n st d (.store t p v) K := lOper_heap (ops := ops) rfl
theorem lo_store {d : Option Nat} {ty : TypeId} {pos : String} {af : Array Edge} (t : TypeId) (p v : Operand) : lOper P ops n st ⟨d, (.store t p v), ty, pos, af, none⟩ K = mOper P n st d (.store t p v) K := lOper_heap rfl
theorem fo_append {d : Option Nat} {ty : TypeId} {pos : String} {af : Array Edge} (args : Array Operand) (ts : Array TypeId) : fOper P ops n st ⟨d, (.call ⟨.builtin .append, args, ts⟩), ty, pos, af, none⟩ K = mOper P n st d (.call ⟨.builtin .append, args, ts⟩) K := lOper_heap (ops := ops) rfl
theorem lo_append {d : Option Nat} {ty : TypeId} {pos : String} {af : Array Edge} (args : Array Operand) (ts : Array TypeId) : lOper P ops n st ⟨d, (.call ⟨.builtin .append, args, ts⟩), ty, pos, af, none⟩ K = mOper P n st d (.call ⟨.builtin .append, args, ts⟩) K := lOper_heap rfl
theorem lo_call {d : Option Nat} {ty : TypeId} {pos : String} {af : Array Edge} {gd : Option (Nat × Bool)} (g : Operand) (args : Array Operand) (ts : Array TypeId) : lOper P ops n st ⟨d, .call ⟨.value g, args, ts⟩, ty, pos, af, gd⟩ K = pOper P ops n st d (.call ⟨.value g, args, ts⟩) gd K := lOper_pure rfl
theorem fo_callg {d : Option Nat} {ty : TypeId} {pos : String} {af : Array Edge} {gd : Nat × Bool} (g : Operand) (args : Array Operand) (ts : Array TypeId) : fOper P ops n st ⟨d, .call ⟨.value g, args, ts⟩, ty, pos, af, some gd⟩ K = pOper P ops n st d (.call ⟨.value g, args, ts⟩) (some gd) K := lOper_pure rfl
theorem fo_call {d : Option Nat} {ty : TypeId} {pos : String} {af : Array Edge} (g : Operand) (args : Array Operand) (ts : Array TypeId) : fOper P ops n st ⟨d, .call ⟨.value g, args, ts⟩, ty, pos, af, none⟩ K = (dstLt n d ∧ (match strip (evF st.get g) with
      | .fn f caps => okG true (evF st.get g) ∧ okGs true (args.toList.map (evF st.get)) ∧ FCall P st.H f ((args.toList.map (evF st.get)).map strip ++ caps) (fun v subs H' => K ⟨putL d v (killS subs st.s), H'⟩)
      | _ => False)) := rfl
end

/-! ### What they yield -/
def ldB (k : TK) (b : Option Tree) (off : Nat) (v : AV) : Prop :=
  match b with
  | some (.bx vs) => if k.one then off < vs.length ∧ v = vs.getD off .junk else (match k with
    | .st _ sz => off = 0 ∧ vs.length = sz ∧ v = .agg vs
    | _ => False)
  | _ => False
theorem ldB_bx (k : TK) (vs : List AV) (off : Nat) (v : AV) : ldB k (some (.bx vs)) off v = (if k.one then off < vs.length ∧ v = vs.getD off .junk else (match k with
    | .st _ sz => off = 0 ∧ vs.length = sz ∧ v = .agg vs
    | _ => False)) := rfl
theorem ldB_one (k : TK) (h : k.one = true) (vs : List AV) (off : Nat) (v : AV) : ldB k (some (.bx vs)) off v = (off < vs.length ∧ v = vs.getD off .junk) := by simp only [ldB, h, if_true]
theorem one_sl (e : Nat) : TK.one (.sl e) = true := rfl
theorem one_int : TK.one .int = true := rfl
theorem one_ik (k : IntKind) : TK.one (.ik k) = true := rfl
theorem one_bool : TK.one .bool = true := rfl
theorem one_str : TK.one .str = true := rfl
theorem one_cell : TK.one .cell = true := rfl
theorem one_st (fs : List (Nat × Nat)) (sz : Nat) : TK.one (.st fs sz) = false := rfl

section
variable {P : Program} {H : List (Nat × Tree)}
theorem ld_bptr (t : TypeId) (id off : Nat) (v : AV) : ALoad P H t (.bptr id off) v = ldB (tkOf P t) (find H id) off v := by
  unfold ALoad
  cases tkOf P t <;> (cases hf : find H id with
    | none => simp [hf, ldB]
    | some t => cases t <;> simp [hf, TK.one, ldB])
theorem ld_cptr (t : TypeId) (vs : List AV) (off : Nat) (v : AV) : ALoad P H t (.cptr vs off) v = ldB (tkOf P t) (some (.bx vs)) off v := by
  unfold ALoad ldB
  cases tkOf P t <;> first | rfl | simp [TK.one]
def ldE (k : TK) (e : Option (Nat × (Nat → AV))) (i : Nat) (v : AV) : Prop := k.one = true ∧ match e with
  | some (_, f) => v = f i
  | none => False
theorem ldE_some (k : TK) (n : Nat) (f : Nat → AV) (i : Nat) (v : AV) : ldE k (some (n, f)) i v = (k.one = true ∧ v = f i) := rfl
theorem ld_eptr (t : TypeId) (av : AV) (i : Nat) (v : AV) : ALoad P H t (.eptr av i) v = ldE (tkOf P t) (elemsOf av) i v := by
  unfold ALoad ldE
  cases tkOf P t <;> (cases he : elemsOf av with
    | none => simp [he, TK.one]
    | some q => simp [he, TK.one])
theorem ld_eref (t : TypeId) (id : Nat) (p : List Nat) (i : Nat) (v : AV) : ALoad P H t (.eref id p i) v = ldE (tkOf P t) (elemsT H id p) i v := by
  unfold ALoad ldE
  cases tkOf P t <;> (cases he : elemsT H id p with
    | none => simp [he, TK.one]
    | some q => simp [he, TK.one])

def TK.isSl : TK → Bool
  | .sl _ => true
  | _ => false
theorem isSl_sl (e : Nat) : TK.isSl (.sl e) = true := rfl
def ixE (k : TK) (γ : Bool) (e : Option (Nat × (Nat → AV))) (i : Int) (r v : AV) : Prop := k.isSl = true ∧ match e with
  | some (n, _) => (γ = true → 0 ≤ i ∧ i < n) ∧ v = r
  | none => False
theorem ixE_some (k : TK) (γ : Bool) (n : Nat) (f : Nat → AV) (i : Int) (r v : AV) : ixE k γ (some (n, f)) i r v = (k.isSl = true ∧ (γ = true → 0 ≤ i ∧ i < n) ∧ v = r) := rfl
theorem ix_l1 (γ : Bool) (t : TypeId) (xs : List Int) (i : Int) (v : AV) : AIndexAddr P H γ t (.l1 xs) (.int i) v = ixE (tkOf P t) γ (some (xs.length, fun i => .int (xs.getD i 0))) i (.eptr (.l1 xs) i.toNat) v := by
  unfold AIndexAddr ixE; cases tkOf P t <;> simp [TK.isSl, elemsOf]
theorem ix_l2 (γ : Bool) (t : TypeId) (xs : List (List Int)) (i : Int) (v : AV) : AIndexAddr P H γ t (.l2 xs) (.int i) v = ixE (tkOf P t) γ (some (xs.length, fun i => .l1 (xs.getD i []))) i (.eptr (.l2 xs) i.toNat) v := by
  unfold AIndexAddr ixE; cases tkOf P t <;> simp [TK.isSl, elemsOf]
theorem ix_l3 (γ : Bool) (t : TypeId) (xs : List (List (List Int))) (i : Int) (v : AV) : AIndexAddr P H γ t (.l3 xs) (.int i) v = ixE (tkOf P t) γ (some (xs.length, fun i => .l2 (xs.getD i []))) i (.eptr (.l3 xs) i.toNat) v := by
  unfold AIndexAddr ixE; cases tkOf P t <;> simp [TK.isSl, elemsOf]
theorem ix_lv (γ : Bool) (t : TypeId) (xs : List AV) (i : Int) (v : AV) : AIndexAddr P H γ t (.lv xs) (.int i) v = ixE (tkOf P t) γ (some (xs.length, fun i => xs.getD i .junk)) i (.eptr (.lv xs) i.toNat) v := by
  unfold AIndexAddr ixE; cases tkOf P t <;> simp [TK.isSl, elemsOf]
theorem ix_ref (γ : Bool) (t : TypeId) (id : Nat) (p : List Nat) (i : Int) (v : AV) : AIndexAddr P H γ t (.ref id p) (.int i) v = ixE (tkOf P t) γ (elemsT H id p) i (.eref id p i.toNat) v := by
  unfold AIndexAddr ixE; cases tkOf P t <;> (cases he : elemsT H id p with | none => simp [he, TK.isSl] | some q => simp [he, TK.isSl])
theorem ix_sub (γ : Bool) (t : TypeId) (id : Nat) (p : List Nat) (lo hi : Nat) (i : Int) (v : AV) : AIndexAddr P H γ t (.sub id p lo hi) (.int i) v = (match tkOf P t with
  | .sl _ => (match elemsT H id p with
    | some _ => (γ = true → 0 ≤ i ∧ i < (hi : Int) - lo) ∧ v = .eref id p (lo + i.toNat)
    | none => False)
  | _ => False) := by
  unfold AIndexAddr; cases tkOf P t <;> rfl

theorem len_l1 (t : TypeId) (xs : List Int) (v : AV) : ALen P H t (.l1 xs) v = ((tkOf P t).isSl = true ∧ v = .int xs.length) := by unfold ALen; cases tkOf P t <;> simp [TK.isSl, elemsOf]
theorem len_l2 (t : TypeId) (xs : List (List Int)) (v : AV) : ALen P H t (.l2 xs) v = ((tkOf P t).isSl = true ∧ v = .int xs.length) := by unfold ALen; cases tkOf P t <;> simp [TK.isSl, elemsOf]
theorem len_l3 (t : TypeId) (xs : List (List (List Int))) (v : AV) : ALen P H t (.l3 xs) v = ((tkOf P t).isSl = true ∧ v = .int xs.length) := by unfold ALen; cases tkOf P t <;> simp [TK.isSl, elemsOf]
theorem len_lv (t : TypeId) (xs : List AV) (v : AV) : ALen P H t (.lv xs) v = ((tkOf P t).isSl = true ∧ v = .int xs.length) := by unfold ALen; cases tkOf P t <;> simp [TK.isSl, elemsOf]
theorem len_nil (t : TypeId) (v : AV) : ALen P H t .nil v = ((tkOf P t).isSl = true ∧ v = .int 0) := by unfold ALen; cases tkOf P t <;> simp [TK.isSl]
theorem len_sub (t : TypeId) (id : Nat) (p : List Nat) (lo hi : Nat) (v : AV) : ALen P H t (.sub id p lo hi) v = ((tkOf P t).isSl = true ∧ v = .int ((hi - lo : Nat))) := by unfold ALen; cases tkOf P t <;> simp [TK.isSl]
theorem len_ref (t : TypeId) (id : Nat) (p : List Nat) (v : AV) : ALen P H t (.ref id p) v = ((tkOf P t).isSl = true ∧ match elemsT H id p with
  | some (n, _) => v = .int n
  | none => False) := by unfold ALen; cases tkOf P t <;> (cases he : elemsT H id p with | none => simp [he, TK.isSl] | some q => simp [he, TK.isSl])
theorem len_str (t : TypeId) (s : ByteArray) (v : AV) : ALen P H t (.str s) v = (match tkOf P t with
  | .str => v = .int s.size
  | _ => False) := by unfold ALen; cases tkOf P t <;> rfl

def fldA (k : TK) (f : Nat) (r : Nat → AV) (v : AV) : Prop :=
  match k with
  | .st fs _ => match fs[f]? with
    | some (o, sz) => sz ≠ 0 ∧ v = r o
    | none => False
  | _ => False
theorem fldA_st (fs : List (Nat × Nat)) (sz f : Nat) (r : Nat → AV) (v : AV) : fldA (.st fs sz) f r v = (match fs[f]? with
    | some (o, sz) => sz ≠ 0 ∧ v = r o
    | none => False) := rfl
theorem fa_bptr (t : TypeId) (id off f : Nat) (v : AV) : AFieldAddr P t (.bptr id off) f v = fldA (tkOf P t) f (fun o => .bptr id (off + o)) v := by unfold AFieldAddr fldA; cases tkOf P t <;> rfl
theorem fa_cptr (t : TypeId) (vs : List AV) (off f : Nat) (v : AV) : AFieldAddr P t (.cptr vs off) f v = fldA (tkOf P t) f (fun o => .cptr vs (off + o)) v := by unfold AFieldAddr fldA; cases tkOf P t <;> rfl

def binI (γ : Bool) (b : BinOp) (p q : Int) (v : AV) : Prop :=
  match b with
    | .add => (γ = true → InR (p + q)) ∧ v = .int (p + q)
    | .sub => (γ = true → InR (p - q)) ∧ v = .int (p - q)
    | .mul => (γ = true → InR (p * q)) ∧ v = .int (p * q)
    | .quo => (γ = true → q ≠ 0 ∧ InR (p.tdiv q)) ∧ v = .int (p.tdiv q)
    | .rem => (γ = true → q ≠ 0 ∧ InR (p.tmod q)) ∧ v = .int (p.tmod q)
    | .eql => v = .bool (decide (p = q))
    | .neq => v = .bool (!decide (p = q))
    | .lss => v = .bool (decide (p < q))
    | .leq => v = .bool (decide (p ≤ q))
    | .gtr => v = .bool (decide (q < p))
    | .geq => v = .bool (decide (q ≤ p))
    | _ => False
theorem bin_int (γ : Bool) (b : BinOp) (t : TypeId) (p q : Int) (v : AV) : ABin P H γ b t (.int p) (.int q) v = binI γ b p q v := rfl
theorem bi_add (γ : Bool) (p q : Int) (v : AV) : binI γ .add p q v = ((γ = true → InR (p + q)) ∧ v = .int (p + q)) := rfl
theorem bi_sub (γ : Bool) (p q : Int) (v : AV) : binI γ .sub p q v = ((γ = true → InR (p - q)) ∧ v = .int (p - q)) := rfl
theorem bi_mul (γ : Bool) (p q : Int) (v : AV) : binI γ .mul p q v = ((γ = true → InR (p * q)) ∧ v = .int (p * q)) := rfl
theorem bi_quo (γ : Bool) (p q : Int) (v : AV) : binI γ .quo p q v = ((γ = true → q ≠ 0 ∧ InR (p.tdiv q)) ∧ v = .int (p.tdiv q)) := rfl
theorem bi_rem (γ : Bool) (p q : Int) (v : AV) : binI γ .rem p q v = ((γ = true → q ≠ 0 ∧ InR (p.tmod q)) ∧ v = .int (p.tmod q)) := rfl
theorem bi_eql (γ : Bool) (p q : Int) (v : AV) : binI γ .eql p q v = (v = .bool (decide (p = q))) := rfl
theorem bi_neq (γ : Bool) (p q : Int) (v : AV) : binI γ .neq p q v = (v = .bool (!decide (p = q))) := rfl
theorem bi_lss (γ : Bool) (p q : Int) (v : AV) : binI γ .lss p q v = (v = .bool (decide (p < q))) := rfl
theorem bi_leq (γ : Bool) (p q : Int) (v : AV) : binI γ .leq p q v = (v = .bool (decide (p ≤ q))) := rfl
theorem bi_gtr (γ : Bool) (p q : Int) (v : AV) : binI γ .gtr p q v = (v = .bool (decide (q < p))) := rfl
theorem bi_geq (γ : Bool) (p q : Int) (v : AV) : binI γ .geq p q v = (v = .bool (decide (q ≤ p))) := rfl
def nilE (k : TK) (γ : Bool) (b : BinOp) (e : Option (Nat × (Nat → AV))) (v : AV) : Prop := k.isSl = true ∧ match e with
  | some (n, _) => (match b with
    | .eql => (γ = true → 0 < n) ∧ v = .bool false
    | .neq => (γ = true → 0 < n) ∧ v = .bool true
    | _ => False)
  | none => False
theorem nilE_eql (k : TK) (γ : Bool) (n : Nat) (f : Nat → AV) (v : AV) : nilE k γ .eql (some (n, f)) v = (k.isSl = true ∧ (γ = true → 0 < n) ∧ v = .bool false) := rfl
theorem nilE_neq (k : TK) (γ : Bool) (n : Nat) (f : Nat → AV) (v : AV) : nilE k γ .neq (some (n, f)) v = (k.isSl = true ∧ (γ = true → 0 < n) ∧ v = .bool true) := rfl
theorem bin_l1 (γ : Bool) (b : BinOp) (t : TypeId) (xs : List Int) (v : AV) : ABin P H γ b t (.l1 xs) .nil v = nilE (tkOf P t) γ b (some (xs.length, fun i => .int (xs.getD i 0))) v := by
  unfold ABin nilE; cases tkOf P t <;> cases b <;> simp [TK.isSl, elemsOf]
theorem bin_l2 (γ : Bool) (b : BinOp) (t : TypeId) (xs : List (List Int)) (v : AV) : ABin P H γ b t (.l2 xs) .nil v = nilE (tkOf P t) γ b (some (xs.length, fun i => .l1 (xs.getD i []))) v := by
  unfold ABin nilE; cases tkOf P t <;> cases b <;> simp [TK.isSl, elemsOf]
theorem bin_l3 (γ : Bool) (b : BinOp) (t : TypeId) (xs : List (List (List Int))) (v : AV) : ABin P H γ b t (.l3 xs) .nil v = nilE (tkOf P t) γ b (some (xs.length, fun i => .l2 (xs.getD i []))) v := by
  unfold ABin nilE; cases tkOf P t <;> cases b <;> simp [TK.isSl, elemsOf]
theorem bin_ref (γ : Bool) (b : BinOp) (t : TypeId) (id : Nat) (p : List Nat) (v : AV) : ABin P H γ b t (.ref id p) .nil v = nilE (tkOf P t) γ b (elemsT H id p) v := by
  unfold ABin nilE; cases tkOf P t <;> (cases he : elemsT H id p with | none => cases b <;> simp [he, TK.isSl] | some q => cases b <;> simp [he, TK.isSl])
theorem bin_nil_eql (γ : Bool) (t : TypeId) (v : AV) : ABin P H γ .eql t .nil .nil v = ((tkOf P t).isSl = true ∧ v = .bool true) := by
  unfold ABin; cases tkOf P t <;> simp [TK.isSl]
theorem bin_nil_neq (γ : Bool) (t : TypeId) (v : AV) : ABin P H γ .neq t .nil .nil v = ((tkOf P t).isSl = true ∧ v = .bool false) := by
  unfold ABin; cases tkOf P t <;> simp [TK.isSl]
theorem bin_str (γ : Bool) (b : BinOp) (t : TypeId) (p q : ByteArray) (v : AV) : ABin P H γ b t (.str p) (.str q) v = (match b with
    | .add => (γ = true → p.size + q.size ≤ 1099511627776) ∧ v = .str (p ++ q)
    | .eql => v = .bool (p.toList == q.toList)
    | .neq => v = .bool (!(p.toList == q.toList))
    | _ => False) := rfl
theorem bin_bool (γ : Bool) (b : BinOp) (t : TypeId) (p q : Bool) (v : AV) : ABin P H γ b t (.bool p) (.bool q) v = (match tkOf P t with
    | .bool => (match b with
      | .eql => v = .bool (p == q)
      | .neq => v = .bool (!(p == q))
      | _ => False)
    | _ => False) := by unfold ABin; cases tkOf P t <;> cases b <;> rfl
theorem un_not (γ : Bool) (b : Bool) (v : AV) : AUn γ .not (.bool b) v = (v = .bool (!b)) := rfl
theorem un_neg (γ : Bool) (n : Int) (v : AV) : AUn γ .neg (.int n) v = ((γ = true → InR (0 - n)) ∧ v = .int (0 - n)) := rfl
theorem boolOf_bool (b : Bool) : boolOf (.bool b) = some (true, b) := rfl
theorem boolOf_when (g b : Bool) : boolOf (.when g (.bool b)) = some (g, b) := rfl
end

theorem made2 : True ∧ True := by simp only [AVal, APick, AConv, ASlice, ABuiltin, okGs, elemsOf, elemsT, AHeap, AHeapB, ABuild, AMake, AStore, AAppend, AApp, target, kindTree, srcD, srcR2, srcR3, srcLv, cutTree, cutData, evF, ofV1, ofV, find, putT, killAs, killT, killH, rmT, views, viewsB, views1, viewT, isData, areData, isL1, isL2, isL3, isInt, allSome, inOrder, newId, argSlots, slotGet, St.get, putL, killL, killS, qOf, fRun, lRun, and_self]

end Go.Aw
