/-
  What an operation that leaves memory alone yields ('AVal'), and that the model's run of it yields a value that stands for just that. Of no program.
-/
import Derived.Test.YtomfedhhfcelkaaAwC
set_option linter.unusedSimpArgs false
set_option linter.unusedVariables false
namespace Go.Aw
open Go.RowKit

def ofV : Value → AV
  | .int .i64 n => if -9223372036854775808 ≤ n ∧ n ≤ 9223372036854775807 then .int n else .junk
  | .int k n => .ik k n
  | .bool b => .bool b
  | .string s => if s.size ≤ 1073741824 then .str s else .junk
  | .slice none 0 0 => .nil
  | .nilFunc => .nilfn
  | _ => .junk
/-- A constant: a struct's cells too. -/
def ofV1 : Value → AV
  | .agg cs => .agg (cs.toList.map ofV)
  | v => ofV v

def AState.ev (st : AState) : Operand → AV
  | .tmp t => st.get t
  | .const v => ofV1 v
  | .func f => .fn f []
  | .global _ => .junk

theorem ofV_rep (m : Mem) (v : Value) : rep m (ofV v) v := by
  unfold ofV
  split
  · split
    · rename_i h; exact rep_int h
    · simp only [rep]
  · simp only [rep]
  · simp only [rep]
  · split
    · rename_i h; simp only [rep]; exact ⟨trivial, Nat.le_trans h (by simp [maxLen])⟩
    · simp only [rep]
  · simp only [rep]
  · simp only [rep]
  · simp only [rep]
theorem ofV1_rep (m : Mem) (v : Value) : rep m (ofV1 v) v := by
  unfold ofV1
  split
  · rename_i cs
    simp only [rep]
    refine ⟨cs.toList, by simp, ?_⟩
    rw [reps_all2]
    generalize cs.toList = l
    induction l with
    | nil => trivial
    | cons a l ih => exact ⟨ofV_rep m a, ih⟩
  · exact ofV_rep m _

/-! ### The operations -/
def ALoad (P : Program) (H : List (Nat × Tree)) (t : TypeId) (p : AV) (v : AV) : Prop :=
  match tkOf P t, p with
  | .st _ sz, .bptr id off => match find H id with
    | some (.bx vs) => off = 0 ∧ vs.length = sz ∧ v = .agg vs
    | _ => False
  | .st _ sz, .cptr vs off => off = 0 ∧ vs.length = sz ∧ v = .agg vs
  | .st .., _ => False
  | .other, _ => False
  | _, .eptr av i => match elemsOf av with
    | some (_, f) => v = f i
    | none => False
  | _, .eref id path i => match elemsT H id path with
    | some (_, f) => v = f i
    | none => False
  | _, .bptr id off => match find H id with
    | some (.bx vs) => off < vs.length ∧ v = vs.getD off .junk
    | _ => False
  | _, .cptr vs off => off < vs.length ∧ v = vs.getD off .junk
  | _, _ => False

def AIndexAddr (P : Program) (H : List (Nat × Tree)) (γ : Bool) (t : TypeId) (x i v : AV) : Prop :=
  match tkOf P t, i with
  | .sl _, .int k => match x with
    | .ref id path => match elemsT H id path with
      | some (n, _) => (γ = true → 0 ≤ k ∧ k < n) ∧ v = .eref id path k.toNat
      | none => False
    | .sub id path lo hi => match elemsT H id path with
      | some _ => (γ = true → 0 ≤ k ∧ k < (hi : Int) - lo) ∧ v = .eref id path (lo + k.toNat)
      | none => False
    | av => match elemsOf av with
      | some (n, _) => (γ = true → 0 ≤ k ∧ k < n) ∧ v = .eptr av k.toNat
      | none => False
  | _, _ => False

def ALen (P : Program) (H : List (Nat × Tree)) (t : TypeId) (x v : AV) : Prop :=
  match tkOf P t, x with
  | .str, .str s => v = .int s.size
  | .sl _, .nil => v = .int 0
  | .sl _, .ref id path => match elemsT H id path with
    | some (n, _) => v = .int n
    | none => False
  | .sl _, .sub _ _ lo hi => v = .int ((hi - lo : Nat))
  | .sl _, av => match elemsOf av with
    | some (n, _) => v = .int n
    | none => False
  | _, _ => False

def AFieldAddr (P : Program) (t : TypeId) (p : AV) (f : Nat) (v : AV) : Prop :=
  match tkOf P t, p with
  | .st fs _, .bptr id off => match fs[f]? with
    | some (o, sz) => sz ≠ 0 ∧ v = .bptr id (off + o)
    | none => False
  | .st fs _, .cptr vs off => match fs[f]? with
    | some (o, sz) => sz ≠ 0 ∧ v = .cptr vs (off + o)
    | none => False
  | _, _ => False

def AField (P : Program) (t : TypeId) (x : AV) (f : Nat) (v : AV) : Prop :=
  match x with
  | .agg vs => match P.underlying t with
    | some (.struct fs) => match fs[f]? with
      | some g => (tkOf P g.type).one = true ∧ g.offset < vs.length ∧ v = vs.getD g.offset .junk
      | none => False
    | _ => False
  | _ => False

def ABin (P : Program) (H : List (Nat × Tree)) (γ : Bool) (b : BinOp) (t : TypeId) (x y v : AV) : Prop :=
  match x, y with
  | .int p, .int q => match b with
    | .add => (γ = true → InR (p + q)) ∧ v = .int (p + q)
    | .sub => (γ = true → InR (p - q)) ∧ v = .int (p - q)
    | .mul => (γ = true → InR (p * q)) ∧ v = .int (p * q)
    | .quo => (γ = true → q ≠ 0 ∧ InR (p.tdiv q)) ∧ v = .int (p.tdiv q)
    | .rem => (γ = true → q ≠ 0 ∧ InR (p.tmod q)) ∧ v = .int (p.tmod q)
    | .eql => v = .bool (decide (p = q))
    | .neq => v = .bool (!decide (p = q))
    | .lss => v = .bool (decide (p < q))
    | .leq => v = .bool (decide (p ≤ q))
    | .gtr => v = .bool (decide (q < p))
    | .geq => v = .bool (decide (q ≤ p))
    | _ => False
  | .bool p, .bool q => match tkOf P t, b with
    | .bool, .eql => v = .bool (p == q)
    | .bool, .neq => v = .bool (!(p == q))
    | _, _ => False
  | .str p, .str q => match b with
    | .add => (γ = true → p.size + q.size ≤ 1099511627776) ∧ v = .str (p ++ q)
    | .eql => v = .bool (p.toList == q.toList)
    | .neq => v = .bool (!(p.toList == q.toList))
    | _ => False
  | .nil, .nil => match tkOf P t, b with
    | .sl _, .eql => v = .bool true
    | .sl _, .neq => v = .bool false
    | _, _ => False
  | .ref id path, .nil => match tkOf P t, elemsT H id path, b with
    | .sl _, some (n, _), .eql => (γ = true → 0 < n) ∧ v = .bool false
    | .sl _, some (n, _), .neq => (γ = true → 0 < n) ∧ v = .bool true
    | _, _, _ => False
  | av, .nil => match tkOf P t, elemsOf av, b with
    | .sl _, some (n, _), .eql => (γ = true → 0 < n) ∧ v = .bool false
    | .sl _, some (n, _), .neq => (γ = true → 0 < n) ∧ v = .bool true
    | _, _, _ => False
  | _, _ => False

def AUn (γ : Bool) (u : UnOp) (x v : AV) : Prop :=
  match u, x with
  | .not, .bool b => v = .bool (!b)
  | .neg, .int n => (γ = true → InR (0 - n)) ∧ v = .int (0 - n)
  | _, _ => False

def APick (γ : Bool) (c a b v : AV) : Prop :=
  match boolOf c, boolOf a, boolOf b with
  | some (gc, xc), some (ga, xa), some (gb, xb) => (γ = true → gc = true ∧ (xc = true → ga = true) ∧ (xc = false → gb = true)) ∧ v = .bool (bif xc then xa else xb)
  | _, _, _ => False

def TK.num : TK → Bool
  | .int | .ik _ => true
  | _ => false
def AConv (P : Program) (γ : Bool) (s d : TypeId) (x v : AV) : Prop :=
  match tkOf P d, x with
  | .int, .int n => (tkOf P s).num = true ∧ v = .int n
  | .int, .ik _ n => (tkOf P s).num = true ∧ (γ = true → InR n) ∧ v = .int n
  | .ik k, .int n => (tkOf P s).num = true ∧ v = .ik k (k.wrap n)
  | .ik k, .ik _ n => (tkOf P s).num = true ∧ v = .ik k (k.wrap n)
  | _, _ => False

def ASlice (P : Program) (H : List (Nat × Tree)) (γ : Bool) (t : TypeId) (x lo hi v : AV) (hasHi : Bool) : Prop :=
  match lo with
  | .int l =>
    match tkOf P t, x with
    | .sl _, .ref id path => match elemsT H id path with
      | some (n, _) =>
        if hasHi then (match hi with
          | .int h => (γ = true → 0 ≤ l ∧ l ≤ h ∧ h ≤ n) ∧ v = .sub id path l.toNat h.toNat
          | _ => False)
        else (γ = true → 0 ≤ l ∧ l ≤ n) ∧ v = .sub id path l.toNat n
      | none => False
    | .sl _, .nil => if hasHi then (match hi with
          | .int h => (γ = true → l = 0 ∧ h = 0) ∧ v = .nil
          | _ => False)
        else (γ = true → l = 0) ∧ v = .nil
    | .sl _, av => match elemsOf av with
      | some (n, _) =>
        if hasHi then (match hi with
          | .int h => (γ = true → 0 ≤ l ∧ l ≤ h ∧ h ≤ n) ∧ cutData l.toNat h.toNat av = some v
          | _ => False)
        else (γ = true → 0 ≤ l ∧ l ≤ n) ∧ cutData l.toNat n av = some v
      | none => False
    | _, _ => False
  | _ => False

def ABuiltin (P : Program) (H : List (Nat × Tree)) (γ : Bool) (ρ : Operand → AV) (b : Builtin) (args : List Operand) (ts : List TypeId) (v : AV) : Prop :=
  match b, args, ts with
  | .len, [x], [t] => okG γ (ρ x) ∧ ALen P H t (strip (ρ x)) v
  | .max, [x, y], [_, _] => match strip (ρ x), strip (ρ y) with
    | .int p, .int q => okG γ (ρ x) ∧ okG γ (ρ y) ∧ v = .int (if q > p then q else p)
    | _, _ => False
  | .min, [x, y], [_, _] => match strip (ρ x), strip (ρ y) with
    | .int p, .int q => okG γ (ρ x) ∧ okG γ (ρ y) ∧ v = .int (if q < p then q else p)
    | _, _ => False
  | _, _, _ => False
def okGs (γ : Bool) : List AV → Prop
  | [] => True
  | a :: as => okG γ a ∧ okGs γ as

def AVal (P : Program) (H : List (Nat × Tree)) (γ : Bool) (ρ : Operand → AV) (op : Op) (v : AV) : Prop :=
  match op with
  | .move x | .assign x => okG γ (ρ x) ∧ v = strip (ρ x)
  | .pick c a b => APick γ (ρ c) (ρ a) (ρ b) v
  | .load t p => okG γ (ρ p) ∧ ALoad P H t (strip (ρ p)) v
  | .indexAddr t x i => okG γ (ρ x) ∧ okG γ (ρ i) ∧ AIndexAddr P H γ t (strip (ρ x)) (strip (ρ i)) v
  | .fieldAddr t p f => okG γ (ρ p) ∧ AFieldAddr P t (strip (ρ p)) f v
  | .field t x f => okG γ (ρ x) ∧ AField P t (strip (ρ x)) f v
  | .binOp b t x y _ => okG γ (ρ x) ∧ okG γ (ρ y) ∧ ABin P H γ b t (strip (ρ x)) (strip (ρ y)) v
  | .unOp u _ x => okG γ (ρ x) ∧ AUn γ u (strip (ρ x)) v
  | .convert s d x => okG γ (ρ x) ∧ AConv P γ s d (strip (ρ x)) v
  | .extract x i => okG γ (ρ x) ∧ (match strip (ρ x) with
    | .tup vs => i < vs.length ∧ v = vs.getD i .junk
    | _ => False)
  | .slice t x (some lo) none none => okG γ (ρ x) ∧ okG γ (ρ lo) ∧ ASlice P H γ t (strip (ρ x)) (strip (ρ lo)) .junk v false
  | .slice t x (some lo) (some hi) none => okG γ (ρ x) ∧ okG γ (ρ lo) ∧ okG γ (ρ hi) ∧ ASlice P H γ t (strip (ρ x)) (strip (ρ lo)) (strip (ρ hi)) v true
  | .slice t x none (some hi) none => okG γ (ρ x) ∧ okG γ (ρ hi) ∧ ASlice P H γ t (strip (ρ x)) (.int 0) (strip (ρ hi)) v true
  | .makeFunc (.func f) first caps => first.toList = [] ∧ v = .fn f (caps.toList.map ρ)
  | .call { callee := .builtin b, args, argTypes } => ABuiltin P H γ ρ b args.toList argTypes.toList v
  | .call { callee := .value g, args, .. } => match strip (ρ g) with
    | .fn f caps => okG γ (ρ g) ∧ okGs γ (args.toList.map ρ) ∧ (γ = true → ACall P H f ((args.toList.map ρ).map strip ++ caps) v)
    | _ => False
  | _ => False

/-- What has to be shown of one operation's run. -/
def Yields (P : Program) (cx : Cx) (H : List (Nat × Tree)) (ι : Nat → Value) (F : Nat → List Nat) (o : Oper) (a : Act) (w : World) (v : AV) : Prop :=
  (∃ u, (execOp a.eval o).run P w = .ok (.value u) w ∧ rep (mem cx w H ι F) v u) ∨
  (∃ f args, (execOp a.eval o).run P w = .ok (.enter f args) w ∧ Calls P f args w fun e w' => ∃ u, e = .returned u ∧ Ext w w' ∧ rep (mem cx w' H ι F) v u)

theorem strip_rep {m : Mem} {γ : Bool} (hγ : γ = true) {av : AV} {u : Value} (ho : okG γ av) (h : rep m av u) : rep m (strip av) u := by
  cases av <;> simp only [strip] <;> first | exact h | skip
  simp only [okG] at ho
  simp only [rep] at h
  exact h.1 (ho hγ)

section
variable {P : Program} {cx : Cx} {H : List (Nat × Tree)} {w : World} {ι : Nat → Value} {F : Nat → List Nat}

theorem tk_one_load {t : TypeId} (h : (tkOf P t).one = true) {p : Value} {b o : Nat} {u : Value} (hp : p = .pointer (some ⟨b, o, none⟩)) (hc : w.cell? ⟨b, o, none⟩ = some u) :
    (Instr.loadAt t p).run P w = .ok u w := by
  subst hp
  simp [Instr.loadAt, Instr.sureAddr, loadVar, tk_one h, hc]

theorem tk_st_load {t : TypeId} {fs : List (Nat × Nat)} {sz : Nat} (h : tkOf P t = .st fs sz) {us : List Value} (hl : us.length = sz) (hz : 0 < sz) {b : Nat} (hc : ∀ i u, us[i]? = some u → w.cell? ⟨b, i, none⟩ = some u) :
    (Instr.loadAt t (.pointer (some ⟨b, 0, none⟩))).run P w = .ok (.agg us.toArray) w := by
  obtain ⟨gs, h1, h2, h3⟩ := tk_st h
  obtain ⟨n, hn⟩ : ∃ n, sz = n + 1 := ⟨sz - 1, by omega⟩
  have hs := cells_info (P := P) (e := t) (n := n) (by omega) w
  have hl' := run_loadCells_list (P := P) (w := w) ⟨b, 0, none⟩ us (fun j v hv => by
    have : (⟨b, 0, none⟩ : Addr).add j = ⟨b, j, none⟩ := by unfold Addr.add; split <;> simp_all
    rw [this]; exact hc j v hv)
  rw [hl, hn] at hl'
  simp [Instr.loadAt, Instr.sureAddr, loadVar, isAgg, run_underlying h1, hs, hl']

theorem getD_reps {m : Mem} {vs : List AV} {us : List Value} (h : reps m vs us) {i : Nat} (hi : i < vs.length) : ∃ u, us[i]? = some u ∧ rep m (vs.getD i .junk) u := by
  rw [reps_all2] at h
  exact h.get i _ (getD_some hi)

theorem aload_sound (ho : Owns cx H w ι F) {t : TypeId} {p v : AV} {u : Value} (h : ALoad P H t p v) (hr : rep (mem cx w H ι F) p u) :
    ∃ x, (Instr.loadAt t u).run P w = .ok x w ∧ rep (mem cx w H ι F) v x := by
  unfold ALoad at h
  generalize hk : tkOf P t = k at h
  have bx : ∀ {id off : Nat} {vs : List AV}, rep (mem cx w H ι F) (.bptr id off) u → find H id = some (.bx vs) →
      ∃ b us, u = .pointer (some ⟨b, off, none⟩) ∧ (∀ i x, us[i]? = some x → w.cell? ⟨b, i, none⟩ = some x) ∧ reps (mem cx w H ι F) vs us := by
    intro id off vs hr hf
    simp only [rep] at hr
    obtain ⟨_, b, h2, h3⟩ := hr
    have ht := ho.trees _ (find_mem hf)
    simp only [treeRep] at ht
    obtain ⟨b', us, E, k1, k2, k3, k4⟩ := ht
    simp only [mem] at h2 k1 k3
    rw [h2] at k1; cases k1
    exact ⟨b, us, h3, fun i x hx => by simp [World.cell?, k3, hx], k4⟩
  split at h <;> first | exact h.elim | skip
  · rename_i fs sz id off
    split at h <;> first | exact h.elim | skip
    rename_i vs hf
    obtain ⟨rfl, h2, rfl⟩ := h
    obtain ⟨b, us, h3, h4, h5⟩ := bx hr hf
    subst h3
    have hl : us.length = sz := by rw [reps_all2] at h5; rw [← h5.length, h2]
    by_cases hz : 0 < sz
    · exact ⟨_, tk_st_load hk hl hz h4, by simp only [rep]; exact ⟨us, rfl, h5⟩⟩
    · have : sz = 0 := by omega
      subst this
      have : us = [] := List.eq_nil_of_length_eq_zero hl
      subst this
      obtain ⟨gs, k1, _, k3⟩ := tk_st hk
      by_cases hi : ∃ i, P.info? t = some i
      · obtain ⟨i, hi⟩ := hi
        have : i.size = 0 := by simp [Program.cellsOf, hi] at k3; omega
        refine ⟨.agg #[], ?_, by simp only [rep]; exact ⟨[], rfl, h5⟩⟩
        simp [Instr.loadAt, Instr.sureAddr, loadVar, isAgg, run_underlying k1, sizeOf, typeInfo, hi, this, loadCells, loadCellsFrom]
      · have hn : P.info? t = none := by cases hx : P.info? t with | none => rfl | some i => exact absurd ⟨i, hx⟩ hi
        simp [Program.underlying, hn] at k1
  · rename_i fs sz vs off
    obtain ⟨rfl, h2, rfl⟩ := h
    simp only [rep] at hr
    obtain ⟨b, us, h3, _, h4, h5⟩ := hr
    subst h3
    have hl : us.length = sz := by rw [reps_all2] at h5; rw [← h5.length, h2]
    by_cases hz : 0 < sz
    · exact ⟨_, tk_st_load hk hl hz h4, by simp only [rep]; exact ⟨us, rfl, h5⟩⟩
    · have : sz = 0 := by omega
      subst this
      have : us = [] := List.eq_nil_of_length_eq_zero hl
      subst this
      obtain ⟨gs, k1, _, k3⟩ := tk_st hk
      by_cases hi : ∃ i, P.info? t = some i
      · obtain ⟨i, hi⟩ := hi
        have : i.size = 0 := by simp [Program.cellsOf, hi] at k3; omega
        refine ⟨.agg #[], ?_, by simp only [rep]; exact ⟨[], rfl, h5⟩⟩
        simp [Instr.loadAt, Instr.sureAddr, loadVar, isAgg, run_underlying k1, sizeOf, typeInfo, hi, this, loadCells, loadCellsFrom]
      · have hn : P.info? t = none := by cases hx : P.info? t with | none => rfl | some i => exact absurd ⟨i, hx⟩ hi
        simp [Program.underlying, hn] at k1
  all_goals (have hone : (tkOf P t).one = true := by rw [hk]; cases k <;> first | rfl | simp_all)
  · rename_i av i _ _
    split at h <;> first | exact h.elim | skip
    rename_i n f he
    subst h
    simp only [rep] at hr
    obtain ⟨b, off, n', cap, h1, h2, h3⟩ := hr
    obtain ⟨us, k1, k2, k3⟩ := elems_rep he h1
    rcases k1 with ⟨⟨_, k1⟩, _⟩ | ⟨b', off', c', k1, _, _, _, k4⟩
    · cases k1
      exact absurd h2 (Nat.not_lt_zero _)
    · cases k1
      have hs : us[i]? = some us[i] := by simp [h2]
      exact ⟨_, tk_one_load hone h3 (k4 i _ hs), k3 i _ hs⟩
  · rename_i id path i _ _
    split at h <;> first | exact h.elim | skip
    rename_i n f he
    subst h
    simp only [rep] at hr
    obtain ⟨_, b, off, n', cap, h1, h2, h3⟩ := hr
    obtain ⟨us, fp, k1, k2, k3, _⟩ := elemsT_rep ho he h1
    rcases k1.cell with ⟨k1, _⟩ | ⟨b', off', c', k1, _, _, _, k4⟩
    · cases k1
    · cases k1
      have hs : us[i]? = some us[i] := by simp [h2]
      exact ⟨_, tk_one_load hone h3 (k4 i _ hs), k3 i _ hs⟩
  · rename_i id off _ _
    split at h <;> first | exact h.elim | skip
    rename_i vs hf
    obtain ⟨h2, rfl⟩ := h
    obtain ⟨b, us, h3, h4, h5⟩ := bx hr hf
    obtain ⟨x, hx, hrx⟩ := getD_reps h5 h2
    exact ⟨x, tk_one_load hone h3 (h4 _ _ hx), hrx⟩
  · rename_i vs off _ _
    obtain ⟨h2, rfl⟩ := h
    simp only [rep] at hr
    obtain ⟨b, us, h3, _, h4, h5⟩ := hr
    obtain ⟨x, hx, hrx⟩ := getD_reps h5 h2
    exact ⟨x, tk_one_load hone h3 (h4 _ _ hx), hrx⟩

end
end Go.Aw
