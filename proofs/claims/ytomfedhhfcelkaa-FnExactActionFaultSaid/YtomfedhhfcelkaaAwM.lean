/-
  One operation, abstractly ('FStep'), and its soundness. Of no program.
-/
import Derived.Test.YtomfedhhfcelkaaAwL
set_option linter.unusedSimpArgs false
set_option linter.unusedVariables false
namespace Go.Aw
open Go.RowKit

def mkOk (P : Program) (e : TypeId) : Bool :=
  match elemKind P e, zeroAVs P e with
  | 1, some [.int 0] => true
  | 1, _ => false
  | 2, some [.nil] => true
  | 2, _ => false
  | 3, some [.nil] => true
  | 3, _ => false
  | _, _ => true
theorem mkOk_spec {P : Program} {e : TypeId} (h : mkOk P e = true) : zeroAVs P e = (match elemKind P e with | 1 => some [.int 0] | 2 => some [.nil] | 3 => some [.nil] | _ => zeroAVs P e) := by
  unfold mkOk at h
  split at h <;> first | (cases h; done) | simp_all

def AHeapB (P : Program) (H : List (Nat × Tree)) (ρ : Operand → AV) (b : Builtin) (args : List Operand) (ts : List TypeId) (K : AV → List Nat → List Nat → List (Nat × Tree) → Prop) : Prop :=
  match b, args, ts with
  | .append, [s, x], [t, t'] => t = t' ∧ AAppend P H t (ρ s) (ρ x) K
  | _, _, _ => False

def AHeap (P : Program) (H : List (Nat × Tree)) (ρ : Operand → AV) (op : Op) (K : AV → List Nat → List Nat → List (Nat × Tree) → Prop) : Prop :=
  match op with
  | .alloc t => match zeroAVs P t with
    | some vs => K (.bptr (newId H) 0) [] [] (putT H (newId H) (.bx vs))
    | none => False
  | .box _ x => match cellsA H (ρ x) with
    | some vs => K (.bptr (newId H) 0) [] [] (putT H (newId H) (.bx vs))
    | none => False
  | .buildSlice t len parts => match tkOf P t with
    | .sl e => okElem P e = true ∧ inOrder 0 parts.toList = true ∧ len = parts.toList.length ∧ len ≤ 16777216 ∧ ABuild P H e (parts.toList.map (fun p => ρ p.2)) K
    | _ => False
  | .makeSlice t l c => match tkOf P t, ρ l, ρ c with
    | .sl e, .int n, .int n' => n = n' ∧ okElem P e = true ∧ mkOk P e = true ∧ AMake P H e n K
    | _, _, _ => False
  | .store t p v => AStore P H t (ρ p) (ρ v) (fun all subs H' => K .junk all subs H')
  | .call { callee := .builtin b, args, argTypes } => AHeapB P H ρ b args.toList argTypes.toList K
  | _ => False

section
variable {P : Program} {cx : Cx} {H : List (Nat × Tree)} {w : World} {ι : Nat → Value} {F : Nat → List Nat}

theorem map_reps {m : Mem} {ρ : Operand → AV} {f : Operand → Value} (h : ∀ x, rep m (ρ x) (f x)) : ∀ (l : List (Nat × Operand)), reps m (l.map fun p => ρ p.2) (l.map fun p => f p.2)
  | [] => by simp [reps]
  | p :: l => by simp only [List.map_cons, reps]; exact ⟨_, _, rfl, h p.2, map_reps h l⟩

theorem aheap_sound (ho : Owns cx H w ι F) {a : Act} {ρ : Operand → AV} (hρ : ∀ x, rep (mem cx w H ι F) (ρ x) (a.eval x)) {o : Oper} {K : AV → List Nat → List Nat → List (Nat × Tree) → Prop} (h : AHeap P H ρ o.op K) :
    ∃ u w', ((execOp a.eval o).run P w = .ok (.value u) w' ∨ ((execOp a.eval o).run P w = .ok .skip w' ∧ u = undef)) ∧ Left cx H w ι F u w' K := by
  unfold AHeap at h
  unfold execOp
  split at h <;> first | exact h.elim | skip
  · rename_i t hop
    split at h <;> first | exact h.elim | skip
    rename_i vs hz
    obtain ⟨u, w', h1, h2⟩ := alloc_left (P := P) ho hz h
    exact ⟨u, w', .inl (by simp [hop, h1]), h2⟩
  · rename_i t x hop
    split at h <;> first | exact h.elim | skip
    rename_i vs hz
    obtain ⟨u, w', h1, h2⟩ := box_left (P := P) (t := t) ho hz (hρ x) h
    exact ⟨u, w', .inl (by simp [hop, h1]), h2⟩
  · rename_i t len parts hop
    split at h <;> first | exact h.elim | skip
    rename_i e hk
    obtain ⟨he, hin, hlen, hsm, hb⟩ := h
    obtain ⟨u, w', h1, h2⟩ := build_left (P := P) ho hk he (map_reps hρ parts.toList) (by simpa [← hlen] using hsm) hb
    refine ⟨u, w', .inl ?_, h2⟩
    have hp : parts.map (fun x => (x.1, a.eval x.2)) = (((parts.toList.map fun p => a.eval p.2).zipIdx 0).map fun x => (x.2, x.1)).toArray := by
      rw [← inOrder_map a.eval _ _ hin]
      apply Array.ext'
      simp
    have hl : (parts.toList.map fun p => a.eval p.2).length = len := by rw [List.length_map]; exact hlen.symm
    rw [hl] at h1
    rw [hop]
    simp only [Sem.run_bind, Sem.run_pure]
    have hp' : (parts.map fun (x : Nat × Operand) => match x with | (i, y) => (i, a.eval y)) = parts.map (fun x => (x.1, a.eval x.2)) := rfl
    rw [hp', hp, h1]
    rfl
  · rename_i t l c hop
    have hl := hρ l
    have hc := hρ c
    split at h <;> first | exact h.elim | skip
    rename_i e n n' hk hln hcn
    obtain ⟨rfl, he, hm, hA⟩ := h
    rw [hln] at hl
    rw [hcn] at hc
    simp only [rep] at hl hc
    obtain ⟨u, w', h1, h2⟩ := make_left (P := P) ho hk he (mkOk_spec hm) hA
    exact ⟨u, w', .inl (by simp [hop, hl.1, hc.1, h1]), h2⟩
  · rename_i t p v hop
    obtain ⟨w', h1, all, subs, H', ι', F', k1, k2, k3⟩ := store_left (P := P) ho h (hρ p) (hρ v)
    exact ⟨undef, w', .inr ⟨by simp [hop, h1], rfl⟩, .junk, all, subs, H', ι', F', k1, k2, by simp only [rep], k3⟩
  · rename_i b args ts hop
    unfold AHeapB at h
    split at h <;> first | exact h.elim | skip
    rename_i s x t t' hargs hts
    obtain ⟨rfl, hA⟩ := h
    obtain ⟨u, w', h1, h2⟩ := append_left (P := P) ho hA (hρ s) (hρ x) o.type
    refine ⟨u, w', .inl ?_, h2⟩
    have ha : args = #[s, x] := by apply Array.ext'; simpa using hargs
    have ht : ts = #[t, t] := by apply Array.ext'; simpa using hts
    simp [hop, resolve, invoke, builtin, ha, ht, h1]

theorem args_reps {m : Mem} {ρ : Operand → AV} {f : Operand → Value} : ∀ (l : List Operand), (∀ x ∈ l, rep m (ρ x) (f x)) → reps m (l.map ρ) (l.map f)
  | [], _ => by simp [reps]
  | p :: l, h => by simp only [List.map_cons, reps]; exact ⟨_, _, rfl, h p (List.mem_cons_self ..), args_reps l (fun x hx => h x (List.mem_cons_of_mem _ hx))⟩
theorem reps_append {m : Mem} {as bs : List AV} {us vs : List Value} (h1 : reps m as us) (h2 : reps m bs vs) : reps m (as ++ bs) (us ++ vs) := by
  rw [reps_all2] at *; exact h1.append h2

theorem aval_sound (ho : Owns cx H w ι F) {a : Act} {ρ : Operand → AV} (hρ : ∀ x, rep (mem cx w H ι F) (ρ x) (a.eval x)) {o : Oper} {v : AV} (h : AVal P H true ρ o.op v) : Yields P cx H ι F o a w v := by
  unfold AVal at h
  unfold Yields execOp
  split at h <;> first | exact h.elim | skip
  · rename_i x hop
    obtain ⟨h1, rfl⟩ := h
    exact .inl ⟨a.eval x, by simp [hop], strip_rep rfl h1 (hρ x)⟩
  · rename_i x hop
    obtain ⟨h1, rfl⟩ := h
    exact .inl ⟨a.eval x, by simp [hop], strip_rep rfl h1 (hρ x)⟩
  · rename_i c x y hop
    obtain ⟨z, h1, h2⟩ := apick_sound (P := P) h (hρ c) (hρ x) (hρ y)
    exact .inl ⟨z, by simp only [hop]; exact h1, h2⟩
  · rename_i t p hop
    obtain ⟨h1, h2⟩ := h
    obtain ⟨z, h3, h4⟩ := aload_sound (P := P) ho h2 (strip_rep rfl h1 (hρ p))
    exact .inl ⟨z, by simp [hop, h3], h4⟩
  · rename_i t x i hop
    obtain ⟨h1, h2, h3⟩ := h
    obtain ⟨z, h4, h5⟩ := aindex_sound (P := P) ho h3 (strip_rep rfl h1 (hρ x)) (strip_rep rfl h2 (hρ i))
    exact .inl ⟨z, by simp [hop, h4], h5⟩
  · rename_i t p f hop
    obtain ⟨h1, h2⟩ := h
    obtain ⟨z, h3, h4⟩ := afield_sound (P := P) h2 (strip_rep rfl h1 (hρ p))
    exact .inl ⟨z, by simp [hop, h3], h4⟩
  · rename_i t x f hop
    obtain ⟨h1, h2⟩ := h
    obtain ⟨z, h3, h4⟩ := afieldv_sound (P := P) h2 (strip_rep rfl h1 (hρ x))
    exact .inl ⟨z, by simp [hop, h3], h4⟩
  · rename_i b t x y t' hop
    obtain ⟨h1, h2, h3⟩ := h
    obtain ⟨z, h4, h5⟩ := abin_sound (P := P) (ox := x) (oy := y) ho h3 (strip_rep rfl h1 (hρ x)) (strip_rep rfl h2 (hρ y))
    exact .inl ⟨z, by simp only [hop]; rw [Sem.run_bind, h4]; rfl, h5⟩
  · rename_i u t x hop
    obtain ⟨h1, h2⟩ := h
    obtain ⟨z, h3, h4⟩ := aun_sound (P := P) h2 (strip_rep rfl h1 (hρ x))
    exact .inl ⟨z, by simp [hop, h3], h4⟩
  · rename_i s d x hop
    obtain ⟨h1, h2⟩ := h
    obtain ⟨z, h3, h4⟩ := aconv_sound (P := P) h2 (strip_rep rfl h1 (hρ x))
    exact .inl ⟨z, by simp [hop, h3], h4⟩
  · rename_i x i hop
    obtain ⟨h1, h2⟩ := h
    have hx := strip_rep rfl h1 (hρ x)
    split at h2 <;> first | exact h2.elim | skip
    rename_i vs hs
    obtain ⟨hl, rfl⟩ := h2
    rw [hs] at hx
    simp only [rep] at hx
    obtain ⟨us, hu, hr⟩ := hx
    obtain ⟨y, hy, hry⟩ := getD_reps hr hl
    exact .inl ⟨y, by simp [hop, Instr.extract, hu, hy], hry⟩
  · rename_i t x lo hop
    obtain ⟨h1, h2, h3⟩ := h
    obtain ⟨z, h4, h5, _⟩ := aslice_sound (P := P) (uhi := undef) ho h3 (strip_rep rfl h1 (hρ x)) (strip_rep rfl h2 (hρ lo)) (fun h => by cases h)
    simp only [Bool.false_eq_true, if_false] at h5
    exact .inl ⟨z, by simp [hop, h5], h4⟩
  · rename_i t x lo hi hop
    obtain ⟨h1, h2, h3, h4⟩ := h
    obtain ⟨z, h5, h6, _⟩ := aslice_sound (P := P) ho h4 (strip_rep rfl h1 (hρ x)) (strip_rep rfl h2 (hρ lo)) (fun _ => strip_rep rfl h3 (hρ hi))
    simp only [if_true] at h6
    exact .inl ⟨z, by simp [hop, h6], h5⟩
  · rename_i t x hi hop
    obtain ⟨h1, h2, h3⟩ := h
    obtain ⟨z, h4, _, h5⟩ := aslice_sound (P := P) (ulo := .int .i64 0) ho h3 (strip_rep rfl h1 (hρ x)) (rep_int (by constructor <;> decide)) (fun _ => strip_rep rfl h2 (hρ hi))
    simp only [if_true] at h5
    exact .inl ⟨z, by simp [hop, h5], h4⟩
  · rename_i f first caps hop
    obtain ⟨hfirst, rfl⟩ := h
    have hf0 : first = #[] := by apply Array.ext'; simpa using hfirst
    refine .inl ⟨.func (.func f) #[] (caps.map a.eval), by simp [hop, Instr.makeFunc, hf0], ?_⟩
    simp only [rep]
    refine ⟨caps.toList.map a.eval, by apply congrArg; apply Array.ext'; simp, args_reps _ (fun x _ => hρ x)⟩
  · rename_i b args ts hop
    unfold ABuiltin at h
    split at h <;> first | exact h.elim | skip
    · rename_i x t hargs hts
      have ha : args = #[x] := by apply Array.ext'; simpa using hargs
      have ht : ts = #[t] := by apply Array.ext'; simpa using hts
      obtain ⟨h1, h2⟩ := h
      obtain ⟨z, h3, h4⟩ := alen_sound (P := P) ho h2 (strip_rep rfl h1 (hρ x)) o.type
      exact .inl ⟨z, by simp [hop, resolve, invoke, builtin, ha, ht, h3], h4⟩
    · rename_i x y t t' hargs hts
      have ha : args = #[x, y] := by apply Array.ext'; simpa using hargs
      have ht : ts = #[t, t'] := by apply Array.ext'; simpa using hts
      split at h <;> first | exact h.elim | skip
      rename_i p q hp hq
      obtain ⟨h1, h2, rfl⟩ := h
      have hx := strip_rep rfl h1 (hρ x)
      have hy := strip_rep rfl h2 (hρ y)
      rw [hp] at hx; rw [hq] at hy
      simp only [rep] at hx hy
      refine .inl ⟨.int .i64 (if q > p then q else p), ?_, rep_int (by split; exact hy.2; exact hx.2)⟩
      simp [hop, resolve, invoke, builtin, ha, ht, hx.1, hy.1, run_max_int2]
    · rename_i x y t t' hargs hts
      have ha : args = #[x, y] := by apply Array.ext'; simpa using hargs
      have ht : ts = #[t, t'] := by apply Array.ext'; simpa using hts
      split at h <;> first | exact h.elim | skip
      rename_i p q hp hq
      obtain ⟨h1, h2, rfl⟩ := h
      have hx := strip_rep rfl h1 (hρ x)
      have hy := strip_rep rfl h2 (hρ y)
      rw [hp] at hx; rw [hq] at hy
      simp only [rep] at hx hy
      refine .inl ⟨.int .i64 (if q < p then q else p), ?_, rep_int (by split; exact hy.2; exact hx.2)⟩
      simp [hop, resolve, invoke, builtin, ha, ht, hx.1, hy.1, run_min_int2]
  · rename_i g args ts hop
    have hg := hρ g
    split at h <;> first | exact h.elim | skip
    rename_i f caps hs
    obtain ⟨h1, h2, h3⟩ := h
    have hgs := strip_rep rfl h1 hg
    rw [hs] at hgs
    simp only [rep] at hgs
    obtain ⟨cs, hcv, hcr⟩ := hgs
    have hok : ∀ (l : List Operand), okGs true (l.map ρ) → reps (mem cx w H ι F) ((l.map ρ).map strip) (l.map a.eval) := by
      intro l
      induction l with
      | nil => intro _; simp [reps]
      | cons x l ih =>
        intro h
        simp only [List.map_cons, okGs] at h
        simp only [List.map_cons, reps]
        exact ⟨_, _, rfl, strip_rep rfl h.1 (hρ x), ih h.2⟩
    have har : reps (mem cx w H ι F) ((args.toList.map ρ).map strip ++ caps) (args.toList.map a.eval ++ cs) := reps_append (hok _ h2) hcr
    obtain ⟨k1, k2⟩ := acall_sound ho (h3 rfl) har
    refine .inr ⟨f, (args.toList.map a.eval ++ cs).toArray, ?_, k2⟩
    simp only [hop, resolve, Sem.run_bind]
    rw [hcv]
    simp [Deferred.ofValue, invoke, k1]

end

/-! ### One operation -/
def evF (g : Nat → AV) : Operand → AV
  | .tmp t => g t
  | .const v => ofV1 v
  | .func f => .fn f []
  | .global _ => .junk
def upd (g : Nat → AV) (d : Option Nat) (v : AV) : Nat → AV :=
  match d with
  | none => g
  | some d => fun k => if d = k then v else g k

/-- Whether a guarded operation is carried out. -/
def gam (ops : Array Oper) (g : Nat → AV) (o : Oper) : Option Bool :=
  match o.guard with
  | none => some true
  | some (j, want) => match (ops[j]?).bind (·.dst) with
    | some d => match boolOf (g d) with
      | some (gg, b) => some (gg && (b == want))
      | none => none
    | none => none
def wrapG (o : Oper) (γ : Bool) (v : AV) : AV :=
  match o.guard with
  | none => v
  | some _ => .when γ v

def PYield (P : Program) (ops : Array Oper) (g : Nat → AV) (H : List (Nat × Tree)) (o : Oper) (x : AV) : Prop :=
  ∃ γ v, gam ops g o = some γ ∧ AVal P H γ (evF g) o.op v ∧ x = wrapG o γ v

def HStep (P : Program) (g : Nat → AV) (H : List (Nat × Tree)) (o : Oper) (K : (Nat → AV) → List (Nat × Tree) → Prop) : Prop :=
  o.guard = none ∧ AHeap P H (evF g) o.op (fun v all subs H' => K (upd (fun k => killA (qOf all subs) (g k)) o.dst v) H')

def dstOk (fx n : Nat) (o : Oper) : Prop := ∀ d, o.dst = some d → fx ≤ d ∧ d < n

def SimF (cx : Cx) (n : Nat) (g : Nat → AV) (H : List (Nat × Tree)) (tmps : Array Value) (w : World) : Prop :=
  (tmps.size = n ∧ ∀ j, j < cx.fix → tmps.getD j undef = cx.fixv j) ∧ ∃ ι F, Owns cx H w ι F ∧ ∀ k, rep (mem cx w H ι F) (g k) (tmps.getD k undef)

section
variable {P : Program} {cx : Cx} {H : List (Nat × Tree)} {w : World} {ι : Nat → Value} {F : Nat → List Nat} {g : Nat → AV} {n : Nat} {tmps : Array Value} {ops : Array Oper} {o : Oper}

theorem ev_rep (h : ∀ k, rep (mem cx w H ι F) (g k) (tmps.getD k undef)) (x : Operand) : rep (mem cx w H ι F) (evF g x) ((⟨tmps, []⟩ : Act).eval x) := by
  cases x with
  | tmp t => exact h t
  | const v => exact ofV1_rep _ v
  | func f => simp only [evF, rep]; exact ⟨[], rfl, by simp [reps]⟩
  | global _ => simp only [evF, rep]

theorem wanted_gam (h : ∀ k, rep (mem cx w H ι F) (g k) (tmps.getD k undef)) {γ : Bool} (hg : gam ops g o = some γ) : Region.wanted o (yielded ops tmps) = γ := by
  unfold gam at hg
  unfold Region.wanted
  split at hg
  · rename_i hn; rw [hn]; cases hg; rfl
  · rename_i j want hs
    rw [hs]
    split at hg <;> first | (cases hg; done) | skip
    rename_i d hd
    split at hg <;> first | (cases hg; done) | skip
    rename_i gg b hb
    cases hg
    have hr := h d
    simp only [yielded, hd, Option.bind_some]
    unfold boolOf at hb
    have hget : ∀ {v : Value}, tmps.getD d undef = v → (∀ x, v ≠ .tuple x) → tmps[d]? = some v := by
      intro v hv hne
      cases ht : tmps[d]? with
      | none =>
        have : tmps.getD d undef = undef := by simp [Array.getD_eq_getD_getElem?, ht]
        rw [this] at hv
        exact absurd hv.symm (hne _)
      | some x => rw [← hv]; simp [Array.getD_eq_getD_getElem?, ht]
    split at hb <;> first | (cases hb; done) | skip
    · rename_i b' hgd
      simp only [Option.some.injEq, Prod.mk.injEq] at hb
      obtain ⟨rfl, rfl⟩ := hb
      rw [hgd] at hr
      simp only [rep] at hr
      rw [hget hr (by simp)]
      cases b' <;> cases want <;> rfl
    · rename_i gg' b' hgd
      simp only [Option.some.injEq, Prod.mk.injEq] at hb
      obtain ⟨rfl, rfl⟩ := hb
      rw [hgd] at hr
      simp only [rep] at hr
      cases gg' with
      | true =>
        rw [hget (hr.1 rfl) (by simp)]
        cases b' <;> cases want <;> rfl
      | false =>
        have h2 := hr.2 rfl
        cases ht : tmps[d]? with
        | none => cases want <;> rfl
        | some x =>
          have : tmps.getD d undef = x := by simp [Array.getD_eq_getD_getElem?, ht]
          rw [this] at h2
          subst h2
          cases want <;> rfl

theorem put_rep {m : Mem} (h : ∀ k, rep m (g k) (tmps.getD k undef)) {dst : Option Nat} (hd : ∀ d, dst = some d → d < tmps.size) {v : AV} {u : Value} (hv : rep m v u) :
    ∀ k, rep m (upd g dst v k) (((⟨tmps, []⟩ : Act).put dst u).tmps.getD k undef) := by
  intro k
  cases dst with
  | none => exact h k
  | some d =>
    simp only [upd, Act.put]
    by_cases hk : d = k
    · subst hk
      rw [if_pos rfl]
      have hl := hd d rfl
      simp [Array.getD_eq_getD_getElem?, hl, hv]
    · rw [if_neg hk]
      have := h k
      simp only [Array.getD_eq_getD_getElem?] at this ⊢
      rwa [Array.getElem?_setIfInBounds_ne hk]

theorem put_fix {fx : Nat} {fv : Nat → Value} (hs : tmps.size = n ∧ ∀ j, j < fx → tmps.getD j undef = fv j) {o : Oper} (hd : dstOk fx n o) (u : Value) : ((⟨tmps, []⟩ : Act).put o.dst u).tmps.size = n ∧ ∀ j, j < fx → ((⟨tmps, []⟩ : Act).put o.dst u).tmps.getD j undef = fv j := by
  cases ho : o.dst with
  | none => exact hs
  | some d =>
    have := hd d ho
    refine ⟨by simp [Act.put, hs.1], fun j hj => ?_⟩
    have hne : d ≠ j := fun e => absurd (Nat.lt_of_lt_of_le hj this.1) (by rw [e]; exact Nat.lt_irrefl _)
    have h2 := hs.2 j hj
    simp only [Act.put, Array.getD_eq_getD_getElem?] at h2 ⊢
    rwa [Array.getElem?_setIfInBounds_ne hne]
theorem put_size (dst : Option Nat) (u : Value) : ((⟨tmps, []⟩ : Act).put dst u).tmps.size = tmps.size ∧ ((⟨tmps, []⟩ : Act).put dst u).defers = [] := by
  cases dst <;> simp [Act.put]

/-- What holds behind an operation. -/
def After (cx : Cx) (n : Nat) (K : (Nat → AV) → List (Nat × Tree) → Prop) : Act → World → Prop := fun a w => a.defers = [] ∧ ∃ g H, K g H ∧ SimF cx n g H a.tmps w

theorem pyield_sound (hs : SimF cx n g H tmps w) (hd : dstOk cx.fix n o) {x : AV} (h : PYield P ops g H o x) {K : (Nat → AV) → List (Nat × Tree) → Prop} (hK : K (upd g o.dst x) H) {Q : Exit → Act → World → Prop} :
    if Region.wanted o (yielded ops tmps) then o.wp P ⟨tmps, []⟩ w (After cx n K) Q else After cx n K ((⟨tmps, []⟩ : Act).put o.dst undef) w := by
  obtain ⟨hsz, ι, F, ho, hr⟩ := hs
  obtain ⟨γ, v, hg, hv, rfl⟩ := h
  rw [wanted_gam hr hg]
  have hdst : ∀ d, o.dst = some d → d < tmps.size := fun d h => by rw [hsz.1]; exact (hd d h).2
  cases γ with
  | false =>
    simp only [Bool.false_eq_true, if_false]
    have hw : ∃ j, o.guard = some j := by
      unfold gam at hg
      split at hg
      · cases hg
      · exact ⟨_, by assumption⟩
    obtain ⟨j, hj⟩ := hw
    refine ⟨(put_size _ _).2, _, _, hK, put_fix hsz hd _, ι, F, ho, put_rep hr hdst ?_⟩
    simp [wrapG, hj, rep]
  | true =>
    simp only [if_true]
    have hwr : ∀ {m : Mem} {u : Value}, rep m v u → rep m (wrapG o true v) u := by
      intro m u hu
      unfold wrapG
      split
      · exact hu
      · simp [rep, hu]
    unfold Oper.wp
    rcases aval_sound (P := P) ho (ev_rep hr) hv with ⟨u, h1, h2⟩ | ⟨f, args, h1, h2⟩
    · rw [h1, Oper.upon_value]
      exact ⟨(put_size _ _).2, _, _, hK, put_fix hsz hd _, ι, F, ho, put_rep hr hdst (hwr h2)⟩
    · rw [h1, Oper.upon_enter]
      refine h2.mono fun e w' ⟨u, k1, k2, k3⟩ => ?_
      subst k1
      exact ⟨(put_size _ _).2, _, _, hK, put_fix hsz hd _, ι, F, ho.ext k2, put_rep (fun k => rep.le (mem_ext k2) _ _ (hr k)) hdst (hwr k3)⟩

theorem hstep_sound (hs : SimF cx n g H tmps w) (hd : dstOk cx.fix n o) {K : (Nat → AV) → List (Nat × Tree) → Prop} (h : HStep P g H o K) {Q : Exit → Act → World → Prop} :
    if Region.wanted o (yielded ops tmps) then o.wp P ⟨tmps, []⟩ w (After cx n K) Q else After cx n K ((⟨tmps, []⟩ : Act).put o.dst undef) w := by
  obtain ⟨hsz, ι, F, ho, hr⟩ := hs
  obtain ⟨hgd, hA⟩ := h
  have hdst : ∀ d, o.dst = some d → d < tmps.size := fun d h => by rw [hsz.1]; exact (hd d h).2
  rw [if_pos (by simp [Region.wanted, hgd])]
  obtain ⟨u, w', hrun, v, all, subs, H', ι', F', hK, ho', hv, htr⟩ := aheap_sound (P := P) ho (ev_rep hr) hA
  have hfin : After cx n K ((⟨tmps, []⟩ : Act).put o.dst u) w' :=
    ⟨(put_size _ _).2, _, _, hK, put_fix hsz hd _, ι', F', ho', put_rep (fun k => htr _ _ (hr k)) hdst hv⟩
  unfold Oper.wp
  rcases hrun with h1 | ⟨h1, rfl⟩
  · rw [h1, Oper.upon_value]; exact hfin
  · rw [h1, Oper.upon_skip]; exact hfin

end
end Go.Aw
