/-
  Regions: in the text's order, and in whatever order the tape picks. Of no program.
-/
import Derived.Test.YtomfedhhfcelkaaAwM
set_option linter.unusedSimpArgs false
set_option linter.unusedVariables false
namespace Go.Aw
open Go.RowKit

theorem evF_congr {g g' : Nat → AV} {x : Operand} (h : ∀ t, x = .tmp t → g t = g' t) : evF g x = evF g' x := by
  cases x with
  | tmp t => exact h t rfl
  | _ => rfl

theorem map_congr_ops {ρ ρ' : Operand → AV} {l : List Operand} (h : ∀ x ∈ l, ρ x = ρ' x) : l.map ρ = l.map ρ' := List.map_congr_left h

/-- What an operation yields depends on its operands alone. -/
theorem AVal_congr {P : Program} {H : List (Nat × Tree)} {γ : Bool} {ρ ρ' : Operand → AV} {op : Op} {v : AV} (h : ∀ x ∈ op.operands.toList, ρ x = ρ' x) (ha : AVal P H γ ρ op v) : AVal P H γ ρ' op v := by
  unfold AVal at ha ⊢
  split at ha <;> first | exact ha.elim | skip
  · rename_i x; rw [← h x (by simp [Op.operands])]; exact ha
  · rename_i x; rw [← h x (by simp [Op.operands])]; exact ha
  · rename_i c a b; rw [← h c (by simp [Op.operands]), ← h a (by simp [Op.operands]), ← h b (by simp [Op.operands])]; exact ha
  · rename_i t p; rw [← h p (by simp [Op.operands])]; exact ha
  · rename_i t x i; rw [← h x (by simp [Op.operands]), ← h i (by simp [Op.operands])]; exact ha
  · rename_i t p f; rw [← h p (by simp [Op.operands])]; exact ha
  · rename_i t x f; rw [← h x (by simp [Op.operands])]; exact ha
  · rename_i b t x y t'; rw [← h x (by simp [Op.operands]), ← h y (by simp [Op.operands])]; exact ha
  · rename_i u t x; rw [← h x (by simp [Op.operands])]; exact ha
  · rename_i s d x; rw [← h x (by simp [Op.operands])]; exact ha
  · rename_i x i; rw [← h x (by simp [Op.operands])]; exact ha
  · rename_i t x lo; rw [← h x (by simp [Op.operands]), ← h lo (by simp [Op.operands])]; exact ha
  · rename_i t x lo hi; rw [← h x (by simp [Op.operands]), ← h lo (by simp [Op.operands]), ← h hi (by simp [Op.operands])]; exact ha
  · rename_i t x hi; rw [← h x (by simp [Op.operands]), ← h hi (by simp [Op.operands])]; exact ha
  · rename_i f first caps
    have : caps.toList.map ρ = caps.toList.map ρ' := map_congr_ops fun x hx => h x (by simp only [Op.operands, Array.toList_append, List.mem_append]; exact .inr hx)
    rw [← this]; exact ha
  · rename_i b args ts
    have hx : ∀ x ∈ args.toList, ρ x = ρ' x := fun x hx => h x (by simp only [Op.operands, Call.operands, Array.toList_append, List.mem_append]; exact .inr hx)
    unfold ABuiltin at ha ⊢
    split at ha <;> first | exact ha.elim | skip
    · rename_i x t e1 e2
      rw [e1] at hx
      rw [← hx x (by simp)]; exact ha
    · rename_i x y t t' e1 e2
      rw [e1] at hx
      rw [← hx x (by simp), ← hx y (by simp)]; exact ha
    · rename_i x y t t' e1 e2
      rw [e1] at hx
      rw [← hx x (by simp), ← hx y (by simp)]; exact ha
  · rename_i f args ts
    have hx : args.toList.map ρ = args.toList.map ρ' := map_congr_ops fun x hx => h x (by simp only [Op.operands, Call.operands, Array.toList_append, List.mem_append]; exact .inr hx)
    rw [← h f (by simp [Op.operands, Call.operands]), ← hx]; exact ha

theorem gam_upd {ops : Array Oper} {g : Nat → AV} {o : Oper} {d : Option Nat} {y : AV} (h : ∀ t, d = some t → t ∉ o.looksAt ops) : gam ops (upd g d y) o = gam ops g o := by
  cases d with
  | none => rfl
  | some t =>
    have ht := h t rfl
    unfold gam
    cases hg : o.guard with
    | none => rfl
    | some jw =>
      obtain ⟨j, want⟩ := jw
      simp only
      cases hd : (ops[j]?).bind (·.dst) with
      | none => rfl
      | some d' =>
        have : t ≠ d' := fun e => ht (by
          subst e
          simp only [Oper.looksAt, hg, hd, List.mem_append]
          exact .inr (by simp))
        simp only [upd, if_neg this]

theorem PYield_upd {P : Program} {ops : Array Oper} {g : Nat → AV} {H : List (Nat × Tree)} {o : Oper} {d : Option Nat} {x y : AV} (h : ∀ t, d = some t → t ∉ o.looksAt ops) : PYield P ops (upd g d y) H o x ↔ PYield P ops g H o x := by
  have hev : ∀ z ∈ o.op.operands.toList, evF (upd g d y) z = evF g z := by
    intro z hz
    refine evF_congr fun t ht => ?_
    cases d with
    | none => rfl
    | some t' =>
      have : t' ≠ t := fun e => h t' rfl (by
        subst e; subst ht
        simp only [Oper.looksAt, List.mem_append, List.mem_filterMap]
        exact .inl ⟨.tmp t', hz, rfl⟩)
      simp only [upd, if_neg this]
  unfold PYield
  rw [gam_upd h]
  constructor
  · rintro ⟨γ, v, h1, h2, h3⟩; exact ⟨γ, v, h1, AVal_congr hev h2, h3⟩
  · rintro ⟨γ, v, h1, h2, h3⟩; exact ⟨γ, v, h1, AVal_congr (fun z hz => (hev z hz).symm) h2, h3⟩

theorem upd_comm {g : Nat → AV} {a b : Option Nat} {x y : AV} (h : ∀ d, a = some d → b ≠ some d) : upd (upd g a x) b y = upd (upd g b y) a x := by
  cases a with
  | none => rfl
  | some a =>
    cases b with
    | none => rfl
    | some b =>
      have hne : a ≠ b := fun e => h a rfl (by rw [e])
      funext k
      simp only [upd]
      by_cases h1 : a = k <;> by_cases h2 : b = k
      · exact absurd (h1.trans h2.symm) hne
      · simp only [if_pos h1, if_neg h2]
      · simp only [if_neg h1, if_pos h2]
      · simp only [if_neg h1, if_neg h2]

def pureOp : Op → Bool
  | .alloc _ | .box .. | .buildSlice .. | .makeSlice .. | .store .. => false
  | .call { callee := .builtin .len, .. } | .call { callee := .builtin .max, .. } | .call { callee := .builtin .min, .. } => true
  | .call { callee := .builtin _, .. } => false
  | _ => true

abbrev Post := (Nat → AV) → List (Nat × Tree) → Prop

/-- One operation: as its kind has it. -/
def aOper (P : Program) (ops : Array Oper) (fx n : Nat) (g : Nat → AV) (H : List (Nat × Tree)) (o : Oper) (K : Post) : Prop :=
  dstOk fx n o ∧ if pureOp o.op then ∃ x, PYield P ops g H o x ∧ K (upd g o.dst x) H else HStep P g H o K

def aRun (P : Program) (ops : Array Oper) (fx n : Nat) (Q : Post) : List Oper → Post
  | [], g, H => Q g H
  | o :: r, g, H => aOper P ops fx n g H o (aRun P ops fx n Q r)

def aAt (P : Program) (ops : Array Oper) (fx n : Nat) (i : Nat) (K : Post) : Post := fun g H =>
  match ops[i]? with
  | none => K g H
  | some o => aOper P ops fx n g H o K

def aAny (P : Program) (md : Region.Mode) (ops : Array Oper) (fx n : Nat) (Q : Post) : Nat → Array Bool → Post
  | 0, listed, g, H => Region.ready md ops listed = [] ∧ Q g H
  | fuel + 1, listed, g, H => (Region.ready md ops listed = [] → Q g H) ∧ ∀ i ∈ Region.ready md ops listed, aAt P ops fx n i (aAny P md ops fx n Q fuel (listed.setIfInBounds i true)) g H

section
variable {P : Program} {cx : Cx} {n : Nat} {ops : Array Oper} {md : Region.Mode}

theorem AHeapB_mono {H : List (Nat × Tree)} {ρ : Operand → AV} {b : Builtin} {args : List Operand} {ts : List TypeId} {K K' : AV → List Nat → List Nat → List (Nat × Tree) → Prop} (h : ∀ a b c d, K a b c d → K' a b c d) (hh : AHeapB P H ρ b args ts K) : AHeapB P H ρ b args ts K' := by
  unfold AHeapB AAppend AApp at *
  split at hh <;> first | exact hh.elim | skip
  obtain ⟨h0, hh⟩ := hh
  refine ⟨h0, ?_⟩
  split at hh <;> first | exact hh.elim | skip
  obtain ⟨h1, hh⟩ := hh
  refine ⟨h1, ?_⟩
  split at hh <;> first | exact hh.elim | skip
  split at hh
  · split at hh <;> first | exact hh.elim | (obtain ⟨k1, k2⟩ := hh; exact ⟨k1, h _ _ _ _ k2⟩)
  · split at hh
    · split at hh <;> first | exact hh.elim | (obtain ⟨k1, k2, k3⟩ := hh; exact ⟨k1, k2, h _ _ _ _ k3⟩)
    · split at hh <;> first | exact hh.elim | (obtain ⟨k1, k2, k3⟩ := hh; exact ⟨k1, k2, h _ _ _ _ k3⟩)
  · split at hh
    · split at hh <;> first | exact hh.elim | (obtain ⟨k1, k2, k3⟩ := hh; exact ⟨k1, k2, h _ _ _ _ k3⟩)
    · split at hh <;> first | exact hh.elim | (obtain ⟨k1, k2, k3⟩ := hh; exact ⟨k1, k2, h _ _ _ _ k3⟩)
  · split at hh <;> first | exact hh.elim | (obtain ⟨k1, k2⟩ := hh; exact ⟨k1, h _ _ _ _ k2⟩)
  · split at hh <;> first | exact hh.elim | (obtain ⟨k1, k2⟩ := hh; exact ⟨k1, h _ _ _ _ k2⟩)
  · split at hh <;> first | exact hh.elim | (obtain ⟨k1, k2, k3, k4⟩ := hh; exact ⟨k1, k2, k3, h _ _ _ _ k4⟩)
  · exact hh.elim

theorem AHeap_mono {H : List (Nat × Tree)} {ρ : Operand → AV} {op : Op} {K K' : AV → List Nat → List Nat → List (Nat × Tree) → Prop} (h : ∀ a b c d, K a b c d → K' a b c d) (hh : AHeap P H ρ op K) : AHeap P H ρ op K' := by
  unfold AHeap at *
  split at hh <;> first | exact hh.elim | skip
  · split at hh <;> first | exact hh.elim | exact h _ _ _ _ hh
  · split at hh <;> first | exact hh.elim | exact h _ _ _ _ hh
  · split at hh <;> first | exact hh.elim | skip
    obtain ⟨h1, h2, h3, h4, hh⟩ := hh
    refine ⟨h1, h2, h3, h4, ?_⟩
    unfold ABuild at *
    split at hh
    · split at hh <;> exact h _ _ _ _ hh
    · split at hh <;> first | exact hh.elim | exact h _ _ _ _ hh
    · split at hh
      · exact h _ _ _ _ hh
      · split at hh
        · exact h _ _ _ _ hh
        · split at hh
          · exact h _ _ _ _ hh
          · exact ⟨hh.1, h _ _ _ _ hh.2⟩
  · split at hh <;> first | exact hh.elim | skip
    obtain ⟨h1, h2, h3, hh⟩ := hh
    refine ⟨h1, h2, h3, ?_⟩
    unfold AMake at *
    obtain ⟨h4, h5, hh⟩ := hh
    refine ⟨h4, h5, ?_⟩
    split at hh
    · exact h _ _ _ _ hh
    · exact h _ _ _ _ hh
    · exact h _ _ _ _ hh
    · split at hh <;> first | exact hh.elim | exact h _ _ _ _ hh
  · unfold AStore at *
    split at hh <;> first | exact hh.elim | skip
    · split at hh <;> first | exact hh.elim | skip
      obtain ⟨h1, h2, h3, h4, h5, h6, hh⟩ := hh
      exact ⟨h1, h2, h3, h4, h5, h6, h _ _ _ _ hh⟩
    · split at hh <;> first | exact hh.elim | skip
      obtain ⟨h1, h2, h3, hh⟩ := hh
      exact ⟨h1, h2, h3, h _ _ _ _ hh⟩
    · obtain ⟨h1, hh⟩ := hh
      refine ⟨h1, ?_⟩
      split at hh <;> first | exact hh.elim | exact h _ _ _ _ hh | skip
      · split at hh <;> first | exact hh.elim | exact h _ _ _ _ hh
      · split at hh <;> first | exact hh.elim | exact h _ _ _ _ hh
      · split at hh <;> first | exact hh.elim | exact h _ _ _ _ hh
      · split at hh <;> first | exact hh.elim | exact h _ _ _ _ hh
      · split at hh <;> first | exact hh.elim | exact h _ _ _ _ hh
      · exact ⟨hh.1, h _ _ _ _ hh.2⟩
  · exact AHeapB_mono h hh

theorem aOper_mono {g : Nat → AV} {H : List (Nat × Tree)} {o : Oper} {K K' : Post} (h : ∀ g H, K g H → K' g H) (hh : aOper P ops cx.fix n g H o K) : aOper P ops cx.fix n g H o K' := by
  obtain ⟨h1, h2⟩ := hh
  refine ⟨h1, ?_⟩
  split
  · rename_i hp
    rw [if_pos hp] at h2
    obtain ⟨x, k1, k2⟩ := h2
    exact ⟨x, k1, h _ _ k2⟩
  · rename_i hp
    rw [if_neg hp] at h2
    exact ⟨h2.1, AHeap_mono (fun _ _ _ _ k => h _ _ k) h2.2⟩
theorem aAt_mono {i : Nat} {g : Nat → AV} {H : List (Nat × Tree)} {K K' : Post} (h : ∀ g H, K g H → K' g H) (hh : aAt P ops cx.fix n i K g H) : aAt P ops cx.fix n i K' g H := by
  unfold aAt at *
  split
  · rename_i ho; rw [ho] at hh; exact h _ _ hh
  · rename_i o ho; rw [ho] at hh; exact aOper_mono h hh

theorem aOper_sound {g : Nat → AV} {H : List (Nat × Tree)} {o : Oper} {K : Post} {tmps : Array Value} {w : World} (hs : SimF cx n g H tmps w) (h : aOper P ops cx.fix n g H o K) {Q : Exit → Act → World → Prop} :
    if Region.wanted o (yielded ops tmps) then o.wp P ⟨tmps, []⟩ w (After cx n K) Q else After cx n K ((⟨tmps, []⟩ : Act).put o.dst undef) w := by
  obtain ⟨h1, h2⟩ := h
  split at h2
  · obtain ⟨x, k1, k2⟩ := h2
    exact pyield_sound hs h1 k1 k2
  · exact hstep_sound hs h1 h2

theorem act_eta {a : Act} (h : a.defers = []) : a = ⟨a.tmps, []⟩ := by cases a; simp at h; subst h; rfl

theorem aRun_sound {Q : Post} {Q' : Exit → Act → World → Prop} (hQ : ∀ a w, After cx n Q a w → Q' .normal a w) : ∀ (l : List Oper) {g : Nat → AV} {H : List (Nat × Tree)} {tmps : Array Value} {w : World},
    SimF cx n g H tmps w → aRun P ops cx.fix n Q l g H → wpList P ops Q' l ⟨tmps, []⟩ w
  | [], g, H, tmps, w, hs, h => hQ _ _ ⟨rfl, g, H, h, hs⟩
  | o :: l, g, H, tmps, w, hs, h => by
    have := aOper_sound (Q := Q') hs h
    have next : ∀ a w, After cx n (aRun P ops cx.fix n Q l) a w → wpList P ops Q' l a w := by
      rintro a w ⟨hd, g', H', hK, hs'⟩
      rw [act_eta hd]
      exact aRun_sound hQ l hs' hK
    unfold wpList
    split
    · rename_i hw
      rw [if_pos hw] at this
      exact .inl (Oper.wp_mono next this)
    · rename_i hw
      rw [if_neg hw] at this
      exact next _ _ this

theorem aAny_sound {Q : Post} {Q' : Exit → Act → World → Prop} (hQ : ∀ a w, After cx n Q a w → Q' .normal a w) : ∀ (fuel : Nat) (listed : Array Bool) {g : Nat → AV} {H : List (Nat × Tree)} {tmps : Array Value} {w : World},
    SimF cx n g H tmps w → aAny P md ops cx.fix n Q fuel listed g H → wpAny P md ops Q' fuel listed ⟨tmps, []⟩ w
  | 0, _, g, H, _, _, hs, h => ⟨h.1, hQ _ _ ⟨rfl, g, H, h.2, hs⟩⟩
  | fuel + 1, listed, g, H, tmps, w, hs, h => by
    refine ⟨fun h0 => hQ _ _ ⟨rfl, g, H, h.1 h0, hs⟩, fun i hi => ?_⟩
    have hh := h.2 i hi
    have next : ∀ a w, After cx n (aAny P md ops cx.fix n Q fuel (listed.setIfInBounds i true)) a w → wpAny P md ops Q' fuel (listed.setIfInBounds i true) a w := by
      rintro a w ⟨hd, g', H', hK, hs'⟩
      rw [act_eta hd]
      exact aAny_sound hQ fuel _ hs' hK
    unfold aAt at hh
    unfold wpOp
    split
    · rename_i ho
      rw [ho] at hh
      exact next _ _ ⟨rfl, g, H, hh, hs⟩
    · rename_i o ho
      rw [ho] at hh
      have := aOper_sound (Q := Q') hs hh
      split
      · rename_i hw
        rw [if_pos hw] at this
        exact .inl (Oper.wp_mono next this)
      · rename_i hw
        rw [if_neg hw] at this
        exact next _ _ this

/-- A pure operation that may come up now may be taken first. -/
theorem aAny_first {Q : Post} {i : Nat} {oi : Oper} {x : AV} (hi : ops[i]? = some oi) (hp : pureOp oi.op = true) (hdst : dstOk cx.fix n oi) :
    ∀ (fuel : Nat) (listed : Array Bool) (g : Nat → AV) (H : List (Nat × Tree)),
      (∀ j oj, ops[j]? = some oj → j ≠ i → listed.getD j true = false → (∀ e ∈ oj.after, Region.binds md e = true → e.on ≠ i) → oi.apart ops oj = true ∧ pureOp oj.op = true) →
      i ∈ Region.ready md ops listed → PYield P ops g H oi x →
      aAny P md ops cx.fix n Q fuel (listed.setIfInBounds i true) (upd g oi.dst x) H → aAny P md ops cx.fix n Q (fuel + 1) listed g H := by
  intro fuel
  induction fuel with
  | zero =>
    intro listed g H _ hr hy hA
    refine ⟨fun h => (by rw [h] at hr; cases hr), fun j hj => ?_⟩
    by_cases hji : j = i
    · subst hji
      unfold aAt
      rw [hi]
      exact ⟨hdst, by rw [if_pos hp]; exact ⟨x, hy, hA⟩⟩
    · have := ready_mono hj hji
      rw [hA.1] at this
      cases this
  | succ fuel ih =>
    intro listed g H hfree hr hy hA
    refine ⟨fun h => (by rw [h] at hr; cases hr), fun j hj => ?_⟩
    by_cases hji : j = i
    · subst hji
      unfold aAt
      rw [hi]
      exact ⟨hdst, by rw [if_pos hp]; exact ⟨x, hy, hA⟩⟩
    · have h1 := hA.2 j (ready_mono hj hji)
      obtain ⟨hjun, oj, hoj, hall⟩ := mem_ready.1 hj
      have hnot : ∀ e ∈ oj.after, Region.binds md e = true → e.on ≠ i := fun e he hb heq => by
        have h1 := hall e he hb
        have h0 := (mem_ready.1 hr).1
        rw [heq] at h1
        rcases Nat.lt_or_ge i listed.size with h' | h'
        · simp [h'] at h0 h1; rw [h0] at h1; cases h1
        · simp [Array.getElem?_eq_none h'] at h1
      obtain ⟨hap, hpj⟩ := hfree j oj hoj hji hjun hnot
      obtain ⟨a1, a2, a3⟩ := Oper.apart_spec hap
      unfold aAt at h1 ⊢
      rw [hoj] at h1 ⊢
      obtain ⟨d1, d2⟩ := h1
      rw [if_pos hpj] at d2
      obtain ⟨y, hyj, hK⟩ := d2
      have hyj' : PYield P ops g H oj y := (PYield_upd a1).1 hyj
      refine ⟨d1, by
        rw [if_pos hpj]
        refine ⟨y, hyj', ih (listed.setIfInBounds j true) _ H ?_ (ready_mono hr (Ne.symm hji)) ((PYield_upd a3).2 hy) ?_⟩
        · intro k ok hk hki hun hno
          refine hfree k ok hk hki ?_ hno
          by_cases hjk : j = k
          · subst hjk; exact hjun
          · rw [getD_set_ne true hjk] at hun; exact hun
        · rw [Array.setIfInBounds_comm _ _ hji, ← upd_comm a2]
          exact hK⟩

/-- The text's order serves every order: the pure operations in it may be taken as they come; any other one is alone when it comes up. -/
def pureFree (md : Region.Mode) (ops : Array Oper) (listed : Array Bool) (i : Nat) : Bool :=
  (List.range ops.size).all fun j => match ops[j]? with
    | some oj => j == i || listed.getD j true || oj.after.any (fun e => Region.binds md e && e.on == i) || pureOp oj.op
    | none => true
def lexD (md : Region.Mode) (ops : Array Oper) : Nat → Nat → Array Bool → Bool
  | 0, _, listed => (Region.ready md ops listed).isEmpty
  | fuel + 1, k, listed =>
    (match ops[k]? with
      | some o => if pureOp o.op then (Region.ready md ops listed).contains k && Region.free md ops listed k && pureFree md ops listed k else Region.ready md ops listed == [k]
      | none => false) && lexD md ops fuel (k + 1) (listed.setIfInBounds k true)

theorem pureFree_spec {listed : Array Bool} {i : Nat} (h : pureFree md ops listed i = true) {j : Nat} {oj : Oper} (hj : ops[j]? = some oj) (hne : j ≠ i) (hun : listed.getD j true = false)
    (hno : ∀ e ∈ oj.after, Region.binds md e = true → e.on ≠ i) : pureOp oj.op = true := by
  unfold pureFree at h
  rw [List.all_eq_true] at h
  have hl : j < ops.size := (Array.getElem?_eq_some_iff.1 hj).1
  have := h j (List.mem_range.2 hl)
  rw [hj] at this
  simp only [Bool.or_eq_true, beq_iff_eq, Array.any_eq_true, Bool.and_eq_true] at this
  rcases this with ((h | h) | ⟨k, hk, h1, h2⟩) | h
  · exact absurd h hne
  · rw [hun] at h; cases h
  · exact absurd h2 (hno _ (Array.getElem_mem hk) h1)
  · exact h

theorem aAny_lex {Q : Post} : ∀ (l : List Oper) (k : Nat) (listed : Array Bool) (g : Nat → AV) (H : List (Nat × Tree)), (∀ j, l[j]? = ops[k + j]?) →
    lexD md ops l.length k listed = true → aRun P ops cx.fix n Q l g H → aAny P md ops cx.fix n Q l.length listed g H
  | [], _, _, _, _, _, hB, h => ⟨by simpa [lexD] using hB, h⟩
  | o :: l, k, listed, g, H, hl, hB, h => by
    have h0 : ops[k]? = some o := by simpa using (hl 0).symm
    have hl' : ∀ j, l[j]? = ops[k + 1 + j]? := fun j => by have := hl (j + 1); simpa [Nat.add_assoc, Nat.add_comm 1 j] using this
    simp only [List.length_cons, lexD, h0, Bool.and_eq_true] at hB
    obtain ⟨hB1, hB2⟩ := hB
    by_cases hp : pureOp o.op = true
    · rw [if_pos hp] at hB1
      simp only [Bool.and_eq_true] at hB1
      obtain ⟨⟨hr, hf⟩, hpf⟩ := hB1
      obtain ⟨d1, d2⟩ := h
      rw [if_pos hp] at d2
      obtain ⟨x, hy, hK⟩ := d2
      exact aAny_first h0 hp d1 l.length listed g H (fun j oj hj hne hun hno => ⟨Region.free_spec h0 hf j oj hj hne hun hno, pureFree_spec hpf hj hne hun hno⟩) (by simpa using hr) hy
        (aAny_lex l (k + 1) _ _ _ hl' hB2 hK)
    · rw [if_neg hp] at hB1
      have hr : Region.ready md ops listed = [k] := by simpa using hB1
      refine ⟨fun h => (by rw [h] at hr; cases hr), fun i hi => ?_⟩
      rw [hr] at hi
      simp only [List.mem_singleton] at hi
      subst hi
      unfold aAt
      rw [h0]
      exact aOper_mono (fun g' H' hK => aAny_lex l (i + 1) _ g' H' hl' hB2 hK) h

def drawOk (ops : Array Oper) : Bool := lexD .any ops ops.size 0 (Array.replicate ops.size false)

theorem region_draw {Q : Post} {Q' : Exit → Act → World → Prop} (hQ : ∀ a w, After cx n Q a w → Q' .normal a w) (hm : P.follows .mixedOrders = true) (hB : drawOk ops = true) {id : Nat} {g : Nat → AV} {H : List (Nat × Tree)} {tmps : Array Value} {w : World}
    (hs : SimF cx n g H tmps w) (h : aRun P ops cx.fix n Q ops.toList g H) : (Code.region id ops true).wp P Q' ⟨tmps, []⟩ w := by
  refine wp_region_any hm ?_
  have hs' : SimF cx n g H tmps { w with drawn := w.drawn + 1 } := by
    obtain ⟨h1, ι, F, h2, h3⟩ := hs
    have e : Ext w { w with drawn := w.drawn + 1 } := (Below.refl _ _).drew
    exact ⟨h1, ι, F, h2.ext e, fun k => rep.le (mem_ext e) _ _ (h3 k)⟩
  refine aAny_sound hQ _ _ hs' ?_
  have := aAny_lex (md := .any) ops.toList 0 (Array.replicate ops.size false) g H (by simp) (by simpa [drawOk] using hB) h
  simpa using this
theorem region_flat {Q : Post} {Q' : Exit → Act → World → Prop} (hQ : ∀ a w, After cx n Q a w → Q' .normal a w) {id : Nat} {g : Nat → AV} {H : List (Nat × Tree)} {tmps : Array Value} {w : World}
    (hs : SimF cx n g H tmps w) (h : aRun P ops cx.fix n Q ops.toList g H) : (Code.region id ops false).wp P Q' ⟨tmps, []⟩ w :=
  wp_region_list (aRun_sound hQ _ hs h)

end
end Go.Aw
