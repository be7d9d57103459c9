import Derived.Test.YtlngnhbochmcoaaKp2
import Derived.Test.YtlngnhbochmcoaaLib7
set_option linter.unusedSimpArgs false
set_option linter.unusedVariables false
namespace Go.Pl
open Go.Aw
noncomputable def aH7 (n : Nat) (p : Nat → Prop) : Nat := match n with
 | 0 => 0
 | n + 1 => aH7 n p ||| (if bd (p n) = true then 2 ^ n else 0)
theorem Rf_ {p : Nat → Prop} : ∀ {n i : Nat}, (aH7 n p).testBit i = true ↔ i < n ∧ p i
 | 0, i => by simp [aH7]
 | n + 1, i => by
  unfold aH7
  rw [Nat.testBit_or, Bool.or_eq_true, Rf_ (n := n)]
  have h2 : (if bd (p n) = true then 2 ^ n else 0 : Nat).testBit i = true ↔ i = n ∧ p n := by
   split
   ·rename_i h
    rw [Nat.testBit_two_pow, decide_eq_true_eq]
    exact ⟨fun e => ⟨e.symm, bd_iff.1 h⟩, fun e => e.1.symm⟩
   ·rename_i h
    exact ⟨fun e => by simp at e, fun e => absurd (zj_ e.2) h⟩
  rw [h2]
  constructor
  ·rintro (h | h)
   ·exact ⟨by omega, h.2⟩
   ·rw [h.1]; exact ⟨Nat.lt_succ_self n, h.2⟩
  ·intro h
   by_cases e : i = n
   ·exact .inr ⟨e, e ▸ h.2⟩
   ·exact .inl ⟨by omega, h.2⟩
theorem aH8 {n s i : Nat} (hs : s < 2 ^ n) (h : s.testBit i = true) : i < n := by
 refine Nat.lt_of_not_le fun hn => ?_
 rw [Nat.testBit_lt_two_pow (Nat.lt_of_lt_of_le hs (Nat.pow_le_pow_right (by decide) hn))] at h
 cases h
theorem ar2 {s u : Nat} (h : ∀ i, s.testBit i = true ↔ u.testBit i = true) : s = u := Nat.eq_of_testBit_eq fun i => by
 have := h i
 cases h1 : s.testBit i <;> cases h2 : u.testBit i <;> simp_all
theorem pow_bit {k i : Nat} : (2 ^ k : Nat).testBit i = true ↔ i = k := by
 rw [Nat.testBit_two_pow, decide_eq_true_eq]
 exact eq_comm
theorem or_bit {a b i : Nat} : (a ||| b).testBit i = true ↔ a.testBit i = true ∨ b.testBit i = true := by rw [Nat.testBit_or, Bool.or_eq_true]
theorem one_bit {i : Nat} : (1 : Nat).testBit i = true ↔ i = 0 := by
 have := @pow_bit 0 i
 simpa using this
theorem aH9 {n a b : Nat} (ha : a < 2 ^ n) (hb : b < 2 ^ n) : a ||| b < 2 ^ n := Nat.or_lt_two_pow ha hb
theorem aX8 {n k : Nat} (h : k < n) : 2 ^ k < 2 ^ n := Nat.pow_lt_pow_right (by decide) h
def lbl (n s : Nat) : List Nat := (List.range n).filter fun i => s.testBit i
theorem lbl_mem {n s i : Nat} : i ∈ lbl n s ↔ i < n ∧ s.testBit i = true := by simp [lbl]
theorem Sb_ {n s i : Nat} (h : i < n) (hs : s.testBit i = true) : ∃ a, a < (lbl n s).length ∧ (lbl n s).getD a 0 = i := by
 obtain ⟨a, ha, e⟩ := List.getElem_of_mem (lbl_mem.2 ⟨h, hs⟩)
 exact ⟨a, ha, by rw [List.getD_eq_getElem?_getD, List.getElem?_eq_getElem ha]; exact e⟩
end Go.Pl
namespace Go.Pl
open Go.Aw
def Oc (t : Cu) (i j k : Nat) : Prop := 0 < e3 t i j k
def dN (t : Cu) (i : Nat) : Nat := (dual t i).toNat
variable {t : Cu} {s : Nat}
theorem Sc_ {f : Nat → Int} : ∀ {n : Nat}, (∀ i, i < n → 0 ≤ f i) → (0 < sumTo f n ↔ ∃ i, i < n ∧ 0 < f i)
 | 0, _ => ⟨fun h => absurd h (by simp [sumTo]), fun ⟨i, h, _⟩ => absurd h (Nat.not_lt_zero i)⟩
 | n + 1, h => by
  have ih := Sc_ (f := f) (n := n) (fun i hi => h i (by omega))
  have hn := h n (Nat.lt_succ_self n)
  have h0 : 0 ≤ sumTo f n := by
   have := we_ (f := fun _ => 0) (g := f) (n := n) (fun i hi => h i (by omega))
   rw [sum_zero] at this
   exact this
  simp only [sumTo]
  constructor
  ·intro hp
   by_cases e : 0 < f n
   ·exact ⟨n, Nat.lt_succ_self n, e⟩
   ·obtain ⟨i, hi, hf⟩ := ih.1 (by omega)
    exact ⟨i, by omega, hf⟩
  ·rintro ⟨i, hi, hf⟩
   by_cases e : i = n
   ·subst e; omega
   ·have := ih.2 ⟨i, by omega, hf⟩; omega
theorem RingP.nn (h : RingP t) {i j k : Nat} (hi : i < t.length) (hj : j < t.length) (hk : k < t.length) : 0 ≤ e3 t i j k := (h.cube.inM hi hj hk).1
theorem RingP.dlt (h : RingP t) {i : Nat} (hi : i < t.length) : dN t i < t.length := by
 have := h.dual i hi
 unfold dN
 omega
theorem RingP.pos (h : RingP t) : 0 < t.length := h.cube.1
theorem RingP.oc_left (h : RingP t) {i k : Nat} (hi : i < t.length) (hk : k < t.length) : Oc t 0 i k ↔ k = i := by
 unfold Oc
 rw [h.left i hi k hk]
 unfold dl
 split <;> omega
theorem RingP.oc_right (h : RingP t) {i k : Nat} (hi : i < t.length) (hk : k < t.length) : Oc t i 0 k ↔ k = i := by
 unfold Oc
 rw [h.right i hi k hk]
 unfold dl
 split <;> omega
theorem RingP.oc_t1 (h : RingP t) {i j k : Nat} (hi : i < t.length) (hj : j < t.length) (hk : k < t.length) : Oc t i j k ↔ Oc t (dN t i) k j := by
 unfold Oc
 rw [h.turn i hi j hj k hk]
 rfl
theorem RingP.oc_t2 (h : RingP t) {i j k : Nat} (hi : i < t.length) (hj : j < t.length) (hk : k < t.length) : Oc t i j k ↔ Oc t k (dN t j) i := by
 unfold Oc
 rw [h.turn2 i hi j hj k hk]
 rfl
theorem RingP.oc_zero (h : RingP t) {i j : Nat} (hi : i < t.length) (hj : j < t.length) : Oc t i j 0 ↔ j = dN t i := by
 rw [h.oc_t1 hi hj h.pos, h.oc_right (h.dlt hi) hj]
theorem RingP.oc_dual (h : RingP t) {i : Nat} (hi : i < t.length) : Oc t i (dN t i) 0 := (h.oc_zero hi (h.dlt hi)).2 rfl
theorem RingP.d0 (h : RingP t) : dN t 0 = 0 := by
 have h1 := h.oc_dual h.pos
 exact ((h.oc_left (h.dlt h.pos) h.pos).1 h1).symm
theorem RingP.oc_assoc (h : RingP t) {i j k l : Nat} (hi : i < t.length) (hj : j < t.length) (hk : k < t.length) (hl : l < t.length) :
  (∃ m, m < t.length ∧ Oc t i j m ∧ Oc t m k l) ↔ ∃ m, m < t.length ∧ Oc t j k m ∧ Oc t i m l := by
 have key : ∀ {a b : Int}, 0 ≤ a → 0 ≤ b → (0 < a * b ↔ 0 < a ∧ 0 < b) := fun {a b} ha hb => by
  constructor
  ·intro hp
   constructor
   ·by_cases e : a = 0
    ·rw [e, Int.zero_mul] at hp; omega
    ·omega
   ·by_cases e : b = 0
    ·rw [e, Int.mul_zero] at hp; omega
    ·omega
  ·exact fun hp => Int.mul_pos hp.1 hp.2
 have hL : 0 < sumTo (brL t i j k l) t.length ↔ ∃ m, m < t.length ∧ Oc t i j m ∧ Oc t m k l := by
  rw [Sc_ (f := brL t i j k l) (fun m hm => Int.mul_nonneg (h.nn hi hj hm) (h.nn hm hk hl))]
  exact ⟨fun ⟨m, hm, hp⟩ => ⟨m, hm, (key (h.nn hi hj hm) (h.nn hm hk hl)).1 hp⟩, fun ⟨m, hm, hp⟩ => ⟨m, hm, (key (h.nn hi hj hm) (h.nn hm hk hl)).2 hp⟩⟩
 have hR : 0 < sumTo (brR t i j k l) t.length ↔ ∃ m, m < t.length ∧ Oc t j k m ∧ Oc t i m l := by
  rw [Sc_ (f := brR t i j k l) (fun m hm => Int.mul_nonneg (h.nn hj hk hm) (h.nn hi hm hl))]
  exact ⟨fun ⟨m, hm, hp⟩ => ⟨m, hm, (key (h.nn hj hk hm) (h.nn hi hm hl)).1 hp⟩, fun ⟨m, hm, hp⟩ => ⟨m, hm, (key (h.nn hj hk hm) (h.nn hi hm hl)).2 hp⟩⟩
 rw [← hL, ← hR, h.brack i hi j hj k hk l hl]
structure ClosP (t : Cu) (s : Nat) : Prop where
 lt : s < 2 ^ t.length
 zero : s.testBit 0 = true
 dual : ∀ i, i < t.length → s.testBit i = true → s.testBit (dN t i) = true
 mul : ∀ i, i < t.length → ∀ j, j < t.length → ∀ k, k < t.length → s.testBit i = true → s.testBit j = true → Oc t i j k → s.testBit k = true
def Sub (s u : Nat) : Prop := ∀ i, s.testBit i = true → u.testBit i = true
theorem Sub.refl (s : Nat) : Sub s s := fun _ h => h
theorem Sub.trans {a b c : Nat} (h : Sub a b) (k : Sub b c) : Sub a c := fun i hi => k i (h i hi)
theorem Sub.anti {a b : Nat} (h : Sub a b) (k : Sub b a) : a = b := ar2 fun i => ⟨h i, k i⟩
def SpP (t : Cu) (s k : Nat) : Prop := s.testBit k = true ∨ k = 0 ∨ ∃ i, i < t.length ∧ s.testBit i = true ∧ (dN t i = k ∨ ∃ j, j < t.length ∧ s.testBit j = true ∧ Oc t i j k)
noncomputable def spr (t : Cu) (s : Nat) : Nat := aH7 t.length (SpP t s)
theorem spr_bit {k : Nat} : (spr t s).testBit k = true ↔ k < t.length ∧ SpP t s k := Rf_
noncomputable def clo (t : Cu) (s : Nat) : Nat := aH7 t.length fun k => ∀ C, ClosP t C → Sub s C → C.testBit k = true
end Go.Pl
namespace Go.Pl
open Go.Aw
variable {t : Cu} {s : Nat}
noncomputable def adU (t : Cu) : Nat := aH7 t.length fun k => ∃ i, i < t.length ∧ Oc t i (dN t i) k
noncomputable def adj (t : Cu) : Nat := clo t (adU t)
structure EqR (n : Nat) (R : Nat → Nat → Prop) : Prop where
 refl : ∀ i, i < n → R i i
 symm : ∀ i, i < n → ∀ j, j < n → R i j → R j i
 trans : ∀ i, i < n → ∀ j, j < n → ∀ k, k < n → R i j → R j k → R i k
noncomputable def rp (R : Nat → Nat → Prop) (j : Nat) : Nat := ((List.range j).find? fun i => bd (R i j)).getD j
theorem find_range {p : Nat → Bool} {j : Nat} : (∃ i, (List.range j).find? p = some i ∧ i < j ∧ p i = true ∧ ∀ a, a < i → p a = false) ∨ ((List.range j).find? p = none ∧ ∀ a, a < j → p a = false) := by
 cases e : (List.range j).find? p with
 | none =>
  refine .inr ⟨rfl, fun a ha => ?_⟩
  have := List.find?_eq_none.1 e a (by simpa using ha)
  simpa using this
 | some i =>
  obtain ⟨h1, as, bs, h2, h3⟩ := List.find?_eq_some_iff_append.1 e
  refine .inl ⟨i, rfl, ?_, h1, fun a ha => ?_⟩
  ·have : i ∈ List.range j := by rw [h2]; simp
   simpa using this
  ·have hlen : as.length = i := by
    have h4 : (List.range j)[as.length]? = some i := by rw [h2]; simp
    have h5 : as.length < j := by
     have := congrArg List.length h2
     simp at this
     omega
    rw [List.getElem?_range h5] at h4
    exact Option.some.inj h4
   have : a ∈ as := by
    have h4 : (List.range j)[a]? = some a := List.getElem?_range (by
     have := congrArg List.length h2
     simp at this
     omega)
    rw [h2, List.getElem?_append_left (by omega)] at h4
    exact List.mem_of_getElem? h4
   have := h3 a this
   simpa using this
variable {R : Nat → Nat → Prop} {n : Nat}
theorem VV_ (j : Nat) : (rp R j < j ∧ R (rp R j) j ∧ ∀ a, a < rp R j → ¬ R a j) ∨ (rp R j = j ∧ ∀ a, a < j → ¬ R a j) := by
 unfold rp
 rcases find_range (p := fun i => bd (R i j)) (j := j) with ⟨i, e, h1, h2, h3⟩ | ⟨e, h⟩
 ·rw [e]
  exact .inl ⟨h1, bd_iff.1 h2, fun a ha hr => by have := h3 a ha; simp only [zj_ hr] at this; cases this⟩
 ·rw [e]
  exact .inr ⟨rfl, fun a ha hr => by have := h a ha; simp only [zj_ hr] at this; cases this⟩
theorem J0_ (j : Nat) : rp R j ≤ j := by rcases VV_ (R := R) j with h | h <;> omega
theorem av5 {i j : Nat} (h : R i j) : rp R j ≤ i := by
 rcases VV_ (R := R) j with h1 | h1
 ·exact Nat.le_of_not_lt fun hh => h1.2.2 i hh h
 ·exact Nat.le_of_not_lt fun hh => h1.2 i (by omega) h
theorem EqR.rp (h : EqR n R) {j : Nat} (hj : j < n) : R (rp R j) j := by
 rcases VV_ (R := R) j with h1 | h1
 ·exact h1.2.1
 ·rw [h1.1]; exact h.refl j hj
theorem EqR.rp_eq (h : EqR n R) {i j : Nat} (hi : i < n) (hj : j < n) : Pl.rp R i = Pl.rp R j ↔ R i j := by
 have hli := J0_ (R := R) i
 have hlj := J0_ (R := R) j
 constructor
 ·intro e
  have h1 := h.rp hi
  rw [e] at h1
  exact h.trans i hi _ (by omega) j hj (h.symm _ (by omega) i hi h1) (h.rp hj)
 ·intro hr
  have h1 := av5 (h.trans _ (by omega) i hi j hj (h.rp hi) hr)
  have h2 := av5 (h.trans _ (by omega) j hj i hi (h.rp hj) (h.symm i hi j hj hr))
  omega
theorem EqR.rp_rp (h : EqR n R) {j : Nat} (hj : j < n) : Pl.rp R (Pl.rp R j) = Pl.rp R j := by
 have hlj := J0_ (R := R) j
 exact (h.rp_eq (by omega) hj).2 (h.rp hj)
noncomputable def cnt (R : Nat → Nat → Prop) : Nat → Nat
 | 0 => 0
 | m + 1 => cnt R m + if rp R m = m then 1 else 0
noncomputable def num (R : Nat → Nat → Prop) (j : Nat) : Nat := cnt R (rp R j)
noncomputable def cg6 (n : Nat) (R : Nat → Nat → Prop) : List Int := xU_ n fun j => (num R j : Int)
def CoR (t : Cu) (s i j : Nat) : Prop := ∃ k, k < t.length ∧ s.testBit k = true ∧ Oc t i k j
theorem J1_ (h : RingP t) (hs : ClosP t s) : EqR t.length (CoR t s) where
 refl := fun i hi => ⟨0, h.pos, hs.zero, (h.oc_right hi hi).2 rfl⟩
 symm := fun i hi j hj ⟨k, hk, hb, ho⟩ => ⟨dN t k, h.dlt hk, hs.dual k hk hb, (h.oc_t2 hi hk hj).1 ho⟩
 trans := fun i hi j hj l hl ⟨k, hk, hb, ho⟩ ⟨m, hm, hb2, ho2⟩ => by
  obtain ⟨p, hp, h1, h2⟩ := (h.oc_assoc hi hk hm hl).1 ⟨j, hj, ho, ho2⟩
  exact ⟨p, hp, hs.mul k hk m hm p hp hb hb2 h1, h2⟩
end Go.Pl
namespace Go.Pl
open Go.Aw
variable {t : Cu} {s : Nat}
theorem av6 {o : Nat} (hs : s < 2 ^ t.length) (h1 : o < 2 ^ t.length) (hso : Sub s o) (h0 : o.testBit 0 = true) (hsound : ∀ x, o.testBit x = true → SpP t s x)
  (hd : ∀ i, i < t.length → s.testBit i = true → o.testBit (dN t i) = true) (hm : ∀ i, i < t.length → ∀ j, j < t.length → ∀ k, k < t.length → s.testBit i = true → s.testBit j = true → Oc t i j k → o.testBit k = true) : o = spr t s := by
 refine Sub.anti (fun x hx => spr_bit.2 ⟨aH8 h1 hx, hsound x hx⟩) fun x hx => ?_
 obtain ⟨hk, hp | rfl | ⟨i, hi, hb, rfl | ⟨j, hj, hb2, ho⟩⟩⟩ := spr_bit.1 hx
 ·exact hso x hp
 ·exact h0
 ·exact hd i hi hb
 ·exact hm i hi j hj x hk hb hb2 ho
structure Cm (t : Cu) (s o i j k : Nat) : Prop where
 lt : o < 2 ^ t.length
 sub : Sub s o
 zero : o.testBit 0 = true
 sound : ∀ x, o.testBit x = true → SpP t s x
 dual : ∀ a, a < t.length → a < i → s.testBit a = true → o.testBit (dN t a) = true
 mul : ∀ a, a < t.length → ∀ b, b < t.length → ∀ c, c < t.length → s.testBit a = true → s.testBit b = true → Oc t a b c → (a < i ∨ a = i ∧ (b < j ∨ b = j ∧ c < k)) → o.testBit c = true
theorem Cm.start (hs : s < 2 ^ t.length) (hn : 0 < t.length) : Cm t s (s ||| 1) 0 0 0 where
 lt := aH9 hs (by have := Nat.pow_lt_pow_right (show 1 < 2 by decide) hn; simpa using this)
 sub := fun i h => or_bit.2 (.inl h)
 zero := or_bit.2 (.inr (by decide))
 sound := fun x hx => (or_bit.1 hx).elim .inl fun h => .inr (.inl (one_bit.1 h))
 dual := fun a _ h => absurd h (Nat.not_lt_zero a)
 mul := fun a _ b _ c _ _ _ _ h => by omega
theorem Cm.add {o i j k x : Nat} (h : Cm t s o i j k) (hx : x < t.length) (hp : SpP t s x) : Cm t s (o ||| 2 ^ x) i j k where
 lt := aH9 h.lt (aX8 hx)
 sub := fun i hi => or_bit.2 (.inl (h.sub i hi))
 zero := or_bit.2 (.inl h.zero)
 sound := fun y hy => (or_bit.1 hy).elim (h.sound y) fun e => by rw [pow_bit.1 e]; exact hp
 dual := fun a ha h1 h2 => or_bit.2 (.inl (h.dual a ha h1 h2))
 mul := fun a ha b hb c hc h1 h2 h3 h4 => or_bit.2 (.inl (h.mul a ha b hb c hc h1 h2 h3 h4))
theorem Cm.fin {o : Nat} (hs : s < 2 ^ t.length) (h : Cm t s o t.length 0 0) : o = spr t s :=
 av6 hs h.lt h.sub h.zero h.sound (fun i hi => h.dual i hi hi) fun i hi j hj k hk h1 h2 h3 => h.mul i hi j hj k hk h1 h2 h3 (.inl hi)
end Go.Pl
