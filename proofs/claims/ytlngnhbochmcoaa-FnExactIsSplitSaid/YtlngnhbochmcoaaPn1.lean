import Derived.Test.YtlngnhbochmcoaaVx1
set_option linter.unusedSimpArgs false
set_option linter.unusedVariables false
namespace Go.Pl
section
variable {R : Type} [Lean.Grind.CommRing R]
def sm : Nat → (Nat → R) → R
 | 0, _ => 0
 | n + 1, f => sm n f + f n
theorem yq_ (f : Nat → R) : sm 0 f = 0 := rfl
theorem xQ_ (n : Nat) (f : Nat → R) : sm (n + 1) f = sm n f + f n := rfl
theorem xm_ {n : Nat} {f g : Nat → R} (h : ∀ i, i < n → f i = g i) : sm n f = sm n g := by
 induction n with
 | zero => rfl
 | succ n ih => rw [xQ_, xQ_, ih fun i hi => h i (by omega), h n (by omega)]
theorem yi_ {n : Nat} {f : Nat → R} (h : ∀ i, i < n → f i = 0) : sm n f = 0 := by
 induction n with
 | zero => rfl
 | succ n ih => rw [xQ_, ih fun i hi => h i (by omega), h n (by omega)]; grind
theorem wv_ (n : Nat) (f g : Nat → R) : sm n (fun i => f i + g i) = sm n f + sm n g := by
 induction n with
 | zero => rw [yq_, yq_, yq_]; grind
 | succ n ih => rw [xQ_, xQ_, xQ_, ih]; grind
theorem yA_ (n : Nat) (c : R) (f : Nat → R) : sm n (fun i => c * f i) = c * sm n f := by
 induction n with
 | zero => rw [yq_, yq_]; grind
 | succ n ih => rw [xQ_, xQ_, ih]; grind
theorem z8_ (n : Nat) (c : R) (f : Nat → R) : sm n (fun i => f i * c) = sm n f * c := by
 induction n with
 | zero => rw [yq_, yq_]; grind
 | succ n ih => rw [xQ_, xQ_, ih]; grind
theorem z9_ (n m : Nat) (f : Nat → Nat → R) : sm n (fun i => sm m fun j => f i j) = sm m fun j => sm n fun i => f i j := by
 induction n with
 | zero => rw [yq_, yi_ fun j _ => yq_ _]
 | succ n ih => rw [xQ_, ih, ← wv_]; rfl
theorem zS_ {n k : Nat} (hk : k < n) (f : Nat → R) : sm n (fun i => if i = k then f i else 0) = f k := by
 induction n with
 | zero => omega
 | succ n ih =>
  rw [xQ_]
  by_cases c : n = k
  ·subst c
   rw [if_pos rfl, yi_ fun i hi => if_neg (by omega)]; grind
  ·rw [if_neg c, ih (by omega)]; grind
theorem ww_ (m n : Nat) (f : Nat → R) : sm (m + n) f = sm m f + sm n fun i => f (m + i) := by
 induction n with
 | zero => rw [yq_, Nat.add_zero]; grind
 | succ n ih => rw [← Nat.add_assoc, xQ_, ih, xQ_]; grind
theorem Wg_ (n : Nat) (f : Nat → R) : sm (n + 1) f = f 0 + sm n fun i => f (i + 1) := by
 induction n with
 | zero => rw [xQ_, yq_, yq_]; grind
 | succ n ih => rw [xQ_, ih, xQ_]; grind
theorem J4_ (n : Nat) (f : Nat → R) : sm n (fun i => f (n - 1 - i)) = sm n f := by
 induction n with
 | zero => rfl
 | succ n ih =>
  rw [Wg_, xQ_, ← ih, Nat.add_sub_cancel, Nat.sub_zero]
  rw [xm_ (n := n) (f := fun i => f (n - (i + 1))) (g := fun i => f (n - 1 - i)) fun i _ => by rw [Nat.sub_sub, Nat.add_comm 1 i]]
  grind
theorem av7 (k : Nat) (F : Nat → Nat → R) : sm k (fun i => sm (i + 1) fun j => F i j) = sm k fun j => sm (k - j) fun l => F (j + l) j := by
 induction k with
 | zero => rfl
 | succ k ih =>
  rw [xQ_, ih, xQ_ k (fun j => sm (k + 1 - j) fun l => F (j + l) j), xQ_ k (fun j => F k j)]
  have e : sm k (fun j => sm (k + 1 - j) fun l => F (j + l) j) = sm k (fun j => sm (k - j) (fun l => F (j + l) j) + F k j) := xm_ fun j hj => by
   rw [show k + 1 - j = (k - j) + 1 by omega, xQ_, show j + (k - j) = k by omega]
  rw [e, wv_, show k + 1 - k = 0 + 1 by omega, xQ_, yq_, Nat.add_zero]
  grind
def mm (n : Nat) (A B : Nat → Nat → R) : Nat → Nat → R := fun i j => sm n fun k => A i k * B k j
def one1 : Nat → Nat → R := fun i j => if i = j then 1 else 0
def pwM (n : Nat) (A : Nat → Nat → R) : Nat → Nat → Nat → R
 | 0 => one1
 | k + 1 => mm n A (pwM n A k)
def tr (n : Nat) (A : Nat → Nat → R) : R := sm n fun i => A i i
def Eqn (n : Nat) (A B : Nat → Nat → R) : Prop := ∀ i, i < n → ∀ j, j < n → A i j = B i j
omit [Lean.Grind.CommRing R] in
theorem Eqn.symm {n : Nat} {A B : Nat → Nat → R} (h : Eqn n A B) : Eqn n B A := fun i hi j hj => (h i hi j hj).symm
omit [Lean.Grind.CommRing R] in
theorem Eqn.trans {n : Nat} {A B C : Nat → Nat → R} (h : Eqn n A B) (k : Eqn n B C) : Eqn n A C := fun i hi j hj => (h i hi j hj).trans (k i hi j hj)
omit [Lean.Grind.CommRing R] in
theorem Eqn.rfl {n : Nat} {A : Nat → Nat → R} : Eqn n A A := fun _ _ _ _ => Eq.refl _
theorem yv_ {n : Nat} {A B A' B' : Nat → Nat → R} (h : Eqn n A A') (k : Eqn n B B') : Eqn n (mm n A B) (mm n A' B') := fun i hi j hj => xm_ fun l hl => by rw [h i hi l hl, k l hl j hj]
theorem yP_ (n : Nat) (A B C : Nat → Nat → R) : mm n (mm n A B) C = mm n A (mm n B C) := by
 funext i j
 show sm n (fun k => (sm n fun l => A i l * B l k) * C k j) = sm n fun l => A i l * sm n fun k => B l k * C k j
 rw [xm_ (g := fun k => sm n fun l => A i l * B l k * C k j) fun k _ => by rw [← z8_]]
 rw [z9_]
 exact xm_ fun l _ => by rw [← yA_]; exact xm_ fun k _ => by grind
theorem W6_ (n : Nat) (A : Nat → Nat → R) : Eqn n (mm n A one1) A := fun i _ j hj => by
 show sm n (fun k => A i k * one1 k j) = _
 rw [← zS_ hj (fun k => A i k)]
 refine xm_ fun k _ => ?_
 unfold one1
 split <;> grind
theorem Td_ (n : Nat) (A : Nat → Nat → R) : Eqn n (mm n one1 A) A := fun i hi j _ => by
 show sm n (fun k => one1 i k * A k j) = _
 rw [← zS_ hi (fun k => A k j)]
 refine xm_ fun k _ => ?_
 unfold one1
 by_cases c : i = k
 ·rw [if_pos c, if_pos c.symm]; grind
 ·rw [if_neg c, if_neg (Ne.symm c)]; grind
theorem Zf_ {n : Nat} {A B : Nat → Nat → R} (h : Eqn n A B) : tr n A = tr n B := xm_ fun i hi => h i hi i hi
theorem aI0 (n : Nat) (A B : Nat → Nat → R) : tr n (mm n A B) = tr n (mm n B A) := by
 show sm n (fun i => sm n fun k => A i k * B k i) = sm n fun i => sm n fun k => B i k * A k i
 rw [z9_]
 exact xm_ fun i _ => xm_ fun k _ => by grind
def SimM (n : Nat) (A B : Nat → Nat → R) : Prop := ∃ P Q : Nat → Nat → R, Eqn n (mm n Q P) one1 ∧ Eqn n (mm n P Q) one1 ∧ Eqn n (mm n Q A) (mm n B Q)
theorem SimM.refl (n : Nat) (A : Nat → Nat → R) : SimM n A A := ⟨one1, one1, W6_ n _, W6_ n _, (Td_ n A).trans (W6_ n A).symm⟩
theorem SimM.congr {n : Nat} {A A' B B' : Nat → Nat → R} (h : SimM n A B) (ha : Eqn n A A') (hb : Eqn n B B') : SimM n A' B' := by
 obtain ⟨P, Q, h1, h2, h3⟩ := h
 exact ⟨P, Q, h1, h2, (yv_ Eqn.rfl ha.symm).trans (h3.trans (yv_ hb Eqn.rfl))⟩
theorem SimM.trans {n : Nat} {A B C : Nat → Nat → R} (h : SimM n A B) (k : SimM n B C) : SimM n A C := by
 obtain ⟨P, Q, h1, h2, h3⟩ := h
 obtain ⟨P', Q', k1, k2, k3⟩ := k
 refine ⟨mm n P P', mm n Q' Q, ?_, ?_, ?_⟩
 ·rw [yP_, ← yP_ n Q P P']
  exact (yv_ Eqn.rfl ((yv_ h1 Eqn.rfl).trans (Td_ n _))).trans k1
 ·rw [yP_, ← yP_ n P' Q' Q]
  exact (yv_ Eqn.rfl ((yv_ k2 Eqn.rfl).trans (Td_ n _))).trans h2
 ·rw [yP_]
  refine (yv_ Eqn.rfl h3).trans ?_
  rw [← yP_, ← yP_]
  exact yv_ k3 Eqn.rfl
theorem SimM.of {n : Nat} {A P Q : Nat → Nat → R} (h1 : Eqn n (mm n Q P) one1) (h2 : Eqn n (mm n P Q) one1) : SimM n A (mm n (mm n Q A) P) :=
 ⟨P, Q, h1, h2, by rw [yP_ _ (mm n Q A)]; exact (W6_ n _).symm.trans (yv_ Eqn.rfl h2.symm)⟩
theorem av8 {n : Nat} {A B Q : Nat → Nat → R} (h : Eqn n (mm n Q A) (mm n B Q)) : ∀ k, Eqn n (mm n Q (pwM n A k)) (mm n (pwM n B k) Q)
 | 0 => (W6_ n Q).trans (Td_ n Q).symm
 | k + 1 => by
  show Eqn n (mm n Q (mm n A (pwM n A k))) (mm n (mm n B (pwM n B k)) Q)
  rw [← yP_, yP_ n B]
  refine (yv_ h Eqn.rfl).trans ?_
  rw [yP_]
  exact yv_ Eqn.rfl (av8 h k)
theorem SimM.trace {n : Nat} {A B : Nat → Nat → R} (h : SimM n A B) (k : Nat) : tr n (pwM n A k) = tr n (pwM n B k) := by
 obtain ⟨P, Q, h1, h2, h3⟩ := h
 have e := av8 h3 k
 have a : tr n (mm n (mm n Q (pwM n A k)) P) = tr n (pwM n A k) := by
  rw [aI0, ← yP_]
  exact Zf_ ((yv_ h2 Eqn.rfl).trans (Td_ n _))
 have b : tr n (mm n (mm n (pwM n B k) Q) P) = tr n (pwM n B k) := by
  rw [yP_]
  exact Zf_ ((yv_ Eqn.rfl h1).trans (W6_ n _))
 rw [← a, ← b]
 exact Zf_ (yv_ e Eqn.rfl)
def Eig (n : Nat) (A : Nat → Nat → R) (z : R) : Prop := ∃ v : Nat → R, (∃ i, i < n ∧ v i ≠ 0) ∧ ∀ i, i < n → sm n (fun j => A i j * v j) = z * v i
def mv (n : Nat) (A : Nat → Nat → R) (v : Nat → R) : Nat → R := fun i => sm n fun j => A i j * v j
theorem aI1 (n : Nat) (A B : Nat → Nat → R) (v : Nat → R) : mv n (mm n A B) v = mv n A (mv n B v) := by
 funext i
 show sm n (fun j => (sm n fun l => A i l * B l j) * v j) = sm n fun l => A i l * sm n fun j => B l j * v j
 rw [xm_ (g := fun k => sm n fun l => A i l * B l k * v k) fun k _ => by rw [← z8_]]
 rw [z9_]
 exact xm_ fun l _ => by rw [← yA_]; exact xm_ fun k _ => by grind
theorem Rg_ {n : Nat} {A B : Nat → Nat → R} {v w : Nat → R} (h : Eqn n A B) (k : ∀ i, i < n → v i = w i) {i : Nat} (hi : i < n) : mv n A v i = mv n B w i := xm_ fun j hj => by rw [h i hi j hj, k j hj]
theorem aX9 {n : Nat} {v : Nat → R} {i : Nat} (hi : i < n) : mv n one1 v i = v i := by
 show sm n (fun j => one1 i j * v j) = v i
 rw [← zS_ hi v]
 refine xm_ fun j _ => ?_
 unfold one1
 by_cases c : i = j
 ·rw [if_pos c, if_pos c.symm]; grind
 ·rw [if_neg c, if_neg (Ne.symm c)]; grind
theorem SimM.eig {n : Nat} {A B : Nat → Nat → R} (h : SimM n A B) {z : R} (he : Eig n A z) : Eig n B z := by
 obtain ⟨P, Q, h1, h2, h3⟩ := h
 obtain ⟨v, ⟨i0, hi0, hv⟩, he⟩ := he
 refine ⟨mv n Q v, ?_, fun i hi => ?_⟩
 ·refine Classical.byContradiction fun hn => hv ?_
  have h0 : ∀ i, i < n → mv n Q v i = 0 := fun i hi => Classical.byContradiction fun hc => hn ⟨i, hi, hc⟩
  rw [← aX9 (v := v) hi0, Rg_ h2.symm (fun _ _ => rfl) hi0, aI1]
  exact yi_ fun j hj => by rw [h0 j hj]; grind
 ·show mv n B (mv n Q v) i = z * mv n Q v i
  rw [← aI1, Rg_ h3.symm (fun _ _ => rfl) hi, aI1]
  show sm n (fun j => Q i j * mv n A v j) = z * sm n fun j => Q i j * v j
  rw [← yA_]
  exact xm_ fun j hj => by rw [show mv n A v j = z * v j from he j hj]; grind
end
end Go.Pl
namespace Go.Pl
section
variable {R : Type} [Lean.Grind.CommRing R]
def cv (f g : Nat → R) (k : Nat) : R := sm (k + 1) fun i => f i * g (k - i)
theorem VW_ (f g : Nat → R) (k : Nat) : cv f g k = cv g f k := by
 unfold cv
 rw [← J4_]
 refine xm_ fun i hi => ?_
 rw [show k + 1 - 1 - i = k - i by omega, show k - (k - i) = i by omega]
 grind
theorem VX_ {f f' g g' : Nat → R} (h : ∀ i, f i = f' i) (h' : ∀ i, g i = g' i) (k : Nat) : cv f g k = cv f' g' k := xm_ fun i _ => by rw [h, h']
theorem J5_ (f g g' : Nat → R) (k : Nat) : cv f (fun i => g i + g' i) k = cv f g k + cv f g' k := by
 unfold cv
 rw [← wv_]
 exact xm_ fun i _ => by grind
theorem Rh_ (f g h : Nat → R) (k : Nat) : cv (cv f g) h k = cv f (cv g h) k := by
 unfold cv
 rw [xm_ (g := fun i => sm (i + 1) fun j => f j * g (i - j) * h (k - i)) fun i _ => by rw [← z8_]]
 rw [av7]
 refine xm_ fun j hj => ?_
 rw [← yA_, show k + 1 - j = k - j + 1 by omega]
 refine xm_ fun l hl => ?_
 rw [show j + l - j = l by omega, show k - (j + l) = k - j - l by omega]
 grind
def nkR : Nat → R
 | 0 => 0
 | k + 1 => nkR k + 1
theorem J6_ (a b : Nat) : nkR (a + b) = (nkR a + nkR b : R) := by
 induction b with
 | zero => rw [Nat.add_zero, nkR]; grind
 | succ b ih => rw [← Nat.add_assoc, nkR, ih, nkR]; grind
theorem aY0 (f g : Nat → R) (k : Nat) : nkR k * cv f g k = cv (fun i => nkR i * f i) g k + cv f (fun i => nkR i * g i) k := by
 unfold cv
 rw [← wv_, ← yA_]
 refine xm_ fun i hi => ?_
 have e : (nkR k : R) = nkR i + nkR (k - i) := by rw [← J6_]; congr 1; omega
 rw [e]
 grind
def Nw (f s : Nat → R) : Prop := ∀ k, cv f s k + nkR k * f k = 0
theorem Nw.mul {f g s t : Nat → R} (h : Nw f s) (h' : Nw g t) : Nw (cv f g) fun k => s k + t k := fun k => by
 rw [J5_, aY0]
 have e1 : cv (cv f g) s k = cv (cv f s) g k := by
  rw [VX_ (VW_ f g) (fun _ => rfl), Rh_, VW_ g]
 have e2 : cv (cv f g) t k = cv f (cv g t) k := Rh_ ..
 rw [e1, e2]
 have a : cv (cv f s) g k + cv (fun i => nkR i * f i) g k = 0 := by
  rw [VW_ _ g, VW_ _ g, ← J5_]
  exact yi_ fun i _ => by show g i * (cv f s (k - i) + nkR (k - i) * f (k - i)) = 0; rw [h]; grind
 have b : cv f (cv g t) k + cv f (fun i => nkR i * g i) k = 0 := by
  rw [← J5_]
  exact yi_ fun i _ => by show f i * (cv g t (k - i) + nkR (k - i) * g (k - i)) = 0; rw [h']; grind
 grind
theorem Nw.uniq {f g s : Nat → R} {n : Nat} (hs : s 0 = 0) (hi : ∀ k : Nat, 1 ≤ k → k ≤ n → ∃ b : R, nkR k * b = 1) (h0 : f 0 = g 0) (h : ∀ k, k ≤ n → cv f s k + nkR k * f k = 0) (h' : ∀ k, k ≤ n → cv g s k + nkR k * g k = 0) : ∀ k, k ≤ n → f k = g k := by
 intro k
 induction k using Nat.strongRecOn with
 | _ k ih =>
  intro hk
  cases k with
  | zero => exact h0
  | succ k =>
   obtain ⟨b, eb⟩ := hi (k + 1) (by omega) hk
   have a := h (k + 1) hk
   have c := h' (k + 1) hk
   unfold cv at a c
   rw [xQ_, Nat.sub_self, hs] at a c
   have e : sm (k + 1) (fun i => f i * s (k + 1 - i)) = sm (k + 1) fun i => g i * s (k + 1 - i) := xm_ fun i hi => by rw [ih i hi (by omega)]
   rw [e] at a
   generalize (nkR (k + 1) : R) = q at *
   grind
def pz (z : R) : Nat → R
 | 0 => 1
 | k + 1 => z * pz z k
theorem aY1 (z : R) (a b : Nat) : pz z (a + b) = pz z a * pz z b := by
 induction a with
 | zero => rw [Nat.zero_add, pz]; grind
 | succ a ih => rw [show a + 1 + b = a + b + 1 by omega, pz, pz, ih]; grind
def evz (f : Nat → R) (n : Nat) (z : R) : R := sm (n + 1) fun j => f j * pz z (n - j)
theorem aI2 {f g : Nat → R} {d e : Nat} (hf : ∀ j, d < j → f j = 0) (hg : ∀ j, e < j → g j = 0) (z : R) : evz (cv f g) (d + e) z = evz f d z * evz g e z := by
 unfold evz cv
 rw [xm_ (g := fun i => sm (i + 1) fun j => f j * g (i - j) * pz z (d + e - i)) fun i _ => by rw [← z8_]]
 rw [av7, show d + e + 1 = d + 1 + e by omega, ww_, yi_ (n := e) fun i _ => yi_ fun l _ => by rw [hf _ (by omega)]; grind]
 rw [← z8_]
 have z0 : ∀ a : R, a + 0 = a := fun a => by grind
 rw [z0]
 refine xm_ fun i hi => ?_
 rw [show d + 1 + e - i = e + 1 + (d - i) by omega, ww_, yi_ (n := d - i) fun l _ => by rw [hg _ (by omega)]; grind]
 rw [z0, ← yA_]
 refine xm_ fun l hl => ?_
 rw [show i + l - i = l by omega, show d + e - (i + l) = (d - i) + (e - l) by omega, aY1]
 grind
end
end Go.Pl
namespace Go.Pl
section
variable {R : Type} [Lean.Grind.CommRing R]
def ps (n : Nat) (A : Nat → Nat → R) (k : Nat) : R := if k = 0 then 0 else tr n (pwM n A k)
theorem aY2 {n : Nat} {A B : Nat → Nat → R} (h : SimM n A B) (k : Nat) : ps n A k = ps n B k := by
 unfold ps
 split
 ·rfl
 ·exact h.trace k
def Chp (n : Nat) (A : Nat → Nat → R) : Prop := ∃ f : Nat → R, f 0 = 1 ∧ (∀ j, n < j → f j = 0) ∧ Nw f (ps n A) ∧ ∀ z, Eig n A z → evz f n z = 0
theorem Chp.sim {n : Nat} {A B : Nat → Nat → R} (h : SimM n A B) (k : Chp n B) : Chp n A := by
 obtain ⟨f, h0, h1, h2, h3⟩ := k
 refine ⟨f, h0, h1, fun k => ?_, fun z hz => h3 z (h.eig hz)⟩
 rw [VX_ (fun _ => rfl) (aY2 h)]
 exact h2 k
def lo (d : Nat) (A : Nat → Nat → R) : Nat → Nat → R := fun i j => A (d + i) (d + j)
theorem av9 {d e : Nat} {A : Nat → Nat → R} (h : ∀ i, d ≤ i → i < d + e → ∀ j, j < d → A i j = 0) : ∀ k,
  (∀ i, i < d → ∀ j, j < d → pwM (d + e) A k i j = pwM d A k i j) ∧ (∀ i, i < e → ∀ j, j < d → pwM (d + e) A k (d + i) j = 0) ∧ (∀ i, i < e → ∀ j, j < e → pwM (d + e) A k (d + i) (d + j) = pwM e (lo d A) k i j)
 | 0 => by
  refine ⟨fun i _ j _ => rfl, fun i _ j _ => if_neg (by omega), fun i _ j _ => ?_⟩
  show one1 (d + i) (d + j) = one1 i j
  unfold one1
  by_cases c : i = j
  ·rw [if_pos c, if_pos (by omega)]
  ·rw [if_neg c, if_neg (by omega)]
 | k + 1 => by
  obtain ⟨h1, h2, h3⟩ := av9 h k
  refine ⟨fun i hi j hj => ?_, fun i hi j hj => ?_, fun i hi j hj => ?_⟩
  ·show sm (d + e) (fun l => A i l * pwM (d + e) A k l j) = sm d fun l => A i l * pwM d A k l j
   rw [ww_, yi_ (n := e) fun l hl => by rw [h2 l hl j hj]; grind]
   rw [xm_ fun l hl => by rw [h1 l hl j hj]]
   grind
  ·show sm (d + e) (fun l => A (d + i) l * pwM (d + e) A k l j) = 0
   rw [ww_, yi_ (n := e) fun l hl => by rw [h2 l hl j hj]; grind]
   rw [yi_ (n := d) fun l hl => by rw [h (d + i) (by omega) (by omega) l hl]; grind]
   grind
  ·show sm (d + e) (fun l => A (d + i) l * pwM (d + e) A k l (d + j)) = sm e fun l => lo d A i l * pwM e (lo d A) k l j
   rw [ww_, yi_ (n := d) fun l hl => by rw [h (d + i) (by omega) (by omega) l hl]; grind]
   rw [xm_ (n := e) fun l hl => by rw [h3 l hl j hj]]
   show 0 + sm e (fun l => A (d + i) (d + l) * _) = _
   unfold lo
   grind
theorem aY3 {d e : Nat} {A : Nat → Nat → R} (h : ∀ i, d ≤ i → i < d + e → ∀ j, j < d → A i j = 0) (k : Nat) : ps (d + e) A k = ps d A k + ps e (lo d A) k := by
 unfold ps
 split
 ·grind
 ·obtain ⟨h1, _, h3⟩ := av9 h k
  show sm (d + e) (fun i => pwM (d + e) A k i i) = _
  rw [ww_, xm_ (n := d) fun i hi => h1 i hi i hi, xm_ (n := e) fun i hi => h3 i hi i hi]
  rfl
theorem Chp.blk {d e : Nat} {A : Nat → Nat → R} (h : ∀ i, d ≤ i → i < d + e → ∀ j, j < d → A i j = 0) (h1 : Chp d A) (h2 : Chp e (lo d A)) : Chp (d + e) A := by
 obtain ⟨f, f0, f1, f2, f3⟩ := h1
 obtain ⟨g, g0, g1, g2, g3⟩ := h2
 refine ⟨cv f g, ?_, fun j hj => ?_, fun k => ?_, fun z hz => ?_⟩
 ·show sm 1 _ = _
  rw [xQ_, yq_, f0, g0]
  grind
 ·refine yi_ fun i hi => ?_
  by_cases c : d < i
  ·rw [f1 i c]; grind
  ·rw [g1 (j - i) (by omega)]; grind
 ·rw [VX_ (fun _ => rfl) (aY3 h)]
  exact Nw.mul f2 g2 k
 ·rw [aI2 f1 g1]
  obtain ⟨v, ⟨i0, hi0, hv⟩, he⟩ := hz
  by_cases c : ∃ i, i < e ∧ v (d + i) ≠ 0
  ·have a : evz g e z = 0 := g3 z ⟨fun i => v (d + i), c, fun i hi => by
    have := he (d + i) (by omega)
    rw [ww_, yi_ (n := d) fun l hl => by rw [h (d + i) (by omega) (by omega) l hl]; grind] at this
    rw [← this]
    show sm e (fun j => A (d + i) (d + j) * v (d + j)) = _
    grind⟩
   rw [a]
   grind
  ·have c0 : ∀ i, i < e → v (d + i) = 0 := fun i hi => Classical.byContradiction fun hc => c ⟨i, hi, hc⟩
   have a : evz f d z = 0 := f3 z ⟨v, ⟨i0, Classical.byContradiction fun hc => hv (by rw [show i0 = d + (i0 - d) by omega]; exact c0 _ (by omega)), hv⟩, fun i hi => by
    have := he i (by omega)
    rw [ww_, yi_ (n := e) fun l hl => by rw [c0 l hl]; grind] at this
    rw [← this]
    grind⟩
   rw [a]
   grind
end
end Go.Pl
namespace Go.Pl
section
variable {R : Type} [Lean.Grind.CommRing R]
def Mk (n : Nat) (A : Nat → Nat → R) (f : Nat → R) : Nat → Nat → Nat → R
 | 0 => fun _ _ => 0
 | m + 1 => fun i j => mm n A (Mk n A f m) i j + f m * one1 i j
theorem aw0 (n : Nat) (A : Nat → Nat → R) (f : Nat → R) : ∀ m i j, Mk n A f m i j = sm m fun l => f l * pwM n A (m - 1 - l) i j
 | 0, _, _ => rfl
 | m + 1, i, j => by
  show sm n (fun k => A i k * Mk n A f m k j) + f m * one1 i j = _
  rw [xm_ (g := fun k => sm m fun l => f l * (A i k * pwM n A (m - 1 - l) k j)) fun k _ => by rw [aw0 n A f m k j, ← yA_]; exact xm_ fun l _ => by grind]
  rw [z9_, xQ_]
  congr 1
  ·refine xm_ fun l hl => ?_
   rw [yA_, show m + 1 - 1 - l = m - 1 - l + 1 by omega]
   rfl
  ·rw [show m + 1 - 1 - m = 0 by omega]
   rfl
theorem aY4 (n : Nat) (A : Nat → Nat → R) (f : Nat → R) (m : Nat) : tr n (mm n A (Mk n A f m)) = cv f (ps n A) m := by
 unfold cv
 rw [xQ_, Nat.sub_self]
 have e0 : ps n A 0 = 0 := if_pos rfl
 rw [e0]
 show sm n (fun i => sm n fun k => A i k * Mk n A f m k i) = _
 rw [xm_ (g := fun i => sm m fun l => f l * pwM n A (m - l) i i) fun i _ => by
  rw [xm_ (g := fun k => sm m fun l => f l * (A i k * pwM n A (m - 1 - l) k i)) fun k _ => by rw [aw0, ← yA_]; exact xm_ fun l _ => by grind]
  rw [z9_]
  exact xm_ fun l hl => by rw [yA_, show m - l = m - 1 - l + 1 by omega]; rfl]
 rw [z9_, xm_ (g := fun l => f l * ps n A (m - l)) fun l hl => by
  rw [yA_]
  unfold ps
  rw [if_neg (show ¬ m - l = 0 by omega)]
  rfl]
 grind
def Cmp (n : Nat) (A : Nat → Nat → R) : Prop := ∀ j, j + 1 < n → ∀ i, i < n → A i j = if i = j + 1 then 1 else 0
def cpF (n : Nat) (A : Nat → Nat → R) (j : Nat) : R := if j = 0 then 1 else if j ≤ n then - A (n - j) (n - 1) else 0
def cpE (n : Nat) (f : Nat → R) (m i c : Nat) : R := if c + m ≤ n then (if c ≤ i ∧ i < c + m then f (c + m - 1 - i) else 0) else (if i < c then - f (c + m - 1 - i) else 0)
theorem Cmp.row {n : Nat} {A : Nat → Nat → R} (h : Cmp n A) {i : Nat} (hi : i < n) (v : Nat → R) : sm n (fun l => A i l * v l) = (if i = 0 then 0 else v (i - 1)) + A i (n - 1) * v (n - 1) := by
 obtain ⟨n, rfl⟩ : ∃ m, n = m + 1 := ⟨n - 1, by omega⟩
 rw [xQ_, Nat.add_sub_cancel]
 congr 1
 by_cases c : i = 0
 ·rw [if_pos c]
  refine yi_ fun l hl => ?_
  rw [h l (by omega) i hi, if_neg (by omega)]
  grind
 ·rw [if_neg c, ← zS_ (n := n) (k := i - 1) (by omega) v]
  refine xm_ fun l hl => ?_
  rw [h l (by omega) i hi]
  by_cases e : l = i - 1
  ·rw [if_pos (by omega), if_pos e]; grind
  ·rw [if_neg (by omega), if_neg e]; grind
theorem Cmp.Mk {n : Nat} {A : Nat → Nat → R} (h : Cmp n A) : ∀ m i, i < n → ∀ c, c < n → Mk n A (cpF n A) m i c = cpE n (cpF n A) m i c
 | 0, i, hi, c, hc => by
  show 0 = _
  unfold cpE
  rw [if_pos (by omega), if_neg (by omega)]
 | m + 1, i, hi, c, hc => by
  show sm n (fun l => A i l * Go.Pl.Mk n A (cpF n A) m l c) + cpF n A m * one1 i c = _
  rw [h.row hi]
  rw [h.Mk m (n - 1) (by omega) c hc]
  have eA : A i (n - 1) = - cpF n A (n - i) := by
   unfold cpF
   rw [if_neg (by omega), if_pos (by omega), show n - (n - i) = i by omega]
   grind
  rw [eA]
  have e1 : (if i = 0 then 0 else Go.Pl.Mk n A (cpF n A) m (i - 1) c) = if i = 0 then 0 else cpE n (cpF n A) m (i - 1) c := by
   split
   ·rfl
   ·exact h.Mk m (i - 1) (by omega) c hc
  rw [e1]
  have f0 : cpF n A 0 = 1 := if_pos rfl
  have fz : ∀ j, n < j → cpF n A j = 0 := fun j hj => by unfold cpF; rw [if_neg (by omega), if_neg (by omega)]
  generalize cpF n A = f at *
  clear e1 eA
  unfold one1
  rcases Nat.lt_trichotomy (c + m) n with c1 | c1 | c1
  ·-- below
   have a : cpE n f m (n - 1) c = 0 := by unfold cpE; rw [if_pos (by omega), if_neg (by omega)]
   rw [a]
   unfold cpE
   rw [if_pos (show c + m ≤ n by omega), if_pos (show c + (m + 1) ≤ n by omega)]
   by_cases i0 : i = 0
   ·rw [if_pos i0]
    by_cases ic : i = c
    ·rw [if_pos ic, if_pos (by omega), show c + (m + 1) - 1 - i = m by omega]; grind
    ·rw [if_neg ic, if_neg (by omega)]; grind
   ·rw [if_neg i0]
    by_cases ic : i = c
    ·rw [if_pos ic, if_neg (by omega), if_pos (by omega), show c + (m + 1) - 1 - i = m by omega]; grind
    ·rw [if_neg ic]
     by_cases k : c ≤ i - 1 ∧ i - 1 < c + m
     ·rw [if_pos k, if_pos (by omega), show c + m - 1 - (i - 1) = c + (m + 1) - 1 - i by omega]; grind
     ·rw [if_neg k, if_neg (by omega)]; grind
  ·have a : cpE n f m (n - 1) c = 1 := by unfold cpE; rw [if_pos (by omega), if_pos (by omega), show c + m - 1 - (n - 1) = 0 by omega, f0]
   rw [a]
   unfold cpE
   rw [if_pos (show c + m ≤ n by omega), if_neg (show ¬ c + (m + 1) ≤ n by omega)]
   by_cases i0 : i = 0
   ·rw [if_pos i0]
    by_cases ic : i = c
    ·rw [if_pos ic, if_neg (by omega), show n - i = m by omega]; grind
    ·rw [if_neg ic, if_pos (by omega), show c + (m + 1) - 1 - i = n - i by omega]; grind
   ·rw [if_neg i0]
    by_cases ic : i = c
    ·rw [if_pos ic, if_neg (by omega), if_neg (by omega), show n - i = m by omega]; grind
    ·rw [if_neg ic]
     by_cases k : c ≤ i - 1 ∧ i - 1 < c + m
     ·rw [if_pos k, if_neg (by omega), show c + m - 1 - (i - 1) = n - i by omega]; grind
     ·rw [if_neg k, if_pos (by omega), show c + (m + 1) - 1 - i = n - i by omega]; grind
  ·have a : cpE n f m (n - 1) c = 0 := by unfold cpE; rw [if_neg (by omega), if_neg (by omega)]
   rw [a]
   unfold cpE
   rw [if_neg (show ¬ c + m ≤ n by omega), if_neg (show ¬ c + (m + 1) ≤ n by omega)]
   by_cases i0 : i = 0
   ·rw [if_pos i0]
    by_cases ic : i = c
    ·rw [if_pos ic, if_neg (by omega), fz m (by omega)]; grind
    ·rw [if_neg ic, if_pos (by omega), fz (c + (m + 1) - 1 - i) (by omega)]; grind
   ·rw [if_neg i0]
    by_cases ic : i = c
    ·rw [if_pos ic, if_neg (show ¬ i < c by omega), if_pos (by omega), show c + m - 1 - (i - 1) = m by omega]; grind
    ·rw [if_neg ic]
     by_cases k : i < c
     ·rw [if_pos k, if_pos (by omega), show c + m - 1 - (i - 1) = c + (m + 1) - 1 - i by omega]; grind
     ·rw [if_neg k, if_neg (by omega)]; grind
theorem bh8 (n m : Nat) (x : R) : sm n (fun i => if i + m + 1 ≤ n then x else 0) = nkR (n - m) * x := by
 have g : ∀ k, sm k (fun i => if i + m + 1 ≤ n then x else 0) = nkR (min k (n - m)) * x := fun k => by
  induction k with
  | zero => rw [Nat.zero_min, nkR, yq_]; grind
  | succ k ih =>
   rw [xQ_, ih]
   by_cases c : k + m + 1 ≤ n
   ·rw [if_pos c, show min (k + 1) (n - m) = min k (n - m) + 1 by omega, nkR]; grind
   ·rw [if_neg c, show min (k + 1) (n - m) = min k (n - m) by omega]; grind
 rw [g, show min n (n - m) = n - m by omega]
theorem Ri_ (f : Nat → R) (k : Nat) (z : R) : evz f (k + 1) z = z * evz f k z + f (k + 1) := by
 unfold evz
 rw [xQ_, Nat.sub_self, pz, ← yA_]
 congr 1
 ·refine xm_ fun j hj => ?_
  rw [show k + 1 - j = k - j + 1 by omega, pz]
  grind
 ·grind
theorem Cmp.chp (dom : ∀ a b : R, a * b = 0 → a = 0 ∨ b = 0) {n : Nat} {A : Nat → Nat → R} (h : Cmp n A) (n1 : 1 ≤ n) : Chp n A := by
 have f0 : cpF n A 0 = 1 := if_pos rfl
 have fz : ∀ j, n < j → cpF n A j = 0 := fun j hj => by unfold cpF; rw [if_neg (by omega), if_neg (by omega)]
 refine ⟨cpF n A, f0, fz, fun m => ?_, fun z hz => ?_⟩
 ·rw [← aY4]
  have e : tr n (fun i j => mm n A (Go.Pl.Mk n A (cpF n A) m) i j + cpF n A m * one1 i j) = nkR (n - m) * cpF n A m := by
   rw [← bh8]
   refine xm_ fun i hi => ?_
   have := h.Mk (m + 1) i hi i hi
   rw [show Go.Pl.Mk n A (cpF n A) (m + 1) = fun i j => mm n A (Go.Pl.Mk n A (cpF n A) m) i j + cpF n A m * one1 i j from rfl] at this
   rw [this]
   unfold cpE
   by_cases c : i + (m + 1) ≤ n
   ·rw [if_pos c, if_pos (by omega), if_pos (by omega), show i + (m + 1) - 1 - i = m by omega]
   ·rw [if_neg c, if_neg (by omega), if_neg (by omega)]
  have e2 : tr n (fun i j => mm n A (Go.Pl.Mk n A (cpF n A) m) i j + cpF n A m * one1 i j) = tr n (mm n A (Go.Pl.Mk n A (cpF n A) m)) + nkR n * cpF n A m := by
   unfold tr
   rw [wv_]
   congr 1
   have g : ∀ k, sm k (fun i => cpF n A m * one1 i i) = nkR k * cpF n A m := fun k => by
    induction k with
    | zero => rw [yq_, nkR]; grind
    | succ k ih => rw [xQ_, ih, nkR]; unfold one1; rw [if_pos rfl]; grind
   exact g n
  by_cases c : m ≤ n
  ·have e3 : (nkR n : R) = nkR (n - m) + nkR m := by rw [← J6_]; congr 1; omega
   rw [e3] at e2
   grind
  ·rw [fz m (by omega)] at e2 e ⊢
   grind
 ·obtain ⟨v, ⟨i0, hi0, hv⟩, he⟩ := hz
  have st : ∀ k, k < n → v (n - 1 - k) = v (n - 1) * evz (cpF n A) k z := fun k => by
   induction k with
   | zero => intro _; unfold evz; rw [xQ_, yq_, f0, pz, Nat.sub_zero]; grind
   | succ k ih =>
    intro hk
    have a := he (n - 1 - k) (by omega)
    rw [h.row (by omega), if_neg (by omega), ih (by omega)] at a
    have b : A (n - 1 - k) (n - 1) = - cpF n A (k + 1) := by
     unfold cpF
     rw [if_neg (by omega), if_pos (by omega), show n - (k + 1) = n - 1 - k by omega]
     grind
    rw [b] at a
    rw [Ri_, show n - 1 - (k + 1) = n - 1 - k - 1 by omega]
    grind
  obtain ⟨n, rfl⟩ : ∃ m, n = m + 1 := ⟨n - 1, by omega⟩
  have a := he 0 (by omega)
  rw [h.row (by omega), if_pos rfl] at a
  have b : A 0 (n + 1 - 1) = - cpF (n + 1) A (n + 1) := by
   unfold cpF
   rw [if_neg (by omega), if_pos (by omega), Nat.sub_self]
   grind
  have c := st n (by omega)
  rw [show n + 1 - 1 - n = 0 by omega] at c
  rw [b, c] at a
  rw [Ri_]
  rw [Nat.add_sub_cancel] at a st
  have v0 : v n ≠ 0 := fun e => hv (by rw [show i0 = n - (n - i0) by omega, st (n - i0) (by omega), e]; grind)
  have d : (z * evz (cpF (n + 1) A) n z + cpF (n + 1) A (n + 1)) * v n = 0 := by grind
  rcases dom _ _ d with d | d
  ·exact d
  ·exact absurd d v0
def swp (r s i : Nat) : Nat := if i = r then s else if i = s then r else i
theorem YX_ {n r s i : Nat} (hr : r < n) (hs : s < n) (hi : i < n) : swp r s i < n := by unfold swp; split <;> (try split) <;> omega
theorem VY_ (r s i : Nat) : swp r s (swp r s i) = i := by unfold swp; grind
theorem SimM.swap {n r s : Nat} (hr : r < n) (hs : s < n) (A : Nat → Nat → R) : SimM n A fun i j => A (swp r s i) (swp r s j) := by
 have l : ∀ X : Nat → Nat → R, ∀ i, i < n → ∀ j, mm n (fun i j => if swp r s i = j then 1 else 0) X i j = X (swp r s i) j := fun X i hi j => by
  show sm n (fun k => (if swp r s i = k then 1 else 0) * X k j) = _
  rw [← zS_ (YX_ hr hs hi) (fun k => X k j)]
  refine xm_ fun k _ => ?_
  by_cases c : k = swp r s i
  ·rw [if_pos c, if_pos c.symm]; grind
  ·rw [if_neg c, if_neg (Ne.symm c)]; grind
 have w : ∀ X : Nat → Nat → R, ∀ i j, j < n → mm n X (fun i j => if swp r s i = j then 1 else 0) i j = X i (swp r s j) := fun X i j hj => by
  show sm n (fun k => X i k * (if swp r s k = j then 1 else 0)) = _
  rw [← zS_ (YX_ hr hs hj) (fun k => X i k)]
  refine xm_ fun k _ => ?_
  by_cases c : k = swp r s j
  ·rw [if_pos c, c, VY_, if_pos rfl]; grind
  ·rw [if_neg c, if_neg (fun h => c (by rw [← h, VY_]))]; grind
 have o : Eqn n (mm n (fun i j => if swp r s i = j then (1 : R) else 0) (fun i j => if swp r s i = j then 1 else 0)) one1 := fun i hi j hj => by
  rw [l _ i hi]
  unfold one1
  rw [VY_]
 exact (SimM.of (A := A) o o).congr Eqn.rfl fun i hi j hj => by rw [w _ i j hj, l _ i hi]
def crM (c : Nat) (u : Nat → R) : Nat → Nat → R := fun i j => if j = c then u i else if i = j then 1 else 0
theorem ar4 {n c : Nat} (hc : c < n) (u : Nat → R) (X : Nat → Nat → R) {i : Nat} (hi : i < n) (j : Nat) : mm n (crM c u) X i j = (if i = c then 0 else X i j) + u i * X c j := by
 show sm n (fun k => crM c u i k * X k j) = _
 rw [← zS_ hc (fun k => u i * X k j)]
 have e : (if i = c then 0 else X i j) = sm n fun k => if k = i then (if i = c then 0 else X k j) else 0 := (zS_ hi (fun k => if i = c then 0 else X k j)).symm
 rw [e, ← wv_]
 refine xm_ fun k _ => ?_
 unfold crM
 by_cases k1 : k = c
 ·subst k1
  rw [if_pos rfl, if_pos rfl]
  by_cases k2 : k = i
  ·rw [if_pos k2, if_pos k2.symm]; grind
  ·rw [if_neg k2]; grind
 ·rw [if_neg k1, if_neg k1]
  by_cases k2 : i = k
  ·rw [if_pos k2, if_pos k2.symm, if_neg (by omega)]; grind
  ·rw [if_neg k2, if_neg (Ne.symm k2)]; grind
theorem aY5 {n c : Nat} (u : Nat → R) (X : Nat → Nat → R) (i : Nat) {j : Nat} (hj : j < n) : mm n X (crM c u) i j = if j = c then sm n (fun l => X i l * u l) else X i j := by
 show sm n (fun k => X i k * crM c u k j) = _
 unfold crM
 by_cases e : j = c
 ·rw [if_pos e]
  exact xm_ fun k _ => by rw [if_pos e]
 ·rw [if_neg e, ← zS_ hj (fun k => X i k)]
  refine xm_ fun k _ => ?_
  rw [if_neg e]
  split <;> grind
theorem SimM.cr {n c : Nat} (hc : c < n) {q w : Nat → R} (h1 : q c * w c = 1) (h2 : ∀ i, i < n → i ≠ c → w i + q i * w c = 0) (A : Nat → Nat → R) : SimM n A (mm n (mm n (crM c q) A) (crM c w)) := by
 refine SimM.of (fun i hi j hj => ?_) (fun i hi j hj => ?_)
 ·rw [ar4 hc _ _ hi]
  unfold crM one1
  by_cases a : j = c
  ·rw [if_pos a, if_pos a]
   by_cases b : i = c
   ·rw [if_pos b, if_pos (by omega), b, h1]; grind
   ·have := h2 i hi b
    rw [if_neg b, if_neg (by omega)]; grind
  ·rw [if_neg a, if_neg a, if_neg (Ne.symm a)]
   by_cases b : i = c
   ·rw [if_pos b, if_neg (by omega)]; grind
   ·rw [if_neg b]; grind
 ·rw [ar4 hc _ _ hi]
  unfold crM one1
  by_cases a : j = c
  ·rw [if_pos a, if_pos a]
   by_cases b : i = c
   ·rw [if_pos b, if_pos (by omega), b]; grind
   ·have := h2 i hi b
    rw [if_neg b, if_neg (by omega)]; grind
  ·rw [if_neg a, if_neg a, if_neg (Ne.symm a)]
   by_cases b : i = c
   ·rw [if_pos b, if_neg (by omega)]; grind
   ·rw [if_neg b]; grind
def ClM (n k : Nat) (A : Nat → Nat → R) : Prop := ∀ j, j < k → ∀ i, i < n → A i j = if i = j + 1 then 1 else 0
theorem aI3 (inv : ∀ a : R, a ≠ 0 → ∃ b, a * b = 1) (dom : ∀ a b : R, a * b = 0 → a = 0 ∨ b = 0) : ∀ n (A : Nat → Nat → R), Chp n A := by
 intro n
 induction n using Nat.strongRecOn with
 | _ n ih =>
  rcases Nat.eq_zero_or_pos n with n0 | n1
  ·subst n0
   intro A
   refine ⟨fun j => if j = 0 then 1 else 0, if_pos rfl, fun j hj => if_neg (by omega), fun k => ?_, fun z ⟨_, ⟨i, hi, _⟩, _⟩ => absurd hi (Nat.not_lt_zero i)⟩
   have e : cv (fun j => if j = 0 then (1 : R) else 0) (ps 0 A) k = 0 := yi_ fun i _ => by
    have : ps 0 A (k - i) = 0 := by unfold ps; split <;> rfl
    rw [this]; grind
   rw [e]
   by_cases c : k = 0
   ·subst c; rw [nkR]; grind
   ·show 0 + nkR k * (if k = 0 then (1 : R) else 0) = 0
    rw [if_neg c]; grind
  ·have main : ∀ m k, k + m + 1 = n → ∀ A : Nat → Nat → R, ClM n k A → Chp n A := by
    intro m
    induction m with
    | zero =>
     intro k hk A hA
     exact Cmp.chp dom (fun j hj i hi => hA j (by omega) i hi) n1
    | succ m ihm =>
     intro k hk A hA
     by_cases c : ∃ r, k < r ∧ r < n ∧ A r k ≠ 0
     ·obtain ⟨r, r1, r2, hr⟩ := c
      refine Chp.sim (SimM.swap r2 (show k + 1 < n by omega) A) ?_
      obtain ⟨B, eB⟩ : ∃ B, B = fun i j => A (swp r (k + 1) i) (swp r (k + 1) j) := ⟨_, rfl⟩
      rw [← eB]
      have sk : ∀ j, j ≤ k → swp r (k + 1) j = j := fun j hj => by unfold swp; rw [if_neg (by omega), if_neg (by omega)]
      have hB : ClM n k B := fun j hj i hi => by
       rw [eB]
       show A _ (swp r (k + 1) j) = _
       rw [sk j (by omega), hA j hj _ (YX_ r2 (by omega) hi)]
       by_cases e : i = j + 1
       ·rw [if_pos e, e, sk _ (by omega), if_pos rfl]
       ·rw [if_neg e, if_neg (fun h => e (by rw [← VY_ r (k + 1) i, h, sk _ (by omega)]))]
      have pB : B (k + 1) k ≠ 0 := by
       rw [eB]
       show A (swp r (k + 1) (k + 1)) (swp r (k + 1) k) ≠ 0
       rw [sk k (Nat.le_refl _), show swp r (k + 1) (k + 1) = r by unfold swp; split <;> (try rw [if_pos rfl]) <;> omega]
       exact hr
      clear eB hA hr
      obtain ⟨a, ha⟩ := inv _ pB
      obtain ⟨q, eq⟩ : ∃ q : Nat → R, q = fun i => if i = k + 1 then a else - B i k * a := ⟨_, rfl⟩
      have q1 : q (k + 1) = a := by rw [eq]; exact if_pos rfl
      have q2 : ∀ i, i ≠ k + 1 → q i = - B i k * a := fun i hi => by rw [eq]; exact if_neg hi
      refine Chp.sim (SimM.cr (c := k + 1) (q := q) (w := fun i => B i k) (by omega) (by rw [q1]; grind) (fun i _ hi => by rw [q2 i hi]; grind) B) ?_
      refine ihm (k + 1) (by omega) _ fun j hj i hi => ?_
      rw [aY5 _ _ _ (by omega), if_neg (by omega), ar4 (by omega) _ _ hi]
      by_cases e : j = k
      ·subst e
       by_cases e2 : i = j + 1
       ·rw [if_pos e2, if_pos e2, e2, q1]; grind
       ·rw [if_neg e2, if_neg e2, q2 i e2]; grind
      ·rw [hB j (by omega) i hi, hB j (by omega) (k + 1) (by omega), if_neg (show ¬ k + 1 = j + 1 by omega)]
       by_cases e2 : i = k + 1
       ·rw [if_pos e2, if_neg (by omega)]; grind
       ·rw [if_neg e2]; grind
     ·have z : ∀ i, k < i → i < n → A i k = 0 := fun i h1 h2 => Classical.byContradiction fun h => c ⟨i, h1, h2, h⟩
      obtain ⟨e, he⟩ : ∃ e, n = k + 1 + e := ⟨n - (k + 1), by omega⟩
      rw [he]
      refine Chp.blk (fun i h1 h2 j hj => ?_) (Cmp.chp dom (fun j hj i hi => hA j (by omega) i (by omega)) (by omega)) (ih e (by omega) _)
      by_cases ej : j = k
      ·rw [ej]; exact z i (by omega) (by omega)
      ·rw [hA j (by omega) i (by omega), if_neg (by omega)]
   exact fun A => main (n - 1) 0 (by omega) A fun j hj => absurd hj (Nat.not_lt_zero j)
end
end Go.Pl
namespace Go.Pl
section
variable {R : Type} [Lean.Grind.CommRing R]
theorem aI4 (inv : ∀ a : R, a ≠ 0 → ∃ b, a * b = 1) (dom : ∀ a b : R, a * b = 0 → a = 0 ∨ b = 0) {n : Nat} (hi : ∀ k : Nat, 1 ≤ k → k ≤ n → ∃ b : R, nkR k * b = 1) {A : Nat → Nat → R} {f : Nat → R} (f0 : f 0 = 1) (hf : ∀ k, 1 ≤ k → k ≤ n → nkR k * f k = - tr n (mm n A (Mk n A f k))) {z : R} (hz : Eig n A z) : evz f n z = 0 := by
 obtain ⟨g, g0, _, g2, g3⟩ := aI3 inv dom n A
 have e : ∀ k, k ≤ n → f k = g k := Nw.uniq (s := ps n A) (if_pos rfl) hi (by rw [f0, g0]) (fun k hk => by
  by_cases c : k = 0
  ·subst c
   show sm 1 (fun i => f i * ps n A (0 - i)) + _ = _
   rw [xQ_, yq_, show ps n A (0 - 0) = 0 from if_pos rfl, nkR]
   grind
  ·rw [← aY4, hf k (by omega) hk]; grind) fun k _ => g2 k
 rw [← g3 z hz]
 exact xm_ fun j hj => by rw [e j (by omega)]
def hpr (H : Nat → Nat → R) (i : Nat) : Nat → R
 | 0 => 1
 | k + 1 => hpr H i k * H (i + k + 1) (i + k)
theorem Zg_ (H : Nat → Nat → R) (i : Nat) : ∀ k, hpr H i (k + 1) = H (i + 1) i * hpr H (i + 1) k
 | 0 => by rw [hpr, hpr, hpr, Nat.add_zero]; grind
 | k + 1 => by rw [hpr, Zg_ H i k, hpr, show i + 1 + k = i + (k + 1) by omega]; grind
theorem Sd_ (H : Nat → Nat → R) (i a : Nat) : ∀ b, hpr H i (a + b) = hpr H i a * hpr H (i + a) b
 | 0 => by rw [Nat.add_zero, hpr]; grind
 | b + 1 => by rw [← Nat.add_assoc, hpr, Sd_ H i a b, hpr, show i + (a + b) = i + a + b by omega]; grind
def HsP (n : Nat) (H : Nat → Nat → R) (z : R) (p : Nat → R) : Prop := p 0 = 1 ∧ ∀ k, k < n → p (k + 1) = z * p k - sm (k + 1) fun i => hpr H i (k - i) * H i k * p i
theorem aI5 {n : Nat} {v : Nat → R} : (∃ i, i < n ∧ v i ≠ 0) → ∃ k, k < n ∧ v k ≠ 0 ∧ ∀ j, k < j → j < n → v j = 0 := by
 induction n with
 | zero => rintro ⟨i, hi, _⟩; omega
 | succ n ih =>
  rintro ⟨i, hi, hv⟩
  by_cases c : v n = 0
  ·obtain ⟨k, k1, k2, k3⟩ := ih ⟨i, Classical.byContradiction fun h => hv (by rw [show i = n by omega]; exact c), hv⟩
   exact ⟨k, by omega, k2, fun j h1 h2 => by
    by_cases e : j = n
    ·rw [e]; exact c
    ·exact k3 j h1 (by omega)⟩
  ·exact ⟨n, by omega, c, fun j h1 h2 => by omega⟩
theorem aI6 (dom : ∀ a b : R, a * b = 0 → a = 0 ∨ b = 0) {n : Nat} {H : Nat → Nat → R} (hh : ∀ i, i < n → ∀ j, j + 1 < i → H i j = 0) {z : R} {p : Nat → R} (hp : HsP n H z p) (hz : Eig n H z) : p n = 0 := by
 obtain ⟨v, hv, he⟩ := hz
 obtain ⟨k, k1, k2, k3⟩ := aI5 hv
 obtain ⟨p0, hp⟩ := hp
 obtain ⟨u, eu⟩ : ∃ u : Nat → R, u = fun i => p i * hpr H i (k - i) := ⟨_, rfl⟩
 have col : ∀ j, j ≤ k → z * u j - sm (k + 1) (fun i => u i * H i j) = if j = k then p (k + 1) else 0 := fun j hj => by
  by_cases c : j = k
  ·subst c
   rw [if_pos rfl, hp j (by omega), eu]
   simp only [Nat.sub_self, hpr]
   rw [xm_ (f := fun i => p i * hpr H i (j - i) * H i j) (g := fun i => hpr H i (j - i) * H i j * p i) fun i _ => by grind]
   grind
  ·rw [if_neg c, show k + 1 = j + 1 + 1 + (k - 1 - j) by omega, ww_, yi_ (n := k - 1 - j) fun i hi => by rw [hh (j + 1 + 1 + i) (by omega) j (by omega)]; grind]
   rw [xQ_]
   have a := hp j (by omega)
   have b : sm (j + 1) (fun i => u i * H i j) = sm (j + 1) (fun i => hpr H i (j - i) * H i j * p i) * hpr H j (k - j) := by
    rw [← z8_]
    refine xm_ fun i hi => ?_
    have := Sd_ H i (j - i) (k - j)
    rw [show j - i + (k - j) = k - i by omega, show i + (j - i) = j by omega] at this
    rw [eu]
    show p i * hpr H i (k - i) * H i j = _
    rw [this]
    grind
   have d : hpr H j (k - j) = H (j + 1) j * hpr H (j + 1) (k - (j + 1)) := by rw [show k - j = k - (j + 1) + 1 by omega, Zg_]
   rw [b, eu]
   show z * (p j * hpr H j (k - j)) - _ = 0
   simp only []
   rw [a, d]
   grind
 have tot : sm (k + 1) (fun i => u i * (z * v i - sm (k + 1) fun j => H i j * v j)) = v k * p (k + 1) := by
  have e1 : sm (k + 1) (fun i => u i * (z * v i - sm (k + 1) fun j => H i j * v j)) = sm (k + 1) fun j => v j * (z * u j - sm (k + 1) fun i => u i * H i j) := by
   have x1 : sm (k + 1) (fun i => u i * (z * v i - sm (k + 1) fun j => H i j * v j)) = sm (k + 1) (fun i => v i * (z * u i)) + sm (k + 1) fun i => sm (k + 1) fun j => -(u i * H i j * v j) := by
    rw [← wv_]
    refine xm_ fun i _ => ?_
    have y : sm (k + 1) (fun j => -(u i * H i j * v j)) = -(u i) * sm (k + 1) fun j => H i j * v j := by
     rw [← yA_]
     exact xm_ fun j _ => by grind
    rw [y]
    grind
   have x2 : sm (k + 1) (fun j => v j * (z * u j - sm (k + 1) fun i => u i * H i j)) = sm (k + 1) (fun i => v i * (z * u i)) + sm (k + 1) fun j => sm (k + 1) fun i => -(u i * H i j * v j) := by
    rw [← wv_]
    refine xm_ fun j _ => ?_
    have y : sm (k + 1) (fun i => -(u i * H i j * v j)) = -(v j) * sm (k + 1) fun i => u i * H i j := by
     rw [← yA_]
     exact xm_ fun i _ => by grind
    rw [y]
    grind
   rw [x1, x2, z9_ (k + 1) (k + 1) fun i j => -(u i * H i j * v j)]
  rw [e1, xQ_, yi_ (n := k) fun j hj => by rw [col j (by omega), if_neg (by omega)]; grind]
  rw [col k (Nat.le_refl _), if_pos rfl]
  grind
 have zero : sm (k + 1) (fun i => u i * (z * v i - sm (k + 1) fun j => H i j * v j)) = 0 := yi_ fun i hi => by
  have a := he i (by omega)
  rw [show n = k + 1 + (n - (k + 1)) by omega, ww_, yi_ (n := n - (k + 1)) fun j hj => by rw [k3 _ (by omega) (by omega)]; grind] at a
  rw [← a]
  grind
 rw [zero] at tot
 have pk : p (k + 1) = 0 := by
  rcases dom _ _ tot.symm with h | h
  ·exact absurd h k2
  ·exact h
 by_cases c : k + 1 = n
 ·rw [← c]; exact pk
 ·have hs : H (k + 1) k = 0 := by
   have a := he (k + 1) (by omega)
   rw [k3 (k + 1) (by omega) (by omega), show n = k + 1 + (n - (k + 1)) by omega, ww_, yi_ (n := n - (k + 1)) fun j hj => by rw [k3 _ (by omega) (by omega)]; grind] at a
   rw [xQ_, yi_ (n := k) fun j hj => by rw [hh (k + 1) (by omega) j (by omega)]; grind] at a
   rcases dom (H (k + 1) k) (v k) (by grind) with h | h
   ·exact h
   ·exact absurd h k2
  have all : ∀ m, m ≤ n → k < m → p m = 0 := by
   intro m
   induction m using Nat.strongRecOn with
   | _ m ih =>
    intro hm hk
    by_cases e : m = k + 1
    ·rw [e]; exact pk
    ·obtain ⟨m, rfl⟩ : ∃ l, m = l + 1 := ⟨m - 1, by omega⟩
     rw [hp m (by omega), ih m (by omega) (by omega) (by omega), yi_ fun i hi => ?_]
     ·grind
     ·by_cases g : k < i
      ·rw [ih i (by omega) (by omega) g]; grind
      ·have := Sd_ H i (k - i) (m - k)
       rw [show k - i + (m - k) = m - i by omega, show i + (k - i) = k by omega, show m - k = m - (k + 1) + 1 by omega, Zg_, hs] at this
       rw [this]
       grind
  exact all n (Nat.le_refl _) (by omega)
end
end Go.Pl
namespace Go.Pl
abbrev Fq : Type := _root_.Fin 55441
def fqI (a : Int) : Fq := ⟨(a % 55441).toNat, by omega⟩
theorem wr_ (a : Int) : ((fqI a).val : Int) = a % 55441 := by show (((a % 55441).toNat : Nat) : Int) = _; omega
theorem fqI_eq {a b : Int} : fqI a = fqI b ↔ a % 55441 = b % 55441 := by
 refine ⟨fun h => ?_, fun h => _root_.Fin.ext (by show (a % 55441).toNat = (b % 55441).toNat; rw [h])⟩
 rw [← wr_, ← wr_, h]
theorem Se_ {x y : Fq} (h : (x.val : Int) = y.val) : x = y := _root_.Fin.ext (by omega)
theorem zT_ (a b : Int) : fqI (a + b) = fqI a + fqI b := Se_ (by
 rw [wr_, _root_.Fin.val_add, Int.natCast_emod, Int.natCast_add, wr_, wr_]; exact Int.add_emod ..)
theorem yk_ (a b : Int) : fqI (a * b) = fqI a * fqI b := Se_ (by
 rw [wr_, _root_.Fin.val_mul, Int.natCast_emod, Int.natCast_mul, wr_, wr_]; exact Int.mul_emod ..)
theorem y8_ (a : Int) : fqI (a % 55441) = fqI a := fqI_eq.2 (Int.emod_emod_of_dvd _ (Int.dvd_refl _))
theorem YC_ : fqI 0 = 0 := rfl
theorem ar5 : fqI 1 = 1 := rfl
theorem Xw_ (a : Int) : fqI (-a) = - fqI a := by
 have h : fqI (a + -a) = fqI a + fqI (-a) := zT_ ..
 rw [Int.add_right_neg, YC_] at h
 grind
theorem aI7 (a b : Int) : fqI (a - b) = fqI a - fqI b := by rw [Int.sub_eq_add_neg, zT_, Xw_]; grind
theorem fqI_nz {a : Int} : fqI a = 0 ↔ a % 55441 = 0 := by rw [← YC_, fqI_eq]; rfl
theorem Wh_ {a b : Int} (ha : InP a) (hb : InP b) (h : fqI a = fqI b) : a = b := by
 have := fqI_eq.1 h
 have := ha.1
 have := ha.2
 have := hb.1
 have := hb.2
 omega
theorem ar6 (x : Fq) : ∃ a, InP a ∧ fqI a = x := ⟨(x.val : Int), ⟨by omega, by have := x.isLt; omega⟩, Se_ (by rw [wr_]; have := x.isLt; omega)⟩
theorem Sf_ (x : Fq) (h : x ≠ 0) : ∃ y, x * y = 1 := by
 obtain ⟨a, ha, rfl⟩ := ar6 x
 refine ⟨fqI (inv a), ?_⟩
 rw [← yk_, ← ar5, fqI_eq, wZ_ ha fun h0 => h (by rw [h0]; exact YC_)]
 rfl
theorem YD_ (x y : Fq) (h : x * y = 0) : x = 0 ∨ y = 0 := by
 by_cases c : x = 0
 ·exact .inl c
 ·obtain ⟨z, hz⟩ := Sf_ x c
  refine .inr ?_
  have : y = x * y * z := by grind
  rw [this, h]
  grind
theorem J7_ : ∀ k : Nat, (nkR k : Fq) = fqI k
 | 0 => rfl
 | k + 1 => by rw [nkR, J7_ k, Int.natCast_add, zT_]; rfl
theorem wa_ (f : Nat → Int) : ∀ n, fqI (sumTo f n) = sm n fun i => fqI (f i)
 | 0 => rfl
 | n + 1 => by rw [sumTo, zT_, wa_ f n]; rfl
def fqM (a : List (List Int)) : Nat → Nat → Fq := fun i j => fqI (e2 a i j)
def EigL (n : Nat) (a : List (List Int)) (z : Int) : Prop := ∃ v : Nat → Int, (∃ i, i < n ∧ v i % 55441 ≠ 0) ∧ ∀ i, i < n → sumTo (fun j => e2 a i j * v j) n % 55441 = z * v i % 55441
theorem EigL.eig {n : Nat} {a : List (List Int)} {z : Int} (h : EigL n a z) : Eig n (fqM a) (fqI z) := by
 obtain ⟨v, ⟨i, hi, hv⟩, he⟩ := h
 refine ⟨fun i => fqI (v i), ⟨i, hi, fun h => hv (fqI_nz.1 h)⟩, fun i hi => ?_⟩
 rw [← yk_, ← fqI_eq.2 (he i hi), wa_]
 exact xm_ fun j _ => (yk_ ..).symm
def hvL : List Int → Int → Int
 | [], _ => 0
 | c :: cs, z => (hvL cs z * z + c) % 55441
theorem VZ_ (z : Int) : ∀ q, InP (hvL q z)
 | [] => ⟨Int.le_refl 0, (by omega : (0 : Int) ≤ 55440)⟩
 | _ :: _ => x7_ _
theorem Rj_ (z : Int) : ∀ q : List Int, fqI (hvL q z) = sm q.length fun j => fqI (q.getD j 0) * pz (fqI z) j
 | [] => rfl
 | c :: cs => by
  rw [hvL, y8_, zT_, yk_, Rj_ z cs, List.length_cons, Wg_]
  show _ = fqI c * 1 + sm cs.length fun j => fqI (cs.getD j 0) * (fqI z * pz (fqI z) j)
  rw [← z8_]
  rw [xm_ (f := fun i => fqI (cs.getD i 0) * pz (fqI z) i * fqI z) (g := fun j => fqI (cs.getD j 0) * (fqI z * pz (fqI z) j)) fun j _ => by grind]
  grind
theorem aI8 {n : Nat} {q : List Int} (hl : q.length = n + 1) (z : Int) : fqI (hvL q z) = evz (fun j => if j ≤ n then fqI (q.getD (n - j) 0) else 0) n (fqI z) := by
 rw [Rj_, hl, ← J4_]
 unfold evz
 refine xm_ fun j hj => ?_
 show _ = (if j ≤ n then fqI (q.getD (n - j) 0) else 0) * _
 rw [if_pos (by omega), show n + 1 - 1 - j = n - j by omega]
def ltM (n : Nat) (m : List (List Int)) (c : Int) : List (List Int) := xy_ n n fun i j => if i = j then (e2 m i j - c) % 55441 else e2 m i j
def trD (n : Nat) (m : List (List Int)) : Int := sumTo (fun i => e2 m i i) n % 55441
def flM (n : Nat) (a : List (List Int)) (s : List (List Int) × List Int) (k : Nat) : List (List Int) := ltM n (wz_ a s.1 n) (-(s.2.getD (n - k) 0) % 55441)
noncomputable def flS (n : Nat) (a : List (List Int)) : Nat → List (List Int) × List Int
 | 0 => (List.replicate n (List.replicate n 0), (List.replicate (n + 1) 0).set n 1)
 | k + 1 => (flM n a (flS n a k) k, (flS n a k).2.set (n - (k + 1)) ((-(trD n (wz_ a (flM n a (flS n a k) k) n))) % 55441 * inv ((k + 1 : Nat) : Int) % 55441))
theorem Xx_ (n : Nat) (a : List (List Int)) : ∀ k, (flS n a k).2.length = n + 1
 | 0 => by show ((List.replicate (n + 1) 0).set n 1).length = _; rw [List.length_set, List.length_replicate]
 | k + 1 => by rw [flS, List.length_set, Xx_ n a k]
theorem Sg_ {l : List Int} {i j : Nat} {v : Int} (h : i ≠ j) : (l.set i v).getD j 0 = l.getD j 0 := by
 rw [List.getD_eq_getElem?_getD, List.getElem?_set_ne h, ← List.getD_eq_getElem?_getD]
theorem Wi_ {l : List Int} {i : Nat} {v : Int} (h : i < l.length) : (l.set i v).getD i 0 = v := by
 rw [List.getD_eq_getElem?_getD, List.getElem?_set_self h]; rfl
theorem Yc_ (n : Nat) (a : List (List Int)) {j : Nat} : ∀ k, j ≤ k → k ≤ n → (flS n a k).2.getD (n - j) 0 = (flS n a j).2.getD (n - j) 0
 | 0, h, _ => by rw [show j = 0 by omega]
 | k + 1, h, hk => by
  by_cases c : j = k + 1
  ·rw [c]
  ·rw [flS, Sg_ (by omega)]
   exact Yc_ n a k (by omega) (by omega)
theorem Sh_ (n : Nat) (a : List (List Int)) : ∀ k, k ≤ n → ∀ j, InP ((flS n a k).2.getD j 0)
 | 0, _, j => by
  show InP (((List.replicate (n + 1) 0).set n 1).getD j 0)
  by_cases c : n = j
  ·subst c
   rw [Wi_ (by rw [List.length_replicate]; omega)]
   exact ⟨by decide, by decide⟩
  ·rw [Sg_ c, List.getD_eq_getElem?_getD]
   by_cases d : j < n + 1
   ·rw [List.getElem?_replicate, if_pos d]; exact ⟨by decide, by decide⟩
   ·rw [List.getElem?_eq_none (by rw [List.length_replicate]; omega)]; exact ⟨by decide, by decide⟩
 | k + 1, hk, j => by
  rw [flS]
  by_cases c : n - (k + 1) = j
  ·subst c
   rw [Wi_ (by rw [Xx_]; omega)]
   exact x7_ _
  ·rw [Sg_ c]
   exact Sh_ n a k (by omega) j
theorem Te_ (n : Nat) (a b : List (List Int)) {i j : Nat} (hi : i < n) (hj : j < n) : fqM (wz_ a b n) i j = mm n (fqM a) (fqM b) i j := by
 show fqI (((wz_ a b n).getD i []).getD j 0) = _
 unfold wz_
 rw [xF_ hi, xE_ hj, y8_, wa_]
 exact xm_ fun k _ => yk_ ..
theorem aY6 (n : Nat) (a : List (List Int)) : fqI (trD n a) = tr n (fqM a) := by unfold trD; rw [y8_, wa_]; rfl
noncomputable def flQ (n : Nat) (a : List (List Int)) (j : Nat) : Fq := if j ≤ n then fqI ((flS n a n).2.getD (n - j) 0) else 0
theorem J8_ {n : Nat} {a : List (List Int)} {j k : Nat} (h : j ≤ k) (hk : k ≤ n) : fqI ((flS n a k).2.getD (n - j) 0) = flQ n a j := by
 unfold flQ
 rw [if_pos (by omega), Yc_ n a k h hk, Yc_ n a n (by omega) (Nat.le_refl _)]
theorem Wj_ {α : Type} {n i : Nat} {x d : α} (h : i < n) : (List.replicate n x).getD i d = x := by
 rw [List.getD_eq_getElem?_getD, List.getElem?_replicate, if_pos h]; rfl
theorem bj8 (n : Nat) (a : List (List Int)) : ∀ k, k ≤ n → Eqn n (fqM (flS n a k).1) (Mk n (fqM a) (flQ n a) k)
 | 0, _ => fun i hi j hj => by
  show fqI (((List.replicate n (List.replicate n (0 : Int))).getD i []).getD j 0) = 0
  rw [Wj_ hi, Wj_ hj]
  rfl
 | k + 1, hk => fun i hi j hj => by
  have ih := bj8 n a k (by omega)
  show fqI (((flM n a (flS n a k) k).getD i []).getD j 0) = mm n (fqM a) (Mk n (fqM a) (flQ n a) k) i j + flQ n a k * one1 i j
  unfold flM ltM
  rw [xF_ hi, xE_ hj, ← yv_ Eqn.rfl ih i hi j hj, ← Te_ n a _ hi hj]
  unfold one1
  by_cases c : i = j
  ·rw [if_pos c, if_pos c, y8_, aI7, y8_, Xw_, J8_ (Nat.le_refl _) (by omega)]
   show fqM _ i j - _ = _
   grind
  ·rw [if_neg c, if_neg c]
   show fqM _ i j = _
   grind
theorem aY7 {n : Nat} (hn : n ≤ 16) {a : List (List Int)} {z : Int} (hz : EigL n a z) : hvL (flS n a n).2 z = 0 := by
 have hI : ∀ k : Nat, 1 ≤ k → k ≤ n → ∃ b : Fq, nkR k * b = 1 := fun k h1 h2 => Sf_ _ (by
  rw [J7_]
  intro h
  have := fqI_nz.1 h
  omega)
 have f0 : flQ n a 0 = 1 := by
  rw [← J8_ (Nat.zero_le n) (Nat.le_refl n), Yc_ n a n (Nat.zero_le _) (Nat.le_refl _)]
  show fqI (((List.replicate (n + 1) 0).set n 1).getD (n - 0) 0) = 1
  rw [Nat.sub_zero, Wi_ (by rw [List.length_replicate]; omega)]
  rfl
 have hf : ∀ k, 1 ≤ k → k ≤ n → nkR k * flQ n a k = - tr n (mm n (fqM a) (Mk n (fqM a) (flQ n a) k)) := fun k h1 h2 => by
  obtain ⟨k, rfl⟩ : ∃ l, k = l + 1 := ⟨k - 1, by omega⟩
  have e : flQ n a (k + 1) = fqI ((-(trD n (wz_ a (flS n a (k + 1)).1 n))) % 55441 * inv ((k + 1 : Nat) : Int) % 55441) := by
   rw [← J8_ (Nat.le_refl _) h2, flS, Wi_ (by rw [Xx_]; omega)]
  rw [e, y8_, yk_, y8_, Xw_, aY6, J7_]
  have e2 : fqI ((k + 1 : Nat) : Int) * fqI (inv ((k + 1 : Nat) : Int)) = 1 := by
   rw [← yk_, ← ar5, fqI_eq, wZ_ ⟨by omega, by omega⟩ (by omega)]
   rfl
  have e3 : tr n (fqM (wz_ a (flS n a (k + 1)).1 n)) = tr n (mm n (fqM a) (Mk n (fqM a) (flQ n a) (k + 1))) := Zf_ (Eqn.trans (fun i hi j hj => Te_ n a _ hi hj) (yv_ Eqn.rfl (bj8 n a (k + 1) h2)))
  rw [e3]
  grind
 have := aI4 Sf_ YD_ hI f0 hf hz.eig
 rw [show flQ n a = (fun j => if j ≤ n then fqI ((flS n a n).2.getD (n - j) 0) else 0) from rfl, ← aI8 (Xx_ n a n)] at this
 exact Wh_ (VZ_ _ _) ⟨by decide, by decide⟩ (by rw [this]; rfl)
end Go.Pl
namespace Go.Pl
def hwF (a b : Nat) (G : Nat → Nat → Int) : Nat → Nat → Int := fun x y => G (swp a b x) (swp a b y)
def heR (k i : Nat) (c : Int) (G : Nat → Nat → Int) : Nat → Nat → Int := fun x y => if x = i then (G i y + -c % 55441 * G (k + 1) y) % 55441 else G x y
def heC (k i : Nat) (c : Int) (G : Nat → Nat → Int) : Nat → Nat → Int := fun x y => if y = k + 1 then (G x (k + 1) + c * G x i) % 55441 else G x y
def heS (k : Nat) (f : Int) (i : Nat) (G : Nat → Nat → Int) : Nat → Nat → Int := heC k i (G i k * f % 55441) (heR k i (G i k * f % 55441) G)
def heF (k : Nat) (f : Int) (G : Nat → Nat → Int) : Nat → Nat → Nat → Int
 | 0 => G
 | t + 1 => heS k f (k + 2 + t) (heF k f G t)
def hsW (n k : Nat) (G : Nat → Nat → Int) : Nat → Nat → Int := hwF (wA_ G k (n - (k + 1)) (k + 1)) (k + 1) G
noncomputable def hsS (n k : Nat) (G : Nat → Nat → Int) : Nat → Nat → Int :=
 if wA_ G k (n - (k + 1)) (k + 1) = n then G else heF k (inv (hsW n k G (k + 1) k)) (hsW n k G) (n - (k + 2))
noncomputable def hsN (n : Nat) (G : Nat → Nat → Int) : Nat → Nat → Nat → Int
 | 0 => G
 | k + 1 => hsS n k (hsN n G k)
def fqG (G : Nat → Nat → Int) : Nat → Nat → Fq := fun i j => fqI (G i j)
structure HsI (n : Nat) (A : Nat → Nat → Int) (k : Nat) (G : Nat → Nat → Int) : Prop where
 sim : SimM n (fqG A) (fqG G)
 inP : ∀ x, x < n → ∀ y, y < n → InP (G x y)
 zero : ∀ y, y < k → ∀ x, x < n → y + 1 < x → G x y = 0
theorem aI9 {n k i : Nat} {f : Int} {G : Nat → Nat → Int} (hk : k + 1 < n) (hi : i < n) (hki : k + 1 < i) : SimM n (fqG G) (fqG (heS k f i G)) := by
 obtain ⟨c, ec⟩ : ∃ c, G i k * f % 55441 = c := ⟨_, rfl⟩
 unfold heS
 rw [ec]
 refine (SimM.cr (c := k + 1) (q := fun x => if x = k + 1 then 1 else if x = i then - fqI c else 0) (w := fun x => if x = k + 1 then 1 else if x = i then fqI c else 0) hk ?_ ?_ (fqG G)).congr Eqn.rfl ?_
 ·show (if k + 1 = k + 1 then (1 : Fq) else _) * (if k + 1 = k + 1 then (1 : Fq) else _) = 1
  rw [if_pos rfl, if_pos rfl]; grind
 ·intro x _ hx
  show (if x = k + 1 then (1 : Fq) else _) + (if x = k + 1 then (1 : Fq) else _) * (if k + 1 = k + 1 then (1 : Fq) else _) = 0
  rw [if_neg hx, if_neg hx, if_pos rfl]
  split <;> grind
 ·have row : ∀ x, x < n → ∀ y, mm n (crM (k + 1) (fun x => if x = k + 1 then 1 else if x = i then - fqI c else 0)) (fqG G) x y = fqG (heR k i c G) x y := fun x hx y => by
   rw [ar4 hk _ _ hx]
   unfold fqG heR
   by_cases a : x = k + 1
   ·rw [if_pos a, if_pos a, if_neg (by omega), a]; grind
   ·rw [if_neg a, if_neg a]
    by_cases b : x = i
    ·rw [if_pos b, if_pos b, b, y8_, zT_, yk_, y8_, Xw_]
    ·rw [if_neg b, if_neg b]; grind
  intro x hx y hy
  rw [aY5 _ _ _ hy]
  by_cases e : y = k + 1
  ·rw [if_pos e]
   show _ = fqI (heC k i c (heR k i c G) x y)
   unfold heC
   rw [if_pos e, y8_, zT_, yk_]
   have two : sm n (fun l => mm n (crM (k + 1) (fun x => if x = k + 1 then 1 else if x = i then - fqI c else 0)) (fqG G) x l * (if l = k + 1 then 1 else if l = i then fqI c else 0)) = sm n (fun l => if l = k + 1 then fqG (heR k i c G) x l else 0) + sm n (fun l => if l = i then fqI c * fqG (heR k i c G) x l else 0) := by
    rw [← wv_]
    refine xm_ fun l hl => ?_
    rw [row x hx l]
    by_cases a : l = k + 1
    ·rw [if_pos a, if_pos a, if_neg (by omega)]; grind
    ·rw [if_neg a, if_neg a]
     by_cases b : l = i
     ·rw [if_pos b, if_pos b]; grind
     ·rw [if_neg b, if_neg b]; grind
   rw [two, zS_ hk, zS_ hi]
   rfl
  ·rw [if_neg e, row x hx y]
   show fqI _ = fqI (heC k i c (heR k i c G) x y)
   unfold heC
   rw [if_neg e]
theorem J9_ {k i : Nat} {f : Int} {G : Nat → Nat → Int} (x y : Nat) (hy : y ≠ k + 1) : heS k f i G x y = if x = i then (G i y + -(G i k * f % 55441) % 55441 * G (k + 1) y) % 55441 else G x y := by
 unfold heS heC heR
 rw [if_neg hy]
theorem aa0 {n k i : Nat} {f : Int} {G : Nat → Nat → Int} (h : ∀ x, x < n → ∀ y, y < n → InP (G x y)) : ∀ x, x < n → ∀ y, y < n → InP (heS k f i G x y) := fun x hx y hy => by
 unfold heS heC heR
 split
 ·exact x7_ _
 ·split
  ·exact x7_ _
  ·exact h x hx y hy
theorem aY8 {n k : Nat} {A G : Nat → Nat → Int} (h : HsI n A k G) (hk : k + 1 < n) (hp : G (k + 1) k ≠ 0) : ∀ t, t ≤ n - (k + 2) →
  HsI n A k (heF k (inv (G (k + 1) k)) G t) ∧ heF k (inv (G (k + 1) k)) G t (k + 1) k = G (k + 1) k ∧ ∀ x, k + 1 < x → x < k + 2 + t → heF k (inv (G (k + 1) k)) G t x k = 0
 | 0, _ => ⟨h, rfl, fun x h1 h2 => by omega⟩
 | t + 1, ht => by
  obtain ⟨a, b, c⟩ := aY8 h hk hp t (by omega)
  show HsI n A k (heS k _ (k + 2 + t) _) ∧ heS k _ (k + 2 + t) _ (k + 1) k = _ ∧ ∀ x, _ → _ → heS k _ (k + 2 + t) _ x k = 0
  generalize heF k (inv (G (k + 1) k)) G t = F at *
  refine ⟨⟨a.sim.trans (aI9 hk (by omega) (by omega)), aa0 a.inP, fun y hy x hx hxy => ?_⟩, ?_, fun x h1 h2 => ?_⟩
  ·rw [J9_ x y (by omega)]
   split
   ·rw [a.zero y hy (k + 2 + t) (by omega) (by omega), a.zero y hy (k + 1) hk (by omega)]
    simp
   ·exact a.zero y hy x hx hxy
  ·rw [J9_ _ _ (by omega), if_neg (by omega), b]
  ·rw [J9_ _ _ (by omega)]
   by_cases e : x = k + 2 + t
   ·rw [if_pos e, b]
    have e1 := wZ_ (h.inP (k + 1) hk k (by omega)) hp
    have e2 : fqI (F (k + 2 + t) k + -(F (k + 2 + t) k * inv (G (k + 1) k) % 55441) % 55441 * G (k + 1) k) = 0 := by
     have e3 : fqI (G (k + 1) k) * fqI (inv (G (k + 1) k)) = 1 := by rw [← yk_, ← ar5, fqI_eq, e1]; rfl
     rw [zT_, yk_, y8_, Xw_, y8_, yk_]
     grind
    exact fqI_nz.1 e2
   ·rw [if_neg e]
    exact c x h1 (by omega)
theorem bh9 {n k : Nat} {A G : Nat → Nat → Int} (h : HsI n A k G) (hk : k + 2 < n) : HsI n A (k + 1) (hsS n k G) := by
 obtain ⟨f1, f2, f3, f4⟩ := zQ_ G k (n - (k + 1)) (k + 1)
 unfold hsS
 by_cases c : wA_ G k (n - (k + 1)) (k + 1) = n
 ·rw [if_pos c]
  refine ⟨h.sim, h.inP, fun y hy x hx hxy => ?_⟩
  by_cases e : y = k
  ·subst e
   exact f3 x (by omega) (by omega)
  ·exact h.zero y (by omega) x hx hxy
 ·rw [if_neg c]
  have hW : HsI n A k (hsW n k G) := by
   unfold hsW
   generalize wA_ G k (n - (k + 1)) (k + 1) = r at *
   refine ⟨h.sim.trans (SimM.swap (show r < n by omega) (show k + 1 < n by omega) (fqG G)), fun x hx y hy => h.inP _ (YX_ (by omega) (by omega) hx) _ (YX_ (by omega) (by omega) hy), fun y hy x hx hxy => ?_⟩
   show G (swp r (k + 1) x) (swp r (k + 1) y) = 0
   have ey : swp r (k + 1) y = y := by unfold swp; rw [if_neg (by omega), if_neg (by omega)]
   rw [ey]
   refine h.zero y hy _ (YX_ (by omega) (by omega) hx) ?_
   unfold swp
   split
   ·omega
   ·split <;> omega
  have hp : hsW n k G (k + 1) k ≠ 0 := by
   unfold hsW hwF
   generalize wA_ G k (n - (k + 1)) (k + 1) = r at *
   have e1 : swp r (k + 1) k = k := by unfold swp; rw [if_neg (by omega), if_neg (by omega)]
   have e2 : swp r (k + 1) (k + 1) = r := by unfold swp; split <;> (try rw [if_pos rfl]) <;> omega
   rw [e1, e2]
   exact f4 (by omega)
  obtain ⟨a, _, z⟩ := aY8 hW (by omega) hp (n - (k + 2)) (Nat.le_refl _)
  refine ⟨a.sim, a.inP, fun y hy x hx hxy => ?_⟩
  by_cases e : y = k
  ·subst e
   exact z x (by omega) (by omega)
  ·exact a.zero y (by omega) x hx hxy
theorem aJ0 {n : Nat} {A : Nat → Nat → Int} (h : ∀ x, x < n → ∀ y, y < n → InP (A x y)) : ∀ k, k ≤ n - 2 → HsI n A k (hsN n A k)
 | 0, _ => ⟨SimM.refl _ _, h, fun y hy => absurd hy (Nat.not_lt_zero y)⟩
 | k + 1, hk => bh9 (aJ0 h k (by omega)) (by omega)
def plL (a b : List Int) (v : Int) : List Int := xU_ a.length fun c => (a.getD c 0 + v * b.getD c 0) % 55441
def hpB (H : Nat → Nat → Int) (L : List (List Int)) (k : Nat) : List Int := plL (0 :: L.getD k []) (L.getD k [] ++ [0]) (-(H k k) % 55441)
def hpI (H : Nat → Nat → Int) (L : List (List Int)) (k : Nat) : Nat → List Int × Int
 | 0 => (hpB H L k, 1)
 | t + 1 => (plL (hpI H L k t).1 (L.getD (k - 1 - t) [] ++ List.replicate ((hpI H L k t).1.length - (L.getD (k - 1 - t) []).length) 0) (-((hpI H L k t).2 * H (k - 1 - t + 1) (k - 1 - t) % 55441 * H (k - 1 - t) k % 55441) % 55441), (hpI H L k t).2 * H (k - 1 - t + 1) (k - 1 - t) % 55441)
def hpS (H : Nat → Nat → Int) : Nat → List (List Int)
 | 0 => [[1]]
 | k + 1 => hpS H k ++ [(hpI H (hpS H k) k k).1]
def pvq (q : List Int) (x : Fq) : Fq := sm q.length fun j => fqI (q.getD j 0) * pz x j
theorem Si_ (a b : List Int) (v : Int) : (plL a b v).length = a.length := xn_ ..
theorem V0_ (a b : List Int) (v : Int) {j : Nat} (h : j < a.length) : InP ((plL a b v).getD j 0) := by
 unfold plL
 rw [xE_ h]
 exact x7_ _
theorem aw1 {a b : List Int} (h : b.length = a.length) (v : Int) (x : Fq) : pvq (plL a b v) x = pvq a x + fqI v * pvq b x := by
 unfold pvq
 rw [Si_, h, ← yA_, ← wv_]
 refine xm_ fun j hj => ?_
 unfold plL
 rw [xE_ hj, y8_, zT_, yk_]
 grind
theorem ar7 (q : List Int) (x : Fq) : pvq (0 :: q) x = x * pvq q x := by
 unfold pvq
 rw [List.length_cons, Wg_, ← yA_]
 show fqI 0 * pz x 0 + sm q.length (fun i => fqI (q.getD i 0) * (x * pz x i)) = _
 rw [YC_, xm_ (f := fun i => fqI (q.getD i 0) * (x * pz x i)) (g := fun i => x * (fqI (q.getD i 0) * pz x i)) fun i _ => by grind]
 grind
theorem Tf_ (q : List Int) (m : Nat) (x : Fq) : pvq (q ++ List.replicate m 0) x = pvq q x := by
 unfold pvq
 rw [List.length_append, List.length_replicate, ww_, yi_ (n := m) fun i hi => ?_]
 ·rw [xm_ (g := fun j => fqI (q.getD j 0) * pz x j) fun j hj => by rw [List.getD_eq_getElem?_getD, List.getElem?_append_left hj, ← List.getD_eq_getElem?_getD]]
  grind
 ·rw [List.getD_eq_getElem?_getD, List.getElem?_append_right (by omega), Nat.add_sub_cancel_left, List.getElem?_replicate, if_pos hi]
  show fqI 0 * _ = 0
  rw [YC_]
  grind
theorem Wk_ {H : Nat → Nat → Int} {L : List (List Int)} {k : Nat} (hL : (L.getD k []).length = k + 1) : ∀ t, (hpI H L k t).1.length = k + 2
 | 0 => by show (hpB H L k).length = _; unfold hpB; rw [Si_, List.length_cons, hL]
 | t + 1 => by rw [hpI]; show (plL _ _ _).length = _; rw [Si_, Wk_ hL t]
theorem aw2 {H : Nat → Nat → Int} {L : List (List Int)} {k : Nat} : ∀ t, t ≤ k → fqI (hpI H L k t).2 = hpr (fqG H) (k - t) t
 | 0, _ => rfl
 | t + 1, ht => by
  rw [hpI]
  show fqI ((hpI H L k t).2 * _ % 55441) = _
  rw [y8_, yk_, aw2 t (by omega), show k - t = k - (t + 1) + 1 by omega, Zg_, show k - 1 - t = k - (t + 1) by omega]
  show _ * fqG H _ _ = _
  grind
theorem aa1 {H : Nat → Nat → Int} {L : List (List Int)} {k : Nat} (hL : ∀ i, i ≤ k → (L.getD i []).length = i + 1) (x : Fq) : ∀ t, t ≤ k → pvq (hpI H L k t).1 x = x * pvq (L.getD k []) x - fqG H k k * pvq (L.getD k []) x - sm t fun s => hpr (fqG H) (k - 1 - s) (s + 1) * fqG H (k - 1 - s) k * pvq (L.getD (k - 1 - s) []) x
 | 0, _ => by
  show pvq (hpB H L k) x = _
  unfold hpB
  rw [aw1 (by rw [List.length_append, List.length_cons]; rfl), ar7, y8_, Xw_, yq_]
  have := Tf_ (L.getD k []) 1 x
  rw [show List.replicate 1 (0 : Int) = [0] from rfl] at this
  rw [this]
  show _ + -(fqG H k k) * _ = _
  grind
 | t + 1, ht => by
  have hl := Wk_ (H := H) (hL k (Nat.le_refl _)) t
  have hp := aw2 (H := H) (L := L) (k := k) (t + 1) ht
  rw [hpI] at hp
  rw [hpI]
  show pvq (plL _ _ _) x = _
  rw [aw1 (by rw [List.length_append, List.length_replicate, hl, hL _ (by omega)]; omega), Tf_, aa1 hL x t (by omega), xQ_, y8_, Xw_, y8_, yk_]
  rw [show k - (t + 1) = k - 1 - t by omega] at hp
  rw [show fqI ((hpI H L k t).2 * H (k - 1 - t + 1) (k - 1 - t) % 55441) = hpr (fqG H) (k - 1 - t) (t + 1) from hp]
  show _ + -(_ * fqG H _ _) * _ = _
  grind
theorem aa2 (H : Nat → Nat → Int) : ∀ k, (hpS H k).length = k + 1 ∧ ∀ i, i ≤ k → ((hpS H k).getD i []).length = i + 1 ∧ (∀ j, j ≤ i → InP (((hpS H k).getD i []).getD j 0)) ∧ ∀ m, k ≤ m → (hpS H m).getD i [] = (hpS H k).getD i []
 | 0 => by
  refine ⟨rfl, fun i hi => ?_⟩
  obtain rfl : i = 0 := by omega
  refine ⟨rfl, fun j hj => ?_, fun m _ => ?_⟩
  ·obtain rfl : j = 0 := by omega
   exact ⟨(by omega : (0 : Int) ≤ 1), (by omega : (1 : Int) ≤ 55440)⟩
  ·induction m with
   | zero => rfl
   | succ m ih =>
    rw [← ih (Nat.zero_le _), hpS]
    have l := (hpS_len H m)
    rw [List.getD_eq_getElem?_getD, List.getElem?_append_left (by omega), ← List.getD_eq_getElem?_getD]
 | k + 1 => by
  obtain ⟨l, h⟩ := aa2 H k
  have l2 := hpS_len H (k + 1)
  have keep : ∀ m, k + 1 ≤ m → ∀ i, i ≤ k + 1 → (hpS H m).getD i [] = (hpS H (k + 1)).getD i [] := fun m hm => by
   induction m with
   | zero => omega
   | succ m ih =>
    intro i hi
    by_cases c : m = k
    ·rw [c]
    ·rw [← ih (by omega) i hi, hpS]
     have l := (hpS_len H m)
     rw [List.getD_eq_getElem?_getD, List.getElem?_append_left (by omega), ← List.getD_eq_getElem?_getD]
  refine ⟨l2, fun i hi => ⟨?_, fun j hj => ?_, fun m hm => keep m hm i hi⟩⟩
  ·by_cases c : i = k + 1
   ·subst c
    rw [hpS, List.getD_eq_getElem?_getD, List.getElem?_append_right (by omega), l, Nat.sub_self]
    exact Wk_ (h k (Nat.le_refl _)).1 k
   ·rw [(h i (by omega)).2.2 (k + 1) (by omega)]
    exact (h i (by omega)).1
  ·by_cases c : i = k + 1
   ·subst c
    have e : (hpS H (k + 1)).getD (k + 1) [] = (hpI H (hpS H k) k k).1 := by
     rw [hpS, List.getD_eq_getElem?_getD, List.getElem?_append_right (by omega), l, Nat.sub_self]
     rfl
    rw [e]
    have hl := Wk_ (H := H) (h k (Nat.le_refl _)).1
    cases k with
    | zero => exact V0_ _ _ _ (by rw [List.length_cons, (h 0 (Nat.le_refl _)).1]; omega)
    | succ k =>
     rw [hpI]
     exact V0_ _ _ _ (by rw [hl]; omega)
   ·rw [(h i (by omega)).2.2 (k + 1) (by omega)]
    exact (h i (by omega)).2.1 j hj
where hpS_len (H : Nat → Nat → Int) : ∀ k, (hpS H k).length = k + 1
 | 0 => rfl
 | k + 1 => by rw [hpS, List.length_append, hpS_len H k]; rfl
theorem aJ1 (H : Nat → Nat → Int) (n : Nat) (x : Fq) : HsP n (fqG H) x fun k => pvq ((hpS H k).getD k []) x := by
 refine ⟨?_, fun k hk => ?_⟩
 ·show sm 1 (fun j => fqI (([1] : List Int).getD j 0) * pz x j) = 1
  rw [xQ_, yq_]
  show 0 + fqI 1 * 1 = 1
  rw [ar5]
  grind
 ·obtain ⟨l, h⟩ := aa2 H k
  show pvq ((hpS H (k + 1)).getD (k + 1) []) x = x * pvq ((hpS H k).getD k []) x - _
  rw [hpS, List.getD_eq_getElem?_getD, List.getElem?_append_right (by omega), l, Nat.sub_self]
  show pvq (hpI H (hpS H k) k k).1 x = _
  rw [aa1 (fun i hi => (h i hi).1) x k (Nat.le_refl _), xQ_, Nat.sub_self, hpr]
  rw [← J4_ k fun i => hpr (fqG H) i (k - i) * fqG H i k * pvq ((hpS H i).getD i []) x]
  rw [xm_ (f := fun i => hpr (fqG H) (k - 1 - i) (k - (k - 1 - i)) * fqG H (k - 1 - i) k * pvq ((hpS H (k - 1 - i)).getD (k - 1 - i) []) x) (g := fun s => hpr (fqG H) (k - 1 - s) (s + 1) * fqG H (k - 1 - s) k * pvq ((hpS H k).getD (k - 1 - s) []) x) fun i hi => by
   rw [show k - (k - 1 - i) = i + 1 by omega, ((aa2 H (k - 1 - i)).2 (k - 1 - i) (Nat.le_refl _)).2.2 k (by omega)]]
  grind
noncomputable def chL (n : Nat) (a : List (List Int)) : List Int := (hpS (hsN n (e2 a) (n - 2)) n).getD n []
theorem aY9 {n : Nat} {a : List (List Int)} (h : ∀ x, x < n → ∀ y, y < n → InP (e2 a x y)) {z : Int} (hz : EigL n a z) : hvL (chL n a) z = 0 := by
 have hP := aJ0 (n := n) h (n - 2) (Nat.le_refl _)
 have e := hz.eig
 have e2 := hP.sim.eig e
 have := aI6 YD_ (fun i hi j hj => by
  show fqI _ = 0
  rw [hP.zero j (by omega) i hi hj]
  rfl) (aJ1 _ n (fqI z)) e2
 refine Wh_ (VZ_ _ _) ⟨Int.le_refl 0, (by omega : (0 : Int) ≤ 55440)⟩ ?_
 rw [Rj_, YC_]
 exact this
end Go.Pl
namespace Go.Pl
def hvT (q : List Int) (z : Int) : Nat → Int
 | 0 => 0
 | k + 1 => (hvT q z k * z + q.getD (q.length - 1 - k) 0) % 55441
theorem Wl_ (q : List Int) (z : Int) : ∀ k, InP (hvT q z k)
 | 0 => ⟨Int.le_refl 0, (by omega : (0 : Int) ≤ 55440)⟩
 | _ + 1 => x7_ _
theorem Rk_ (q : List Int) (z : Int) : ∀ k, k ≤ q.length → hvT q z k = hvL (q.drop (q.length - k)) z
 | 0, _ => by rw [Nat.sub_zero, List.drop_length]; rfl
 | k + 1, hk => by
  rw [hvT, Rk_ q z k (by omega), List.drop_eq_getElem_cons (by omega : q.length - (k + 1) < q.length), hvL, show q.length - (k + 1) + 1 = q.length - k by omega]
  rw [List.getD_eq_getElem?_getD, List.getElem?_eq_getElem (by omega : q.length - 1 - k < q.length)]
  congr 2
  show q[q.length - 1 - k] = q[q.length - (k + 1)]
  congr 1
  omega
theorem aa3 (q : List Int) (z : Int) : hvT q z q.length = hvL q z := by rw [Rk_ q z _ (Nat.le_refl _), Nat.sub_self, List.drop_zero]
def dvQ (q : List Int) (z : Int) : List Int := xU_ (q.length - 1) fun j => hvT q z (q.length - 1 - j)
theorem Wm_ (q : List Int) (z : Int) : (dvQ q z).length = q.length - 1 := xn_ ..
theorem Sj_ {q : List Int} {z : Int} {j : Nat} (h : j < q.length - 1) : (dvQ q z).getD j 0 = hvT q z (q.length - 1 - j) := xE_ h
theorem aw3 (q : List Int) (z : Int) : pvq q (fqI z) = fqI (hvL q z) := (Rj_ z q).symm
theorem aZ0 (q : List Int) (h1 : 1 ≤ q.length) (z : Int) (x : Fq) : pvq q x = (x - fqI z) * pvq (dvQ q z) x + fqI (hvL q z) := by
 obtain ⟨m, em⟩ : ∃ m, q.length = m + 1 := ⟨q.length - 1, by omega⟩
 obtain ⟨B, eB⟩ : ∃ B : Nat → Fq, B = fun j => fqI (hvT q z (m - j)) := ⟨_, rfl⟩
 have hB : pvq (dvQ q z) x = sm m fun j => B j * pz x j := by
  unfold pvq
  rw [Wm_, em, Nat.add_sub_cancel]
  refine xm_ fun j hj => ?_
  rw [Sj_ (by omega), em, Nat.add_sub_cancel, eB]
 have hrec : ∀ j, j < m → fqI (q.getD (j + 1) 0) = B j - fqI z * (if j + 1 = m then 0 else B (j + 1)) := fun j hj => by
  rw [eB]
  show _ = fqI (hvT q z (m - j)) - fqI z * (if j + 1 = m then 0 else fqI (hvT q z (m - (j + 1))))
  rw [show m - j = m - (j + 1) + 1 by omega, hvT, y8_, zT_, yk_, em, show m + 1 - 1 - (m - (j + 1)) = j + 1 by omega]
  by_cases c : j + 1 = m
  ·rw [if_pos c, c, Nat.sub_self]
   show _ = fqI 0 * _ + _ - _
   rw [YC_]
   grind
  ·rw [if_neg c]; grind
 have v0 : fqI (hvL q z) = (if m = 0 then 0 else B 0) * fqI z + fqI (q.getD 0 0) := by
  rw [← aa3, em, hvT, y8_, zT_, yk_, em, show m + 1 - 1 - m = 0 by omega, eB]
  by_cases c : m = 0
  ·subst c
   rw [if_pos rfl]
   show fqI 0 * _ + _ = _
   rw [YC_]
  ·rw [if_neg c]
   show _ = fqI (hvT q z (m - 0)) * _ + _
   rw [Nat.sub_zero]
 rw [hB, v0]
 unfold pvq
 rw [em, Wg_]
 have e1 : sm m (fun i => fqI (q.getD (i + 1) 0) * pz x (i + 1)) = x * sm m (fun j => B j * pz x j) - fqI z * sm m (fun j => (if j + 1 = m then 0 else B (j + 1)) * pz x (j + 1)) := by
  rw [← yA_, ← yA_]
  have y : ∀ a b : Fq, a - b = a + (-1) * b := fun a b => by grind
  rw [y, ← yA_, ← wv_]
  refine xm_ fun j hj => ?_
  rw [hrec j hj, pz]
  grind
 have e2 : sm m (fun j => (if j + 1 = m then 0 else B (j + 1)) * pz x (j + 1)) = sm m (fun j => B j * pz x j) - (if m = 0 then 0 else B 0) := by
  cases m with
  | zero => rw [yq_, yq_, if_pos rfl]; grind
  | succ m =>
   rw [if_neg (by omega), Wg_ m (fun j => B j * pz x j), xQ_ m fun j => (if j + 1 = m + 1 then 0 else B (j + 1)) * pz x (j + 1), if_pos rfl]
   rw [xm_ (f := fun j => (if j + 1 = m + 1 then 0 else B (j + 1)) * pz x (j + 1)) (g := fun i => B (i + 1) * pz x (i + 1)) fun j hj => by rw [if_neg (by omega)]]
   show _ = B 0 * 1 + _ - _
   grind
 show fqI (q.getD 0 0) * 1 + _ = _
 rw [e1, e2]
 generalize sm m (fun j => B j * pz x j) = T
 grind
structure RtI (P : List Int) (k : Int) (q : List Int) : Prop where
 len : 1 ≤ q.length ∧ q.length ≤ P.length
 inP : ∀ j, j < q.length → InP (q.getD j 0)
 top : q.getD (q.length - 1) 0 = 1
 same : ∀ w, k ≤ w → w < 55441 → (hvL q w = 0 ↔ hvL P w = 0)
theorem RtI.mono {P q : List Int} {k l : Int} (h : RtI P k q) (hkl : k ≤ l) : RtI P l q := ⟨h.len, h.inP, h.top, fun w h1 h2 => h.same w (by omega) h2⟩
theorem RtI.div {P q : List Int} {k : Int} (h : RtI P (k + 1) q) (k0 : 0 ≤ k) (hk : k < 55441) (h2 : 2 ≤ q.length) (hz : hvL q k = 0) : RtI P (k + 1) (dvQ q k) := by
 refine ⟨by rw [Wm_]; have := h.len; omega, fun j hj => ?_, ?_, fun w h1 hw => ?_⟩
 ·rw [Wm_] at hj
  rw [Sj_ hj]
  exact Wl_ _ _ _
 ·rw [Wm_, Sj_ (by omega), show q.length - 1 - (q.length - 1 - 1) = 1 by omega, hvT, Nat.sub_zero, h.top]
  show (0 * k + 1) % 55441 = 1
  rw [Int.zero_mul]
  rfl
 ·rw [← h.same w h1 hw]
  have e := aZ0 q h.len.1 k (fqI w)
  rw [aw3, aw3, hz, YC_] at e
  have z0 : InP 0 := ⟨Int.le_refl 0, (by omega : (0 : Int) ≤ 55440)⟩
  constructor
  ·intro h0
   rw [h0, YC_] at e
   refine Wh_ (VZ_ _ _) z0 ?_
   rw [e, YC_]
   grind
  ·intro h0
   rw [h0, YC_] at e
   rcases YD_ (fqI w - fqI k) (fqI (hvL (dvQ q k) w)) (by grind) with g | g
   ·exfalso
    have : fqI w = fqI k := by grind
    have := fqI_eq.1 this
    omega
   ·exact Wh_ (VZ_ _ _) z0 (by rw [g, YC_])
theorem RtI.one {P q : List Int} {k : Int} (h : RtI P k q) (h1 : q.length ≤ 1) {w : Int} (hw : k ≤ w) (h2 : w < 55441) : hvL P w ≠ 0 := fun h0 => by
 have a := (h.same w hw h2).2 h0
 have l := h.len
 obtain ⟨c, rfl⟩ : ∃ c, q = [c] := by
  match q, l, h1 with
  | [c], _, _ => exact ⟨c, rfl⟩
  | [], l, _ => simp at l
  | _ :: _ :: _, _, h1 => simp at h1
 have t := h.top
 simp at t
 subst t
 simp [hvL] at a
def rtL (P : List Int) (k : Nat) : List Int := ((List.range k).filter fun (z : Nat) => decide (hvL P (z : Int) = 0)).map fun z => ((z : Nat) : Int)
theorem aa4 {P : List Int} {k : Nat} (h : hvL P (k : Int) = 0) : rtL P (k + 1) = rtL P k ++ [(k : Int)] := by
 unfold rtL
 rw [List.range_succ, List.filter_append, List.map_append]
 congr 1
 rw [List.filter_cons, if_pos (decide_eq_true h)]
 rfl
theorem aa5 {P : List Int} {k : Nat} (h : hvL P (k : Int) ≠ 0) : rtL P (k + 1) = rtL P k := by
 unfold rtL
 rw [List.range_succ, List.filter_append, List.map_append]
 rw [List.filter_cons, if_neg (by rw [decide_eq_false h]; decide)]
 simp
theorem ar8 {P : List Int} {k m : Nat} (hkm : k ≤ m) (h : ∀ j : Nat, k ≤ j → j < m → hvL P (j : Int) ≠ 0) : rtL P m = rtL P k := by
 induction m with
 | zero => rw [show k = 0 by omega]
 | succ m ih =>
  by_cases c : k = m + 1
  ·rw [c]
  ·rw [aa5 (h m (by omega) (by omega)), ih (by omega) fun j h1 h2 => h j h1 (by omega)]
theorem rtL_mem {P : List Int} {k : Nat} {z : Int} : z ∈ rtL P k ↔ 0 ≤ z ∧ z < k ∧ hvL P z = 0 := by
 unfold rtL
 rw [List.mem_map]
 constructor
 ·rintro ⟨a, ha, rfl⟩
  rw [List.mem_filter, List.mem_range] at ha
  exact ⟨by omega, by omega, of_decide_eq_true ha.2⟩
 ·rintro ⟨h0, h1, h2⟩
  exact ⟨z.toNat, by rw [List.mem_filter, List.mem_range]; exact ⟨by omega, decide_eq_true (by rw [show ((z.toNat : Nat) : Int) = z by omega]; exact h2)⟩, by omega⟩
theorem Wn_ (P : List Int) (k : Nat) : (rtL P k).Nodup := by
 unfold rtL
 refine List.Pairwise.map _ (fun a b h => ?_) (List.Pairwise.filter _ List.nodup_range)
 intro e
 exact h (by omega)
theorem YE_ (P : List Int) (k : Nat) : (rtL P k).length ≤ k := by
 unfold rtL
 rw [List.length_map]
 refine Nat.le_trans (List.length_filter_le _ _) ?_
 rw [List.length_range]
 exact Nat.le_refl _
end Go.Pl
