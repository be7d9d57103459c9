import Derived.Test.YtlngnhbochmcoaaKp1
set_option linter.unusedSimpArgs false
set_option linter.unusedVariables false
namespace Go.Pl
open Go
theorem JK_ {p : Nat} (hp : 0 < p) : ∀ (k a b : Nat), a < p ^ k → b < p ^ k → (∀ j, j < k → a / p ^ j % p = b / p ^ j % p) → a = b
 | 0, a, b, ha, hb, _ => by rw [Nat.pow_zero] at ha hb; omega
 | k + 1, a, b, ha, hb, h => by
  have e0 := h 0 (by omega)
  rw [Nat.pow_zero, Nat.div_one, Nat.div_one] at e0
  have q : a / p = b / p := by
   refine JK_ hp k _ _ ?_ ?_ fun j hj => ?_
   ·exact Nat.div_lt_of_lt_mul (by rw [Nat.mul_comm, ← Nat.pow_succ]; exact ha)
   ·exact Nat.div_lt_of_lt_mul (by rw [Nat.mul_comm, ← Nat.pow_succ]; exact hb)
   ·have := h (j + 1) (by omega)
    rw [Nat.pow_succ, Nat.mul_comm, ← Nat.div_div_eq_div_mul, ← Nat.div_div_eq_div_mul] at this
    exact this
  rw [← Nat.div_add_mod a p, ← Nat.div_add_mod b p, q, e0]
def aG1 (p : Nat) : Nat → List (List Nat)
 | 0 => [[]]
 | k + 1 => (List.range p).flatMap fun d => (aG1 p k).map (d :: ·)
theorem X3_ {α : Type} {c : Nat} : ∀ (l : List α), (l.map fun _ => c).sum = l.length * c
 | [] => by simp
 | _ :: l => by
  rw [List.map_cons, List.sum_cons, X3_ l, List.length_cons, Nat.succ_mul, Nat.add_comm]
theorem Wc_ (p : Nat) : ∀ k, (aG1 p k).length = p ^ k
 | 0 => rfl
 | k + 1 => by
  rw [aG1, List.length_flatMap]
  simp only [List.length_map, Wc_ p k]
  rw [X3_, List.length_range, Nat.pow_succ, Nat.mul_comm]
theorem S1_ {p : Nat} : ∀ {k : Nat} {v : List Nat}, v.length = k → (∀ x ∈ v, x < p) → v ∈ aG1 p k
 | 0, [], _, _ => by simp [aG1]
 | k + 1, x :: v, h, hx => by
  rw [aG1, List.mem_flatMap]
  exact ⟨x, List.mem_range.2 (hx x (List.mem_cons_self ..)), List.mem_map.2 ⟨v, S1_ (by simpa using h) (fun y hy => hx y (List.mem_cons_of_mem _ hy)), rfl⟩⟩
theorem VP_ {f g : Nat → Int} : ∀ {n : Nat}, sumTo (fun i => f i - g i) n = sumTo f n - sumTo g n
 | 0 => by simp [sumTo]
 | n + 1 => by
  simp only [sumTo]
  rw [VP_]
  omega
theorem under {p m k : Nat} (hp : 2 ≤ p) (hmk : m < k) (B : Nat → Nat → Int) : ∃ y : Nat → Int, (∃ j, j < k ∧ y j % (p : Int) ≠ 0) ∧ ∀ i, i < m → sumTo (fun j => B i j * y j) k % (p : Int) = 0 := by
 have hp0 : (0 : Int) < p := by omega
 obtain ⟨Y, eY⟩ : ∃ Y : Nat → Nat → Int, Y = fun a j => ((a / p ^ j % p : Nat) : Int) := ⟨_, rfl⟩
 obtain ⟨R, eR⟩ : ∃ R : Nat → Nat → Nat, R = fun a i => (sumTo (fun j => B i j * Y a j) k % (p : Int)).toNat := ⟨_, rfl⟩
 have hR : ∀ a i, ((R a i : Nat) : Int) = sumTo (fun j => B i j * Y a j) k % (p : Int) := fun a i => by
  rw [eR]
  exact Int.toNat_of_nonneg (Int.emod_nonneg _ (by omega))
 have hRl : ∀ a i, R a i < p := fun a i => by
  have h1 := Int.emod_lt_of_pos (sumTo (fun j => B i j * Y a j) k) hp0
  rw [← hR] at h1
  omega
 obtain ⟨f, ef⟩ : ∃ f : Nat → List Nat, f = fun a => (List.range m).map (R a) := ⟨_, rfl⟩
 have hcol : ∃ a b, a < p ^ k ∧ b < p ^ k ∧ a ≠ b ∧ f a = f b := by
  refine Classical.byContradiction fun hno => ?_
  have hinj : ∀ a b, a < p ^ k → b < p ^ k → f a = f b → a = b := fun a b ha hb e => Classical.byContradiction fun h => hno ⟨a, b, ha, hb, h, e⟩
  have hnd : ((List.range (p ^ k)).map f).Nodup := by
   unfold List.Nodup
   rw [List.pairwise_map]
   refine List.Pairwise.imp_of_mem (R := fun a b => a ≠ b) (fun {a b} ha hb hne e => hne (hinj a b (List.mem_range.1 ha) (List.mem_range.1 hb) e)) ?_
   exact List.nodup_range
  have hle := List.Nodup.length_le_of_subset (l₂ := aG1 p m) hnd fun v hv => by
   obtain ⟨a, _, rfl⟩ := List.mem_map.1 hv
   rw [ef]
   exact S1_ (by simp) fun x hx => by
    obtain ⟨i, _, rfl⟩ := List.mem_map.1 hx
    exact hRl a i
  rw [List.length_map, List.length_range, Wc_] at hle
  have := Nat.pow_lt_pow_right (a := p) (by omega) hmk
  omega
 obtain ⟨a, b, ha, hb, hne, e⟩ := hcol
 refine ⟨fun j => Y a j - Y b j, ?_, fun i hi => ?_⟩
 ·refine Classical.byContradiction fun hno => hne ?_
  refine JK_ (by omega) k a b ha hb fun j hj => ?_
  have h0 : (Y a j - Y b j) % (p : Int) = 0 := Classical.byContradiction fun h => hno ⟨j, hj, h⟩
  rw [eY] at h0
  have b1 : a / p ^ j % p < p := Nat.mod_lt _ (by omega)
  have b2 : b / p ^ j % p < p := Nat.mod_lt _ (by omega)
  dsimp only at h0
  generalize a / p ^ j % p = u at *
  generalize b / p ^ j % p = v at *
  obtain ⟨c, hc⟩ := Int.dvd_of_emod_eq_zero h0
  have : c = 0 := by
   rcases Int.lt_trichotomy c 0 with h | h | h
   ·have : (p : Int) * c ≤ (p : Int) * (-1) := Int.mul_le_mul_of_nonneg_left (by omega) (by omega)
    omega
   ·exact h
   ·have : (p : Int) * 1 ≤ (p : Int) * c := Int.mul_le_mul_of_nonneg_left (by omega) (by omega)
    omega
  subst this
  omega
 ·have hi2 : R a i = R b i := by
   rw [ef] at e
   have := List.map_inj_left.1 e i (List.mem_range.2 hi)
   exact this
  have h1 := hR a i
  have h2 := hR b i
  rw [hi2] at h1
  have es : sumTo (fun j => B i j * (Y a j - Y b j)) k = sumTo (fun j => B i j * Y a j) k - sumTo (fun j => B i j * Y b j) k := by
   rw [← VP_]
   exact xs_ fun j _ => by rw [Int.mul_sub]
  rw [es]
  exact Int.emod_eq_zero_of_dvd (Int.dvd_of_emod_eq_zero (by rw [Int.sub_emod, ← h1, ← h2, Int.sub_self, Int.zero_emod]))
def Sol (p : Int) (m n : Nat) (G : Nat → Nat → Int) (x : Nat → Int) : Prop := ∀ i, i < m → sumTo (fun k => G i k * x k) n % p = 0
theorem JL_ {f : Nat → Int} {x : Int} {n j : Nat} (hj : j < n) : sumTo (fun k => f k * (if j = k then x else 0)) n = f j * x := by
 have := VQ_ (f := f) (x := x) hj
 rw [Int.mul_comm (f j)]
 rw [← this]
 exact xs_ fun k _ => by
  rw [Int.mul_comm]
  by_cases e : j = k
  ·rw [if_pos e, if_pos e.symm]
  ·rw [if_neg e, if_neg (fun h => e h.symm)]
theorem X4_ {f : Nat → Int} {c : Int} {n : Nat} : sumTo (fun i => c * f i) n = c * sumTo f n := by
 rw [Int.mul_comm c, ← sum_mul]
 exact xs_ fun i _ => Int.mul_comm _ _
theorem aG2 {p m1 m2 n : Nat} (hp : 2 ≤ p) {A B : Nat → Nat → Int} {pv : Nat → Nat} (hB : ∀ i, i < m2 → pv i < n)
  (hd : ∀ y : Nat → Int, (∀ i, i < m2 → sumTo (fun j => B i (pv j) * y j) m2 % (p : Int) = 0) → ∀ i, i < m2 → y i % (p : Int) = 0)
  (hS : ∀ x, Sol p m1 n A x → Sol p m2 n B x) : m2 ≤ m1 := by
 refine Classical.byContradiction fun hlt => ?_
 obtain ⟨y, ⟨j, hj, hy⟩, hA⟩ := under hp (show m1 < m2 by omega) fun i j => A i (pv j)
 have hx : ∀ (C : Nat → Nat → Int) i, sumTo (fun k => C i k * sumTo (fun j => if pv j = k then y j else 0) m2) n = sumTo (fun j => C i (pv j) * y j) m2 := fun C i => by
  have e1 : sumTo (fun k => C i k * sumTo (fun j => if pv j = k then y j else 0) m2) n = sumTo (fun k => sumTo (fun j => C i k * (if pv j = k then y j else 0)) m2) n :=
   xs_ fun k _ => (X4_).symm
  rw [e1, z0_]
  exact xs_ fun j hj => JL_ (f := C i) (hB j hj)
 have h1 := hS (fun k => sumTo (fun j => if pv j = k then y j else 0) m2) fun i hi => by rw [hx]; exact hA i hi
 exact hy (hd y (fun i hi => by rw [← hx]; exact h1 i hi) j hj)
theorem S2_ {p m1 m2 n : Nat} (hp : 2 ≤ p) {A B : Nat → Nat → Int} {pv : Nat → Nat} (hB : ∀ i, i < m2 → pv i < n)
  (hd : ∀ i, i < m2 → ∀ j, j < m2 → B i (pv j) = if i = j then 1 else 0)
  (hS : ∀ x, Sol p m1 n A x → Sol p m2 n B x) : m2 ≤ m1 :=
 aG2 hp hB (fun y h i hi => by
  have := h i hi
  have e : sumTo (fun j => B i (pv j) * y j) m2 = y i := by
   rw [← Z4_ (f := y) hi]
   exact xs_ fun j hj => by
    rw [hd i hi j hj]
    by_cases c : i = j
    ·rw [if_pos c, if_pos c.symm, Int.one_mul]
    ·rw [if_neg c, if_neg (fun h => c h.symm), Int.zero_mul]
  rwa [e] at this) hS
end Go.Pl
namespace Go.Pl
open Go
def wA_ (G : Nat → Nat → Int) (k : Nat) : Nat → Nat → Nat
 | 0, f => f
 | c + 1, f => if G f k = 0 then wA_ G k c (f + 1) else f
theorem zQ_ (G : Nat → Nat → Int) (k : Nat) : ∀ c f, f ≤ wA_ G k c f ∧ wA_ G k c f ≤ f + c ∧ (∀ i, f ≤ i → i < wA_ G k c f → G i k = 0) ∧ (wA_ G k c f < f + c → G (wA_ G k c f) k ≠ 0)
 | 0, f => ⟨Nat.le_refl _, Nat.le_refl _, fun i h1 h2 => by unfold wA_ at h2; omega, fun h => by unfold wA_ at h; omega⟩
 | c + 1, f => by
  unfold wA_
  by_cases h : G f k = 0
  ·rw [if_pos h]
   obtain ⟨h1, h2, h3, h4⟩ := zQ_ G k c (f + 1)
   refine ⟨by omega, by omega, fun i i1 i2 => ?_, fun hl => h4 (by omega)⟩
   by_cases e : i = f
   ·rw [e]; exact h
   ·exact h3 i (by omega) i2
  ·rw [if_neg h]
   exact ⟨Nat.le_refl _, by omega, fun i h1 h2 => by omega, fun _ => h⟩
def swF (G : Nat → Nat → Int) (d f : Nat) : Nat → Nat → Int := fun i c => if i = d then G f c else if i = f then G d c else G i c
def smF (G : Nat → Nat → Int) (d : Nat) (v : Int) : Nat → Nat → Int := fun i c => if i = d then G d c * v % 55441 else G i c
def rdF (G : Nat → Nat → Int) (d k : Nat) : Nat → Nat → Int := fun i c => if i = d then G d c else (G i c - G i k * G d c) % 55441
def X5_ (G : Nat → Nat → Int) (d k f : Nat) : Nat → Nat → Int := rdF (smF (swF G d f) d (inv (G f k))) d k
def gjS (m : Nat) (s : (Nat → Nat → Int) × Nat) (k : Nat) : (Nat → Nat → Int) × Nat :=
 if wA_ s.1 k (m - s.2) s.2 < m then (X5_ s.1 s.2 k (wA_ s.1 k (m - s.2) s.2), s.2 + 1) else s
def gj (m : Nat) (G : Nat → Nat → Int) : Nat → (Nat → Nat → Int) × Nat
 | 0 => (G, 0)
 | k + 1 => gjS m (gj m G k) k
theorem av0 {a x : Nat → Int} {n : Nat} : sumTo (fun c => a c % 55441 * x c) n % 55441 = sumTo (fun c => a c * x c) n % 55441 :=
 WU_ fun c _ => by rw [Int.mul_emod, Int.emod_emod, ← Int.mul_emod]
theorem X6_ {a b : Int} (h : b % 55441 = 0) : a * b % 55441 = 0 := by rw [Int.mul_emod, h, Int.mul_zero, Int.zero_emod]
theorem aW1 {m n d f : Nat} {G : Nat → Nat → Int} {x : Nat → Int} (hd : d < m) (hf : f < m) : Sol 55441 m n (swF G d f) x ↔ Sol 55441 m n G x := by
 have key : ∀ i, swF G d f i = if i = d then G f else if i = f then G d else G i := fun i => by
  funext c; unfold swF; split; rfl; split; rfl; rfl
 constructor
 ·intro h i hi
  by_cases e1 : i = f
  ·have := h d hd
   rw [key, if_pos rfl] at this
   rw [e1]; exact this
  ·by_cases e2 : i = d
   ·have := h f hf
    rw [key] at this
    rw [e2]
    by_cases e3 : f = d
    ·exact absurd (e2.trans e3.symm) e1
    ·rw [if_neg e3, if_pos rfl] at this
     exact this
   ·have := h i hi
    rw [key, if_neg e2, if_neg e1] at this
    exact this
 ·intro h i hi
  rw [key]
  split
  ·exact h f hf
  ·split
   ·exact h d hd
   ·exact h i hi
theorem aW2 {m n d : Nat} {G : Nat → Nat → Int} {x : Nat → Int} {v l : Int} (hd : d < m) (hv : l * v % 55441 = 1) : Sol 55441 m n (smF G d v) x ↔ Sol 55441 m n G x := by
 have es : sumTo (fun c => smF G d v d c * x c) n % 55441 = v * sumTo (fun c => G d c * x c) n % 55441 := by
  have : (fun c => smF G d v d c * x c) = fun c => (G d c * v) % 55441 * x c := by funext c; unfold smF; rw [if_pos rfl]
  rw [this, av0, ← X4_]
  congr 1
  exact xs_ fun c _ => by rw [Int.mul_comm (G d c) v, Int.mul_assoc]
 have eo : ∀ i, i ≠ d → smF G d v i = G i := fun i hi => by funext c; unfold smF; rw [if_neg hi]
 constructor
 ·intro h i hi
  by_cases e : i = d
  ·have h1 := h d hd
   rw [es] at h1
   rw [e]
   have h2 := X6_ (a := l) h1
   rw [← Int.mul_assoc, Int.mul_emod, hv, Int.one_mul, Int.emod_emod] at h2
   exact h2
  ·have := h i hi
   rwa [eo i e] at this
 ·intro h i hi
  by_cases e : i = d
  ·rw [e, es]
   exact X6_ (h d hd)
  ·rw [eo i e]; exact h i hi
theorem aW3 {m n d k : Nat} {G : Nat → Nat → Int} {x : Nat → Int} (hd : d < m) : Sol 55441 m n (rdF G d k) x ↔ Sol 55441 m n G x := by
 have e0 : rdF G d k d = G d := by funext c; unfold rdF; rw [if_pos rfl]
 have es : ∀ i, i ≠ d → sumTo (fun c => rdF G d k i c * x c) n % 55441 = (sumTo (fun c => G i c * x c) n - G i k * sumTo (fun c => G d c * x c) n) % 55441 := fun i hi => by
  have : (fun c => rdF G d k i c * x c) = fun c => (G i c - G i k * G d c) % 55441 * x c := by funext c; unfold rdF; rw [if_neg hi]
  rw [this, av0, ← X4_, ← VP_]
  congr 1
  exact xs_ fun c _ => by rw [Int.sub_mul, Int.mul_assoc]
 have sb : ∀ {a b : Int}, b % 55441 = 0 → (a - b) % 55441 = a % 55441 := fun h => by omega
 constructor
 ·intro h i hi
  have hD : sumTo (fun c => G d c * x c) n % 55441 = 0 := by
   have := h d hd
   rwa [e0] at this
  by_cases e : i = d
  ·rw [e]; exact hD
  ·have := h i hi
   rw [es i e, sb (X6_ hD)] at this
   exact this
 ·intro h i hi
  by_cases e : i = d
  ·rw [e, e0]; exact h d hd
  ·rw [es i e, sb (X6_ (h d hd))]
   exact h i hi
structure GjP (m n k : Nat) (G0 G : Nat → Nat → Int) (d : Nat) (pv : Nat → Nat) : Prop where
 dm : d ≤ m
 ent : ∀ i, i < m → ∀ c, c < n → InP (G i c)
 pk : ∀ j, j < d → pv j < k
 one : ∀ i, i < m → ∀ j, j < d → G i (pv j) = if i = j then 1 else 0
 low : ∀ i, d ≤ i → i < m → ∀ c, c < k → G i c = 0
 lead : ∀ i, i < d → ∀ c, c < pv i → G i c = 0
 sol : ∀ x, Sol 55441 m n G x ↔ Sol 55441 m n G0 x
theorem aq2 {m n k d : Nat} {G0 G : Nat → Nat → Int} {pv : Nat → Nat} (h : GjP m n k G0 G d pv) (hk : k < n) : ∃ pv', GjP m n (k + 1) G0 (gjS m (G, d) k).1 (gjS m (G, d) k).2 pv' := by
 obtain ⟨f1, f2, f3, f4⟩ := zQ_ G k (m - d) d
 have hdm := h.dm
 unfold gjS
 try dsimp only
 generalize wA_ G k (m - d) d = f at *
 by_cases hf : f < m
 ·rw [if_pos hf]
  show ∃ pv', GjP m n (k + 1) G0 (X5_ G d k f) (d + 1) pv'
  have hl := f4 (by omega)
  have hlP := h.ent f hf k hk
  have hiv := wZ_ hlP hl
  have ivP := Yv_ hlP
  have hdlt : d < m := by omega
  -- the rows, told
  have key : ∀ i c, X5_ G d k f i c = if i = d then G f c * inv (G f k) % 55441 else ((if i = f then G d c else G i c) - (if i = f then G d k else G i k) * (G f c * inv (G f k) % 55441)) % 55441 := fun i c => by
   unfold X5_ rdF smF swF
   by_cases e : i = d
   ·simp only [e, if_true]
   ·simp only [e, if_false, if_true]
  have rowk : G f k * inv (G f k) % 55441 = 1 := hiv
  refine ⟨fun j => if j = d then k else pv j, ⟨by omega, fun i hi c hc => ?_, fun j hj => ?_, fun i hi j hj => ?_, fun i hi1 hi2 c hc => ?_, fun i hi c hc => ?_, fun x => ?_⟩⟩
  ·rw [key]
   split
   ·exact x7_ _
   ·exact x7_ _
  ·try dsimp only
   split
   ·omega
   ·have := h.pk j (by omega); omega
  ·rw [key]
   try dsimp only
   by_cases ej : j = d
   ·rw [if_pos ej, ej]
    by_cases ei : i = d
    ·rw [if_pos ei, if_pos ei]; exact rowk
    ·rw [if_neg ei, if_neg ei, rowk, Int.mul_one, Int.sub_self, Int.zero_emod]
   ·rw [if_neg ej]
    have hjd : j < d := by omega
    have hz : G f (pv j) = 0 := by
     rw [h.one f hf j hjd, if_neg (by omega)]
    by_cases ei : i = d
    ·rw [if_pos ei, hz, Int.zero_mul, Int.zero_emod, if_neg (by omega)]
    ·rw [if_neg ei, hz, Int.zero_mul, Int.zero_emod, Int.mul_zero, Int.sub_zero]
     by_cases ef : i = f
     ·rw [if_pos ef, h.one d hdlt j hjd, if_neg (by omega), if_neg (by omega), Int.zero_emod]
     ·rw [if_neg ef, h.one i hi j hjd]
      by_cases e : i = j
      ·rw [if_pos e]; rfl
      ·rw [if_neg e]; rfl
  ·rw [key, if_neg (by omega)]
   by_cases ec : c = k
   ·rw [ec, rowk, Int.mul_one]
    split
    ·rw [Int.sub_self]; rfl
    ·rw [Int.sub_self]; rfl
   ·have hz : G f c = 0 := h.low f f1 hf c (by omega)
    rw [hz, Int.zero_mul, Int.zero_emod, Int.mul_zero, Int.sub_zero]
    split
    ·rw [h.low d (Nat.le_refl _) hdlt c (by omega)]; rfl
    ·rw [h.low i (by omega) hi2 c (by omega)]; rfl
  ·rw [key]
   try dsimp only at hc
   by_cases ei : i = d
   ·rw [if_pos ei] at hc ⊢
    rw [h.low f f1 hf c hc, Int.zero_mul, Int.zero_emod]
   ·rw [if_neg ei] at hc ⊢
    have hpk := h.pk i (by omega)
    rw [h.low f f1 hf c (by omega), Int.zero_mul, Int.zero_emod, Int.mul_zero, Int.sub_zero, if_neg (by omega), h.lead i (by omega) c hc, Int.zero_emod]
  ·rw [← h.sol x]
   unfold X5_
   rw [aW3 hdlt, aW2 (l := G f k) hdlt hiv, aW1 hdlt hf]
 ·rw [if_neg hf]
  refine ⟨pv, ⟨h.dm, h.ent, fun j hj => by have := h.pk j hj; omega, h.one, fun i hi1 hi2 c hc => ?_, h.lead, h.sol⟩⟩
  by_cases ec : c = k
  ·rw [ec]
   exact f3 i hi1 (by omega)
  ·exact h.low i hi1 hi2 c (by omega)
theorem Tj_ {m n : Nat} {G : Nat → Nat → Int} (h : ∀ i, i < m → ∀ c, c < n → InP (G i c)) : ∀ k, k ≤ n → ∃ pv, GjP m n k G (gj m G k).1 (gj m G k).2 pv
 | 0, _ => ⟨fun _ => 0, ⟨Nat.zero_le _, h, fun j hj => absurd hj (Nat.not_lt_zero _), fun i _ j hj => absurd hj (Nat.not_lt_zero _), fun i _ _ c hc => absurd hc (Nat.not_lt_zero _), fun i hi => absurd hi (Nat.not_lt_zero _), fun x => Iff.rfl⟩⟩
 | k + 1, hk => by
  obtain ⟨pv, hp⟩ := Tj_ h k (by omega)
  exact aq2 hp (by omega)
theorem GjP.sols {m n d : Nat} {G0 G : Nat → Nat → Int} {pv : Nat → Nat} (h : GjP m n n G0 G d pv) (x : Nat → Int) : Sol 55441 d n G x ↔ Sol 55441 m n G0 x := by
 rw [← h.sol x]
 have hdm := h.dm
 constructor
 ·intro hs i hi
  by_cases e : i < d
  ·exact hs i e
  ·have : sumTo (fun k => G i k * x k) n = sumTo (fun _ => 0) n := xs_ fun c hc => by rw [h.low i (by omega) hi c hc, Int.zero_mul]
   rw [this, sum_zero]
   rfl
 ·intro hs i hi
  exact hs i (by omega)
theorem GjP.inj {m n k d : Nat} {G0 G : Nat → Nat → Int} {pv : Nat → Nat} (h : GjP m n k G0 G d pv) {i j : Nat} (hi : i < d) (hj : j < d) (e : pv i = pv j) : i = j := by
 have hdm := h.dm
 have h1 := h.one i (by omega) j hj
 rw [← e, h.one i (by omega) i hi, if_pos rfl] at h1
 by_cases c : i = j
 ·exact c
 ·rw [if_neg c] at h1; omega
def S3_ (n : Nat) (A : List (List Int)) (x : Nat → Int) : Prop := ∀ r ∈ A, sumTo (fun k => r.getD k 0 * x k) n % 55441 = 0
def yV_ (n : Nat) (A : List (List Int)) : Prop := ∀ r ∈ A, r.length = n ∧ ∀ x ∈ r, InP x
theorem solL_iff {n : Nat} {A : List (List Int)} {x : Nat → Int} : Sol 55441 A.length n (e2 A) x ↔ S3_ n A x := by
 constructor
 ·intro h r hr
  obtain ⟨i, hi, e⟩ := List.getElem_of_mem hr
  have h1 := h i hi
  have e2' : A.getD i [] = r := by simp [List.getD, hi, e]
  have : (fun k => e2 A i k * x k) = fun k => r.getD k 0 * x k := by funext k; unfold e2; rw [e2']
  rwa [this] at h1
 ·intro h i hi
  exact h (A.getD i []) (by simp [List.getD, hi])
theorem yz_ {n : Nat} {A : List (List Int)} (h : yV_ n A) : ∀ i, i < A.length → ∀ c, c < n → InP (e2 A i c) := fun i hi c hc => by
 have h1 := h (A.getD i []) (by simp [List.getD, hi])
 have key : ∀ r : List Int, r.length = n → (∀ x ∈ r, InP x) → InP (r.getD c 0) := fun r h1 h2 => by
  rw [List.getD_eq_getElem?_getD, List.getElem?_eq_getElem (by rw [h1]; exact hc)]
  exact h2 _ (List.getElem_mem _)
 exact key _ h1.1 h1.2
def rkL (n : Nat) (A : List (List Int)) : Nat := (gj A.length (e2 A) n).2
theorem aq3 {n : Nat} {A B : List (List Int)} (hA : yV_ n A) (hB : yV_ n B) (hS : ∀ x, S3_ n A x → S3_ n B x) : rkL n B ≤ rkL n A := by
 obtain ⟨pa, ha⟩ := Tj_ (yz_ hA) n (Nat.le_refl _)
 obtain ⟨pb, hb⟩ := Tj_ (yz_ hB) n (Nat.le_refl _)
 have hdm := hb.dm
 refine S2_ (p := 55441) (A := (gj A.length (e2 A) n).1) (B := (gj B.length (e2 B) n).1) (n := n) (by omega) hb.pk (fun i hi j hj => hb.one i (by unfold rkL at hi; omega) j hj) fun x hx => ?_
 exact (hb.sols x).2 (solL_iff.2 (hS x (solL_iff.1 ((ha.sols x).1 hx))))
theorem bh5 {n : Nat} {A B : List (List Int)} (hA : yV_ n A) (hB : yV_ n B) (hS : ∀ x, S3_ n A x ↔ S3_ n B x) : rkL n A = rkL n B :=
 Nat.le_antisymm (aq3 hB hA fun x => (hS x).2) (aq3 hA hB fun x => (hS x).1)
theorem aG3 {n : Nat} {V : List (List Int)} {fr : Nat → Nat} (hV : yV_ n V) (hf : ∀ i, i < V.length → fr i < n) (hd : ∀ i, i < V.length → ∀ j, j < V.length → e2 V i (fr j) = if i = j then 1 else 0) : rkL n V = V.length := by
 obtain ⟨pv, hp⟩ := Tj_ (yz_ hV) n (Nat.le_refl _)
 refine Nat.le_antisymm hp.dm ?_
 exact S2_ (p := 55441) (A := (gj V.length (e2 V) n).1) (B := e2 V) (n := n) (by omega) hf hd fun x hx => (hp.sols x).1 hx
def YU_ (n : Nat) (A : List (List Int)) : List (List Int) := xy_ (rkL n A) n (gj A.length (e2 A) n).1
end Go.Pl
namespace Go.Pl
open Go
theorem take_snoc {α : Type} {xs : List α} {d : α} {k : Nat} (h : k < xs.length) : xs.take (k + 1) = xs.take k ++ [xs.getD k d] := by
 rw [← List.take_append_getElem h, List.getD_eq_getElem?_getD, List.getElem?_eq_getElem h]
 rfl
theorem wY_ {n : Nat} {A : List (List Int)} (h : yV_ n A) : A = xy_ A.length n (e2 A) := by
 apply List.ext_getElem
 ·rw [xx_]
 ·intro i h1 h2
  have hr := h A[i] (List.getElem_mem h1)
  have e1 : (xy_ A.length n (e2 A))[i] = xU_ n (e2 A i) := by simp [xy_]
  rw [e1]
  have e2' : e2 A i = fun k => A[i].getD k 0 := by funext k; unfold e2; simp [List.getD, h1]
  rw [e2', wW_ hr.1]
theorem Wd_ {m n d : Nat} {G : Nat → Nat → Int} (h : d ≤ m) : (xy_ m n G).take d = xy_ d n G := by
 unfold xy_
 rw [← List.map_take, List.take_range, Nat.min_eq_left h]
theorem yx_ {m n i : Nat} {G : Nat → Nat → Int} {g : Nat → Int} : (xy_ m n G).set i (xU_ n g) = xy_ m n (fun x => if x = i then g else G x) := by
 apply List.ext_getElem
 ·simp [xy_]
 ·intro k h1 h2
  rw [List.getElem_set]
  simp only [xy_, List.getElem_map, List.getElem_range]
  by_cases e : i = k
  ·rw [if_pos e, if_pos e.symm]
  ·rw [if_neg e, if_neg (fun h => e h.symm)]
theorem wq_ {n : Nat} {A : List (List Int)} : (YU_ n A).length = rkL n A := by unfold YU_; rw [xx_]
def U8_ (pv : Nat → Nat) (d k : Nat) : Bool := (List.range d).any fun i => decide (pv i = k)
theorem hasP_iff {pv : Nat → Nat} {d k : Nat} : U8_ pv d k = true ↔ ∃ i, i < d ∧ pv i = k := by
 unfold U8_
 rw [List.any_eq_true]
 constructor
 ·rintro ⟨i, hi, h⟩; exact ⟨i, List.mem_range.1 hi, by simpa using h⟩
 ·rintro ⟨i, hi, h⟩; exact ⟨i, List.mem_range.2 hi, by simpa using h⟩
def kvG (G : Nat → Nat → Int) (pv : Nat → Nat) (k : Nat) : Nat → Nat → Int
 | 0 => fun c => if c = k then 1 else 0
 | i + 1 => fun c => if c = pv i then (0 - G i k) % 55441 else kvG G pv k i c
def frL (pv : Nat → Nat) (d : Nat) : Nat → List Nat
 | 0 => []
 | k + 1 => if U8_ pv d k then frL pv d k else frL pv d k ++ [k]
def W2_ (G : Nat → Nat → Int) (pv : Nat → Nat) (d n k : Nat) : List (List Int) := (frL pv d k).map fun k => xU_ n (kvG G pv k d)
theorem U9_ (pv : Nat → Nat) (d : Nat) : ∀ k, frL pv d k = (List.range k).filter fun c => !U8_ pv d c
 | 0 => rfl
 | k + 1 => by
  rw [frL, U9_ pv d k, List.range_succ, List.filter_append]
  cases h : U8_ pv d k <;> simp [h]
theorem aG4 {pv : Nat → Nat} {d n : Nat} (hp : ∀ i, i < d → pv i < n) (hi : ∀ i j, i < d → j < d → pv i = pv j → i = j) : (frL pv d n).length = n - d := by
 rw [U9_]
 have h1 := List.length_eq_countP_add_countP (fun c => U8_ pv d c) (l := List.range n)
 rw [List.countP_eq_length_filter, List.countP_eq_length_filter, List.length_range] at h1
 have e1 : (fun a => decide ¬(U8_ pv d a = true)) = fun a => !U8_ pv d a := by
  funext a; cases U8_ pv d a <;> rfl
 rw [e1] at h1
 have nd1 : ((List.range d).map pv).Nodup := by
  unfold List.Nodup
  rw [List.pairwise_map]
  exact List.Pairwise.imp_of_mem (fun {a b} ha hb hne e => hne (hi a b (List.mem_range.1 ha) (List.mem_range.1 hb) e)) List.nodup_range
 have nd2 : ((List.range n).filter fun c => U8_ pv d c).Nodup := List.nodup_range.sublist List.filter_sublist
 have l1 := List.Nodup.length_le_of_subset nd1 (l₂ := (List.range n).filter fun c => U8_ pv d c) fun x hx => by
  obtain ⟨i, hi2, rfl⟩ := List.mem_map.1 hx
  exact List.mem_filter.2 ⟨List.mem_range.2 (hp i (List.mem_range.1 hi2)), hasP_iff.2 ⟨i, List.mem_range.1 hi2, rfl⟩⟩
 have l2 := List.Nodup.length_le_of_subset nd2 (l₂ := (List.range d).map pv) fun x hx => by
  obtain ⟨i, hi2, e⟩ := hasP_iff.1 (List.mem_filter.1 hx).2
  exact List.mem_map.2 ⟨i, List.mem_range.2 hi2, e⟩
 rw [List.length_map, List.length_range] at l1 l2
 omega
theorem JM_ {G : Nat → Nat → Int} {pv : Nat → Nat} {k : Nat} : ∀ d c, InP (kvG G pv k d c)
 | 0, c => by unfold kvG; split <;> exact ⟨by omega, by omega⟩
 | i + 1, c => by
  unfold kvG
  split
  ·exact x7_ _
  ·exact JM_ i c
theorem S4_ {G : Nat → Nat → Int} {pv : Nat → Nat} {k c : Nat} : ∀ d, U8_ pv d c = false → kvG G pv k d c = if c = k then 1 else 0
 | 0, _ => rfl
 | i + 1, h => by
  have hn : ¬ ∃ j, j < i + 1 ∧ pv j = c := fun hh => by rw [hasP_iff.2 hh] at h; cases h
  unfold kvG
  rw [if_neg (fun e => hn ⟨i, by omega, e.symm⟩)]
  refine S4_ i ?_
  cases hh : U8_ pv i c with
  | false => rfl
  | true =>
   obtain ⟨j, hj, e⟩ := hasP_iff.1 hh
   exact absurd ⟨j, by omega, e⟩ hn
theorem Ta_ {G : Nat → Nat → Int} {pv : Nat → Nat} {d n k : Nat} : yV_ n (W2_ G pv d n k) := fun r hr => by
 obtain ⟨q, _, rfl⟩ := List.mem_map.1 hr
 refine ⟨xn_ _ _, fun x hx => ?_⟩
 obtain ⟨c, _, rfl⟩ := List.mem_map.1 hx
 exact JM_ d c
theorem aG5 {G : Nat → Nat → Int} {pv : Nat → Nat} {d n : Nat} : rkL n (W2_ G pv d n n) = (frL pv d n).length := by
 have hlen : (W2_ G pv d n n).length = (frL pv d n).length := by unfold W2_; rw [List.length_map]
 have hmem : ∀ i, i < (frL pv d n).length → (frL pv d n).getD i 0 < n ∧ U8_ pv d ((frL pv d n).getD i 0) = false := fun i hi => by
  have hm : (frL pv d n).getD i 0 ∈ frL pv d n := by simp [List.getD, hi]
  generalize (frL pv d n).getD i 0 = x at hm ⊢
  rw [U9_, List.mem_filter] at hm
  exact ⟨List.mem_range.1 hm.1, by simpa using hm.2⟩
 have hnd : (frL pv d n).Nodup := by rw [U9_]; exact List.nodup_range.sublist List.filter_sublist
 rw [← hlen]
 refine aG3 (fr := fun i => (frL pv d n).getD i 0) Ta_ (fun i hi => (hmem i (by omega)).1) fun i hi j hj => ?_
 rw [hlen] at hi hj
 have e1 : (W2_ G pv d n n).getD i [] = xU_ n (kvG G pv ((frL pv d n).getD i 0) d) := by
  unfold W2_
  simp [List.getD, hi]
 unfold e2
 rw [e1, xE_ (hmem j hj).1, S4_ d (hmem j hj).2]
 by_cases e : i = j
 ·rw [if_pos (by rw [e]), if_pos e]
 ·rw [if_neg e, if_neg]
  intro h
  refine e ?_
  have h' : (frL pv d n)[j]'hj = (frL pv d n)[i]'hi := by
   have := h
   simpa [List.getD, hi, hj] using this
  exact ((List.getElem_inj hnd).1 h').symm
end Go.Pl
namespace Go.Pl
open Go
end Go.Pl
