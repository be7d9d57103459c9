import Derived.Test.YthhjcdnfflcikaaGreatKp1
set_option linter.unusedSimpArgs false
set_option linter.unusedVariables false
namespace Go.Pl
open Go
theorem dig_ext {p : Nat} (hp : 0 < p) : ∀ (k a b : Nat), a < p ^ k → b < p ^ k → (∀ j, j < k → a / p ^ j % p = b / p ^ j % p) → a = b
 | 0, a, b, ha, hb, _ => by rw [Nat.pow_zero] at ha hb; omega
 | k + 1, a, b, ha, hb, h => by
  have e0 := h 0 (by omega)
  rw [Nat.pow_zero, Nat.div_one, Nat.div_one] at e0
  have q : a / p = b / p := by
   refine dig_ext hp k _ _ ?_ ?_ fun j hj => ?_
   ·exact Nat.div_lt_of_lt_mul (by rw [Nat.mul_comm, ← Nat.pow_succ]; exact ha)
   ·exact Nat.div_lt_of_lt_mul (by rw [Nat.mul_comm, ← Nat.pow_succ]; exact hb)
   ·have := h (j + 1) (by omega)
    rw [Nat.pow_succ, Nat.mul_comm, ← Nat.div_div_eq_div_mul, ← Nat.div_div_eq_div_mul] at this
    exact this
  rw [← Nat.div_add_mod a p, ← Nat.div_add_mod b p, q, e0]
def allV (p : Nat) : Nat → List (List Nat)
 | 0 => [[]]
 | k + 1 => (List.range p).flatMap fun d => (allV p k).map (d :: ·)
theorem sum_const_map {α : Type} {c : Nat} : ∀ (l : List α), (l.map fun _ => c).sum = l.length * c
 | [] => by simp
 | _ :: l => by
  rw [List.map_cons, List.sum_cons, sum_const_map l, List.length_cons, Nat.succ_mul, Nat.add_comm]
theorem allV_length (p : Nat) : ∀ k, (allV p k).length = p ^ k
 | 0 => rfl
 | k + 1 => by
  rw [allV, List.length_flatMap]
  simp only [List.length_map, allV_length p k]
  rw [sum_const_map, List.length_range, Nat.pow_succ, Nat.mul_comm]
theorem allV_mem {p : Nat} : ∀ {k : Nat} {v : List Nat}, v.length = k → (∀ x ∈ v, x < p) → v ∈ allV p k
 | 0, [], _, _ => by simp [allV]
 | k + 1, x :: v, h, hx => by
  rw [allV, List.mem_flatMap]
  exact ⟨x, List.mem_range.2 (hx x (List.mem_cons_self ..)), List.mem_map.2 ⟨v, allV_mem (by simpa using h) (fun y hy => hx y (List.mem_cons_of_mem _ hy)), rfl⟩⟩
theorem sum_sub2 {f g : Nat → Int} : ∀ {n : Nat}, sumTo (fun i => f i - g i) n = sumTo f n - sumTo g n
 | 0 => by simp [sumTo]
 | n + 1 => by
  simp only [sumTo]
  rw [sum_sub2]
  omega
theorem under {p m k : Nat} (hp : 2 ≤ p) (hmk : m < k) (B : Nat → Nat → Int) : ∃ y : Nat → Int, (∃ j, j < k ∧ y j % (p : Int) ≠ 0) ∧ ∀ i, i < m → sumTo (fun j => B i j * y j) k % (p : Int) = 0 := by
 have hp0 : (0 : Int) < p := by omega
 obtain ⟨Y, eY⟩ : ∃ Y : Nat → Nat → Int, Y = fun a j => ((a / p ^ j % p : Nat) : Int) := ⟨_, rfl⟩
 obtain ⟨R, eR⟩ : ∃ R : Nat → Nat → Nat, R = fun a i => (sumTo (fun j => B i j * Y a j) k % (p : Int)).toNat := ⟨_, rfl⟩
 have hR : ∀ a i, ((R a i : Nat) : Int) = sumTo (fun j => B i j * Y a j) k % (p : Int) := fun a i => by
  rw [eR]
  exact Int.toNat_of_nonneg (Int.emod_nonneg _ (by omega))
 have hRl : ∀ a i, R a i < p := fun a i => by
  have h1 := Int.emod_lt_of_pos (sumTo (fun j => B i j * Y a j) k) hp0
  rw [← hR] at h1
  omega
 obtain ⟨f, ef⟩ : ∃ f : Nat → List Nat, f = fun a => (List.range m).map (R a) := ⟨_, rfl⟩
 have hcol : ∃ a b, a < p ^ k ∧ b < p ^ k ∧ a ≠ b ∧ f a = f b := by
  refine Classical.byContradiction fun hno => ?_
  have hinj : ∀ a b, a < p ^ k → b < p ^ k → f a = f b → a = b := fun a b ha hb e => Classical.byContradiction fun h => hno ⟨a, b, ha, hb, h, e⟩
  have hnd : ((List.range (p ^ k)).map f).Nodup := by
   unfold List.Nodup
   rw [List.pairwise_map]
   refine List.Pairwise.imp_of_mem (R := fun a b => a ≠ b) (fun {a b} ha hb hne e => hne (hinj a b (List.mem_range.1 ha) (List.mem_range.1 hb) e)) ?_
   exact List.nodup_range
  have hle := List.Nodup.length_le_of_subset (l₂ := allV p m) hnd fun v hv => by
   obtain ⟨a, _, rfl⟩ := List.mem_map.1 hv
   rw [ef]
   exact allV_mem (by simp) fun x hx => by
    obtain ⟨i, _, rfl⟩ := List.mem_map.1 hx
    exact hRl a i
  rw [List.length_map, List.length_range, allV_length] at hle
  have := Nat.pow_lt_pow_right (a := p) (by omega) hmk
  omega
 obtain ⟨a, b, ha, hb, hne, e⟩ := hcol
 refine ⟨fun j => Y a j - Y b j, ?_, fun i hi => ?_⟩
 ·refine Classical.byContradiction fun hno => hne ?_
  refine dig_ext (by omega) k a b ha hb fun j hj => ?_
  have h0 : (Y a j - Y b j) % (p : Int) = 0 := Classical.byContradiction fun h => hno ⟨j, hj, h⟩
  rw [eY] at h0
  have b1 : a / p ^ j % p < p := Nat.mod_lt _ (by omega)
  have b2 : b / p ^ j % p < p := Nat.mod_lt _ (by omega)
  dsimp only at h0
  generalize a / p ^ j % p = u at *
  generalize b / p ^ j % p = v at *
  obtain ⟨c, hc⟩ := Int.dvd_of_emod_eq_zero h0
  have : c = 0 := by
   rcases Int.lt_trichotomy c 0 with h | h | h
   ·have : (p : Int) * c ≤ (p : Int) * (-1) := Int.mul_le_mul_of_nonneg_left (by omega) (by omega)
    omega
   ·exact h
   ·have : (p : Int) * 1 ≤ (p : Int) * c := Int.mul_le_mul_of_nonneg_left (by omega) (by omega)
    omega
  subst this
  omega
 ·have hi2 : R a i = R b i := by
   rw [ef] at e
   have := List.map_inj_left.1 e i (List.mem_range.2 hi)
   exact this
  have h1 := hR a i
  have h2 := hR b i
  rw [hi2] at h1
  have es : sumTo (fun j => B i j * (Y a j - Y b j)) k = sumTo (fun j => B i j * Y a j) k - sumTo (fun j => B i j * Y b j) k := by
   rw [← sum_sub2]
   exact sum_congr fun j _ => by rw [Int.mul_sub]
  rw [es]
  exact Int.emod_eq_zero_of_dvd (Int.dvd_of_emod_eq_zero (by rw [Int.sub_emod, ← h1, ← h2, Int.sub_self, Int.zero_emod]))
def Sol (p : Int) (m n : Nat) (G : Nat → Nat → Int) (x : Nat → Int) : Prop := ∀ i, i < m → sumTo (fun k => G i k * x k) n % p = 0
theorem sum_pick2 {f : Nat → Int} {x : Int} {n j : Nat} (hj : j < n) : sumTo (fun k => f k * (if j = k then x else 0)) n = f j * x := by
 have := sum_pick (f := f) (x := x) hj
 rw [Int.mul_comm (f j)]
 rw [← this]
 exact sum_congr fun k _ => by
  rw [Int.mul_comm]
  by_cases e : j = k
  ·rw [if_pos e, if_pos e.symm]
  ·rw [if_neg e, if_neg (fun h => e h.symm)]
theorem sum_mul_l {f : Nat → Int} {c : Int} {n : Nat} : sumTo (fun i => c * f i) n = c * sumTo f n := by
 rw [Int.mul_comm c, ← sum_mul]
 exact sum_congr fun i _ => Int.mul_comm _ _
theorem rank_le {p m1 m2 n : Nat} (hp : 2 ≤ p) {A B : Nat → Nat → Int} {pv : Nat → Nat} (hB : ∀ i, i < m2 → pv i < n)
  (hd : ∀ y : Nat → Int, (∀ i, i < m2 → sumTo (fun j => B i (pv j) * y j) m2 % (p : Int) = 0) → ∀ i, i < m2 → y i % (p : Int) = 0)
  (hS : ∀ x, Sol p m1 n A x → Sol p m2 n B x) : m2 ≤ m1 := by
 refine Classical.byContradiction fun hlt => ?_
 obtain ⟨y, ⟨j, hj, hy⟩, hA⟩ := under hp (show m1 < m2 by omega) fun i j => A i (pv j)
 have hx : ∀ (C : Nat → Nat → Int) i, sumTo (fun k => C i k * sumTo (fun j => if pv j = k then y j else 0) m2) n = sumTo (fun j => C i (pv j) * y j) m2 := fun C i => by
  have e1 : sumTo (fun k => C i k * sumTo (fun j => if pv j = k then y j else 0) m2) n = sumTo (fun k => sumTo (fun j => C i k * (if pv j = k then y j else 0)) m2) n :=
   sum_congr fun k _ => (sum_mul_l).symm
  rw [e1, sum_comm]
  exact sum_congr fun j hj => sum_pick2 (f := C i) (hB j hj)
 have h1 := hS (fun k => sumTo (fun j => if pv j = k then y j else 0) m2) fun i hi => by rw [hx]; exact hA i hi
 exact hy (hd y (fun i hi => by rw [← hx]; exact h1 i hi) j hj)
theorem rank_le1 {p m1 m2 n : Nat} (hp : 2 ≤ p) {A B : Nat → Nat → Int} {pv : Nat → Nat} (hB : ∀ i, i < m2 → pv i < n)
  (hd : ∀ i, i < m2 → ∀ j, j < m2 → B i (pv j) = if i = j then 1 else 0)
  (hS : ∀ x, Sol p m1 n A x → Sol p m2 n B x) : m2 ≤ m1 :=
 rank_le hp hB (fun y h i hi => by
  have := h i hi
  have e : sumTo (fun j => B i (pv j) * y j) m2 = y i := by
   rw [← sum_one (f := y) hi]
   exact sum_congr fun j hj => by
    rw [hd i hi j hj]
    by_cases c : i = j
    ·rw [if_pos c, if_pos c.symm, Int.one_mul]
    ·rw [if_neg c, if_neg (fun h => c h.symm), Int.zero_mul]
  rwa [e] at this) hS
end Go.Pl
namespace Go.Pl
open Go
def fndF (G : Nat → Nat → Int) (k : Nat) : Nat → Nat → Nat
 | 0, f => f
 | c + 1, f => if G f k = 0 then fndF G k c (f + 1) else f
theorem fndF_fact (G : Nat → Nat → Int) (k : Nat) : ∀ c f, f ≤ fndF G k c f ∧ fndF G k c f ≤ f + c ∧ (∀ i, f ≤ i → i < fndF G k c f → G i k = 0) ∧ (fndF G k c f < f + c → G (fndF G k c f) k ≠ 0)
 | 0, f => ⟨Nat.le_refl _, Nat.le_refl _, fun i h1 h2 => by unfold fndF at h2; omega, fun h => by unfold fndF at h; omega⟩
 | c + 1, f => by
  unfold fndF
  by_cases h : G f k = 0
  ·rw [if_pos h]
   obtain ⟨h1, h2, h3, h4⟩ := fndF_fact G k c (f + 1)
   refine ⟨by omega, by omega, fun i i1 i2 => ?_, fun hl => h4 (by omega)⟩
   by_cases e : i = f
   ·rw [e]; exact h
   ·exact h3 i (by omega) i2
  ·rw [if_neg h]
   exact ⟨Nat.le_refl _, by omega, fun i h1 h2 => by omega, fun _ => h⟩
def swF (G : Nat → Nat → Int) (d f : Nat) : Nat → Nat → Int := fun i c => if i = d then G f c else if i = f then G d c else G i c
def smF (G : Nat → Nat → Int) (d : Nat) (v : Int) : Nat → Nat → Int := fun i c => if i = d then G d c * v % 55441 else G i c
def rdF (G : Nat → Nat → Int) (d k : Nat) : Nat → Nat → Int := fun i c => if i = d then G d c else (G i c - G i k * G d c) % 55441
def elimF (G : Nat → Nat → Int) (d k f : Nat) : Nat → Nat → Int := rdF (smF (swF G d f) d (inv (G f k))) d k
def gjS (m : Nat) (s : (Nat → Nat → Int) × Nat) (k : Nat) : (Nat → Nat → Int) × Nat :=
 if fndF s.1 k (m - s.2) s.2 < m then (elimF s.1 s.2 k (fndF s.1 k (m - s.2) s.2), s.2 + 1) else s
def gj (m : Nat) (G : Nat → Nat → Int) : Nat → (Nat → Nat → Int) × Nat
 | 0 => (G, 0)
 | k + 1 => gjS m (gj m G k) k
theorem sum_ml {a x : Nat → Int} {n : Nat} : sumTo (fun c => a c % 55441 * x c) n % 55441 = sumTo (fun c => a c * x c) n % 55441 :=
 sum_cg fun c _ => by rw [Int.mul_emod, Int.emod_emod, ← Int.mul_emod]
theorem emod0_mul {a b : Int} (h : b % 55441 = 0) : a * b % 55441 = 0 := by rw [Int.mul_emod, h, Int.mul_zero, Int.zero_emod]
theorem sol_sw {m n d f : Nat} {G : Nat → Nat → Int} {x : Nat → Int} (hd : d < m) (hf : f < m) : Sol 55441 m n (swF G d f) x ↔ Sol 55441 m n G x := by
 have key : ∀ i, swF G d f i = if i = d then G f else if i = f then G d else G i := fun i => by
  funext c; unfold swF; split; rfl; split; rfl; rfl
 constructor
 ·intro h i hi
  by_cases e1 : i = f
  ·have := h d hd
   rw [key, if_pos rfl] at this
   rw [e1]; exact this
  ·by_cases e2 : i = d
   ·have := h f hf
    rw [key] at this
    rw [e2]
    by_cases e3 : f = d
    ·exact absurd (e2.trans e3.symm) e1
    ·rw [if_neg e3, if_pos rfl] at this
     exact this
   ·have := h i hi
    rw [key, if_neg e2, if_neg e1] at this
    exact this
 ·intro h i hi
  rw [key]
  split
  ·exact h f hf
  ·split
   ·exact h d hd
   ·exact h i hi
theorem sol_sc {m n d : Nat} {G : Nat → Nat → Int} {x : Nat → Int} {v l : Int} (hd : d < m) (hv : l * v % 55441 = 1) : Sol 55441 m n (smF G d v) x ↔ Sol 55441 m n G x := by
 have es : sumTo (fun c => smF G d v d c * x c) n % 55441 = v * sumTo (fun c => G d c * x c) n % 55441 := by
  have : (fun c => smF G d v d c * x c) = fun c => (G d c * v) % 55441 * x c := by funext c; unfold smF; rw [if_pos rfl]
  rw [this, sum_ml, ← sum_mul_l]
  congr 1
  exact sum_congr fun c _ => by rw [Int.mul_comm (G d c) v, Int.mul_assoc]
 have eo : ∀ i, i ≠ d → smF G d v i = G i := fun i hi => by funext c; unfold smF; rw [if_neg hi]
 constructor
 ·intro h i hi
  by_cases e : i = d
  ·have h1 := h d hd
   rw [es] at h1
   rw [e]
   have h2 := emod0_mul (a := l) h1
   rw [← Int.mul_assoc, Int.mul_emod, hv, Int.one_mul, Int.emod_emod] at h2
   exact h2
  ·have := h i hi
   rwa [eo i e] at this
 ·intro h i hi
  by_cases e : i = d
  ·rw [e, es]
   exact emod0_mul (h d hd)
  ·rw [eo i e]; exact h i hi
theorem sol_rd {m n d k : Nat} {G : Nat → Nat → Int} {x : Nat → Int} (hd : d < m) : Sol 55441 m n (rdF G d k) x ↔ Sol 55441 m n G x := by
 have e0 : rdF G d k d = G d := by funext c; unfold rdF; rw [if_pos rfl]
 have es : ∀ i, i ≠ d → sumTo (fun c => rdF G d k i c * x c) n % 55441 = (sumTo (fun c => G i c * x c) n - G i k * sumTo (fun c => G d c * x c) n) % 55441 := fun i hi => by
  have : (fun c => rdF G d k i c * x c) = fun c => (G i c - G i k * G d c) % 55441 * x c := by funext c; unfold rdF; rw [if_neg hi]
  rw [this, sum_ml, ← sum_mul_l, ← sum_sub2]
  congr 1
  exact sum_congr fun c _ => by rw [Int.sub_mul, Int.mul_assoc]
 have sb : ∀ {a b : Int}, b % 55441 = 0 → (a - b) % 55441 = a % 55441 := fun h => by omega
 constructor
 ·intro h i hi
  have hD : sumTo (fun c => G d c * x c) n % 55441 = 0 := by
   have := h d hd
   rwa [e0] at this
  by_cases e : i = d
  ·rw [e]; exact hD
  ·have := h i hi
   rw [es i e, sb (emod0_mul hD)] at this
   exact this
 ·intro h i hi
  by_cases e : i = d
  ·rw [e, e0]; exact h d hd
  ·rw [es i e, sb (emod0_mul (h d hd))]
   exact h i hi
structure GjP (m n k : Nat) (G0 G : Nat → Nat → Int) (d : Nat) (pv : Nat → Nat) : Prop where
 dm : d ≤ m
 ent : ∀ i, i < m → ∀ c, c < n → InP (G i c)
 pk : ∀ j, j < d → pv j < k
 one : ∀ i, i < m → ∀ j, j < d → G i (pv j) = if i = j then 1 else 0
 low : ∀ i, d ≤ i → i < m → ∀ c, c < k → G i c = 0
 lead : ∀ i, i < d → ∀ c, c < pv i → G i c = 0
 sol : ∀ x, Sol 55441 m n G x ↔ Sol 55441 m n G0 x
theorem gjP_step {m n k d : Nat} {G0 G : Nat → Nat → Int} {pv : Nat → Nat} (h : GjP m n k G0 G d pv) (hk : k < n) : ∃ pv', GjP m n (k + 1) G0 (gjS m (G, d) k).1 (gjS m (G, d) k).2 pv' := by
 obtain ⟨f1, f2, f3, f4⟩ := fndF_fact G k (m - d) d
 have hdm := h.dm
 unfold gjS
 try dsimp only
 generalize fndF G k (m - d) d = f at *
 by_cases hf : f < m
 ·rw [if_pos hf]
  show ∃ pv', GjP m n (k + 1) G0 (elimF G d k f) (d + 1) pv'
  have hl := f4 (by omega)
  have hlP := h.ent f hf k hk
  have hiv := mul_inv hlP hl
  have ivP := inv_InP hlP
  have hdlt : d < m := by omega
  -- the rows, told
  have key : ∀ i c, elimF G d k f i c = if i = d then G f c * inv (G f k) % 55441 else ((if i = f then G d c else G i c) - (if i = f then G d k else G i k) * (G f c * inv (G f k) % 55441)) % 55441 := fun i c => by
   unfold elimF rdF smF swF
   by_cases e : i = d
   ·simp only [e, if_true]
   ·simp only [e, if_false, if_true]
  have rowk : G f k * inv (G f k) % 55441 = 1 := hiv
  refine ⟨fun j => if j = d then k else pv j, ⟨by omega, fun i hi c hc => ?_, fun j hj => ?_, fun i hi j hj => ?_, fun i hi1 hi2 c hc => ?_, fun i hi c hc => ?_, fun x => ?_⟩⟩
  ·rw [key]
   split
   ·exact inP_md _
   ·exact inP_md _
  ·try dsimp only
   split
   ·omega
   ·have := h.pk j (by omega); omega
  ·rw [key]
   try dsimp only
   by_cases ej : j = d
   ·rw [if_pos ej, ej]
    by_cases ei : i = d
    ·rw [if_pos ei, if_pos ei]; exact rowk
    ·rw [if_neg ei, if_neg ei, rowk, Int.mul_one, Int.sub_self, Int.zero_emod]
   ·rw [if_neg ej]
    have hjd : j < d := by omega
    have hz : G f (pv j) = 0 := by
     rw [h.one f hf j hjd, if_neg (by omega)]
    by_cases ei : i = d
    ·rw [if_pos ei, hz, Int.zero_mul, Int.zero_emod, if_neg (by omega)]
    ·rw [if_neg ei, hz, Int.zero_mul, Int.zero_emod, Int.mul_zero, Int.sub_zero]
     by_cases ef : i = f
     ·rw [if_pos ef, h.one d hdlt j hjd, if_neg (by omega), if_neg (by omega), Int.zero_emod]
     ·rw [if_neg ef, h.one i hi j hjd]
      by_cases e : i = j
      ·rw [if_pos e]; rfl
      ·rw [if_neg e]; rfl
  ·rw [key, if_neg (by omega)]
   by_cases ec : c = k
   ·rw [ec, rowk, Int.mul_one]
    split
    ·rw [Int.sub_self]; rfl
    ·rw [Int.sub_self]; rfl
   ·have hz : G f c = 0 := h.low f f1 hf c (by omega)
    rw [hz, Int.zero_mul, Int.zero_emod, Int.mul_zero, Int.sub_zero]
    split
    ·rw [h.low d (Nat.le_refl _) hdlt c (by omega)]; rfl
    ·rw [h.low i (by omega) hi2 c (by omega)]; rfl
  ·rw [key]
   try dsimp only at hc
   by_cases ei : i = d
   ·rw [if_pos ei] at hc ⊢
    rw [h.low f f1 hf c hc, Int.zero_mul, Int.zero_emod]
   ·rw [if_neg ei] at hc ⊢
    have hpk := h.pk i (by omega)
    rw [h.low f f1 hf c (by omega), Int.zero_mul, Int.zero_emod, Int.mul_zero, Int.sub_zero, if_neg (by omega), h.lead i (by omega) c hc, Int.zero_emod]
  ·rw [← h.sol x]
   unfold elimF
   rw [sol_rd hdlt, sol_sc (l := G f k) hdlt hiv, sol_sw hdlt hf]
 ·rw [if_neg hf]
  refine ⟨pv, ⟨h.dm, h.ent, fun j hj => by have := h.pk j hj; omega, h.one, fun i hi1 hi2 c hc => ?_, h.lead, h.sol⟩⟩
  by_cases ec : c = k
  ·rw [ec]
   exact f3 i hi1 (by omega)
  ·exact h.low i hi1 hi2 c (by omega)
theorem gj_P {m n : Nat} {G : Nat → Nat → Int} (h : ∀ i, i < m → ∀ c, c < n → InP (G i c)) : ∀ k, k ≤ n → ∃ pv, GjP m n k G (gj m G k).1 (gj m G k).2 pv
 | 0, _ => ⟨fun _ => 0, ⟨Nat.zero_le _, h, fun j hj => absurd hj (Nat.not_lt_zero _), fun i _ j hj => absurd hj (Nat.not_lt_zero _), fun i _ _ c hc => absurd hc (Nat.not_lt_zero _), fun i hi => absurd hi (Nat.not_lt_zero _), fun x => Iff.rfl⟩⟩
 | k + 1, hk => by
  obtain ⟨pv, hp⟩ := gj_P h k (by omega)
  exact gjP_step hp (by omega)
theorem GjP.sols {m n d : Nat} {G0 G : Nat → Nat → Int} {pv : Nat → Nat} (h : GjP m n n G0 G d pv) (x : Nat → Int) : Sol 55441 d n G x ↔ Sol 55441 m n G0 x := by
 rw [← h.sol x]
 have hdm := h.dm
 constructor
 ·intro hs i hi
  by_cases e : i < d
  ·exact hs i e
  ·have : sumTo (fun k => G i k * x k) n = sumTo (fun _ => 0) n := sum_congr fun c hc => by rw [h.low i (by omega) hi c hc, Int.zero_mul]
   rw [this, sum_zero]
   rfl
 ·intro hs i hi
  exact hs i (by omega)
theorem GjP.inj {m n k d : Nat} {G0 G : Nat → Nat → Int} {pv : Nat → Nat} (h : GjP m n k G0 G d pv) {i j : Nat} (hi : i < d) (hj : j < d) (e : pv i = pv j) : i = j := by
 have hdm := h.dm
 have h1 := h.one i (by omega) j hj
 rw [← e, h.one i (by omega) i hi, if_pos rfl] at h1
 by_cases c : i = j
 ·exact c
 ·rw [if_neg c] at h1; omega
def SolL (n : Nat) (A : List (List Int)) (x : Nat → Int) : Prop := ∀ r ∈ A, sumTo (fun k => r.getD k 0 * x k) n % 55441 = 0
def RowsP (n : Nat) (A : List (List Int)) : Prop := ∀ r ∈ A, r.length = n ∧ ∀ x ∈ r, InP x
theorem solL_iff {n : Nat} {A : List (List Int)} {x : Nat → Int} : Sol 55441 A.length n (e2 A) x ↔ SolL n A x := by
 constructor
 ·intro h r hr
  obtain ⟨i, hi, e⟩ := List.getElem_of_mem hr
  have h1 := h i hi
  have e2' : A.getD i [] = r := by simp [List.getD, hi, e]
  have : (fun k => e2 A i k * x k) = fun k => r.getD k 0 * x k := by funext k; unfold e2; rw [e2']
  rwa [this] at h1
 ·intro h i hi
  exact h (A.getD i []) (by simp [List.getD, hi])
theorem rowsP_ent {n : Nat} {A : List (List Int)} (h : RowsP n A) : ∀ i, i < A.length → ∀ c, c < n → InP (e2 A i c) := fun i hi c hc => by
 have h1 := h (A.getD i []) (by simp [List.getD, hi])
 have key : ∀ r : List Int, r.length = n → (∀ x ∈ r, InP x) → InP (r.getD c 0) := fun r h1 h2 => by
  rw [List.getD_eq_getElem?_getD, List.getElem?_eq_getElem (by rw [h1]; exact hc)]
  exact h2 _ (List.getElem_mem _)
 exact key _ h1.1 h1.2
def rkL (n : Nat) (A : List (List Int)) : Nat := (gj A.length (e2 A) n).2
theorem rk_le {n : Nat} {A B : List (List Int)} (hA : RowsP n A) (hB : RowsP n B) (hS : ∀ x, SolL n A x → SolL n B x) : rkL n B ≤ rkL n A := by
 obtain ⟨pa, ha⟩ := gj_P (rowsP_ent hA) n (Nat.le_refl _)
 obtain ⟨pb, hb⟩ := gj_P (rowsP_ent hB) n (Nat.le_refl _)
 have hdm := hb.dm
 refine rank_le1 (p := 55441) (A := (gj A.length (e2 A) n).1) (B := (gj B.length (e2 B) n).1) (n := n) (by omega) hb.pk (fun i hi j hj => hb.one i (by unfold rkL at hi; omega) j hj) fun x hx => ?_
 exact (hb.sols x).2 (solL_iff.2 (hS x (solL_iff.1 ((ha.sols x).1 hx))))
theorem rk_eq {n : Nat} {A B : List (List Int)} (hA : RowsP n A) (hB : RowsP n B) (hS : ∀ x, SolL n A x ↔ SolL n B x) : rkL n A = rkL n B :=
 Nat.le_antisymm (rk_le hB hA fun x => (hS x).2) (rk_le hA hB fun x => (hS x).1)
theorem rk_full {n : Nat} {V : List (List Int)} {fr : Nat → Nat} (hV : RowsP n V) (hf : ∀ i, i < V.length → fr i < n) (hd : ∀ i, i < V.length → ∀ j, j < V.length → e2 V i (fr j) = if i = j then 1 else 0) : rkL n V = V.length := by
 obtain ⟨pv, hp⟩ := gj_P (rowsP_ent hV) n (Nat.le_refl _)
 refine Nat.le_antisymm hp.dm ?_
 exact rank_le1 (p := 55441) (A := (gj V.length (e2 V) n).1) (B := e2 V) (n := n) (by omega) hf hd fun x hx => (hp.sols x).1 hx
def basL (n : Nat) (A : List (List Int)) : List (List Int) := matF (rkL n A) n (gj A.length (e2 A) n).1
end Go.Pl
namespace Go.Pl
open Go
theorem take_snoc {α : Type} {xs : List α} {d : α} {k : Nat} (h : k < xs.length) : xs.take (k + 1) = xs.take k ++ [xs.getD k d] := by
 rw [← List.take_append_getElem h, List.getD_eq_getElem?_getD, List.getElem?_eq_getElem h]
 rfl
theorem rowsP_mat {n : Nat} {A : List (List Int)} (h : RowsP n A) : A = matF A.length n (e2 A) := by
 apply List.ext_getElem
 ·rw [matF_length]
 ·intro i h1 h2
  have hr := h A[i] (List.getElem_mem h1)
  have e1 : (matF A.length n (e2 A))[i] = rowF n (e2 A i) := by simp [matF]
  rw [e1]
  have e2' : e2 A i = fun k => A[i].getD k 0 := by funext k; unfold e2; simp [List.getD, h1]
  rw [e2', rowF_self hr.1]
theorem matF_take {m n d : Nat} {G : Nat → Nat → Int} (h : d ≤ m) : (matF m n G).take d = matF d n G := by
 unfold matF
 rw [← List.map_take, List.take_range, Nat.min_eq_left h]
theorem matF_srow {m n i : Nat} {G : Nat → Nat → Int} {g : Nat → Int} : (matF m n G).set i (rowF n g) = matF m n (fun x => if x = i then g else G x) := by
 apply List.ext_getElem
 ·simp [matF]
 ·intro k h1 h2
  rw [List.getElem_set]
  simp only [matF, List.getElem_map, List.getElem_range]
  by_cases e : i = k
  ·rw [if_pos e, if_pos e.symm]
  ·rw [if_neg e, if_neg (fun h => e h.symm)]
theorem basL_length {n : Nat} {A : List (List Int)} : (basL n A).length = rkL n A := by unfold basL; rw [matF_length]
def hasP (pv : Nat → Nat) (d k : Nat) : Bool := (List.range d).any fun i => decide (pv i = k)
theorem hasP_iff {pv : Nat → Nat} {d k : Nat} : hasP pv d k = true ↔ ∃ i, i < d ∧ pv i = k := by
 unfold hasP
 rw [List.any_eq_true]
 constructor
 ·rintro ⟨i, hi, h⟩; exact ⟨i, List.mem_range.1 hi, by simpa using h⟩
 ·rintro ⟨i, hi, h⟩; exact ⟨i, List.mem_range.2 hi, by simpa using h⟩
def kvG (G : Nat → Nat → Int) (pv : Nat → Nat) (k : Nat) : Nat → Nat → Int
 | 0 => fun c => if c = k then 1 else 0
 | i + 1 => fun c => if c = pv i then (0 - G i k) % 55441 else kvG G pv k i c
def frL (pv : Nat → Nat) (d : Nat) : Nat → List Nat
 | 0 => []
 | k + 1 => if hasP pv d k then frL pv d k else frL pv d k ++ [k]
def kerL (G : Nat → Nat → Int) (pv : Nat → Nat) (d n k : Nat) : List (List Int) := (frL pv d k).map fun k => rowF n (kvG G pv k d)
theorem frL_eq (pv : Nat → Nat) (d : Nat) : ∀ k, frL pv d k = (List.range k).filter fun c => !hasP pv d c
 | 0 => rfl
 | k + 1 => by
  rw [frL, frL_eq pv d k, List.range_succ, List.filter_append]
  cases h : hasP pv d k <;> simp [h]
theorem frL_len {pv : Nat → Nat} {d n : Nat} (hp : ∀ i, i < d → pv i < n) (hi : ∀ i j, i < d → j < d → pv i = pv j → i = j) : (frL pv d n).length = n - d := by
 rw [frL_eq]
 have h1 := List.length_eq_countP_add_countP (fun c => hasP pv d c) (l := List.range n)
 rw [List.countP_eq_length_filter, List.countP_eq_length_filter, List.length_range] at h1
 have e1 : (fun a => decide ¬(hasP pv d a = true)) = fun a => !hasP pv d a := by
  funext a; cases hasP pv d a <;> rfl
 rw [e1] at h1
 have nd1 : ((List.range d).map pv).Nodup := by
  unfold List.Nodup
  rw [List.pairwise_map]
  exact List.Pairwise.imp_of_mem (fun {a b} ha hb hne e => hne (hi a b (List.mem_range.1 ha) (List.mem_range.1 hb) e)) List.nodup_range
 have nd2 : ((List.range n).filter fun c => hasP pv d c).Nodup := List.nodup_range.sublist List.filter_sublist
 have l1 := List.Nodup.length_le_of_subset nd1 (l₂ := (List.range n).filter fun c => hasP pv d c) fun x hx => by
  obtain ⟨i, hi2, rfl⟩ := List.mem_map.1 hx
  exact List.mem_filter.2 ⟨List.mem_range.2 (hp i (List.mem_range.1 hi2)), hasP_iff.2 ⟨i, List.mem_range.1 hi2, rfl⟩⟩
 have l2 := List.Nodup.length_le_of_subset nd2 (l₂ := (List.range d).map pv) fun x hx => by
  obtain ⟨i, hi2, e⟩ := hasP_iff.1 (List.mem_filter.1 hx).2
  exact List.mem_map.2 ⟨i, List.mem_range.2 hi2, e⟩
 rw [List.length_map, List.length_range] at l1 l2
 omega
theorem kvG_inP {G : Nat → Nat → Int} {pv : Nat → Nat} {k : Nat} : ∀ d c, InP (kvG G pv k d c)
 | 0, c => by unfold kvG; split <;> exact ⟨by omega, by omega⟩
 | i + 1, c => by
  unfold kvG
  split
  ·exact inP_md _
  ·exact kvG_inP i c
theorem kvG_free {G : Nat → Nat → Int} {pv : Nat → Nat} {k c : Nat} : ∀ d, hasP pv d c = false → kvG G pv k d c = if c = k then 1 else 0
 | 0, _ => rfl
 | i + 1, h => by
  have hn : ¬ ∃ j, j < i + 1 ∧ pv j = c := fun hh => by rw [hasP_iff.2 hh] at h; cases h
  unfold kvG
  rw [if_neg (fun e => hn ⟨i, by omega, e.symm⟩)]
  refine kvG_free i ?_
  cases hh : hasP pv i c with
  | false => rfl
  | true =>
   obtain ⟨j, hj, e⟩ := hasP_iff.1 hh
   exact absurd ⟨j, by omega, e⟩ hn
theorem kerL_rows {G : Nat → Nat → Int} {pv : Nat → Nat} {d n k : Nat} : RowsP n (kerL G pv d n k) := fun r hr => by
 obtain ⟨q, _, rfl⟩ := List.mem_map.1 hr
 refine ⟨rowF_length _ _, fun x hx => ?_⟩
 obtain ⟨c, _, rfl⟩ := List.mem_map.1 hx
 exact kvG_inP d c
theorem kerL_rk {G : Nat → Nat → Int} {pv : Nat → Nat} {d n : Nat} : rkL n (kerL G pv d n n) = (frL pv d n).length := by
 have hlen : (kerL G pv d n n).length = (frL pv d n).length := by unfold kerL; rw [List.length_map]
 have hmem : ∀ i, i < (frL pv d n).length → (frL pv d n).getD i 0 < n ∧ hasP pv d ((frL pv d n).getD i 0) = false := fun i hi => by
  have hm : (frL pv d n).getD i 0 ∈ frL pv d n := by simp [List.getD, hi]
  generalize (frL pv d n).getD i 0 = x at hm ⊢
  rw [frL_eq, List.mem_filter] at hm
  exact ⟨List.mem_range.1 hm.1, by simpa using hm.2⟩
 have hnd : (frL pv d n).Nodup := by rw [frL_eq]; exact List.nodup_range.sublist List.filter_sublist
 rw [← hlen]
 refine rk_full (fr := fun i => (frL pv d n).getD i 0) kerL_rows (fun i hi => (hmem i (by omega)).1) fun i hi j hj => ?_
 rw [hlen] at hi hj
 have e1 : (kerL G pv d n n).getD i [] = rowF n (kvG G pv ((frL pv d n).getD i 0) d) := by
  unfold kerL
  simp [List.getD, hi]
 unfold e2
 rw [e1, rowF_get (hmem j hj).1, kvG_free d (hmem j hj).2]
 by_cases e : i = j
 ·rw [if_pos (by rw [e]), if_pos e]
 ·rw [if_neg e, if_neg]
  intro h
  refine e ?_
  have h' : (frL pv d n)[j]'hj = (frL pv d n)[i]'hi := by
   have := h
   simpa [List.getD, hi, hj] using this
  exact ((List.getElem_inj hnd).1 h').symm
end Go.Pl
namespace Go.Pl
open Go
def up1 (f : Nat → Int) (p : Nat) (v : Int) : Nat → Int := fun c => if c = p then v else f c
theorem rowF_up1 {N p : Nat} {f : Nat → Int} {v : Int} : (rowF N f).set p v = rowF N (up1 f p v) := by rw [rowF_set]; rfl
def rsF (S : Nat → Nat → Int) (n i j : Nat) : Nat → Nat → Int
 | 0 => fun _ => 0
 | k + 1 => up1 (up1 (rsF S n i j k) (k * n + j) ((rsF S n i j k (k * n + j) + S i k) % 55441)) (i * n + k) ((up1 (rsF S n i j k) (k * n + j) ((rsF S n i j k (k * n + j) + S i k) % 55441) (i * n + k) - S k j) % 55441)
def riF (S : Nat → Nat → Int) (n i j : Nat) : Nat → Nat → Int
 | 0 => fun _ => 0
 | k + 1 => up1 (up1 (riF S n i j k) (i * n + k) ((riF S n i j k (i * n + k) + S k j) % 55441)) (k * n + j) ((up1 (riF S n i j k) (i * n + k) ((riF S n i j k (i * n + k) + S k j) % 55441) (k * n + j) - S i k) % 55441)
def twF (T : Nat → Int) (n i j : Nat) : Nat → Int := up1 (fun _ => 0) (i * n + j) ((T i - T j) % 55441)
def clF (S : Nat → Nat → Int) (n i j : Nat) (K c : Nat) : Int := sumTo (fun k => (if c = k * n + j then S i k else 0) - (if c = i * n + k then S k j else 0)) K
theorem clF_succ {S : Nat → Nat → Int} {n i j K c : Nat} : clF S n i j (K + 1) c = clF S n i j K c + ((if c = K * n + j then S i K else 0) - (if c = i * n + K then S K j else 0)) := rfl
theorem up1_inP {f : Nat → Int} {p : Nat} {x : Int} (h : ∀ c, InP (f c)) : ∀ c, InP (up1 f p (x % 55441) c) := fun c => by
 unfold up1
 split
 ·exact inP_md _
 ·exact h c
theorem rsF_inP {S : Nat → Nat → Int} {n i j : Nat} : ∀ K c, InP (rsF S n i j K c)
 | 0, _ => ⟨by show (0 : Int) ≤ 0; omega, by show (0 : Int) ≤ 55440; omega⟩
 | K + 1, c => by
  unfold rsF
  exact up1_inP (up1_inP (rsF_inP K)) c
theorem riF_inP {S : Nat → Nat → Int} {n i j : Nat} : ∀ K c, InP (riF S n i j K c)
 | 0, _ => ⟨by show (0 : Int) ≤ 0; omega, by show (0 : Int) ≤ 55440; omega⟩
 | K + 1, c => by
  unfold riF
  exact up1_inP (up1_inP (riF_inP K)) c
theorem twF_inP {T : Nat → Int} {n i j : Nat} : ∀ c, InP (twF T n i j c) := up1_inP (fun _ => ⟨by omega, by omega⟩)
theorem rsF_cl {S : Nat → Nat → Int} {n i j : Nat} : ∀ K c, rsF S n i j K c % 55441 = clF S n i j K c % 55441
 | 0, _ => rfl
 | K + 1, c => by
  have ih := rsF_cl (S := S) (n := n) (i := i) (j := j) K c
  rw [clF_succ]
  unfold rsF
  generalize rsF S n i j K = f at *
  generalize clF S n i j K c = z at *
  unfold up1
  by_cases e1 : c = i * n + K
  ·rw [if_pos e1, if_pos e1, ← e1]
   by_cases e2 : c = K * n + j
   ·rw [if_pos e2, if_pos e2, ← e2]; omega
   ·rw [if_neg e2, if_neg e2]; omega
  ·rw [if_neg e1, if_neg e1]
   by_cases e2 : c = K * n + j
   ·rw [if_pos e2, if_pos e2, ← e2]; omega
   ·rw [if_neg e2, if_neg e2]; omega
theorem riF_cl {S : Nat → Nat → Int} {n i j : Nat} : ∀ K c, riF S n i j K c % 55441 = (0 - clF S n i j K c) % 55441
 | 0, _ => rfl
 | K + 1, c => by
  have ih := riF_cl (S := S) (n := n) (i := i) (j := j) K c
  rw [clF_succ]
  unfold riF
  generalize riF S n i j K = f at *
  generalize clF S n i j K c = z at *
  unfold up1
  by_cases e1 : c = K * n + j
  ·rw [if_pos e1, if_pos e1, ← e1]
   by_cases e2 : c = i * n + K
   ·rw [if_pos e2, if_pos e2, ← e2]; omega
   ·rw [if_neg e2, if_neg e2]; omega
  ·rw [if_neg e1, if_neg e1]
   by_cases e2 : c = i * n + K
   ·rw [if_pos e2, if_pos e2, ← e2]; omega
   ·rw [if_neg e2, if_neg e2]; omega
def eqA (S : Nat → Nat → Int) (T : Nat → Int) (n K : Nat) : List (List Int) := (List.range K).flatMap fun t => [rowF (n * n) (rsF S n (t / n) (t % n) n), rowF (n * n) (twF T n (t / n) (t % n))]
def eqB (S : Nat → Nat → Int) (n K : Nat) : List (List Int) := (List.range K).map fun t => rowF (n * n) (riF S n (t / n) (t % n) n)
theorem at_div {n i j : Nat} (hj : j < n) : (i * n + j) / n = i ∧ (i * n + j) % n = j := by
 have hn : 0 < n := by omega
 rw [Nat.mul_comm i n, Nat.mul_add_div hn, Nat.div_eq_of_lt hj, Nat.mul_add_mod, Nat.mod_eq_of_lt hj]
 exact ⟨by omega, rfl⟩
theorem eqA_succ {S : Nat → Nat → Int} {T : Nat → Int} {n i j : Nat} (hj : j < n) : eqA S T n (i * n + (j + 1)) = eqA S T n (i * n + j) ++ [rowF (n * n) (rsF S n i j n), rowF (n * n) (twF T n i j)] := by
 unfold eqA
 rw [← Nat.add_assoc, List.range_succ, List.flatMap_append, List.flatMap_singleton, (at_div hj).1, (at_div hj).2]
theorem eqB_succ {S : Nat → Nat → Int} {n i j : Nat} (hj : j < n) : eqB S n (i * n + (j + 1)) = eqB S n (i * n + j) ++ [rowF (n * n) (riF S n i j n)] := by
 unfold eqB
 rw [← Nat.add_assoc, List.range_succ, List.map_append, List.map_singleton, (at_div hj).1, (at_div hj).2]
theorem eqA_length {S : Nat → Nat → Int} {T : Nat → Int} {n : Nat} : ∀ K, (eqA S T n K).length = 2 * K
 | 0 => rfl
 | K + 1 => by
  have := eqA_length (S := S) (T := T) (n := n) K
  unfold eqA at this ⊢
  rw [List.range_succ, List.flatMap_append, List.length_append, this]
  simp
  omega
theorem eqB_length {S : Nat → Nat → Int} {n K : Nat} : (eqB S n K).length = K := by unfold eqB; simp
theorem rowsP_rowF {N : Nat} {f : Nat → Int} (h : ∀ c, InP (f c)) : (rowF N f).length = N ∧ ∀ x ∈ rowF N f, InP x := by
 refine ⟨rowF_length _ _, fun x hx => ?_⟩
 obtain ⟨c, _, rfl⟩ := List.mem_map.1 hx
 exact h c
theorem eqA_rows {S : Nat → Nat → Int} {T : Nat → Int} {n K : Nat} : RowsP (n * n) (eqA S T n K) := fun r hr => by
 obtain ⟨t, _, h⟩ := List.mem_flatMap.1 hr
 rcases List.mem_cons.1 h with rfl | h
 ·exact rowsP_rowF (rsF_inP n)
 ·rw [List.mem_singleton] at h
  subst h
  exact rowsP_rowF twF_inP
theorem eqB_rows {S : Nat → Nat → Int} {n K : Nat} : RowsP (n * n) (eqB S n K) := fun r hr => by
 obtain ⟨t, _, rfl⟩ := List.mem_map.1 hr
 exact rowsP_rowF (riF_inP n)
theorem sum_rowF {N : Nat} {f x : Nat → Int} : sumTo (fun k => (rowF N f).getD k 0 * x k) N = sumTo (fun k => f k * x k) N :=
 sum_congr fun k hk => by rw [rowF_get hk]
theorem sum_cgx {N : Nat} {f g x : Nat → Int} (h : ∀ c, f c % 55441 = g c % 55441) : sumTo (fun k => f k * x k) N % 55441 = sumTo (fun k => g k * x k) N % 55441 :=
 sum_cg fun c _ => by rw [Int.mul_emod, h c, ← Int.mul_emod]
theorem sum_neg {N : Nat} {f x : Nat → Int} : sumTo (fun k => (0 - f k) * x k) N = 0 - sumTo (fun k => f k * x k) N := by
 have : sumTo (fun k => (0 - f k) * x k) N = sumTo (fun k => (fun _ => (0 : Int)) k - f k * x k) N := sum_congr fun k _ => by rw [Int.sub_mul, Int.zero_mul]
 rw [this, sum_sub2, sum_zero]
theorem solA {S : Nat → Nat → Int} {T : Nat → Int} {n : Nat} {x : Nat → Int} : SolL (n * n) (eqA S T n (n * n)) x ↔ ∀ i, i < n → ∀ j, j < n → sumTo (fun c => clF S n i j n c * x c) (n * n) % 55441 = 0 ∧ sumTo (fun c => twF T n i j c * x c) (n * n) % 55441 = 0 := by
 constructor
 ·intro h i hi j hj
  have ht : i * n + j < n * n := by
   have : (i + 1) * n ≤ n * n := Nat.mul_le_mul_right n hi
   rw [Nat.succ_mul] at this
   omega
  have h1 := h (rowF (n * n) (rsF S n i j n)) (List.mem_flatMap.2 ⟨i * n + j, List.mem_range.2 ht, by rw [(at_div hj).1, (at_div hj).2]; simp⟩)
  have h2 := h (rowF (n * n) (twF T n i j)) (List.mem_flatMap.2 ⟨i * n + j, List.mem_range.2 ht, by rw [(at_div hj).1, (at_div hj).2]; simp⟩)
  rw [sum_rowF] at h1 h2
  rw [sum_cgx (rsF_cl n)] at h1
  exact ⟨h1, h2⟩
 ·intro h r hr
  obtain ⟨t, ht, hm⟩ := List.mem_flatMap.1 hr
  have ht := List.mem_range.1 ht
  have hn : 0 < n := by
   rcases Nat.eq_zero_or_pos n with rfl | h
   ·simp at ht
   ·exact h
  obtain ⟨h1, h2⟩ := h (t / n) (Nat.div_lt_of_lt_mul ht) (t % n) (Nat.mod_lt _ hn)
  rcases List.mem_cons.1 hm with rfl | hm
  ·rw [sum_rowF, sum_cgx (rsF_cl n)]; exact h1
  ·rw [List.mem_singleton] at hm
   subst hm
   rw [sum_rowF]; exact h2
theorem solB {S : Nat → Nat → Int} {n : Nat} {x : Nat → Int} : SolL (n * n) (eqB S n (n * n)) x ↔ ∀ i, i < n → ∀ j, j < n → sumTo (fun c => clF S n i j n c * x c) (n * n) % 55441 = 0 := by
 have ng : ∀ z : Int, (0 - z) % 55441 = 0 ↔ z % 55441 = 0 := fun z => by omega
 constructor
 ·intro h i hi j hj
  have ht : i * n + j < n * n := by
   have : (i + 1) * n ≤ n * n := Nat.mul_le_mul_right n hi
   rw [Nat.succ_mul] at this
   omega
  have h1 := h (rowF (n * n) (riF S n i j n)) (List.mem_map.2 ⟨i * n + j, List.mem_range.2 ht, by rw [(at_div hj).1, (at_div hj).2]⟩)
  rw [sum_rowF, sum_cgx (riF_cl n), sum_neg, ng] at h1
  exact h1
 ·intro h r hr
  obtain ⟨t, ht, rfl⟩ := List.mem_map.1 hr
  have ht := List.mem_range.1 ht
  have hn : 0 < n := by
   rcases Nat.eq_zero_or_pos n with rfl | h
   ·simp at ht
   ·exact h
  rw [sum_rowF, sum_cgx (riF_cl n), sum_neg, ng]
  exact h (t / n) (Nat.div_lt_of_lt_mul ht) (t % n) (Nat.mod_lt _ hn)
theorem cl_diag {T : Nat → Int} {n i j c : Nat} (hi : i < n) (hj : j < n) : clF (fun a b => if a = b then T a else 0) n i j n c = if c = i * n + j then T i - T j else 0 := by
 unfold clF
 rw [sum_sub2]
 have e1 : sumTo (fun k => if c = k * n + j then (if i = k then T i else 0) else 0) n = if c = i * n + j then T i else 0 := by
  rw [← sum_one (f := fun _ => if c = i * n + j then T i else 0) hi]
  exact sum_congr fun k _ => by
   by_cases e : k = i
   ·subst e; rw [if_pos rfl, if_pos rfl]
   ·rw [if_neg e, if_neg (show ¬ i = k from fun h => e h.symm)]
    split <;> rfl
 have e2 : sumTo (fun k => if c = i * n + k then (if k = j then T k else 0) else 0) n = if c = i * n + j then T j else 0 := by
  rw [← sum_one (f := fun _ => if c = i * n + j then T j else 0) hj]
  exact sum_congr fun k _ => by
   by_cases e : k = j
   ·subst e; rw [if_pos rfl, if_pos rfl]
   ·rw [if_neg e, if_neg e]
    split <;> rfl
 rw [e1, e2]
 split
 ·rfl
 ·rfl
theorem tw_diag {T : Nat → Int} {n i j : Nat} (hi : i < n) (hj : j < n) (c : Nat) : twF T n i j c % 55441 = clF (fun a b => if a = b then T a else 0) n i j n c % 55441 := by
 rw [cl_diag hi hj]
 unfold twF up1
 split
 ·omega
 ·rfl
theorem comm_rk {S : Nat → Nat → Int} {T : Nat → Int} {n : Nat} : rkL (n * n) (eqA S T n (n * n)) = rkL (n * n) (eqB S n (n * n) ++ eqB (fun a b => if a = b then T a else 0) n (n * n)) := by
 refine rk_eq eqA_rows (fun r hr => ?_) fun x => ?_
 ·rcases List.mem_append.1 hr with h | h
  ·exact eqB_rows r h
  ·exact eqB_rows r h
 ·have hsplit : SolL (n * n) (eqB S n (n * n) ++ eqB (fun a b => if a = b then T a else 0) n (n * n)) x ↔ SolL (n * n) (eqB S n (n * n)) x ∧ SolL (n * n) (eqB (fun a b => if a = b then T a else 0) n (n * n)) x :=
   ⟨fun h => ⟨fun r hr => h r (List.mem_append_left _ hr), fun r hr => h r (List.mem_append_right _ hr)⟩, fun ⟨h1, h2⟩ r hr => (List.mem_append.1 hr).elim (h1 r) (h2 r)⟩
  rw [solA, hsplit, solB, solB]
  constructor
  ·intro h
   refine ⟨fun i hi j hj => (h i hi j hj).1, fun i hi j hj => ?_⟩
   rw [← sum_cgx (tw_diag hi hj)]
   exact (h i hi j hj).2
  ·rintro ⟨h1, h2⟩ i hi j hj
   refine ⟨h1 i hi j hj, ?_⟩
   rw [sum_cgx (tw_diag hi hj)]
   exact h2 i hi j hj
end Go.Pl
