import Derived.Test.YtcmgjlgmajhekaaKp1
set_option linter.unusedSimpArgs false
set_option linter.unusedVariables false
namespace Go.Pl
open Go
theorem dig_ext {p : Nat} (hp : 0 < p) : ∀ (k a b : Nat), a < p ^ k → b < p ^ k → (∀ j, j < k → a / p ^ j % p = b / p ^ j % p) → a = b
 | 0, a, b, ha, hb, _ => by rw [Nat.pow_zero] at ha hb; omega
 | k + 1, a, b, ha, hb, h => by
  have e0 := h 0 (by omega)
  rw [Nat.pow_zero, Nat.div_one, Nat.div_one] at e0
  have q : a / p = b / p := by
   refine dig_ext hp k _ _ ?_ ?_ fun j hj => ?_
   ·exact Nat.div_lt_of_lt_mul (by rw [Nat.mul_comm, ← Nat.pow_succ]; exact ha)
   ·exact Nat.div_lt_of_lt_mul (by rw [Nat.mul_comm, ← Nat.pow_succ]; exact hb)
   ·have := h (j + 1) (by omega)
    rw [Nat.pow_succ, Nat.mul_comm, ← Nat.div_div_eq_div_mul, ← Nat.div_div_eq_div_mul] at this
    exact this
  rw [← Nat.div_add_mod a p, ← Nat.div_add_mod b p, q, e0]
def allV (p : Nat) : Nat → List (List Nat)
 | 0 => [[]]
 | k + 1 => (List.range p).flatMap fun d => (allV p k).map (d :: ·)
theorem sum_const_map {α : Type} {c : Nat} : ∀ (l : List α), (l.map fun _ => c).sum = l.length * c
 | [] => by simp
 | _ :: l => by
  rw [List.map_cons, List.sum_cons, sum_const_map l, List.length_cons, Nat.succ_mul, Nat.add_comm]
theorem allV_length (p : Nat) : ∀ k, (allV p k).length = p ^ k
 | 0 => rfl
 | k + 1 => by
  rw [allV, List.length_flatMap]
  simp only [List.length_map, allV_length p k]
  rw [sum_const_map, List.length_range, Nat.pow_succ, Nat.mul_comm]
theorem allV_mem {p : Nat} : ∀ {k : Nat} {v : List Nat}, v.length = k → (∀ x ∈ v, x < p) → v ∈ allV p k
 | 0, [], _, _ => by simp [allV]
 | k + 1, x :: v, h, hx => by
  rw [allV, List.mem_flatMap]
  exact ⟨x, List.mem_range.2 (hx x (List.mem_cons_self ..)), List.mem_map.2 ⟨v, allV_mem (by simpa using h) (fun y hy => hx y (List.mem_cons_of_mem _ hy)), rfl⟩⟩
theorem sum_sub2 {f g : Nat → Int} : ∀ {n : Nat}, sumTo (fun i => f i - g i) n = sumTo f n - sumTo g n
 | 0 => by simp [sumTo]
 | n + 1 => by
  simp only [sumTo]
  rw [sum_sub2]
  omega
theorem under {p m k : Nat} (hp : 2 ≤ p) (hmk : m < k) (B : Nat → Nat → Int) : ∃ y : Nat → Int, (∃ j, j < k ∧ y j % (p : Int) ≠ 0) ∧ ∀ i, i < m → sumTo (fun j => B i j * y j) k % (p : Int) = 0 := by
 have hp0 : (0 : Int) < p := by omega
 obtain ⟨Y, eY⟩ : ∃ Y : Nat → Nat → Int, Y = fun a j => ((a / p ^ j % p : Nat) : Int) := ⟨_, rfl⟩
 obtain ⟨R, eR⟩ : ∃ R : Nat → Nat → Nat, R = fun a i => (sumTo (fun j => B i j * Y a j) k % (p : Int)).toNat := ⟨_, rfl⟩
 have hR : ∀ a i, ((R a i : Nat) : Int) = sumTo (fun j => B i j * Y a j) k % (p : Int) := fun a i => by
  rw [eR]
  exact Int.toNat_of_nonneg (Int.emod_nonneg _ (by omega))
 have hRl : ∀ a i, R a i < p := fun a i => by
  have h1 := Int.emod_lt_of_pos (sumTo (fun j => B i j * Y a j) k) hp0
  rw [← hR] at h1
  omega
 obtain ⟨f, ef⟩ : ∃ f : Nat → List Nat, f = fun a => (List.range m).map (R a) := ⟨_, rfl⟩
 have hcol : ∃ a b, a < p ^ k ∧ b < p ^ k ∧ a ≠ b ∧ f a = f b := by
  refine Classical.byContradiction fun hno => ?_
  have hinj : ∀ a b, a < p ^ k → b < p ^ k → f a = f b → a = b := fun a b ha hb e => Classical.byContradiction fun h => hno ⟨a, b, ha, hb, h, e⟩
  have hnd : ((List.range (p ^ k)).map f).Nodup := by
   unfold List.Nodup
   rw [List.pairwise_map]
   refine List.Pairwise.imp_of_mem (R := fun a b => a ≠ b) (fun {a b} ha hb hne e => hne (hinj a b (List.mem_range.1 ha) (List.mem_range.1 hb) e)) ?_
   exact List.nodup_range
  have hle := List.Nodup.length_le_of_subset (l₂ := allV p m) hnd fun v hv => by
   obtain ⟨a, _, rfl⟩ := List.mem_map.1 hv
   rw [ef]
   exact allV_mem (by simp) fun x hx => by
    obtain ⟨i, _, rfl⟩ := List.mem_map.1 hx
    exact hRl a i
  rw [List.length_map, List.length_range, allV_length] at hle
  have := Nat.pow_lt_pow_right (a := p) (by omega) hmk
  omega
 obtain ⟨a, b, ha, hb, hne, e⟩ := hcol
 refine ⟨fun j => Y a j - Y b j, ?_, fun i hi => ?_⟩
 ·refine Classical.byContradiction fun hno => hne ?_
  refine dig_ext (by omega) k a b ha hb fun j hj => ?_
  have h0 : (Y a j - Y b j) % (p : Int) = 0 := Classical.byContradiction fun h => hno ⟨j, hj, h⟩
  rw [eY] at h0
  have b1 : a / p ^ j % p < p := Nat.mod_lt _ (by omega)
  have b2 : b / p ^ j % p < p := Nat.mod_lt _ (by omega)
  dsimp only at h0
  generalize a / p ^ j % p = u at *
  generalize b / p ^ j % p = v at *
  obtain ⟨c, hc⟩ := Int.dvd_of_emod_eq_zero h0
  have : c = 0 := by
   rcases Int.lt_trichotomy c 0 with h | h | h
   ·have : (p : Int) * c ≤ (p : Int) * (-1) := Int.mul_le_mul_of_nonneg_left (by omega) (by omega)
    omega
   ·exact h
   ·have : (p : Int) * 1 ≤ (p : Int) * c := Int.mul_le_mul_of_nonneg_left (by omega) (by omega)
    omega
  subst this
  omega
 ·have hi2 : R a i = R b i := by
   rw [ef] at e
   have := List.map_inj_left.1 e i (List.mem_range.2 hi)
   exact this
  have h1 := hR a i
  have h2 := hR b i
  rw [hi2] at h1
  have es : sumTo (fun j => B i j * (Y a j - Y b j)) k = sumTo (fun j => B i j * Y a j) k - sumTo (fun j => B i j * Y b j) k := by
   rw [← sum_sub2]
   exact sum_congr fun j _ => by rw [Int.mul_sub]
  rw [es]
  exact Int.emod_eq_zero_of_dvd (Int.dvd_of_emod_eq_zero (by rw [Int.sub_emod, ← h1, ← h2, Int.sub_self, Int.zero_emod]))
def Sol (p : Int) (m n : Nat) (G : Nat → Nat → Int) (x : Nat → Int) : Prop := ∀ i, i < m → sumTo (fun k => G i k * x k) n % p = 0
theorem sum_pick2 {f : Nat → Int} {x : Int} {n j : Nat} (hj : j < n) : sumTo (fun k => f k * (if j = k then x else 0)) n = f j * x := by
 have := sum_pick (f := f) (x := x) hj
 rw [Int.mul_comm (f j)]
 rw [← this]
 exact sum_congr fun k _ => by
  rw [Int.mul_comm]
  by_cases e : j = k
  ·rw [if_pos e, if_pos e.symm]
  ·rw [if_neg e, if_neg (fun h => e h.symm)]
theorem sum_mul_l {f : Nat → Int} {c : Int} {n : Nat} : sumTo (fun i => c * f i) n = c * sumTo f n := by
 rw [Int.mul_comm c, ← sum_mul]
 exact sum_congr fun i _ => Int.mul_comm _ _
theorem rank_le {p m1 m2 n : Nat} (hp : 2 ≤ p) {A B : Nat → Nat → Int} {pv : Nat → Nat} (hB : ∀ i, i < m2 → pv i < n)
  (hd : ∀ y : Nat → Int, (∀ i, i < m2 → sumTo (fun j => B i (pv j) * y j) m2 % (p : Int) = 0) → ∀ i, i < m2 → y i % (p : Int) = 0)
  (hS : ∀ x, Sol p m1 n A x → Sol p m2 n B x) : m2 ≤ m1 := by
 refine Classical.byContradiction fun hlt => ?_
 obtain ⟨y, ⟨j, hj, hy⟩, hA⟩ := under hp (show m1 < m2 by omega) fun i j => A i (pv j)
 have hx : ∀ (C : Nat → Nat → Int) i, sumTo (fun k => C i k * sumTo (fun j => if pv j = k then y j else 0) m2) n = sumTo (fun j => C i (pv j) * y j) m2 := fun C i => by
  have e1 : sumTo (fun k => C i k * sumTo (fun j => if pv j = k then y j else 0) m2) n = sumTo (fun k => sumTo (fun j => C i k * (if pv j = k then y j else 0)) m2) n :=
   sum_congr fun k _ => (sum_mul_l).symm
  rw [e1, sum_comm]
  exact sum_congr fun j hj => sum_pick2 (f := C i) (hB j hj)
 have h1 := hS (fun k => sumTo (fun j => if pv j = k then y j else 0) m2) fun i hi => by rw [hx]; exact hA i hi
 exact hy (hd y (fun i hi => by rw [← hx]; exact h1 i hi) j hj)
end Go.Pl
namespace Go.Pl
open Go
def fndF (G : Nat → Nat → Int) (k : Nat) : Nat → Nat → Nat
 | 0, f => f
 | c + 1, f => if G f k = 0 then fndF G k c (f + 1) else f
theorem fndF_fact (G : Nat → Nat → Int) (k : Nat) : ∀ c f, f ≤ fndF G k c f ∧ fndF G k c f ≤ f + c ∧ (∀ i, f ≤ i → i < fndF G k c f → G i k = 0) ∧ (fndF G k c f < f + c → G (fndF G k c f) k ≠ 0)
 | 0, f => ⟨Nat.le_refl _, Nat.le_refl _, fun i h1 h2 => by unfold fndF at h2; omega, fun h => by unfold fndF at h; omega⟩
 | c + 1, f => by
  unfold fndF
  by_cases h : G f k = 0
  ·rw [if_pos h]
   obtain ⟨h1, h2, h3, h4⟩ := fndF_fact G k c (f + 1)
   refine ⟨by omega, by omega, fun i i1 i2 => ?_, fun hl => h4 (by omega)⟩
   by_cases e : i = f
   ·rw [e]; exact h
   ·exact h3 i (by omega) i2
  ·rw [if_neg h]
   exact ⟨Nat.le_refl _, by omega, fun i h1 h2 => by omega, fun _ => h⟩
def swF (G : Nat → Nat → Int) (d f : Nat) : Nat → Nat → Int := fun i c => if i = d then G f c else if i = f then G d c else G i c
structure GjP (m n k : Nat) (G0 G : Nat → Nat → Int) (d : Nat) (pv : Nat → Nat) : Prop where
 dm : d ≤ m
 ent : ∀ i, i < m → ∀ c, c < n → InP (G i c)
 pk : ∀ j, j < d → pv j < k
 one : ∀ i, i < m → ∀ j, j < d → G i (pv j) = if i = j then 1 else 0
 low : ∀ i, d ≤ i → i < m → ∀ c, c < k → G i c = 0
 lead : ∀ i, i < d → ∀ c, c < pv i → G i c = 0
 sol : ∀ x, Sol 55441 m n G x ↔ Sol 55441 m n G0 x
theorem GjP.inj {m n k d : Nat} {G0 G : Nat → Nat → Int} {pv : Nat → Nat} (h : GjP m n k G0 G d pv) {i j : Nat} (hi : i < d) (hj : j < d) (e : pv i = pv j) : i = j := by
 have hdm := h.dm
 have h1 := h.one i (by omega) j hj
 rw [← e, h.one i (by omega) i hi, if_pos rfl] at h1
 by_cases c : i = j
 ·exact c
 ·rw [if_neg c] at h1; omega
end Go.Pl
namespace Go.Pl
open Go
theorem take_snoc {α : Type} {xs : List α} {d : α} {k : Nat} (h : k < xs.length) : xs.take (k + 1) = xs.take k ++ [xs.getD k d] := by
 rw [← List.take_append_getElem h, List.getD_eq_getElem?_getD, List.getElem?_eq_getElem h]
 rfl
theorem matF_srow {m n i : Nat} {G : Nat → Nat → Int} {g : Nat → Int} : (matF m n G).set i (rowF n g) = matF m n (fun x => if x = i then g else G x) := by
 apply List.ext_getElem
 ·simp [matF]
 ·intro k h1 h2
  rw [List.getElem_set]
  simp only [matF, List.getElem_map, List.getElem_range]
  by_cases e : i = k
  ·rw [if_pos e, if_pos e.symm]
  ·rw [if_neg e, if_neg (fun h => e h.symm)]
end Go.Pl
namespace Go.Pl
open Go
end Go.Pl
