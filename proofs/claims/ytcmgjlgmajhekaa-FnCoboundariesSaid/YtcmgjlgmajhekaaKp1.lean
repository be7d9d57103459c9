import Derived.Test.YtcmgjlgmajhekaaPl5
import Derived.Test.YtcmgjlgmajhekaaPl1
import Derived.Test.YtcmgjlgmajhekaaLib3
import Derived.Test.YtcmgjlgmajhekaaPl6
set_option linter.unusedSimpArgs false
set_option linter.unusedVariables false
namespace Go.Pl
open Go.Aw
def Cg (a b : Int) : Prop := a % 55441 = b % 55441
theorem Cg.mul {a a' b b' : Int} (h1 : Cg a a') (h2 : Cg b b') : Cg (a * b) (a' * b') := cgm h1 h2
theorem Cg.sum {f g : Nat → Int} {n : Nat} (h : ∀ i, i < n → Cg (f i) (g i)) : Cg (sumTo f n) (sumTo g n) := sum_cg h
theorem Cg.of {a b : Int} (h : a = b) : Cg a b := by rw [h]; rfl
theorem Cg.md (a : Int) : Cg (a % 55441) a := emd a
theorem sum_add {f g : Nat → Int} {n : Nat} : sumTo (fun i => f i + g i) n = sumTo f n + sumTo g n := by
 induction n with
 | zero => rfl
 | succ n ih => simp only [sumTo]; rw [ih]; omega
theorem sum_zero {n : Nat} : sumTo (fun _ => 0) n = 0 := by
 induction n with
 | zero => rfl
 | succ n ih => simp only [sumTo]; rw [ih]; rfl
theorem sum_comm {f : Nat → Nat → Int} {m n : Nat} : sumTo (fun i => sumTo (fun j => f i j) m) n = sumTo (fun j => sumTo (fun i => f i j) n) m := by
 induction n with
 | zero => simp only [sumTo]; exact sum_zero.symm
 | succ n ih => simp only [sumTo]; rw [ih, ← sum_add]
theorem mul_sum {f : Nat → Int} {c : Int} {n : Nat} : sumTo (fun i => c * f i) n = c * sumTo f n := by
 rw [Int.mul_comm, ← sum_mul]
 exact sum_congr fun i _ => Int.mul_comm _ _
theorem sum_pick {f : Nat → Int} {x : Int} {n j : Nat} (hj : j < n) : sumTo (fun k => (if k = j then x else 0) * f k) n = x * f j := by
 rw [← sum_one (f := fun k => x * f k) hj]
 refine sum_congr fun k _ => ?_
 by_cases h : k = j
 ·rw [if_pos h, if_pos h]
 ·rw [if_neg h, if_neg h, Int.zero_mul]
theorem Cg.eq {a b : Int} (ha : InP a) (hb : InP b) (h : Cg a b) : a = b := by
 rw [← md_InP ha, ← md_InP hb]
 exact h
section
variable {s : List (List Int)} {t : List Int}
end
end Go.Pl
namespace Go.Pl
open Go.Aw
structure RingP (t : List (List (List Int))) : Prop where
 cube : Cube t
 left : ∀ i, i < t.length → ∀ k, k < t.length → e3 t 0 i k = dl i k
 right : ∀ i, i < t.length → ∀ k, k < t.length → e3 t i 0 k = dl i k
 dual : ∀ i, i < t.length → 0 ≤ dual t i ∧ dual t i < t.length
 invo : ∀ i, i < t.length → Pl.dual t (Pl.dual t i).toNat = i
 turn : ∀ i, i < t.length → ∀ j, j < t.length → ∀ k, k < t.length → e3 t i j k = e3 t (Pl.dual t i).toNat k j
 turn2 : ∀ i, i < t.length → ∀ j, j < t.length → ∀ k, k < t.length → e3 t i j k = e3 t k (Pl.dual t j).toNat i
 brack : ∀ i, i < t.length → ∀ j, j < t.length → ∀ k, k < t.length → ∀ l, l < t.length → sumTo (brL t i j k l) t.length = sumTo (brR t i j k l) t.length
theorem sum_le_sum {f g : Nat → Int} : ∀ {n : Nat}, (∀ i, i < n → f i ≤ g i) → sumTo f n ≤ sumTo g n
 | 0, _ => Int.le_refl _
 | n + 1, h => by
  have h1 := sum_le_sum (n := n) (fun i hi => h i (by omega))
  have h2 := h n (by omega)
  simp only [sumTo]
  omega
theorem sq_ge {x : Int} (h : 0 ≤ x) : x ≤ x * x := by
 by_cases h0 : x = 0
 ·subst h0; decide
 ·have : 1 * x ≤ x * x := Int.mul_le_mul_of_nonneg_right (by omega) h
  omega
theorem sq_one {x : Int} (h : 0 ≤ x) (h1 : x * x ≤ 1) : x * x = x := by
 have := sq_ge h
 by_cases h0 : x = 0
 ·subst h0; decide
 ·have : x = 1 := by omega
  subst this; decide
theorem term_le {f : Nat → Int} {n i : Nat} (h : ∀ i, i < n → 0 ≤ f i) (hi : i < n) : f i ≤ sumTo f n := by
 have h1 := sum_le_sum (f := fun k => if k = i then f k else 0) (g := f) (n := n) (fun k hk => by
  by_cases e : k = i
  ·rw [if_pos e]; exact Int.le_refl _
  ·rw [if_neg e]; exact h k hk)
 rw [sum_one hi] at h1
 exact h1
end Go.Pl
namespace Go.Pl
open Go.Aw
theorem sum_prod {F : Nat → Nat → Int} {n m : Nat} : sumTo (fun x => F (x / m) (x % m)) (n * m) = sumTo (fun i => sumTo (F i) m) n := by
 by_cases hm : m = 0
 ·subst hm
  rw [Nat.mul_zero]
  simp only [sumTo]
  exact sum_zero.symm
 have key : ∀ (k : Nat) (j : Nat), j ≤ m → sumTo (fun x => F (x / m) (x % m)) (k * m + j) = sumTo (fun x => F (x / m) (x % m)) (k * m) + sumTo (F k) j := by
  intro k j
  induction j with
  | zero => intro _; simp [sumTo]
  | succ j ih =>
   intro hj
   rw [← Nat.add_assoc]
   simp only [sumTo]
   rw [ih (by omega)]
   have e1 : (k * m + j) / m = k := by rw [Nat.mul_comm, Nat.mul_add_div (by omega), Nat.div_eq_of_lt (by omega), Nat.add_zero]
   have e2 : (k * m + j) % m = j := by rw [Nat.mul_comm, Nat.mul_add_mod, Nat.mod_eq_of_lt (by omega)]
   rw [e1, e2, Int.add_assoc]
 induction n with
 | zero => simp [sumTo]
 | succ n ih =>
  rw [Nat.succ_mul, key n m (Nat.le_refl _), ih]
  rfl
theorem sum_prod2 {f g : Nat → Int} {n m : Nat} : sumTo (fun x => f (x / m) * g (x % m)) (n * m) = sumTo f n * sumTo g m := by
 rw [sum_prod (F := fun i j => f i * g j), ← sum_mul]
 exact sum_congr fun i _ => mul_sum
theorem dm_lt {n m x : Nat} (h : x < n * m) : x / m < n ∧ x % m < m := by
 have hm : 0 < m := by
  rcases Nat.eq_zero_or_pos m with e | e
  ·subst e; rw [Nat.mul_zero] at h; omega
  ·exact e
 exact ⟨by rw [Nat.div_lt_iff_lt_mul hm]; exact h, Nat.mod_lt _ hm⟩
def Kr (n m : Nat) (A A1 A2 : List (List Int)) : Prop := ∀ x, x < n * m → ∀ y, y < n * m → Cg (e2 A x y) (e2 A1 (x / m) (y / m) * e2 A2 (x % m) (y % m))
theorem Kr.mul {n m : Nat} {A A1 A2 B B1 B2 : List (List Int)} (ha : Kr n m A A1 A2) (hb : Kr n m B B1 B2) : Kr n m (mulM A B (n * m)) (mulM A1 B1 n) (mulM A2 B2 m) := by
 intro x hx y hy
 obtain ⟨hx1, hx2⟩ := dm_lt hx
 obtain ⟨hy1, hy2⟩ := dm_lt hy
 unfold mulM
 rw [matF_e2 hx hy, matF_e2 hx1 hy1, matF_e2 hx2 hy2]
 refine (Cg.md _).trans (Eq.trans ?_ (Cg.mul (Cg.md _).symm (Cg.md _).symm))
 have e : Cg (sumTo (pG A B x y) (n * m)) (sumTo (fun k => pG A1 B1 (x / m) (y / m) (k / m) * pG A2 B2 (x % m) (y % m) (k % m)) (n * m)) := Cg.sum fun k hk => by
  refine (Cg.mul (ha x hx k hk) (hb k hk y hy)).trans (Cg.of ?_)
  unfold pG
  simp only [Int.mul_assoc, Int.mul_comm, Int.mul_left_comm]
 refine e.trans (Cg.of ?_)
 exact sum_prod2
section
variable {s : List (List Int)} {t : List Int} {z : List (List Int)} {u : List Int}
end
end Go.Pl
namespace Go.Pl
open Go.Aw
section
variable {s : List (List Int)} {t : List Int} {z : List (List Int)} {u : List Int}
end
theorem cubF_e3 {n : Nat} {f : Nat → Nat → Nat → Int} {i j k : Nat} (hi : i < n) (hj : j < n) (hk : k < n) : e3 (cubF n f) i j k = f i j k := by
 unfold e3
 rw [cubF_get hi, matF_get hj, rowF_get hk]
theorem RingP.zero {t : List (List (List Int))} (h : RingP t) {i j : Nat} (hi : i < t.length) (hj : j < t.length) : e3 t i j 0 = if j = (Pl.dual t i).toNat then 1 else 0 := by
 have h2 := h.dual i hi
 rw [h.turn i hi j hj 0 (by omega), h.right _ (by omega) _ hj]
 unfold dl
 by_cases e : j = (Pl.dual t i).toNat
 ·rw [if_pos e, if_pos (by rw [e])]
 ·rw [if_neg e, if_neg (by omega)]
section
variable {A B : List (List (List Int))}
end
end Go.Pl
namespace Go.Pl
open Go.Aw
structure Src where
 code : List Int
 pos : Nat
 h : Int
structure Src.Ok (s : Src) : Prop where
 len : s.code.length ≤ 1048576
 byte : ∀ i, i < s.code.length → 0 ≤ s.code.getD i 0 ∧ s.code.getD i 0 ≤ 255
 pos : s.pos ≤ s.code.length
 h : 0 ≤ s.h ∧ s.h < 18446744073709551616
def nxH (h : Int) : Int := (h * 6364136223846793005 % 18446744073709551616 + 1442695040888963407) % 18446744073709551616
def nxX (h : Int) : Int := andK .u64 (h.fdiv (2 ^ min 33 64)) 16777215
def nx (s : Src) (n : Int) : Int × Src :=
 if n < 1 then (0, s) else if s.pos < s.code.length then ((nxX (nxH s.h) + s.code.getD s.pos 0) % n, ⟨s.code, s.pos + 1, nxH s.h⟩) else (nxX (nxH s.h) % n, ⟨s.code, s.pos, nxH s.h⟩)
theorem nxX_bd (h : Int) : 0 ≤ nxX h ∧ nxX h ≤ 16777215 := by
 unfold nxX andK
 rw [wrap_u64]
 have h1 : (BitVec.ofInt (Go.IntKind.bits .u64) (h.fdiv (2 ^ min 33 64)) &&& BitVec.ofInt (Go.IntKind.bits .u64) 16777215).toNat ≤ (BitVec.ofInt (Go.IntKind.bits .u64) 16777215).toNat := by
  rw [BitVec.toNat_and]
  exact Nat.and_le_right
 have h2 : (BitVec.ofInt (Go.IntKind.bits .u64) 16777215).toNat = 16777215 := by decide
 rw [h2] at h1
 omega
theorem nxH_bd (h : Int) : 0 ≤ nxH h ∧ nxH h < 18446744073709551616 := by
 unfold nxH
 omega
theorem nx_ok {s : Src} (hs : s.Ok) (n : Int) : (nx s n).2.Ok := by
 unfold nx
 split
 ·exact hs
 ·split
  ·rename_i h
   exact ⟨hs.len, hs.byte, by show s.pos + 1 ≤ s.code.length; omega, nxH_bd _⟩
  ·exact ⟨hs.len, hs.byte, hs.pos, nxH_bd _⟩
theorem nx_bd (s : Src) {n : Int} (h : 1 ≤ n) : 0 ≤ (nx s n).1 ∧ (nx s n).1 < n := by
 unfold nx
 rw [if_neg (by omega)]
 split
 ·exact ⟨Int.emod_nonneg _ (by omega), Int.emod_lt_of_pos _ (by omega)⟩
 ·exact ⟨Int.emod_nonneg _ (by omega), Int.emod_lt_of_pos _ (by omega)⟩
def bsV (c : List Int) : List AV := c.map (AV.ik .u8)
theorem bsV_len {c : List Int} : (bsV c).length = c.length := by simp [bsV]
theorem bsV_get {c : List Int} {i : Nat} (h : i < c.length) : (bsV c).getD i .junk = .ik .u8 (c.getD i 0) := by simp [bsV, List.getD, h]
theorem killAs_bsV {q : Nat → List Nat → Bool} : ∀ {c : List Int}, killAs q (bsV c) = bsV c
 | [] => rfl
 | b :: c => by
  show killA q (.ik .u8 b) :: killAs q (bsV c) = .ik .u8 b :: bsV c
  rw [killAs_bsV]
  rfl
theorem areData_bsV : ∀ {c : List Int}, areData (bsV c) = true
 | [] => rfl
 | b :: c => by
  show (Aw.isData (.ik .u8 b) && areData (bsV c)) = true
  rw [areData_bsV]
  rfl
end Go.Pl
namespace Go.Pl
def gA : Int := 6364136223846793005
def gC : Int := 1442695040888963407
def linA : Nat → Int
 | 0 => gA
 | k + 1 => linA k * linA k
def linC : Nat → Int
 | 0 => gC
 | k + 1 => (linA k + 1) * linC k
def hop (k : Nat) (x : Int) : Int := linA k * x + linC k
def adv : Nat → Int → Int
 | 0, h => h
 | n + 1, h => adv n (nxH h)
theorem adv_add (m : Nat) : ∀ (n : Nat) (h : Int), adv (n + m) h = adv m (adv n h)
 | 0, h => by rw [Nat.zero_add]; rfl
 | n + 1, h => by
  rw [show n + 1 + m = (n + m) + 1 by omega]
  exact adv_add m n (nxH h)
theorem adv_bd {h : Int} (hh : 0 ≤ h ∧ h < 18446744073709551616) : ∀ n, 0 ≤ adv n h ∧ adv n h < 18446744073709551616 := by
 intro n
 induction n generalizing h with
 | zero => exact hh
 | succ n ih => exact ih (nxH_bd h)
end Go.Pl
namespace Go.Pl
open Go.Aw
abbrev Gf := Nat → Nat → Nat → Int
abbrev Cu := List (List (List Int))
def it {α : Type} (f : Nat → α → α) : Nat → α → α
 | 0, a => a
 | n + 1, a => f n (it f n a)
def updG (g : Gf) (i j k : Nat) (v : Int) : Gf := fun x y z => if x = i ∧ y = j ∧ z = k then v else g x y z
def BdG (b : Int) (g : Gf) : Prop := ∀ x y z, 0 ≤ g x y z ∧ g x y z ≤ b
theorem BdG.upd {b : Int} {g : Gf} (h : BdG b g) (i j k : Nat) {v : Int} (h0 : 0 ≤ v) (h1 : v ≤ b) : BdG b (updG g i j k v) := by
 intro x y z
 unfold updG
 split
 ·exact ⟨h0, h1⟩
 ·exact h x y z
theorem BdG.mono {b c : Int} {g : Gf} (h : BdG b g) (hc : b ≤ c) : BdG c g := fun x y z => ⟨(h x y z).1, Int.le_trans (h x y z).2 hc⟩
def turnK (n h : Nat) : Nat := if n < 2 * h then n - h else h
def turnL (n h : Nat) : List Int :=
 if turnK n h = 0 then [0, 1] else if 2 * turnK n h = n then [2, 3] else [(((if n % 2 = 0 then 3 else 1) + turnK n h : Nat) : Int)]
def turn2 (n h k : Nat) : List Int := turnL n (h + k) ++ turnL n (max (h - k) (k - h))
theorem i1 : (1 : Int) ≤ 1 := by decide
end Go.Pl
namespace Go.Pl
open Go.Aw
structure Mv (j : Nat) (s s' : Src) : Prop where
 code : s'.code = s.code
 h : s'.h = adv j s.h
 pos : s'.pos = min (s.pos + j) s.code.length
theorem nx_mv {s : Src} (hs : s.Ok) {n : Int} (hn : 1 ≤ n) : Mv 1 s (nx s n).2 := by
 have hp := hs.pos
 unfold nx
 rw [if_neg (by omega)]
 split
 ·exact ⟨rfl, rfl, by dsimp only; omega⟩
 ·exact ⟨rfl, rfl, by dsimp only; omega⟩
theorem Mv.ok {j : Nat} {s s' : Src} (m : Mv j s s') (hs : s.Ok) : s'.Ok := by
 refine ⟨by rw [m.code]; exact hs.len, fun i hi => ?_, by rw [m.pos, m.code]; omega, by rw [m.h]; exact adv_bd hs.h j⟩
 rw [m.code] at hi ⊢
 exact hs.byte i hi
theorem Mv.trans {j k : Nat} {s s' s'' : Src} (m : Mv j s s') (n : Mv k s' s'') : Mv (j + k) s s'' := by
 refine ⟨n.code.trans m.code, ?_, ?_⟩
 ·rw [n.h, m.h, adv_add]
 ·rw [n.pos, m.pos, m.code]
  omega
def dOrdL (most : Int) : Nat → List Int → Int → Src → List Int × Src
 | 0, o, _, s => (o, (nx s 2).2)
 | k + 1, o, z, s =>
  if (nx s 2).1 = 0 ∧ 2 * z ≤ most then
   dOrdL most k (o ++ [2 + (nx (nx s 2).2 (most / z - 1)).1]) (z * (2 + (nx (nx s 2).2 (most / z - 1)).1)) (nx (nx s 2).2 (most / z - 1)).2
  else (o, (nx s 2).2)
def dOrd (s : Src) (most : Int) : List Int × Src := dOrdL most 3 [1 + (nx s most).1] (1 + (nx s most).1) (nx s most).2
theorem PosO_snoc {o : List Int} (h : PosO o) {x : Int} (hx : 1 ≤ x) : PosO (o ++ [x]) := by
 refine ⟨by simp, fun i hi => ?_⟩
 rw [List.length_append, List.length_singleton] at hi
 by_cases h1 : i < o.length
 ·rw [show (o ++ [x]).getD i 0 = o.getD i 0 by simp [List.getD, List.getElem?_append_left h1]]
  exact h.2 i h1
 ·obtain rfl : i = o.length := by omega
  simpa [List.getD] using hx
theorem div_more {z most : Int} (hz : 1 ≤ z) (h : 2 * z ≤ most) : 2 ≤ most / z ∧ z * (most / z) ≤ most := by
 refine ⟨(Int.le_ediv_iff_mul_le (by omega)).2 h, Int.mul_ediv_self_le (by omega)⟩
theorem dOrdL_fact {most : Int} : ∀ (k : Nat) {o : List Int} {z : Int} {s : Src}, s.Ok → PosO o → prodO o = z → 1 ≤ z → z ≤ most →
  PosO (dOrdL most k o z s).1 ∧ prodO (dOrdL most k o z s).1 ≤ most ∧ ∃ j, 1 ≤ j ∧ j ≤ 2 * k + 1 ∧ Mv j s (dOrdL most k o z s).2
 | 0, o, z, s, hs, ho, hp, h1, h2 => ⟨ho, by show prodO o ≤ most; omega, 1, Nat.le_refl 1, Nat.le_refl 1, nx_mv hs (by decide)⟩
 | k + 1, o, z, s, hs, ho, hp, h1, h2 => by
  unfold dOrdL
  split
  ·rename_i hc
   have hd := div_more h1 hc.2
   have m1 := nx_mv hs (n := 2) (by decide)
   have m2 := nx_mv (m1.ok hs) (n := most / z - 1) (by omega)
   have hb := nx_bd (nx s 2).2 (n := most / z - 1) (by omega)
   generalize nx (nx s 2).2 (most / z - 1) = r at *
   have h3 : z * (2 + r.1) ≤ z * (most / z) := Int.mul_le_mul_of_nonneg_left (by omega) (by omega)
   have h4 : z * 1 ≤ z * (2 + r.1) := Int.mul_le_mul_of_nonneg_left (by omega) (by omega)
   obtain ⟨a, b, j, c, d, e⟩ := dOrdL_fact (most := most) k (o := o ++ [2 + r.1]) (z := z * (2 + r.1)) ((m1.trans m2).ok hs) (PosO_snoc ho (by omega)) (by rw [prodO_append, hp]) (by omega) (by omega)
   exact ⟨a, b, 1 + 1 + j, by omega, by omega, (m1.trans m2).trans e⟩
  ·exact ⟨ho, by show prodO o ≤ most; omega, 1, Nat.le_refl 1, by omega, nx_mv hs (by decide)⟩
theorem dOrd_fact {s : Src} (hs : s.Ok) {most : Int} (h : 1 ≤ most) : PosO (dOrd s most).1 ∧ prodO (dOrd s most).1 ≤ most ∧ ∃ j, 1 ≤ j ∧ j ≤ 8 ∧ Mv j s (dOrd s most).2 := by
 have m1 := nx_mv hs h
 have hb := nx_bd s h
 unfold dOrd
 generalize nx s most = r at *
 obtain ⟨a, b, j, c, d, e⟩ := dOrdL_fact (most := most) 3 (o := [1 + r.1]) (z := 1 + r.1) (m1.ok hs) ⟨by simp, fun i hi => by
  obtain rfl : i = 0 := by simpa using hi
  show 1 ≤ 1 + r.1
  omega⟩ (by show (1 + r.1) * 1 = _; omega) (by omega) (by omega)
 exact ⟨a, b, 1 + j, by omega, by omega, m1.trans e⟩
end Go.Pl
namespace Go.Pl
open Go.Aw
def Sim (c : List Int) (s b : Src) : Prop := ∃ h, s = ⟨c, c.length, h⟩ ∧ b = ⟨[], 0, h⟩
def EndS (s : Src) : Prop := s.Ok ∧ s.pos = s.code.length
def At (d : Nat) (s : Src) : Prop := adv d s.h = 0
def Win (s : Src) : Prop := ∃ k, k < 25 ∧ s.h = adv k 0
def Res (d : Nat) (s : Src) : Prop := (∃ e, e < d ∧ At e s) ∨ Win s
theorem EndS.mv {j : Nat} {s s' : Src} (h : EndS s) (m : Mv j s s') : EndS s' := ⟨m.ok h.1, by rw [m.pos, m.code, h.2]; omega⟩
theorem Res.mono {d e : Nat} {s : Src} (h : Res d s) (hd : d ≤ e) : Res e s := by
 rcases h with ⟨a, h1, h2⟩ | h
 ·exact .inl ⟨a, by omega, h2⟩
 ·exact .inr h
end Go.Pl
namespace Go.Pl
open Go.Aw
section
variable {t : List (List (List Int))} {x y z : List Int}
end
end Go.Pl
