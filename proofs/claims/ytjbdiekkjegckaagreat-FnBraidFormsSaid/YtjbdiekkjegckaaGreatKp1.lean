import Derived.Test.YtjbdiekkjegckaaGreatPl5
import Derived.Test.YtjbdiekkjegckaaGreatPl6
set_option linter.unusedSimpArgs false
set_option linter.unusedVariables false
namespace Go.Pl
open Go.Aw
def Cg (a b : Int) : Prop := a % 55441 = b % 55441
theorem Cg.mul {a a' b b' : Int} (h1 : Cg a a') (h2 : Cg b b') : Cg (a * b) (a' * b') := cgm h1 h2
theorem Cg.sum {f g : Nat → Int} {n : Nat} (h : ∀ i, i < n → Cg (f i) (g i)) : Cg (sumTo f n) (sumTo g n) := aw2 h
theorem Cg.of {a b : Int} (h : a = b) : Cg a b := by rw [h]; rfl
theorem Cg.md (a : Int) : Cg (a % 55441) a := emd a
theorem au1 {f g : Nat → Int} {n : Nat} : sumTo (fun i => f i + g i) n = sumTo f n + sumTo g n := by
 induction n with
 | zero => rfl
 | succ n ih => simp only [sumTo]; rw [ih]; omega
theorem sum_zero {n : Nat} : sumTo (fun _ => 0) n = 0 := by
 induction n with
 | zero => rfl
 | succ n ih => simp only [sumTo]; rw [ih]; rfl
theorem Za_ {f : Nat → Nat → Int} {m n : Nat} : sumTo (fun i => sumTo (fun j => f i j) m) n = sumTo (fun j => sumTo (fun i => f i j) n) m := by
 induction n with
 | zero => simp only [sumTo]; exact sum_zero.symm
 | succ n ih => simp only [sumTo]; rw [ih, ← au1]
theorem mul_sum {f : Nat → Int} {c : Int} {n : Nat} : sumTo (fun i => c * f i) n = c * sumTo f n := by
 rw [Int.mul_comm, ← Zo_]
 exact yb_ fun i _ => Int.mul_comm _ _
theorem T9_ {f : Nat → Int} {x : Int} {n j : Nat} (hj : j < n) : sumTo (fun k => (if k = j then x else 0) * f k) n = x * f j := by
 rw [← Qc_ (f := fun k => x * f k) hj]
 refine yb_ fun k _ => ?_
 by_cases h : k = j
 ·rw [if_pos h, if_pos h]
 ·rw [if_neg h, if_neg h, Int.zero_mul]
theorem Cg.eq {a b : Int} (ha : InP a) (hb : InP b) (h : Cg a b) : a = b := by
 rw [← ah2 ha, ← ah2 hb]
 exact h
section
variable {s : List (List Int)} {t : List Int}
end
end Go.Pl
namespace Go.Pl
open Go.Aw
structure RingP (t : List (List (List Int))) : Prop where
 cube : Cube t
 left : ∀ i, i < t.length → ∀ k, k < t.length → e3 t 0 i k = dl i k
 right : ∀ i, i < t.length → ∀ k, k < t.length → e3 t i 0 k = dl i k
 dual : ∀ i, i < t.length → 0 ≤ dual t i ∧ dual t i < t.length
 invo : ∀ i, i < t.length → Pl.dual t (Pl.dual t i).toNat = i
 turn : ∀ i, i < t.length → ∀ j, j < t.length → ∀ k, k < t.length → e3 t i j k = e3 t (Pl.dual t i).toNat k j
 turn2 : ∀ i, i < t.length → ∀ j, j < t.length → ∀ k, k < t.length → e3 t i j k = e3 t k (Pl.dual t j).toNat i
 brack : ∀ i, i < t.length → ∀ j, j < t.length → ∀ k, k < t.length → ∀ l, l < t.length → sumTo (brL t i j k l) t.length = sumTo (brR t i j k l) t.length
theorem wi_ {f g : Nat → Int} : ∀ {n : Nat}, (∀ i, i < n → f i ≤ g i) → sumTo f n ≤ sumTo g n
 | 0, _ => Int.le_refl _
 | n + 1, h => by
  have h1 := wi_ (n := n) (fun i hi => h i (by omega))
  have h2 := h n (by omega)
  simp only [sumTo]
  omega
theorem YD_ {f g : Nat → Int} : ∀ {n : Nat}, (∀ i, i < n → f i ≤ g i) → sumTo f n = sumTo g n → ∀ i, i < n → f i = g i
 | 0, _, _, i, hi => by omega
 | n + 1, h, e, i, hi => by
  have h1 := wi_ (n := n) (fun i hi => h i (by omega))
  have h2 := h n (by omega)
  simp only [sumTo] at e
  by_cases hin : i = n
  ·subst hin; omega
  ·exact YD_ (n := n) (fun i hi => h i (by omega)) (by omega) i (by omega)
theorem Z7_ {c : Int} {n : Nat} : sumTo (fun _ => c) n = n * c := by
 induction n with
 | zero => simp [sumTo]
 | succ n ih => simp only [sumTo]; rw [ih, Int.natCast_add, Int.add_mul]; simp
theorem aF3 {x : Int} (h : 0 ≤ x) : x ≤ x * x := by
 by_cases h0 : x = 0
 ·subst h0; decide
 ·have : 1 * x ≤ x * x := Int.mul_le_mul_of_nonneg_right (by omega) h
  omega
theorem sq_one {x : Int} (h : 0 ≤ x) (h1 : x * x ≤ 1) : x * x = x := by
 have := aF3 h
 by_cases h0 : x = 0
 ·subst h0; decide
 ·have : x = 1 := by omega
  subst this; decide
theorem KC_ {f : Nat → Int} {n i : Nat} (h : ∀ i, i < n → 0 ≤ f i) (hi : i < n) : f i ≤ sumTo f n := by
 have h1 := wi_ (f := fun k => if k = i then f k else 0) (g := f) (n := n) (fun k hk => by
  by_cases e : k = i
  ·rw [if_pos e]; exact Int.le_refl _
  ·rw [if_neg e]; exact h k hk)
 rw [Qc_ hi] at h1
 exact h1
theorem row_one {n : Nat} {A : Nat → Nat → Int} (h0 : ∀ i, i < n → ∀ j, j < n → 0 ≤ A i j) (ho : ∀ j, j < n → ∀ l, l < n → sumTo (fun m => A m j * A m l) n = if j = l then 1 else 0) : ∀ m, m < n → sumTo (A m) n = 1 := by
 have hsq : ∀ m, m < n → ∀ j, j < n → A m j * A m j = A m j := fun m hm j hj => by
  have h1 := ho j hj j hj
  rw [if_pos rfl] at h1
  have h2 := KC_ (f := fun m => A m j * A m j) (fun i hi => Int.mul_nonneg (h0 i hi j hj) (h0 i hi j hj)) hm
  exact sq_one (h0 m hm j hj) (by omega)
 have hcol : ∀ j, j < n → sumTo (fun m => A m j) n = 1 := fun j hj => by
  have h1 := ho j hj j hj
  rw [if_pos rfl] at h1
  rw [← h1]
  exact yb_ fun m hm => (hsq m hm j hj).symm
 have hr : sumTo (fun m => sumTo (A m) n) n = n := by
  have : sumTo (fun m => sumTo (fun j => A m j) n) n = sumTo (fun _ => 1) n := by
   rw [Za_]
   exact yb_ hcol
  rw [Z7_, Int.mul_one] at this
  exact this
 have hr2 : sumTo (fun m => sumTo (A m) n * sumTo (A m) n) n = n := by
  have e1 : sumTo (fun m => sumTo (A m) n * sumTo (A m) n) n = sumTo (fun m => sumTo (fun j => sumTo (fun l => A m j * A m l) n) n) n := yb_ fun m _ => by
   rw [← Zo_]
   exact yb_ fun j _ => mul_sum.symm
  rw [e1, Za_]
  have e2 : sumTo (fun j => sumTo (fun m => sumTo (fun l => A m j * A m l) n) n) n = sumTo (fun _ => 1) n := yb_ fun j hj => by
   rw [Za_]
   have e3' : sumTo (fun l => sumTo (fun m => A m j * A m l) n) n = sumTo (fun l => (if l = j then 1 else 0) * 1) n := yb_ fun l hl => by
    rw [ho j hj l hl, Int.mul_one]
    by_cases e : j = l
    ·rw [if_pos e, if_pos e.symm]
    ·rw [if_neg e, if_neg (fun h => e h.symm)]
   rw [e3', T9_ (f := fun _ => 1) hj]; rfl
  rw [e2, Z7_, Int.mul_one]
 have hnn : ∀ m, m < n → 0 ≤ sumTo (A m) n := fun m hm => by
  have := wi_ (f := fun _ => 0) (g := A m) (n := n) (h0 m hm)
  rw [sum_zero] at this
  exact this
 have h1 := YD_ (f := fun m => sumTo (A m) n) (g := fun m => sumTo (A m) n * sumTo (A m) n) (n := n) (fun m hm => aF3 (hnn m hm)) (hr.trans hr2.symm)
 have hle : ∀ m, m < n → sumTo (A m) n ≤ 1 := fun m hm => by
  have h2 : sumTo (A m) n = sumTo (A m) n * sumTo (A m) n := h1 m hm
  by_cases hz : sumTo (A m) n ≤ 1
  ·exact hz
  ·have h3 : 2 * sumTo (A m) n ≤ sumTo (A m) n * sumTo (A m) n := Int.mul_le_mul_of_nonneg_right (by omega) (hnn m hm)
   omega
 exact YD_ (f := fun m => sumTo (A m) n) (g := fun _ => 1) (n := n) hle (by rw [hr, Z7_, Int.mul_one])
theorem RingP.perm {t : List (List (List Int))} (h : RingP t) {i j0 : Nat} (hi : i < t.length) (hj0 : j0 < t.length) (hr : ∀ m, m < t.length → e3 t i j0 m = if m = 0 then 1 else 0) : ∀ m, m < t.length → sumTo (e3 t i m) t.length = 1 := by
 have hd : (Pl.dual t i).toNat = j0 := by
  have h1 := h.turn i hi j0 hj0 0 (by omega)
  have h2 := h.dual i hi
  rw [hr 0 (by omega), if_pos rfl, h.right _ (by omega) _ hj0] at h1
  unfold dl at h1
  split at h1
  ·omega
  ·omega
 refine row_one (A := fun m j => e3 t i m j) (fun m hm j hj => (h.cube.inM hi hm hj).1) (fun j hj l hl => ?_)
 have hb := h.brack i hi j0 hj0 j hj l hl
 have e1 : sumTo (brL t i j0 j l) t.length = if j = l then 1 else 0 := by
  have : sumTo (brL t i j0 j l) t.length = sumTo (fun m => (if m = 0 then 1 else 0) * e3 t m j l) t.length := yb_ fun m hm => by
   unfold brL
   rw [hr m hm]
  rw [this, T9_ (f := fun m => e3 t m j l) (show 0 < t.length by omega), Int.one_mul, h.left j hj l hl]
  unfold dl
  by_cases e : j = l
  ·rw [if_pos e, if_pos (by rw [e])]
  ·rw [if_neg e, if_neg (by omega)]
 rw [← e1, hb]
 refine yb_ fun m hm => ?_
 unfold brR
 rw [h.turn i hi m hm j hj, hd]
end Go.Pl
namespace Go.Pl
open Go.Aw
theorem af4 {F : Nat → Nat → Int} {n m : Nat} : sumTo (fun x => F (x / m) (x % m)) (n * m) = sumTo (fun i => sumTo (F i) m) n := by
 by_cases hm : m = 0
 ·subst hm
  rw [Nat.mul_zero]
  simp only [sumTo]
  exact sum_zero.symm
 have key : ∀ (k : Nat) (j : Nat), j ≤ m → sumTo (fun x => F (x / m) (x % m)) (k * m + j) = sumTo (fun x => F (x / m) (x % m)) (k * m) + sumTo (F k) j := by
  intro k j
  induction j with
  | zero => intro _; simp [sumTo]
  | succ j ih =>
   intro hj
   rw [← Nat.add_assoc]
   simp only [sumTo]
   rw [ih (by omega)]
   have e1 : (k * m + j) / m = k := by rw [Nat.mul_comm, Nat.mul_add_div (by omega), Nat.div_eq_of_lt (by omega), Nat.add_zero]
   have e2 : (k * m + j) % m = j := by rw [Nat.mul_comm, Nat.mul_add_mod, Nat.mod_eq_of_lt (by omega)]
   rw [e1, e2, Int.add_assoc]
 induction n with
 | zero => simp [sumTo]
 | succ n ih =>
  rw [Nat.succ_mul, key n m (Nat.le_refl _), ih]
  rfl
theorem KD_ {f g : Nat → Int} {n m : Nat} : sumTo (fun x => f (x / m) * g (x % m)) (n * m) = sumTo f n * sumTo g m := by
 rw [af4 (F := fun i j => f i * g j), ← Zo_]
 exact yb_ fun i _ => mul_sum
theorem aF4 {n m x : Nat} (h : x < n * m) : x / m < n ∧ x % m < m := by
 have hm : 0 < m := by
  rcases Nat.eq_zero_or_pos m with e | e
  ·subst e; rw [Nat.mul_zero] at h; omega
  ·exact e
 exact ⟨by rw [Nat.div_lt_iff_lt_mul hm]; exact h, Nat.mod_lt _ hm⟩
def Kr (n m : Nat) (A A1 A2 : List (List Int)) : Prop := ∀ x, x < n * m → ∀ y, y < n * m → Cg (e2 A x y) (e2 A1 (x / m) (y / m) * e2 A2 (x % m) (y % m))
theorem Kr.mul {n m : Nat} {A A1 A2 B B1 B2 : List (List Int)} (ha : Kr n m A A1 A2) (hb : Kr n m B B1 B2) : Kr n m (ak3 A B (n * m)) (ak3 A1 B1 n) (ak3 A2 B2 m) := by
 intro x hx y hy
 obtain ⟨hx1, hx2⟩ := aF4 hx
 obtain ⟨hy1, hy2⟩ := aF4 hy
 unfold ak3
 rw [Yk_ hx hy, Yk_ hx1 hy1, Yk_ hx2 hy2]
 refine (Cg.md _).trans (Eq.trans ?_ (Cg.mul (Cg.md _).symm (Cg.md _).symm))
 have e : Cg (sumTo (pG A B x y) (n * m)) (sumTo (fun k => pG A1 B1 (x / m) (y / m) (k / m) * pG A2 B2 (x % m) (y % m) (k % m)) (n * m)) := Cg.sum fun k hk => by
  refine (Cg.mul (ha x hx k hk) (hb k hk y hy)).trans (Cg.of ?_)
  unfold pG
  simp only [Int.mul_assoc, Int.mul_comm, Int.mul_left_comm]
 refine e.trans (Cg.of ?_)
 exact KD_
section
variable {s : List (List Int)} {t : List Int} {z : List (List Int)} {u : List Int}
end
end Go.Pl
namespace Go.Pl
open Go.Aw
section
variable {s : List (List Int)} {t : List Int} {z : List (List Int)} {u : List Int}
end
theorem RingP.zero {t : List (List (List Int))} (h : RingP t) {i j : Nat} (hi : i < t.length) (hj : j < t.length) : e3 t i j 0 = if j = (Pl.dual t i).toNat then 1 else 0 := by
 have h2 := h.dual i hi
 rw [h.turn i hi j hj 0 (by omega), h.right _ (by omega) _ hj]
 unfold dl
 by_cases e : j = (Pl.dual t i).toNat
 ·rw [if_pos e, if_pos (by rw [e])]
 ·rw [if_neg e, if_neg (by omega)]
section
variable {A B : List (List (List Int))}
end
end Go.Pl
namespace Go.Pl
open Go.Aw
structure Src where
 code : List Int
 pos : Nat
 h : Int
structure Src.Ok (s : Src) : Prop where
 len : s.code.length ≤ 1048576
 byte : ∀ i, i < s.code.length → 0 ≤ s.code.getD i 0 ∧ s.code.getD i 0 ≤ 255
 pos : s.pos ≤ s.code.length
 h : 0 ≤ s.h ∧ s.h < 18446744073709551616
def nxH (h : Int) : Int := (h * 6364136223846793005 % 18446744073709551616 + 1442695040888963407) % 18446744073709551616
def nxX (h : Int) : Int := aH1 .u64 (h.fdiv (2 ^ min 33 64)) 16777215
def nx (s : Src) (n : Int) : Int × Src :=
 if n < 1 then (0, s) else if s.pos < s.code.length then ((nxX (nxH s.h) + s.code.getD s.pos 0) % n, ⟨s.code, s.pos + 1, nxH s.h⟩) else (nxX (nxH s.h) % n, ⟨s.code, s.pos, nxH s.h⟩)
theorem ai8 (h : Int) : 0 ≤ nxX h ∧ nxX h ≤ 16777215 := by
 unfold nxX aH1
 rw [wrap_u64]
 have h1 : (BitVec.ofInt (Go.IntKind.bits .u64) (h.fdiv (2 ^ min 33 64)) &&& BitVec.ofInt (Go.IntKind.bits .u64) 16777215).toNat ≤ (BitVec.ofInt (Go.IntKind.bits .u64) 16777215).toNat := by
  rw [BitVec.toNat_and]
  exact Nat.and_le_right
 have h2 : (BitVec.ofInt (Go.IntKind.bits .u64) 16777215).toNat = 16777215 := by decide
 rw [h2] at h1
 omega
theorem UC_ (h : Int) : 0 ≤ nxH h ∧ nxH h < 18446744073709551616 := by
 unfold nxH
 omega
theorem yp_ {s : Src} (hs : s.Ok) (n : Int) : (nx s n).2.Ok := by
 unfold nx
 split
 ·exact hs
 ·split
  ·rename_i h
   exact ⟨hs.len, hs.byte, by show s.pos + 1 ≤ s.code.length; omega, UC_ _⟩
  ·exact ⟨hs.len, hs.byte, hs.pos, UC_ _⟩
theorem yO_ (s : Src) {n : Int} (h : 1 ≤ n) : 0 ≤ (nx s n).1 ∧ (nx s n).1 < n := by
 unfold nx
 rw [if_neg (by omega)]
 split
 ·exact ⟨Int.emod_nonneg _ (by omega), Int.emod_lt_of_pos _ (by omega)⟩
 ·exact ⟨Int.emod_nonneg _ (by omega), Int.emod_lt_of_pos _ (by omega)⟩
def bsV (c : List Int) : List AV := c.map (AV.ik .u8)
theorem VE_ {c : List Int} : (bsV c).length = c.length := by simp [bsV]
theorem VF_ {c : List Int} {i : Nat} (h : i < c.length) : (bsV c).getD i .junk = .ik .u8 (c.getD i 0) := by simp [bsV, List.getD, h]
theorem yg_ {q : Nat → List Nat → Bool} : ∀ {c : List Int}, xH_ q (bsV c) = bsV c
 | [] => rfl
 | b :: c => by
  show xu_ q (.ik .u8 b) :: xH_ q (bsV c) = .ik .u8 b :: bsV c
  rw [yg_]
  rfl
theorem yV_ : ∀ {c : List Int}, x1_ (bsV c) = true
 | [] => rfl
 | b :: c => by
  show (Aw.isData (.ik .u8 b) && x1_ (bsV c)) = true
  rw [yV_]
  rfl
end Go.Pl
namespace Go.Pl
def gA : Int := 6364136223846793005
def gC : Int := 1442695040888963407
def aH5 : Nat → Int
 | 0 => gA
 | k + 1 => aH5 k * aH5 k
def bf6 : Nat → Int
 | 0 => gC
 | k + 1 => (aH5 k + 1) * bf6 k
def hop (k : Nat) (x : Int) : Int := aH5 k * x + bf6 k
def adv : Nat → Int → Int
 | 0, h => h
 | n + 1, h => adv n (nxH h)
theorem KE_ (m : Nat) : ∀ (n : Nat) (h : Int), adv (n + m) h = adv m (adv n h)
 | 0, h => by rw [Nat.zero_add]; rfl
 | n + 1, h => by
  rw [show n + 1 + m = (n + m) + 1 by omega]
  exact KE_ m n (nxH h)
theorem aF5 {h : Int} (hh : 0 ≤ h ∧ h < 18446744073709551616) : ∀ n, 0 ≤ adv n h ∧ adv n h < 18446744073709551616 := by
 intro n
 induction n generalizing h with
 | zero => exact hh
 | succ n ih => exact ih (UC_ h)
end Go.Pl
namespace Go.Pl
open Go.Aw
abbrev Gf := Nat → Nat → Nat → Int
abbrev Cu := List (List (List Int))
def it {α : Type} (f : Nat → α → α) : Nat → α → α
 | 0, a => a
 | n + 1, a => f n (it f n a)
def bf7 (g : Gf) (i j k : Nat) (v : Int) : Gf := fun x y z => if x = i ∧ y = j ∧ z = k then v else g x y z
def BdG (b : Int) (g : Gf) : Prop := ∀ x y z, 0 ≤ g x y z ∧ g x y z ≤ b
theorem BdG.upd {b : Int} {g : Gf} (h : BdG b g) (i j k : Nat) {v : Int} (h0 : 0 ≤ v) (h1 : v ≤ b) : BdG b (bf7 g i j k v) := by
 intro x y z
 unfold bf7
 split
 ·exact ⟨h0, h1⟩
 ·exact h x y z
theorem BdG.mono {b c : Int} {g : Gf} (h : BdG b g) (hc : b ≤ c) : BdG c g := fun x y z => ⟨(h x y z).1, Int.le_trans (h x y z).2 hc⟩
def au2 (n h : Nat) : Nat := if n < 2 * h then n - h else h
def aF6 (n h : Nat) : List Int :=
 if au2 n h = 0 then [0, 1] else if 2 * au2 n h = n then [2, 3] else [(((if n % 2 = 0 then 3 else 1) + au2 n h : Nat) : Int)]
def turn2 (n h k : Nat) : List Int := aF6 n (h + k) ++ aF6 n (max (h - k) (k - h))
theorem i1 : (1 : Int) ≤ 1 := by decide
end Go.Pl
namespace Go.Pl
open Go.Aw
structure Mv (j : Nat) (s s' : Src) : Prop where
 code : s'.code = s.code
 h : s'.h = adv j s.h
 pos : s'.pos = min (s.pos + j) s.code.length
theorem Rz_ {s : Src} (hs : s.Ok) {n : Int} (hn : 1 ≤ n) : Mv 1 s (nx s n).2 := by
 have hp := hs.pos
 unfold nx
 rw [if_neg (by omega)]
 split
 ·exact ⟨rfl, rfl, by dsimp only; omega⟩
 ·exact ⟨rfl, rfl, by dsimp only; omega⟩
theorem Mv.ok {j : Nat} {s s' : Src} (m : Mv j s s') (hs : s.Ok) : s'.Ok := by
 refine ⟨by rw [m.code]; exact hs.len, fun i hi => ?_, by rw [m.pos, m.code]; omega, by rw [m.h]; exact aF5 hs.h j⟩
 rw [m.code] at hi ⊢
 exact hs.byte i hi
theorem Mv.trans {j k : Nat} {s s' s'' : Src} (m : Mv j s s') (n : Mv k s' s'') : Mv (j + k) s s'' := by
 refine ⟨n.code.trans m.code, ?_, ?_⟩
 ·rw [n.h, m.h, KE_]
 ·rw [n.pos, m.pos, m.code]
  omega
def YE_ (most : Int) : Nat → List Int → Int → Src → List Int × Src
 | 0, o, _, s => (o, (nx s 2).2)
 | k + 1, o, z, s =>
  if (nx s 2).1 = 0 ∧ 2 * z ≤ most then
   YE_ most k (o ++ [2 + (nx (nx s 2).2 (most / z - 1)).1]) (z * (2 + (nx (nx s 2).2 (most / z - 1)).1)) (nx (nx s 2).2 (most / z - 1)).2
  else (o, (nx s 2).2)
def UJ_ (s : Src) (most : Int) : List Int × Src := YE_ most 3 [1 + (nx s most).1] (1 + (nx s most).1) (nx s most).2
theorem UD_ {o : List Int} (h : PosO o) {x : Int} (hx : 1 ≤ x) : PosO (o ++ [x]) := by
 refine ⟨by simp, fun i hi => ?_⟩
 rw [List.length_append, List.length_singleton] at hi
 by_cases h1 : i < o.length
 ·rw [show (o ++ [x]).getD i 0 = o.getD i 0 by simp [List.getD, List.getElem?_append_left h1]]
  exact h.2 i h1
 ·obtain rfl : i = o.length := by omega
  simpa [List.getD] using hx
theorem Sa_ {z most : Int} (hz : 1 ≤ z) (h : 2 * z ≤ most) : 2 ≤ most / z ∧ z * (most / z) ≤ most := by
 refine ⟨(Int.le_ediv_iff_mul_le (by omega)).2 h, Int.mul_ediv_self_le (by omega)⟩
theorem WU_ {most : Int} : ∀ (k : Nat) {o : List Int} {z : Int} {s : Src}, s.Ok → PosO o → xA_ o = z → 1 ≤ z → z ≤ most →
  PosO (YE_ most k o z s).1 ∧ xA_ (YE_ most k o z s).1 ≤ most ∧ ∃ j, 1 ≤ j ∧ j ≤ 2 * k + 1 ∧ Mv j s (YE_ most k o z s).2
 | 0, o, z, s, hs, ho, hp, h1, h2 => ⟨ho, by show xA_ o ≤ most; omega, 1, Nat.le_refl 1, Nat.le_refl 1, Rz_ hs (by decide)⟩
 | k + 1, o, z, s, hs, ho, hp, h1, h2 => by
  unfold YE_
  split
  ·rename_i hc
   have hd := Sa_ h1 hc.2
   have m1 := Rz_ hs (n := 2) (by decide)
   have m2 := Rz_ (m1.ok hs) (n := most / z - 1) (by omega)
   have hb := yO_ (nx s 2).2 (n := most / z - 1) (by omega)
   generalize nx (nx s 2).2 (most / z - 1) = r at *
   have h3 : z * (2 + r.1) ≤ z * (most / z) := Int.mul_le_mul_of_nonneg_left (by omega) (by omega)
   have h4 : z * 1 ≤ z * (2 + r.1) := Int.mul_le_mul_of_nonneg_left (by omega) (by omega)
   obtain ⟨a, b, j, c, d, e⟩ := WU_ (most := most) k (o := o ++ [2 + r.1]) (z := z * (2 + r.1)) ((m1.trans m2).ok hs) (UD_ ho (by omega)) (by rw [wQ_, hp]) (by omega) (by omega)
   exact ⟨a, b, 1 + 1 + j, by omega, by omega, (m1.trans m2).trans e⟩
  ·exact ⟨ho, by show xA_ o ≤ most; omega, 1, Nat.le_refl 1, by omega, Rz_ hs (by decide)⟩
theorem UE_ {s : Src} (hs : s.Ok) {most : Int} (h : 1 ≤ most) : PosO (UJ_ s most).1 ∧ xA_ (UJ_ s most).1 ≤ most ∧ ∃ j, 1 ≤ j ∧ j ≤ 8 ∧ Mv j s (UJ_ s most).2 := by
 have m1 := Rz_ hs h
 have hb := yO_ s h
 unfold UJ_
 generalize nx s most = r at *
 obtain ⟨a, b, j, c, d, e⟩ := WU_ (most := most) 3 (o := [1 + r.1]) (z := 1 + r.1) (m1.ok hs) ⟨by simp, fun i hi => by
  obtain rfl : i = 0 := by simpa using hi
  show 1 ≤ 1 + r.1
  omega⟩ (by show (1 + r.1) * 1 = _; omega) (by omega) (by omega)
 exact ⟨a, b, 1 + j, by omega, by omega, m1.trans e⟩
end Go.Pl
namespace Go.Pl
open Go.Aw
def Sim (c : List Int) (s b : Src) : Prop := ∃ h, s = ⟨c, c.length, h⟩ ∧ b = ⟨[], 0, h⟩
def EndS (s : Src) : Prop := s.Ok ∧ s.pos = s.code.length
def At (d : Nat) (s : Src) : Prop := adv d s.h = 0
def Win (s : Src) : Prop := ∃ k, k < 25 ∧ s.h = adv k 0
def Res (d : Nat) (s : Src) : Prop := (∃ e, e < d ∧ At e s) ∨ Win s
theorem EndS.mv {j : Nat} {s s' : Src} (h : EndS s) (m : Mv j s s') : EndS s' := ⟨m.ok h.1, by rw [m.pos, m.code, h.2]; omega⟩
theorem Res.mono {d e : Nat} {s : Src} (h : Res d s) (hd : d ≤ e) : Res e s := by
 rcases h with ⟨a, h1, h2⟩ | h
 ·exact .inl ⟨a, by omega, h2⟩
 ·exact .inr h
end Go.Pl
namespace Go.Pl
open Go.Aw
section
variable {t : List (List (List Int))} {x y z : List Int}
end
end Go.Pl
