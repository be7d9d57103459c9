import Derived.Test.YtjpdkdepbkmebaaGreatPl5
set_option linter.unusedSimpArgs false
set_option linter.unusedVariables false
namespace Go.Pl
open Go
def fr (t : List Int) (i : Nat) : Bool := decide (1 ≤ i) && decide (t.getD i 0 = 1)
def cntF (t : List Int) : Nat → Nat → Nat
 | _, 0 => 0
 | i, d + 1 => (if fr t i = true then 1 else 0) + cntF t (i + 1) d
def dgt (B c e : Nat) : Int := ((c / B ^ e % B : Nat) : Int)
def fillV (t : List Int) (B : Nat) : Nat → Nat → Nat → List Int
 | _, 0, _ => []
 | i, d + 1, c => (if fr t i = true then dgt B c (cntF t (i + 1) d) else 0) :: fillV t B (i + 1) d c
theorem fillV_length {t : List Int} {B : Nat} : ∀ d i c, (fillV t B i d c).length = d
 | 0, _, _ => rfl
 | d + 1, i, c => by rw [fillV, List.length_cons, fillV_length d]
theorem dgt_low {B a m r e : Nat} (hB : 0 < B) (h : e < m) : dgt B (a * B ^ m + r) e = dgt B r e := by
 unfold dgt
 obtain ⟨k, rfl⟩ : ∃ k, m = e + 1 + k := ⟨m - e - 1, by omega⟩
 have e1 : a * B ^ (e + 1 + k) + r = r + B ^ e * (B * (a * B ^ k)) := by
  rw [Nat.pow_add, Nat.pow_succ]
  have : a * (B ^ e * B * B ^ k) = B ^ e * (B * (a * B ^ k)) := by ac_rfl
  omega
 rw [e1, Nat.add_mul_div_left _ _ (Nat.pow_pos hB), Nat.add_mul_mod_self_left]
theorem dgt_top {B a m r : Nat} (hB : 0 < B) (ha : a < B) (hr : r < B ^ m) : dgt B (a * B ^ m + r) m = (a : Int) := by
 unfold dgt
 rw [Nat.add_comm, Nat.add_mul_div_right _ _ (Nat.pow_pos hB), Nat.div_eq_of_lt hr, Nat.zero_add, Nat.mod_eq_of_lt ha]
theorem fillV_low {t : List Int} {B : Nat} (hB : 0 < B) : ∀ d i a m r, cntF t i d ≤ m → fillV t B i d (a * B ^ m + r) = fillV t B i d r
 | 0, _, _, _, _, _ => rfl
 | d + 1, i, a, m, r, h => by
  rw [cntF] at h
  rw [fillV, fillV, fillV_low hB d (i + 1) a m r (by omega)]
  by_cases c : fr t i = true
  ·rw [if_pos c] at h
   rw [if_pos c, if_pos c, dgt_low hB (by omega)]
  ·rw [if_neg c, if_neg c]
theorem range_mul (M : Nat) : ∀ B, List.range (B * M) = (List.range B).flatMap fun a => (List.range M).map fun c => a * M + c
 | 0 => by simp
 | B + 1 => by
  rw [Nat.succ_mul, List.range_add, range_mul M B, List.range_succ, List.flatMap_append]
  simp
def extV (t : List Int) (B : Nat) : Nat → List Int → List (List Int)
 | 0, v => [v]
 | d + 1, v => (List.range (if fr t v.length = true then B else 1)).flatMap fun (a : Nat) => extV t B d (v ++ [(a : Int)])
theorem flatMap_congr_mem {α β : Type} {xs : List α} {f g : α → List β} (h : ∀ x ∈ xs, f x = g x) : xs.flatMap f = xs.flatMap g := by
 induction xs with
 | nil => rfl
 | cons x xs ih =>
  rw [List.flatMap_cons, List.flatMap_cons, h x (by simp), ih (fun y hy => h y (by simp [hy]))]
theorem extV_eq {t : List Int} {B : Nat} (hB : 0 < B) : ∀ d v, extV t B d v = (List.range (B ^ cntF t v.length d)).map fun c => v ++ fillV t B v.length d c
 | 0, v => by simp [extV, cntF, fillV]
 | d + 1, v => by
  have ih := fun a : Nat => extV_eq (t := t) hB d (v ++ [(a : Int)])
  have hl : ∀ a : Nat, (v ++ [(a : Int)]).length = v.length + 1 := fun a => by simp
  rw [extV, cntF]
  by_cases c : fr t v.length = true
  ·rw [if_pos c, if_pos c, Nat.add_comm 1, Nat.pow_succ, Nat.mul_comm, range_mul, List.map_flatMap]
   refine flatMap_congr_mem fun a ha => ?_
   rw [ih, hl, List.map_map]
   refine List.map_congr_left fun r hr => ?_
   rw [List.mem_range] at ha hr
   show _ = v ++ fillV t B v.length (d + 1) (a * B ^ cntF t (v.length + 1) d + r)
   rw [fillV, if_pos c, dgt_top hB ha hr, fillV_low hB _ _ _ _ _ (Nat.le_refl _), List.append_assoc]
   rfl
  ·rw [if_neg c, if_neg c, Nat.zero_add]
   show List.flatMap _ [0] = _
   rw [List.flatMap_cons, List.flatMap_nil, List.append_nil, ih, hl]
   refine List.map_congr_left fun r hr => ?_
   rw [fillV, if_neg c, List.append_assoc]
   rfl
def cb (t : List Int) (i : Nat) : Nat := cntF t 0 i
theorem cntF_add {t : List Int} : ∀ a b i, cntF t i (a + b) = cntF t i a + cntF t (i + a) b
 | 0, b, i => by simp [cntF]
 | a + 1, b, i => by
  rw [show a + 1 + b = (a + b) + 1 by omega, cntF, cntF, cntF_add a b (i + 1), show i + 1 + a = i + (a + 1) by omega]
  omega
theorem cb_succ {t : List Int} {i : Nat} : cb t (i + 1) = cb t i + (if fr t i = true then 1 else 0) := by
 unfold cb
 rw [cntF_add i 1 0]
 simp [cntF]
theorem cb_mono {t : List Int} {i j : Nat} (h : i ≤ j) : cb t i ≤ cb t j := by
 unfold cb
 obtain ⟨k, rfl⟩ : ∃ k, j = i + k := ⟨j - i, by omega⟩
 rw [cntF_add]
 omega
def plc (t : List Int) (i : Nat) : List Int := ((List.range i).filter (fr t)).map fun (j : Nat) => (j : Int)
theorem plc_succ {t : List Int} {i : Nat} : plc t (i + 1) = if fr t i = true then plc t i ++ [(i : Int)] else plc t i := by
 unfold plc
 rw [List.range_succ, List.filter_append, List.map_append]
 by_cases h : fr t i = true
 ·rw [if_pos h]; simp [h]
 ·rw [if_neg h]; simp [h]
theorem plc_length {t : List Int} : ∀ i, (plc t i).length = cb t i
 | 0 => rfl
 | i + 1 => by
  rw [plc_succ, cb_succ]
  by_cases h : fr t i = true
  ·rw [if_pos h, if_pos h, List.length_append, plc_length i]; rfl
  ·rw [if_neg h, if_neg h, plc_length i]; rfl
theorem plc_get {t : List Int} : ∀ n j, j < cb t n → ∃ x, x < n ∧ fr t x = true ∧ cb t x = j ∧ (plc t n).getD j 0 = (x : Int)
 | 0, j, h => by simp [cb, cntF] at h
 | n + 1, j, h => by
  rw [cb_succ] at h
  rw [plc_succ]
  by_cases c : fr t n = true
  ·rw [if_pos c] at h ⊢
   by_cases hj : j < cb t n
   ·obtain ⟨x, h1, h2, h3, h4⟩ := plc_get n j hj
    refine ⟨x, by omega, h2, h3, ?_⟩
    rw [List.getD_eq_getElem?_getD, List.getElem?_append_left (by rw [plc_length]; exact hj), ← List.getD_eq_getElem?_getD]
    exact h4
   ·obtain rfl : j = cb t n := by omega
    refine ⟨n, by omega, c, rfl, ?_⟩
    rw [← plc_length, List.getD_eq_getElem?_getD, List.getElem?_append_right (Nat.le_refl _)]
    simp
  ·rw [if_neg c] at h ⊢
   obtain ⟨x, h1, h2, h3, h4⟩ := plc_get n j (by omega)
   exact ⟨x, by omega, h2, h3, h4⟩
theorem cb_inj {t : List Int} {x y : Nat} (hx : fr t x = true) (hy : fr t y = true) (h : cb t x = cb t y) : x = y := by
 rcases Nat.lt_trichotomy x y with c | c | c
 ·have h1 := cb_mono (t := t) (show x + 1 ≤ y by omega)
  rw [cb_succ, if_pos hx] at h1
  omega
 ·exact c
 ·have h1 := cb_mono (t := t) (show y + 1 ≤ x by omega)
  rw [cb_succ, if_pos hy] at h1
  omega
def dgF (B k s c : Nat) (x : Nat) : Int := if k ≤ x + s then dgt B c (k - 1 - x) else 0
def vF (t : List Int) (B n c j : Nat) (x : Nat) : Int := if x = 0 then 1 else if fr t x = true ∧ cb t x < j then dgt B c (cb t n - 1 - cb t x) else 0
theorem fillV_get {t : List Int} {B c : Nat} : ∀ d i x, x < d → (fillV t B i d c).getD x 0 = if fr t (i + x) = true then dgt B c (cntF t (i + x + 1) (d - 1 - x)) else 0
 | 0, _, _, h => absurd h (by omega)
 | d + 1, i, 0, _ => by rw [fillV]; simp
 | d + 1, i, x + 1, h => by
  rw [fillV, List.getD_cons_succ, fillV_get d (i + 1) x (by omega), show i + 1 + x = i + (x + 1) by omega, show d + 1 - 1 - (x + 1) = d - 1 - x by omega]
def vOf (t : List Int) (B c : Nat) : List Int := rowF t.length (vF t B t.length c (cb t t.length))
theorem vOf_eq {t : List Int} {B c : Nat} (h : 1 ≤ t.length) : vOf t B c = [1] ++ fillV t B 1 (t.length - 1) c := by
 obtain ⟨n, hn⟩ : ∃ n, t.length = n + 1 := ⟨t.length - 1, by omega⟩
 unfold vOf
 rw [hn]
 refine ext_getD (d := 0) (by rw [rowF_length, List.length_append, fillV_length]; simp; omega) (fun x hx => ?_)
 rw [rowF_length] at hx
 rw [rowF_get hx]
 cases x with
 | zero => simp [vF]
 | succ y =>
  rw [List.cons_append, List.nil_append, List.getD_cons_succ, fillV_get _ _ _ (by omega), vF, if_neg (by omega), show 1 + y = y + 1 by omega]
  by_cases c1 : fr t (y + 1) = true
  ·have h1 := cb_mono (t := t) (show y + 1 + 1 ≤ n + 1 by omega)
   rw [cb_succ, if_pos c1] at h1
   rw [if_pos ⟨c1, by omega⟩, if_pos c1]
   congr 1
   have h2 : cb t (n + 1) = cb t (y + 1 + 1) + cntF t (y + 1 + 1) (n - 1 - y) := by
    unfold cb
    have := cntF_add (t := t) (y + 1 + 1) (n - 1 - y) 0
    rw [show y + 1 + 1 + (n - 1 - y) = n + 1 by omega, Nat.zero_add] at this
    exact this
   have h3 := cb_succ (t := t) (i := y + 1)
   rw [if_pos c1] at h3
   rw [show n + 1 - 1 - 1 - y = n - 1 - y by omega]
   omega
  ·rw [if_neg (fun h => c1 h.1), if_neg c1]
theorem cnt_one {t : List Int} (h : 1 ≤ t.length) : cntF t 1 (t.length - 1) = cb t t.length := by
 unfold cb
 obtain ⟨n, hn⟩ : ∃ n, t.length = n + 1 := ⟨t.length - 1, by omega⟩
 have : fr t 0 = false := by simp [fr]
 rw [hn, cntF, this]
 simp
theorem all_eq {t : List Int} {B : Nat} (hB : 0 < B) (h : 1 ≤ t.length) : extV t B (t.length - 1) [1] = (List.range (B ^ cb t t.length)).map (vOf t B) := by
 rw [extV_eq hB]
 show List.map _ (List.range (B ^ cntF t 1 (t.length - 1))) = _
 rw [cnt_one h]
 exact List.map_congr_left fun c _ => (vOf_eq h).symm
end Go.Pl
