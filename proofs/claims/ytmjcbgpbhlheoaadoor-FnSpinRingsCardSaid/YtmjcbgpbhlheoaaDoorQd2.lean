import Derived.Test.YtmjcbgpbhlheoaaDoorQd1
import Derived.Lib.TrailingZeros
import Derived.Test.YtmjcbgpbhlheoaaDoorLib3
set_option linter.unusedSimpArgs false
set_option linter.unusedVariables false
namespace Go.Pl
open Go.Aw
variable {t : Cu} {s : Nat}
theorem getD_setL {α : Type} {l : List α} {i j : Nat} {v d : α} (h : i < l.length) : (l.set i v).getD j d = if j = i then v else l.getD j d := by
 rw [List.getD_eq_getElem?_getD, List.getElem?_set]
 by_cases e : j = i
 ·subst e; rw [if_pos rfl, if_pos rfl, if_pos h]; rfl
 ·rw [if_neg (fun h => e h.symm), if_neg e, List.getD_eq_getElem?_getD]
theorem list_rowF {o : List Int} {n : Nat} {f : Nat → Int} (hl : o.length = n) (h : ∀ k, k < n → o.getD k 0 = f k) : o = rowF n f := by
 refine List.ext_getElem (by rw [rowF_length, hl]) fun i h1 h2 => ?_
 have := h i (by omega)
 rw [List.getD_eq_getElem?_getD, List.getElem?_eq_getElem h1] at this
 simp only [rowF, List.getElem_map, List.getElem_range]
 exact this
structure CoO (t : Cu) (s : Nat) (o : List Int) (i : Nat) : Prop where
 len : o.length = t.length
 old : ∀ k, k < t.length → rp (CoR t s) k < i → o.getD k 0 = num (CoR t s) k
 new : ∀ k, k < t.length → i ≤ rp (CoR t s) k → o.getD k 0 = -1
theorem CoO.start {o : List Int} (hl : o = List.replicate t.length (-1)) : CoO t s o 0 where
 len := by rw [hl, List.length_replicate]
 old := fun k _ h => absurd h (Nat.not_lt_zero _)
 new := fun k hk _ => by rw [hl, List.getD_eq_getElem?_getD, List.getElem?_replicate, if_pos hk]; rfl
theorem CoO.skip {o : List Int} {i : Nat} (h : RingP t) (hs : ClosP t s) (hO : CoO t s o i) (hi : i < t.length) (h0 : 0 ≤ o.getD i 0) : rp (CoR t s) i ≠ i ∧ CoO t s o (i + 1) := by
 have hne : rp (CoR t s) i ≠ i := fun e => by have := hO.new i hi (by omega); omega
 have hno : ∀ k, k < t.length → rp (CoR t s) k ≠ i := fun k hk e => hne (by have := (co_eqv h hs).rp_rp hk; rw [e] at this; exact this)
 exact ⟨hne, hO.len, fun k hk hr => hO.old k hk (by have := hno k hk; omega), fun k hk hr => hO.new k hk (by omega)⟩
theorem CoO.rep {o : List Int} {i : Nat} (hO : CoO t s o i) (hi : i < t.length) (h0 : o.getD i 0 < 0) : rp (CoR t s) i = i := by
 have hle := rp_le (R := CoR t s) i
 by_cases e : rp (CoR t s) i < i
 ·have := hO.old i hi e; omega
 ·omega
structure Co (t : Cu) (s : Nat) (o : List Int) (i j k : Nat) : Prop where
 len : o.length = t.length
 old : ∀ b, b < t.length → rp (CoR t s) b < i → o.getD b 0 = num (CoR t s) b
 new : ∀ b, b < t.length → i ≤ rp (CoR t s) b → o.getD b 0 = -1 ∨ (rp (CoR t s) b = i ∧ o.getD b 0 = num (CoR t s) b)
 done : ∀ a, a < t.length → ∀ b, b < t.length → s.testBit a = true → Oc t i a b → (a < j ∨ a = j ∧ b < k) → o.getD b 0 = num (CoR t s) b
theorem Co.put {o : List Int} {i j k : Nat} (h : RingP t) (hs : ClosP t s) (hC : Co t s o i j k) (hi : i < t.length) (hrp : rp (CoR t s) i = i) (hj : j < t.length) (hk : k < t.length) (hb : s.testBit j = true) (ho : Oc t i j k) :
  Co t s (o.set k (cnt (CoR t s) i : Nat)) i j (k + 1) := by
 have hr : rp (CoR t s) k = i := by rw [← ((co_eqv h hs).rp_eq hi hk).2 ⟨j, hj, hb, ho⟩, hrp]
 have hn : num (CoR t s) k = cnt (CoR t s) i := by unfold num; rw [hr]
 have hl := hC.len
 have hg : ∀ b, (o.set k (cnt (CoR t s) i : Nat)).getD b 0 = if b = k then ((cnt (CoR t s) i : Nat) : Int) else o.getD b 0 := fun b => getD_setL (by omega)
 refine ⟨by rw [List.length_set, hl], fun b hb2 h1 => ?_, fun b hb2 h1 => ?_, fun a ha b hb2 h1 h2 h3 => ?_⟩
 ·rw [hg]
  by_cases e : b = k
  ·rw [if_pos e, e, hn]
  ·rw [if_neg e]; exact hC.old b hb2 h1
 ·rw [hg]
  by_cases e : b = k
  ·rw [if_pos e, e]; exact .inr ⟨hr, by rw [hn]⟩
  ·rw [if_neg e]; exact hC.new b hb2 h1
 ·rw [hg]
  by_cases e : b = k
  ·rw [if_pos e, e, hn]
  ·rw [if_neg e]; exact hC.done a ha b hb2 h1 h2 (by omega)
theorem Co.next {o : List Int} {i j k : Nat} (hC : Co t s o i j k) (hn : s.testBit j = true → t.length ≤ k) : Co t s o i (j + 1) 0 :=
 ⟨hC.len, hC.old, hC.new, fun a ha b hb2 h1 h2 h3 => by
  by_cases e : a = j
  ·subst e
   have := hn h1
   exact hC.done a ha b hb2 h1 h2 (by omega)
  ·exact hC.done a ha b hb2 h1 h2 (by omega)⟩
theorem Co.fin {o : List Int} {i : Nat} (h : RingP t) (hs : ClosP t s) (hC : Co t s o i t.length 0) (hi : i < t.length) (hrp : rp (CoR t s) i = i) : CoO t s o (i + 1) :=
 ⟨hC.len, fun k hk hr => by
  by_cases e : rp (CoR t s) k < i
  ·exact hC.old k hk e
  ·have e2 : rp (CoR t s) i = rp (CoR t s) k := by omega
   obtain ⟨a, ha, hb, ho⟩ := ((co_eqv h hs).rp_eq hi hk).1 e2
   exact hC.done a ha k hk hb ho (.inl ha), fun k hk hr => by
  rcases hC.new k hk (by omega) with h1 | h1
  ·exact h1
  ·omega⟩
theorem CoO.fin {o : List Int} (hO : CoO t s o t.length) : o = clsL t.length (CoR t s) := list_rowF hO.len fun k hk => hO.old k hk (Nat.lt_of_le_of_lt (rp_le k) hk)
def tabF (i m : Nat) (g : Nat → Nat → Nat → Int) : Cu := (List.range i).map fun a => matF m m (g a)
theorem tabF_cub {m : Nat} {g : Nat → Nat → Nat → Int} : tabF m m g = cubF m g := rfl
def sbG (t : Cu) (s a b c : Nat) : Int := e3 t ((lbl t.length s).getD a 0) ((lbl t.length s).getD b 0) ((lbl t.length s).getD c 0)
theorem subR_tab : subR t s = tabF (lbl t.length s).length (lbl t.length s).length (sbG t s) := rfl
theorem lbl_head {n k s' : Nat} (hk : k < n) (h1 : s.testBit k = true) (h0 : ∀ i, i < k → s.testBit i = false) (h2 : ∀ i, s'.testBit i = true ↔ i ≠ k ∧ s.testBit i = true) : lbl n s = k :: lbl n s' := by
 obtain ⟨d, rfl⟩ : ∃ d, n = k + 1 + d := ⟨n - k - 1, by omega⟩
 have e : List.range (k + 1 + d) = (List.range k ++ [k]) ++ (List.range d).map (k + 1 + ·) := by rw [List.range_add, List.range_succ]
 have f1 : (List.range k).filter (fun i => s.testBit i) = [] := List.filter_eq_nil_iff.2 fun i hi => by rw [h0 i (by simpa using hi)]; decide
 have f2 : (List.range k).filter (fun i => s'.testBit i) = [] := List.filter_eq_nil_iff.2 fun i hi hb => by
  have := ((h2 i).1 hb).2
  rw [h0 i (by simpa using hi)] at this
  cases this
 have f3 : s'.testBit k = false := by
  cases hb : s'.testBit k with
  | false => rfl
  | true => exact absurd rfl ((h2 k).1 hb).1
 have f4 : ((List.range d).map (k + 1 + ·)).filter (fun i => s.testBit i) = ((List.range d).map (k + 1 + ·)).filter (fun i => s'.testBit i) := List.filter_congr fun i hi => by
  obtain ⟨a, _, rfl⟩ := List.mem_map.1 hi
  have := h2 (k + 1 + a)
  cases hb : s'.testBit (k + 1 + a) with
  | true => exact (this.1 hb).2
  | false =>
   cases hb2 : s.testBit (k + 1 + a) with
   | false => rfl
   | true => rw [this.2 ⟨by omega, hb2⟩] at hb; cases hb
 unfold lbl
 rw [e, List.filter_append, List.filter_append, List.filter_append, List.filter_append, f1, f2, f4]
 simp [h1, f3]
theorem low_bit {x : Nat} (h0 : x ≠ 0) (hx : x < 65536) : (x.testBit (Go.Lib.ctz 64 x) = true ∧ Go.Lib.ctz 64 x < 16 ∧ (∀ i, i < Go.Lib.ctz 64 x → x.testBit i = false) ∧ ∀ i, (x &&& (x - 1)).testBit i = true ↔ i ≠ Go.Lib.ctz 64 x ∧ x.testBit i = true) := by
 obtain ⟨m, hm, _⟩ := Go.Lib.ctzFrom_spec 64 x (by omega) (by omega)
 have hc : Go.Lib.ctz 64 x = Go.Lib.ctzFrom 64 x := by unfold Go.Lib.ctz; rw [if_neg h0]
 rw [hc]
 generalize Go.Lib.ctzFrom 64 x = k at hm
 have hp : 0 < 2 ^ k := Nat.pow_pos (by decide)
 have hxm : x = (2 * m + 1) * 2 ^ k := by rw [hm, Nat.mul_comm]
 have b1 : ∀ i, x.testBit i = (decide (k ≤ i) && (2 * m + 1).testBit (i - k)) := fun i => by rw [hxm, Nat.testBit_mul_two_pow]
 have hx1 : x - 1 = 2 ^ k * (2 * m) + (2 ^ k - 1) := by
  have : x = 2 ^ k * (2 * m) + 2 ^ k := by rw [hm, Nat.mul_add, Nat.mul_one]
  omega
 have b2 : ∀ i, (x - 1).testBit i = if i < k then true else (2 * m).testBit (i - k) := fun i => by
  rw [hx1, Nat.testBit_two_pow_mul_add _ (by omega)]
  by_cases hi : i < k
  ·rw [if_pos hi, if_pos hi]
   exact full_bit.2 hi
  ·rw [if_neg hi, if_neg hi]
 have odd0 : (2 * m + 1).testBit 0 = true := by simp
 have ev0 : (2 * m).testBit 0 = false := by simp
 have hs : ∀ j, j ≠ 0 → (2 * m + 1).testBit j = (2 * m).testBit j := fun j hj => by
  obtain ⟨d, rfl⟩ : ∃ d, j = d + 1 := ⟨j - 1, by omega⟩
  rw [Nat.testBit_succ, Nat.testBit_succ]
  congr 1
  omega
 refine ⟨?_, ?_, fun i hi => ?_, fun i => ?_⟩
 ·rw [b1, Nat.sub_self, odd0]; simp
 ·refine Nat.lt_of_not_le fun hk => ?_
  have : 2 ^ 16 ≤ 2 ^ k := Nat.pow_le_pow_right (by decide) hk
  have h3 : 2 ^ k * 1 ≤ 2 ^ k * (2 * m + 1) := Nat.mul_le_mul_left _ (by omega)
  omega
 ·rw [b1]
  have : decide (k ≤ i) = false := decide_eq_false (by omega)
  rw [this]; rfl
 ·rw [and_bit, b1, b2]
  by_cases h1 : i < k
  ·have : decide (k ≤ i) = false := decide_eq_false (by omega)
   rw [this]; simp
  ·have : decide (k ≤ i) = true := decide_eq_true (by omega)
   rw [this, if_neg h1]
   by_cases h2 : i = k
   ·subst h2
    rw [Nat.sub_self, ev0]; simp
   ·rw [hs (i - k) (by omega)]
    simp [h2]
theorem lbI_zero {n : Nat} : lbI n 0 = [] := by
 have : lbl n 0 = [] := List.filter_eq_nil_iff.2 fun i _ => by simp
 unfold lbI
 rw [this]
 rfl
noncomputable def suS (t : Cu) (i j : Nat) : Nat := setN t.length fun k => Oc t i j k
theorem suS_bit {i j k : Nat} : (suS t i j).testBit k = true ↔ k < t.length ∧ Oc t i j k := setN_bit
theorem suS_lt {i j : Nat} : suS t i j < 2 ^ t.length := setN_lt
noncomputable def supL (t : Cu) : List (List Int) := matF t.length t.length fun i j => (suS t i j : Int)
noncomputable def suP (t : Cu) (i j k x y : Nat) : Nat := if x < i ∨ (x = i ∧ y < j) then suS t x y else if x = i ∧ y = j then setN t.length fun z => z < k ∧ Oc t x y z else 0
theorem suP_start {x y : Nat} : suP t 0 0 0 x y = 0 := by
 unfold suP
 rw [if_neg (by omega)]
 split
 ·exact bits_ext fun k => by rw [setN_bit]; simp
 ·rfl
theorem suP_end {x y : Nat} (hx : x < t.length) : suP t t.length 0 0 x y = suS t x y := by
 unfold suP
 rw [if_pos (.inl hx)]
theorem suP_at {i j k : Nat} : suP t i j k i j = setN t.length fun z => z < k ∧ Oc t i j z := by
 unfold suP
 rw [if_neg (by omega), if_pos ⟨rfl, rfl⟩]
theorem suP_off {i j k k' x y : Nat} (h : ¬ (x = i ∧ y = j)) : suP t i j k x y = suP t i j k' x y := by
 unfold suP
 rw [if_neg h, if_neg h]
theorem suP_no {i j k : Nat} (h : ¬ Oc t i j k) (x y : Nat) : suP t i j k x y = suP t i j (k + 1) x y := by
 by_cases e : x = i ∧ y = j
 ·obtain ⟨rfl, rfl⟩ := e
  rw [suP_at, suP_at]
  exact setN_congr fun z _ => ⟨fun h1 => ⟨by omega, h1.2⟩, fun h1 => ⟨by by_cases ez : z = k; subst ez; exact absurd h1.2 h; omega, h1.2⟩⟩
 ·exact suP_off e
theorem suP_yes {i j k : Nat} (hk : k < t.length) (h : Oc t i j k) : suP t i j k i j ||| 2 ^ k = suP t i j (k + 1) i j := by
 rw [suP_at, suP_at]
 refine bits_ext fun z => ?_
 rw [or_bit, setN_bit, setN_bit, pow_bit]
 constructor
 ·rintro (h1 | rfl)
  ·exact ⟨h1.1, by omega, h1.2.2⟩
  ·exact ⟨hk, Nat.lt_succ_self _, h⟩
 ·intro h1
  by_cases ez : z = k
  ·exact .inr ez
  ·exact .inl ⟨h1.1, by omega, h1.2.2⟩
theorem suP_j {i j x y : Nat} : suP t i j t.length x y = suP t i (j + 1) 0 x y := by
 by_cases e : x = i ∧ y = j
 ·obtain ⟨rfl, rfl⟩ := e
  rw [suP_at]
  unfold suP
  rw [if_pos (.inr ⟨rfl, Nat.lt_succ_self _⟩)]
  exact setN_congr fun z hz => ⟨fun h1 => h1.2, fun h1 => ⟨hz, h1⟩⟩
 ·by_cases e2 : x = i ∧ y = j + 1
  ·obtain ⟨rfl, rfl⟩ := e2
   rw [suP_at]
   unfold suP
   rw [if_neg (by omega), if_neg (by omega)]
   exact (bits_ext fun z => by rw [setN_bit]; simp)
  ·unfold suP
   by_cases e3 : x < i ∨ x = i ∧ y < j
   ·rw [if_pos e3, if_pos (by omega)]
   ·rw [if_neg e3, if_neg e, if_neg (by omega), if_neg e2]
theorem suP_i {i x y : Nat} (hy : y < t.length) : suP t i t.length 0 x y = suP t (i + 1) 0 0 x y := by
 by_cases e2 : x = i + 1 ∧ y = 0
 ·obtain ⟨rfl, rfl⟩ := e2
  rw [suP_at]
  unfold suP
  rw [if_neg (by omega), if_neg (by omega)]
  exact (bits_ext fun z => by rw [setN_bit]; simp)
 ·unfold suP
  by_cases e3 : x < i ∨ x = i ∧ y < t.length
  ·rw [if_pos e3, if_pos (by omega)]
  ·rw [if_neg e3, if_neg (by omega), if_neg (by omega), if_neg e2]
theorem suP_lt {i j k x y : Nat} : suP t i j k x y < 2 ^ t.length := by
 unfold suP
 split
 ·exact suS_lt
 ·split
  ·exact setN_lt
  ·exact Nat.pow_pos (by decide)
noncomputable def suM (t : Cu) (i j k : Nat) : List (List Int) := matF t.length t.length fun x y => (suP t i j k x y : Int)
theorem suM_len {i j k : Nat} : (suM t i j k).length = t.length := matF_length ..
theorem suM_row {i j k x : Nat} (hx : x < t.length) : ((suM t i j k).getD x []).length = t.length := by unfold suM; rw [matF_get hx, rowF_length]
theorem suM_get {i j k x y : Nat} (hx : x < t.length) (hy : y < t.length) : ((suM t i j k).getD x []).getD y 0 = suP t i j k x y := by unfold suM; rw [matF_get hx, rowF_get hy]
theorem suM_start : suM t 0 0 0 = List.replicate t.length (List.replicate t.length 0) := by
 rw [zeros_matF]
 exact matF_congr fun x _ y _ => by rw [suP_start]; rfl
theorem suM_end : suM t t.length 0 0 = supL t := matF_congr fun x hx y _ => by rw [suP_end hx]
theorem suM_yes {i j k : Nat} (hi : i < t.length) (hk : k < t.length) (h : Oc t i j k) : (suM t i j k).set i (((suM t i j k).getD i []).set j ((suP t i j k i j ||| 2 ^ k : Nat) : Int)) = suM t i j (k + 1) := by
 unfold suM
 rw [matF_set hi]
 refine matF_congr fun x _ y _ => ?_
 by_cases e : x = i ∧ y = j
 ·rw [if_pos e, e.1, e.2, suP_yes hk h]
 ·rw [if_neg e, suP_off e]
theorem suM_no {i j k : Nat} (h : ¬ Oc t i j k) : suM t i j k = suM t i j (k + 1) := matF_congr fun x _ y _ => by rw [suP_no h]
theorem suM_j {i j : Nat} : suM t i j t.length = suM t i (j + 1) 0 := matF_congr fun x _ y _ => by rw [suP_j]
theorem suM_i {i : Nat} : suM t i t.length 0 = suM t (i + 1) 0 0 := matF_congr fun x _ y hy => by rw [suP_i hy]
theorem sup_get {i j : Nat} (hi : i < t.length) (hj : j < t.length) : ((supL t).getD i []).getD j 0 = suS t i j := by unfold supL; rw [matF_get hi, rowF_get hj]
theorem sup_row {i : Nat} (hi : i < t.length) : ((supL t).getD i []).length = t.length := by unfold supL; rw [matF_get hi, rowF_length]
theorem sup_len : (supL t).length = t.length := matF_length ..
def flP (g : Nat → Nat → Nat → Int) (i j k x y z : Nat) : Int := if x < i ∨ (x = i ∧ (y < j ∨ (y = j ∧ z < k))) then g x y z else 0
def flL (n : Nat) (g : Nat → Nat → Nat → Int) (i j k : Nat) : Cu := cubF n (flP g i j k)
theorem flL_start {n : Nat} {g : Nat → Nat → Nat → Int} : flL n g 0 0 0 = List.replicate n (List.replicate n (List.replicate n 0)) := by
 unfold flL cubF
 refine List.ext_getElem (by simp) fun i h1 h2 => ?_
 simp only [List.getElem_map, List.getElem_range, List.getElem_replicate]
 rw [zeros_matF]
 exact matF_congr fun y _ z _ => by unfold flP; rw [if_neg (by omega)]
theorem flL_set {n : Nat} {g : Nat → Nat → Nat → Int} {i j k : Nat} (hi : i < n) (hj : j < n) :
  (flL n g i j k).set i (((flL n g i j k).getD i []).set j ((((flL n g i j k).getD i []).getD j []).set k (g i j k))) = flL n g i j (k + 1) := by
 unfold flL
 rw [cubF_set hi hj]
 refine cubF_congr fun x _ y _ z _ => ?_
 unfold flP
 by_cases e : x = i ∧ y = j ∧ z = k
 ·rw [if_pos e, if_pos (by omega), e.1, e.2.1, e.2.2]
 ·rw [if_neg e]
  by_cases e2 : x < i ∨ (x = i ∧ (y < j ∨ (y = j ∧ z < k)))
  ·rw [if_pos e2, if_pos (by omega)]
  ·rw [if_neg e2, if_neg (by omega)]
theorem flL_k {n : Nat} {g : Nat → Nat → Nat → Int} {i j : Nat} : flL n g i j n = flL n g i (j + 1) 0 := cubF_congr fun x _ y _ z hz => by
 unfold flP
 by_cases e2 : x < i ∨ (x = i ∧ (y < j ∨ (y = j ∧ z < n)))
 ·rw [if_pos e2, if_pos (by omega)]
 ·rw [if_neg e2, if_neg (by omega)]
theorem flL_j {n : Nat} {g : Nat → Nat → Nat → Int} {i : Nat} : flL n g i n 0 = flL n g (i + 1) 0 0 := cubF_congr fun x _ y hy z hz => by
 unfold flP
 by_cases e2 : x < i ∨ (x = i ∧ (y < n ∨ (y = n ∧ z < 0)))
 ·rw [if_pos e2, if_pos (by omega)]
 ·rw [if_neg e2, if_neg (by omega)]
theorem flL_end {n : Nat} {g : Nat → Nat → Nat → Int} : flL n g n 0 0 = cubF n g := cubF_congr fun x hx y hy z hz => by
 unfold flP
 rw [if_pos (by omega)]
theorem flL_len {n : Nat} {g : Nat → Nat → Nat → Int} {i j k : Nat} : (flL n g i j k).length = n := cubF_length ..
theorem flL_mat {n : Nat} {g : Nat → Nat → Nat → Int} {i j k x : Nat} (hx : x < n) : ((flL n g i j k).getD x []).length = n := cubF_mat hx
theorem flL_row {n : Nat} {g : Nat → Nat → Nat → Int} {i j k x y : Nat} (hx : x < n) (hy : y < n) : (((flL n g i j k).getD x []).getD y []).length = n := cubF_row hx hy
end Go.Pl
namespace Go.Pl
open Go.Aw
variable {t : Cu} {s : Nat}
structure Cl (t : Cu) (s o a b : Nat) : Prop where
 lt : o < 2 ^ t.length
 sub : Sub s o
 sound : ∀ x, o.testBit x = true → SpP t s x
 dual : ∀ c, c < (lbl t.length s).length → c < a → o.testBit (dN t ((lbl t.length s).getD c 0)) = true
 mul : ∀ c, c < (lbl t.length s).length → ∀ d, d < (lbl t.length s).length → (c < a ∨ c = a ∧ d < b) → ∀ k, k < t.length → Oc t ((lbl t.length s).getD c 0) ((lbl t.length s).getD d 0) k → o.testBit k = true
theorem Cl.start (hs : s < 2 ^ t.length) : Cl t s s 0 0 := ⟨hs, Sub.refl s, fun x h => .inl h, fun c _ h => absurd h (Nat.not_lt_zero c), fun c _ d _ h => by omega⟩
theorem Cl.grow {o a b u : Nat} (h : Cl t s o a b) (hu : u < 2 ^ t.length) (hp : ∀ x, u.testBit x = true → SpP t s x) : Cl t s (o ||| u) a b :=
 ⟨or_lt h.lt hu, fun i hi => or_bit.2 (.inl (h.sub i hi)), fun x hx => (or_bit.1 hx).elim (h.sound x) (hp x), fun c hc h1 => or_bit.2 (.inl (h.dual c hc h1)), fun c hc d hd h1 k hk ho => or_bit.2 (.inl (h.mul c hc d hd h1 k hk ho))⟩
theorem Cl.incB {o a b : Nat} (h : Cl t s o a b) (ha : a < (lbl t.length s).length) (hb : b < (lbl t.length s).length) :
  Cl t s (o ||| suS t ((lbl t.length s).getD a 0) ((lbl t.length s).getD b 0)) a (b + 1) := by
 have ga := lbl_get ha
 have gb := lbl_get hb
 have h2 := h.grow suS_lt (fun x hx => .inr (.inr ⟨_, ga.1, ga.2, .inr ⟨_, gb.1, gb.2, (suS_bit.1 hx).2⟩⟩))
 refine ⟨h2.lt, h2.sub, h2.sound, h2.dual, fun c hc d hd h1 k hk ho => ?_⟩
 by_cases e : c = a ∧ d = b
 ·obtain ⟨rfl, rfl⟩ := e
  exact or_bit.2 (.inr (suS_bit.2 ⟨hk, ho⟩))
 ·exact h2.mul c hc d hd (by omega) k hk ho
theorem Cl.incA {o a b : Nat} (h : Cl t s o a b) (hb : (lbl t.length s).length ≤ b) (hd : o.testBit (dN t ((lbl t.length s).getD a 0)) = true) : Cl t s o (a + 1) 0 :=
 ⟨h.lt, h.sub, h.sound, fun c hc h1 => by
  by_cases e : c = a
  ·subst e; exact hd
  ·exact h.dual c hc (by omega), fun c hc d hd2 h1 k hk ho => h.mul c hc d hd2 (by omega) k hk ho⟩
theorem Cl.dualP (h : RingP t) {o a b : Nat} (hC : Cl t s o a b) (ha : a < (lbl t.length s).length) : Cl t s (o ||| 2 ^ dN t ((lbl t.length s).getD a 0)) a b :=
 hC.grow (pow_lt (h.dlt (lbl_get ha).1)) fun x hx => by
  rw [pow_bit.1 hx]
  exact .inr (.inr ⟨_, (lbl_get ha).1, (lbl_get ha).2, .inl rfl⟩)
theorem Cl.fin {o : Nat} (h : RingP t) (hs : s < 2 ^ t.length) (h0 : s.testBit 0 = true) (hC : Cl t s o (lbl t.length s).length 0) : o = spr t s := by
 refine spr_of hs hC.lt hC.sub (hC.sub 0 h0) hC.sound (fun i hi hb => ?_) fun i hi j hj k hk h1 h2 ho => ?_
 ·obtain ⟨c, hc, rfl⟩ := lbl_idx hi hb
  exact hC.dual c hc hc
 ·obtain ⟨c, hc, rfl⟩ := lbl_idx hi h1
  obtain ⟨d, hd, rfl⟩ := lbl_idx hj h2
  exact hC.mul c hc d hd (.inl hc) k hk ho
end Go.Pl
namespace Go.Pl
open Go.Aw
def pcA (x : Nat) : Nat := (x / 2 &&& 6148914691236517205) + (x &&& 6148914691236517205)
def pcB (x : Nat) : Nat := (x / 4 &&& 3689348814741910323) + (x &&& 3689348814741910323)
def pcC (x : Nat) : Nat := (x / 16 + x) &&& 1085102592571150095
def pcF (x : Nat) : Nat :=
 let w := pcC (pcB (pcA x))
 let w := w + w / 256
 let w := w + w / 65536
 let w := w + w / 4294967296
 w &&& 127
theorem lbl_more {n m s : Nat} (hs : s < 2 ^ n) (hm : n ≤ m) : (lbl m s).length = (lbl n s).length := by
 obtain ⟨d, rfl⟩ : ∃ d, m = n + d := ⟨m - n, by omega⟩
 induction d with
 | zero => rfl
 | succ d ih =>
  show (lbl (n + d + 1) s).length = _
  rw [lbl_succ, List.length_append, ih (by omega)]
  have : s.testBit (n + d) = false := by
   cases hb : s.testBit (n + d) with
   | false => rfl
   | true => have := bits_lt hs hb; omega
  rw [this]
  rfl
theorem fd {a : Nat} (b : Nat) : (a : Int).fdiv (b : Int) = ((a / b : Nat) : Int) := by
 rw [Int.fdiv_eq_ediv_of_nonneg _ (Int.natCast_nonneg b)]
 rfl
theorem andU {a b : Nat} (ha : a < 18446744073709551616) (hb : b < 18446744073709551616) : andK .u64 a b = ((a &&& b : Nat) : Int) := by
 have h1 : ∀ {x : Nat}, x < 18446744073709551616 → (BitVec.ofInt 64 (x : Int)).toNat = x := fun h => by
  rw [BitVec.ofInt_natCast, BitVec.toNat_ofNat]; exact Nat.mod_eq_of_lt (by omega)
 unfold andK
 rw [bits_u64, BitVec.toNat_and, h1 ha, h1 hb, wrap_u64]
 have : a &&& b ≤ a := Nat.and_le_left
 omega
theorem pA_le {x : Nat} : pcA x ≤ x / 2 + x := Nat.add_le_add Nat.and_le_left Nat.and_le_left
theorem pB_le {x : Nat} : pcB x ≤ x / 4 + x := Nat.add_le_add Nat.and_le_left Nat.and_le_left
theorem pC_le {x : Nat} : pcC x ≤ x / 16 + x := Nat.and_le_left
theorem stA {x : Nat} (h : x < 1000000) : (andK .u64 ((x : Int).fdiv (2 ^ min 1 64)) 6148914691236517205 + andK .u64 x 6148914691236517205) % 18446744073709551616 = (pcA x : Nat) := by
 have e : (x : Int).fdiv (2 ^ min 1 64) = ((x / 2 : Nat) : Int) := fd 2
 have e1 := andU (a := x / 2) (b := 6148914691236517205) (by omega) (by decide)
 have e2 := andU (a := x) (b := 6148914691236517205) (by omega) (by decide)
 have hl := pA_le (x := x)
 unfold pcA at *
 rw [e, show (6148914691236517205 : Int) = ((6148914691236517205 : Nat) : Int) from rfl, e1, e2]
 omega
theorem stB {x : Nat} (h : x < 1000000) : (andK .u64 ((x : Int).fdiv (2 ^ min 2 64)) 3689348814741910323 + andK .u64 x 3689348814741910323) % 18446744073709551616 = (pcB x : Nat) := by
 have e : (x : Int).fdiv (2 ^ min 2 64) = ((x / 4 : Nat) : Int) := fd 4
 have e1 := andU (a := x / 4) (b := 3689348814741910323) (by omega) (by decide)
 have e2 := andU (a := x) (b := 3689348814741910323) (by omega) (by decide)
 have hl := pB_le (x := x)
 unfold pcB at *
 rw [e, show (3689348814741910323 : Int) = ((3689348814741910323 : Nat) : Int) from rfl, e1, e2]
 omega
theorem stC {x : Nat} (h : x < 1000000) : andK .u64 (((x : Int).fdiv (2 ^ min 4 64) + x) % 18446744073709551616) 1085102592571150095 = (pcC x : Nat) := by
 have e : (x : Int).fdiv (2 ^ min 4 64) = ((x / 16 : Nat) : Int) := fd 16
 rw [e, show (((x / 16 : Nat) : Int) + x) % 18446744073709551616 = ((x / 16 + x : Nat) : Int) by omega]
 exact andU (by omega) (by decide)
theorem stD {x : Nat} (h : x < 1000000) : ((x : Int) + (x : Int).fdiv (2 ^ min 8 64)) % 18446744073709551616 = (x + x / 256 : Nat) := by
 have e : (x : Int).fdiv (2 ^ min 8 64) = ((x / 256 : Nat) : Int) := fd 256
 rw [e]; omega
theorem stE {x : Nat} (h : x < 1000000) : ((x : Int) + (x : Int).fdiv (2 ^ min 16 64)) % 18446744073709551616 = (x + x / 65536 : Nat) := by
 have e : (x : Int).fdiv (2 ^ min 16 64) = ((x / 65536 : Nat) : Int) := fd 65536
 rw [e]; omega
theorem stF {x : Nat} (h : x < 1000000) : ((x : Int) + (x : Int).fdiv (2 ^ min 32 64)) % 18446744073709551616 = (x + x / 4294967296 : Nat) := by
 have e : (x : Int).fdiv (2 ^ min 32 64) = ((x / 4294967296 : Nat) : Int) := fd 4294967296
 rw [e]; omega
end Go.Pl
namespace Go.Pl
open Go.Aw
variable {t : Cu} {s : Nat}
end Go.Pl
namespace Go.Pl
variable {t : Cu}
end Go.Pl
