import Derived.Test.YtppoaacplncppaaPl3
import Derived.Test.YtppoaacplncppaaPl5
import Derived.Test.YtppoaacplncppaaKp1
import Derived.Test.YtppoaacplncppaaPl2
set_option linter.unusedSimpArgs false
set_option linter.unusedVariables false
namespace Go.Pl
open Go.Aw
def cubG (n : Nat) (f : Nat → Nat → Nat → Int) : List (List (List Int)) := (List.range n).map fun u => matF n n (f u)
def imF (t : List (List (List Int))) (p : List Int) (u v w : Nat) : Int := e3 t (pos p u) (pos p v) (pos p w)
def imC (t : List (List (List Int))) (n : Nat) (p : List Int) : List (List (List Int)) := cubG n (imF t p)
def befor (a b c i j k : Nat) : Prop := a < i ∨ (a = i ∧ (b < j ∨ (b = j ∧ c < k)))
instance (a b c i j k : Nat) : Decidable (befor a b c i j k) := by unfold befor; infer_instance
def wC (t : List (List (List Int))) (n : Nat) (p : List Int) (g : Nat → Nat → Nat → Int) (i j k : Nat) : List (List (List Int)) :=
 cubG n (fun u v w => if befor (pos p u) (pos p v) (pos p w) i j k then imF t p u v w else g u v w)
def visR (t : List (List (List Int))) (n : Nat) (p : List Int) (s : Option (List (List (List Int)))) : Option (List (List (List Int))) :=
 if lt3 (imC t n p) (s.getD t) = true then some (imC t n p) else s
def ordersL (n : Nat) : List (List Int) := permsF n (n - 1) [0]
def leastR (t : List (List (List Int))) : List (List (List Int)) := ((ordersL t.length).map (imC t t.length)).foldl (better lt3) t
theorem opp_cube {t : List (List (List Int))} (h : Cube t) : Cube (oppL t t.length) := by
 refine ⟨by rw [oppL_length]; exact h.1, by rw [oppL_length]; exact h.2.1, fun i hi => ?_⟩
 rw [oppL_length] at hi ⊢
 rw [oppL_get hi]
 refine ⟨oppR_length, fun j hj => ?_⟩
 rw [oppR_get hj]
 exact (h.2.2 j hj).2 i hi
theorem opp_opp {t : List (List (List Int))} (h : Cube t) : oppL (oppL t t.length) (oppL t t.length).length = t := by
 rw [oppL_length]
 refine ext_getD (d := []) oppL_length (fun i hi => ?_)
 rw [oppL_length] at hi
 rw [oppL_get hi, oppL_length]
 refine ext_getD (d := []) (by rw [oppR_length]; exact (h.2.2 i hi).1.symm) (fun j hj => ?_)
 rw [oppR_length] at hj
 rw [oppR_get hj, oppL_get hj, oppR_get hi]
noncomputable def lrA (t : List (List (List Int))) : AV := if isRing t = true then (if t.length ≤ 7 then .tup [.agg [.l3 (leastR t)], .int 0] else .tup [.agg [.nil], .int 3]) else .tup [.agg [.nil], .int 1]
def visO (p : List Int) (s : Option (List (List Int))) : Option (List (List Int)) := some (s.getD [] ++ [p])
end Go.Pl
namespace Go.Pl
open Go.Aw
def VecX (n : Nat) (X : Int) (x : List Int) : Prop := x.length = n ∧ ∀ i, i < n → 0 ≤ x.getD i 0 ∧ x.getD i 0 ≤ X
section
variable {t : List (List (List Int))} {x y : List Int} {X Y : Int}
theorem xy_bd {n : Nat} (hx : VecX n X x) (hy : VecX n Y y) (hXY : X * Y ≤ 1000000000000) {i j : Nat} (hi : i < n) (hj : j < n) : 0 ≤ x.getD i 0 * y.getD j 0 ∧ x.getD i 0 * y.getD j 0 ≤ 1000000000000 := by
 have a := hx.2 i hi
 have b := hy.2 j hj
 have m1 : x.getD i 0 * y.getD j 0 ≤ X * Y := Int.mul_le_mul a.2 b.2 b.1 (by omega)
 exact ⟨Int.mul_nonneg a.1 b.1, by omega⟩
theorem pTm_bdX (hc : Cube t) (hx : VecX t.length X x) (hy : VecX t.length Y y) (hXY : X * Y ≤ 1000000000000) {i j k : Nat} (hi : i < t.length) (hj : j < t.length) (hk : k < t.length) : 0 ≤ pTm t x y k i j ∧ pTm t x y k i j ≤ 1000000000000000 := by
 have c : 0 ≤ e3 t i j k ∧ e3 t i j k ≤ 1000 := hc.inM hi hj hk
 have m := xy_bd hx hy hXY hi hj
 have m2 : x.getD i 0 * y.getD j 0 * e3 t i j k ≤ 1000000000000 * 1000 := Int.mul_le_mul m.2 c.2 c.1 (by omega)
 exact ⟨Int.mul_nonneg m.1 c.1, by unfold pTm; omega⟩
theorem pPart_bdX (hc : Cube t) (hx : VecX t.length X x) (hy : VecX t.length Y y) (hXY : X * Y ≤ 1000000000000) {i j k : Nat} (hi : i ≤ t.length) (hj : j ≤ t.length) (hij : i = t.length → j = 0) (hk : k < t.length) : 0 ≤ pPart t x y i j k ∧ pPart t x y i j k ≤ 512 * 1000000000000000 := by
 have h16 := hc.2.1
 have r : ∀ i, i < t.length → 0 ≤ sumTo (pTm t x y k i) t.length ∧ sumTo (pTm t x y k i) t.length ≤ 16 * 1000000000000000 := fun i hi => by
  have := sumTo_le (f := pTm t x y k i) (B := 1000000000000000) (n := t.length) (fun j hj => pTm_bdX hc hx hy hXY hi hj hk)
  omega
 have a := sumTo_le (f := fun i => sumTo (pTm t x y k i) t.length) (B := 16 * 1000000000000000) (n := i) (fun q hq => r q (by omega))
 unfold pPart
 by_cases e : i = t.length
 ·rw [hij e]
  simp only [sumTo]
  omega
 ·have b := sumTo_le (f := pTm t x y k i) (B := 1000000000000000) (n := j) (fun q hq => pTm_bdX hc hx hy hXY (by omega) (by omega) hk)
  omega
def prw (t : List (List (List Int))) (x y : List Int) (i j k : Nat) : List Int := rowF t.length (fun c => if c < k then pPart t x y i (j + 1) c else pPart t x y i j c)
theorem prw_len {i j k : Nat} : (prw t x y i j k).length = t.length := rowF_length ..
theorem prw_get {i j k : Nat} (hk : k < t.length) : (prw t x y i j k).getD k 0 = pPart t x y i j k := by
 unfold prw
 rw [rowF_get hk, if_neg (Nat.lt_irrefl k)]
theorem prw_set {i j k : Nat} : (prw t x y i j k).set k (pPart t x y i j k + pTm t x y k i j) = prw t x y i j (k + 1) := by
 unfold prw
 rw [rowF_set]
 refine rowF_congr fun c _ => ?_
 by_cases e : c = k
 ·subst e
  rw [if_pos rfl, if_pos (by omega), pPart_step]
 ·rw [if_neg e]
  by_cases h : c < k
  ·rw [if_pos h, if_pos (by omega)]
  ·rw [if_neg h, if_neg (by omega)]
theorem prw_end {i j : Nat} : prw t x y i j t.length = prw t x y i (j + 1) 0 :=
 rowF_congr fun c hc => by rw [if_pos hc, if_neg (Nat.not_lt_zero c)]
theorem prw_skip {i j : Nat} (h : x.getD i 0 * y.getD j 0 = 0) : prw t x y i j 0 = prw t x y i (j + 1) 0 :=
 rowF_congr fun c _ => by
  rw [if_neg (Nat.not_lt_zero c), if_neg (Nat.not_lt_zero c), pPart_step]
  unfold pTm
  rw [h]
  omega
theorem prw_row {i : Nat} : prw t x y i t.length 0 = prw t x y (i + 1) 0 0 :=
 rowF_congr fun c _ => by rw [if_neg (Nat.not_lt_zero c), if_neg (Nat.not_lt_zero c), pPart_row]
theorem prw_skipR {i : Nat} (h : x.getD i 0 = 0) : prw t x y i 0 0 = prw t x y (i + 1) 0 0 :=
 rowF_congr fun c _ => by rw [if_neg (Nat.not_lt_zero c), if_neg (Nat.not_lt_zero c), ← pPart_row, pPart_skip h t.length]
theorem prw_fin : prw t x y t.length 0 0 = prodL t x y :=
 rowF_congr fun c _ => by rw [if_neg (Nat.not_lt_zero c), pPart_end]
theorem prw_zero : List.replicate t.length (0 : Int) = prw t x y 0 0 0 := by
 apply List.ext_getElem
 ·simp [prw, rowF]
 ·intro k h1 h2
  simp [prw, rowF, pPart_zero]
theorem prodL_bd (hc : Cube t) (hx : VecX t.length X x) (hy : VecX t.length Y y) (hXY : X * Y ≤ 1000000000000) : VecX t.length 512000000000000000 (prodL t x y) := by
 refine ⟨prodL_len, fun k hk => ?_⟩
 rw [prodL_get hk, ← pPart_end]
 have := pPart_bdX hc hx hy hXY (Nat.le_refl _) (Nat.zero_le _) (fun _ => rfl) hk
 omega
end
noncomputable def bigV (y : List Int) : Bool := bd (∃ c, c < y.length ∧ 1000000000 < y.getD c 0)
noncomputable def pwv (t : Cu) (i : Nat) : Nat → Option (List Int)
 | 0 => some (oneV t.length 0)
 | k + 1 => match pwv t i k with
  | none => none
  | some x => if bigV (prodL t x (oneV t.length i)) then none else some (prodL t x (oneV t.length i))
theorem oneV_X {n i : Nat} {X : Int} (h : 1 ≤ X) : VecX n X (oneV n i) := by
 refine ⟨oneV_len, fun j hj => ?_⟩
 rw [oneV_get hj]
 split <;> omega
theorem pwv_X {t : Cu} (hc : Cube t) {i : Nat} : ∀ {k : Nat} {x : List Int}, pwv t i k = some x → VecX t.length 1000000000 x
 | 0, x, h => by
  cases h
  exact oneV_X (by decide)
 | k + 1, x, h => by
  simp only [pwv] at h
  cases hx : pwv t i k with
  | none => rw [hx] at h; cases h
  | some z =>
   rw [hx] at h
   simp only at h
   have hz := pwv_X hc hx
   have hb := prodL_bd (X := 1000000000) (Y := 1) hc hz (oneV_X (i := i) (Int.le_refl 1)) (by decide)
   split at h
   ·cases h
   ·rename_i hn
    cases h
    refine ⟨prodL_len, fun c hcc => ⟨(hb.2 c hcc).1, ?_⟩⟩
    refine Classical.byContradiction fun hgt => hn ?_
    unfold bigV
    exact bd_true ⟨c, by rw [prodL_len]; exact hcc, by omega⟩
theorem pwv_none {t : Cu} {i k : Nat} (h : pwv t i k = none) : ∀ j, pwv t i (k + j) = none
 | 0 => h
 | j + 1 => by
  show pwv t i (k + j + 1) = none
  simp only [pwv, pwv_none h j]
noncomputable def mvR (t : Cu) (x y : List Int) : Option (List Int) × Int :=
 if isRing t then (if bd (VecX t.length 1000000 x ∧ VecX t.length 1000000 y) then (some (prodL t x y), 0) else (none, 2)) else (none, 1)
noncomputable def pwR (t : Cu) (i k : Int) : Option (List Int) × Int :=
 if isRing t then (if lblB t i && (decide (0 ≤ k) && decide (k ≤ 40)) then (match pwv t i.toNat k.toNat with | some x => (some x, 0) | none => (none, 3)) else (none, 2)) else (none, 1)
def opF (t : Cu) (i j x y : Nat) : List Int := if x < i ∨ (x = i ∧ y < j) then (t.getD y []).getD x [] else (t.getD x []).getD y []
def opM (t : Cu) (i j : Nat) : Cu := (List.range t.length).map fun x => (List.range t.length).map fun y => opF t i j x y
theorem opM_len {t : Cu} {i j : Nat} : (opM t i j).length = t.length := by simp [opM]
theorem opM_get {t : Cu} {i j x : Nat} (h : x < t.length) : (opM t i j).getD x [] = (List.range t.length).map fun y => opF t i j x y := by simp [opM, List.getD, h]
theorem opM_get2 {t : Cu} {i j x y : Nat} (h : x < t.length) (hy : y < t.length) : ((opM t i j).getD x []).getD y [] = opF t i j x y := by rw [opM_get h]; simp [List.getD, hy]
theorem map_range_set {α : Type} {n k : Nat} {f : Nat → α} {v : α} : ((List.range n).map f).set k v = (List.range n).map fun x => if x = k then v else f x := by
 apply List.ext_getElem
 ·simp
 ·intro i h1 h2
  simp only [List.getElem_set, List.getElem_map, List.getElem_range]
  by_cases e : k = i
  ·subst e; simp
  ·rw [if_neg e, if_neg (fun h => e h.symm)]
theorem opM_set {t : Cu} {i j : Nat} (hi : i < t.length) (hj : j < t.length) : (opM t i j).set i (((opM t i j).getD i []).set j ((t.getD j []).getD i [])) = opM t i (j + 1) := by
 rw [opM_get hi, map_range_set]
 unfold opM
 rw [map_range_set]
 refine List.map_congr_left fun x hx => ?_
 by_cases e : x = i
 ·subst e
  rw [if_pos rfl]
  refine List.map_congr_left fun y hy => ?_
  unfold opF
  by_cases e2 : y = j
  ·subst e2
   rw [if_pos rfl, if_pos (.inr ⟨rfl, by omega⟩)]
  ·rw [if_neg e2]
   by_cases h : y < j
   ·rw [if_pos (.inr ⟨rfl, h⟩), if_pos (.inr ⟨rfl, by omega⟩)]
   ·rw [if_neg (by omega), if_neg (by omega)]
 ·rw [if_neg e]
  refine List.map_congr_left fun y hy => ?_
  unfold opF
  by_cases h : x < i
  ·rw [if_pos (.inl h), if_pos (.inl h)]
  ·rw [if_neg (by omega), if_neg (by omega)]
theorem opM_row {t : Cu} {i : Nat} : opM t i t.length = opM t (i + 1) 0 := by
 refine List.map_congr_left fun x hx => List.map_congr_left fun y hy => ?_
 simp only [List.mem_range] at hx hy
 unfold opF
 by_cases h : x < i ∨ x = i
 ·rw [if_pos (by omega), if_pos (by omega)]
 ·rw [if_neg (by omega), if_neg (by omega)]
theorem opM_end {t : Cu} : opM t t.length 0 = oppL t t.length := by
 unfold opM oppL oppR
 refine List.map_congr_left fun x hx => List.map_congr_left fun y hy => ?_
 simp only [List.mem_range] at hx hy
 unfold opF
 rw [if_pos (.inl hx)]
theorem opM_zero {t : Cu} (hc : Cube t) : opM t 0 0 = t := by
 apply List.ext_getElem
 ·rw [opM_len]
 ·intro x h1 h2
  have hm := (hc.2.2 x h2).1
  have e : (opM t 0 0).getD x [] = t.getD x [] := by
   rw [opM_get h2]
   have e2 : (List.range t.length).map (fun y => opF t 0 0 x y) = (List.range (t.getD x []).length).map (fun y => (t.getD x []).getD y []) := by
    rw [hm]
    refine List.map_congr_left fun y _ => ?_
    unfold opF
    rw [if_neg (by omega)]
   rw [e2]
   apply List.ext_getElem
   ·simp
   ·intro y h3 h4
    simp only [List.getElem_map, List.getElem_range]
    rw [List.getD_eq_getElem?_getD, List.getElem?_eq_getElem h4]
    rfl
  rw [List.getD_eq_getElem?_getD, List.getElem?_eq_getElem h1, List.getD_eq_getElem?_getD, List.getElem?_eq_getElem h2] at e
  simpa using e
noncomputable def opR (t : Cu) : Option Cu × Int := if isRing t then (some (oppL t t.length), 0) else (none, 1)
noncomputable def flR (t : Cu) : Option (List Int) × Int := if bd (Cube t) then (match faultF t with | some u => (some u, 0) | none => (none, 4)) else (none, 1)
end Go.Pl
namespace Go.Pl
open Go.Aw
theorem dualG_rest {g : Nat → Int} : ∀ {l : List Nat} {out : Int}, (∀ j ∈ l, g j = 0) → dualG g l out = out
 | [], _, _ => rfl
 | j :: js, out, h => by
  simp only [dualG]
  rw [if_pos (h j (List.mem_cons_self ..))]
  exact dualG_rest fun x hx => h x (List.mem_cons_of_mem _ hx)
theorem dualG_at {g : Nat → Int} {p : Nat} : ∀ {l : List Nat}, l.Nodup → p ∈ l → (∀ j ∈ l, g j = if j = p then 1 else 0) → dualG g l (-1) = p
 | [], _, hp, _ => by cases hp
 | j :: js, hn, hp, h => by
  have hn := List.nodup_cons.1 hn
  simp only [dualG]
  have hj := h j (List.mem_cons_self ..)
  by_cases e : j = p
  ·subst e
   rw [if_pos rfl] at hj
   rw [hj, if_neg (by decide), if_pos ⟨by decide, rfl⟩]
   exact dualG_rest fun x hx => by
    rw [h x (List.mem_cons_of_mem _ hx), if_neg (fun e2 => hn.1 (by rw [← e2]; exact hx))]
  ·rw [if_neg e] at hj
   rw [if_pos hj]
   have hp' : p ∈ js := by
    rcases List.mem_cons.1 hp with h | h
    ·exact absurd h.symm e
    ·exact h
   exact dualG_at hn.2 hp' fun x hx => h x (List.mem_cons_of_mem _ hx)
section
variable {t : Cu}
theorem at0 (h : RingP t) {i j : Nat} (hi : i < t.length) (hj : j < t.length) : e3 t i j 0 = if (j : Int) = dual t i then 1 else 0 := by
 have d := h.dual i hi
 have d2 := h.dual j hj
 have h0 := h.cube.1
 have a : e3 t i j 0 = e3 t 0 (dual t j).toNat i := h.turn2 i hi j hj 0 (by omega)
 rw [a, h.left _ (by omega) i hi]
 unfold dl
 by_cases e : (j : Int) = dual t i
 ·rw [if_pos e]
  have : dual t j = i := by
   have := h.invo i hi
   rw [← e] at this
   simpa using this
  rw [if_pos (by rw [this]; simp)]
 ·rw [if_neg e, if_neg ?_]
  intro h2
  apply e
  have h3 := h.invo j hj
  have h4 : (dual t j).toNat = i := by omega
  rw [h4] at h3
  exact h3.symm
theorem P_isRing (h : RingP t) : isRing t = true := by
 refine bd_true ⟨h.cube, ?_⟩
 have u : unitF t = none := first_none fun i hi => first_none fun k hk => ite_none (by
  rw [h.left i hi k hk, h.right i hi k hk]
  simp)
 have d : dualF t = none := first_none fun i hi => ite_none (by
  have := h.dual i hi
  rw [h.invo i hi]
  omega)
 have tn : turnF t = none := first_none fun i hi => first_none fun j hj => first_none fun k hk => ite_none (by
  intro hh
  rcases hh with hh | hh
  ·exact hh (h.turn i hi j hj k hk)
  ·exact hh (h.turn2 i hi j hj k hk))
 have b : brackF t = none := first_none fun i hi => first_none fun j hj => first_none fun k hk => first_none fun l hl => ite_none (by
  intro hh
  exact hh (h.brack i hi j hj k hk l hl))
 unfold faultF
 rw [u, d, tn, b]
 rfl
theorem opp_e3 {i j k : Nat} (hi : i < t.length) (hj : j < t.length) : e3 (oppL t t.length) i j k = e3 t j i k := by
 show ((((oppL t t.length).getD i []).getD j []).getD k 0) = _
 rw [oppL_get hi, oppR_get hj]
theorem opp_dual (h : RingP t) {i : Nat} (hi : i < t.length) : dual (oppL t t.length) i = dual t i := by
 have d := h.dual i hi
 have e : dualG (fun j => e3 (oppL t t.length) i j 0) (List.range (oppL t t.length).length) (-1) = ((dual t i).toNat : Int) := by
  rw [oppL_length]
  refine dualG_at List.nodup_range (List.mem_range.2 (by omega)) (fun j hj => ?_)
  have hj : j < t.length := by simpa using hj
  rw [opp_e3 hi hj, at0 h hj hi]
  by_cases e : (i : Int) = dual t j
  ·rw [if_pos e, if_pos]
   have := h.invo j hj
   rw [← e] at this
   simp at this
   show j = (dual t i).toNat
   omega
  ·rw [if_neg e, if_neg]
   intro e2
   apply e
   have := h.invo i hi
   have e3' : (dual t i).toNat = j := e2.symm
   rw [e3'] at this
   exact this.symm
 have e2 : dual (oppL t t.length) i = ((dual t i).toNat : Int) := e
 rw [e2]
 omega
theorem opp_ring (h : RingP t) : RingP (oppL t t.length) := by
 have hl := oppL_length (t := t) (i := t.length)
 have hc := opp_cube h.cube
 have h0 := h.cube.1
 refine ⟨hc, fun i hi k hk => ?_, fun i hi k hk => ?_, fun i hi => ?_, fun i hi => ?_, fun i hi j hj k hk => ?_, fun i hi j hj k hk => ?_, fun i hi j hj k hk l hl2 => ?_⟩ <;> simp only [hl] at *
 ·rw [opp_e3 (by omega) hi]
  exact h.right i hi k hk
 ·rw [opp_e3 hi (by omega)]
  exact h.left i hi k hk
 ·rw [opp_dual h hi]
  exact h.dual i hi
 ·have d := h.dual i hi
  rw [opp_dual h hi, opp_dual h (by omega)]
  exact h.invo i hi
 ·have d := h.dual i hi
  rw [opp_dual h hi, opp_e3 hi hj, opp_e3 (by omega) hk]
  exact h.turn2 j hj i hi k hk
 ·have d := h.dual j hj
  rw [opp_dual h hj, opp_e3 hi hj, opp_e3 hk (by omega)]
  exact h.turn j hj i hi k hk
 ·have a : sumTo (brL (oppL t t.length) i j k l) t.length = sumTo (brR t k j i l) t.length := sum_congr fun m hm => by
   unfold brL brR
   rw [opp_e3 hi hj, opp_e3 hm hk]
  have b : sumTo (brR (oppL t t.length) i j k l) t.length = sumTo (brL t k j i l) t.length := sum_congr fun m hm => by
   unfold brL brR
   rw [opp_e3 hj hk, opp_e3 hi hm]
  rw [a, b]
  exact (h.brack k hk j hj i hi l hl2).symm
theorem oneV_right (h : RingP t) {x : List Int} (hx : x.length = t.length) : prodL t x (oneV t.length 0) = x := by
 have h1 := h.cube.1
 apply List.ext_getElem
 ·rw [prodL_len, hx]
 ·intro k h2 h3
  have hk : k < t.length := by rw [← hx]; exact h3
  have e : (prodL t x (oneV t.length 0)).getD k 0 = x.getD k 0 := by
   rw [prodL_get hk]
   unfold prodV
   have a : sumTo (fun i => sumTo (pTm t x (oneV t.length 0) k i) t.length) t.length = sumTo (fun i => if i = k then x.getD i 0 else 0) t.length := by
    refine sum_congr fun i hi => ?_
    have b : sumTo (pTm t x (oneV t.length 0) k i) t.length = sumTo (fun j => if j = 0 then x.getD i 0 * e3 t i 0 k else 0) t.length := by
     refine sum_congr fun j hj => ?_
     unfold pTm
     rw [oneV_get hj]
     by_cases e : j = 0
     ·subst e
      rw [if_pos rfl, if_pos rfl, Int.mul_one]
     ·rw [if_neg e, if_neg e]
      simp
    rw [b, sum_one (f := fun _ => x.getD i 0 * e3 t i 0 k) (show 0 < t.length by omega), h.right i hi k hk]
    unfold dl
    by_cases e : i = k
    ·simp [e]
    ·rw [if_neg (show ¬ ((i : Nat) : Int) = ((k : Nat) : Int) by omega), if_neg e, Int.mul_zero]
   rw [a, sum_one (f := fun i => x.getD i 0) hk]
  rw [List.getD_eq_getElem?_getD, List.getElem?_eq_getElem h2, List.getD_eq_getElem?_getD, List.getElem?_eq_getElem h3] at e
  simpa using e
theorem pwv_add (h : RingP t) {i a : Nat} {u : List Int} (hu : pwv t i a = some u) : ∀ {b : Nat} {v w : List Int}, pwv t i b = some v → pwv t i (a + b) = some w → prodL t u v = w
 | 0, v, w, hv, hw => by
  have hv' : oneV t.length 0 = v := Option.some.inj hv
  have hw' : some u = some w := hu.symm.trans hw
  rw [← hv', oneV_right h (pwv_X h.cube hu).1]
  exact Option.some.inj hw'
 | b + 1, v, w, hv, hw => by
  have hw : pwv t i (a + b + 1) = some w := hw
  simp only [pwv] at hv hw
  cases hv1 : pwv t i b with
  | none => rw [hv1] at hv; cases hv
  | some v1 =>
   cases hw1 : pwv t i (a + b) with
   | none => rw [hw1] at hw; cases hw
   | some w1 =>
    rw [hv1] at hv
    rw [hw1] at hw
    simp only at hv hw
    split at hv
    ·cases hv
    ·split at hw
     ·cases hw
     ·rw [← Option.some.inj hv, ← Option.some.inj hw, ← pwv_add h hu hv1 hw1, prodL_assoc h]
end
end Go.Pl
