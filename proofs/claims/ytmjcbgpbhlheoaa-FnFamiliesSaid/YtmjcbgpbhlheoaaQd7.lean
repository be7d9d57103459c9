import Derived.Test.YtmjcbgpbhlheoaaKp2
import Derived.Test.YtmjcbgpbhlheoaaKp1
import Derived.Test.YtmjcbgpbhlheoaaQd3
import Derived.Test.YtmjcbgpbhlheoaaPl3
set_option linter.unusedSimpArgs false
set_option linter.unusedVariables false
namespace Go.Pl
open Go.Aw
theorem ring_of {n : Nat} {F : Gf} {d : Nat → Nat} (h1 : 1 ≤ n) (h16 : n ≤ 16)
  (hb : ∀ i, i < n → ∀ j, j < n → ∀ k, k < n → InM (F i j k))
  (hl : ∀ i, i < n → ∀ k, k < n → F 0 i k = dl i k)
  (hr : ∀ i, i < n → ∀ k, k < n → F i 0 k = dl i k)
  (hd : ∀ i, i < n → d i < n) (hdd : ∀ i, i < n → d (d i) = i)
  (h0 : ∀ i, i < n → ∀ j, j < n → F i j 0 = if j = d i then 1 else 0)
  (ht : ∀ i, i < n → ∀ j, j < n → ∀ k, k < n → F i j k = F (d i) k j)
  (ht2 : ∀ i, i < n → ∀ j, j < n → ∀ k, k < n → F i j k = F k (d j) i)
  (hbr : ∀ i, i < n → ∀ j, j < n → ∀ k, k < n → ∀ l, l < n → sumTo (fun m => F i j m * F m k l) n = sumTo (fun m => F j k m * F i m l) n) :
  RingP (cubF n F) := by
 have hdu : ∀ i, i < n → dual (cubF n F) i = d i := fun i hi => by
  refine dual_uniq (by rw [cubF_length]; exact hd i hi) ?_ ?_
  ·rw [cubF_e3 hi (hd i hi) (by omega), h0 i hi _ (hd i hi), if_pos rfl]
  ·intro k hk hne
   rw [cubF_length] at hk
   rw [cubF_e3 hi hk (by omega), h0 i hi k hk, if_neg hne]
 refine ⟨⟨?_, ?_, ?_⟩, ?_, ?_, ?_, ?_, ?_, ?_, ?_⟩
 ·rw [cubF_length]; exact h1
 ·rw [cubF_length]; exact h16
 ·intro i hi
  rw [cubF_length] at hi ⊢
  refine ⟨cubF_mat hi, fun j hj => ⟨cubF_row hi hj, fun k hk => ?_⟩⟩
  have := hb i hi j hj k hk
  rw [← cubF_e3 (f := F) hi hj hk] at this
  exact this
 all_goals intro i hi; rw [cubF_length] at hi
 ·intro k hk
  rw [cubF_length] at hk
  rw [cubF_e3 (by omega) hi hk, hl i hi k hk]
 ·intro k hk
  rw [cubF_length] at hk
  rw [cubF_e3 hi (by omega) hk, hr i hi k hk]
 ·rw [cubF_length, hdu i hi]
  have := hd i hi
  omega
 ·rw [hdu i hi, Int.toNat_natCast, hdu _ (hd i hi), hdd i hi]
 ·intro j hj k hk
  rw [cubF_length] at hj hk
  rw [hdu i hi, Int.toNat_natCast, cubF_e3 hi hj hk, cubF_e3 (hd i hi) hk hj, ht i hi j hj k hk]
 ·intro j hj k hk
  rw [cubF_length] at hj hk
  rw [hdu j hj, Int.toNat_natCast, cubF_e3 hi hj hk, cubF_e3 hk (hd j hj) hi, ht2 i hi j hj k hk]
 ·intro j hj k hk l hl'
  rw [cubF_length] at hj hk hl' ⊢
  have a : sumTo (brL (cubF n F) i j k l) n = sumTo (fun m => F i j m * F m k l) n := sum_congr fun m hm => by
   unfold brL; rw [cubF_e3 hi hj hm, cubF_e3 hm hk hl']
  have b : sumTo (brR (cubF n F) i j k l) n = sumTo (fun m => F j k m * F i m l) n := sum_congr fun m hm => by
   unfold brR; rw [cubF_e3 hj hk hm, cubF_e3 hi hm hl']
  rw [a, b, hbr i hi j hj k hk l hl']
structure GrpP (n : Nat) (op : Nat → Nat → Nat) (inv : Nat → Nat) : Prop where
 pos : 1 ≤ n
 lt : ∀ x, x < n → ∀ y, y < n → op x y < n
 ilt : ∀ x, x < n → inv x < n
 zl : ∀ x, x < n → op 0 x = x
 zr : ∀ x, x < n → op x 0 = x
 il : ∀ x, x < n → op (inv x) x = 0
 ir : ∀ x, x < n → op x (inv x) = 0
 as : ∀ x, x < n → ∀ y, y < n → ∀ z, z < n → op (op x y) z = op x (op y z)
def opG (op : Nat → Nat → Nat) : Gf := fun x y z => if z = op x y then 1 else 0
section
variable {n : Nat} {op : Nat → Nat → Nat} {inv : Nat → Nat}
theorem GrpP.left (h : GrpP n op inv) {x y z : Nat} (hx : x < n) (hy : y < n) (hz : z < n) : z = op x y ↔ y = op (inv x) z := by
 constructor
 ·rintro rfl
  rw [← h.as _ (h.ilt x hx) _ hx _ hy, h.il x hx, h.zl y hy]
 ·rintro rfl
  rw [← h.as _ hx _ (h.ilt x hx) _ hz, h.ir x hx, h.zl z hz]
theorem GrpP.right (h : GrpP n op inv) {x y z : Nat} (hx : x < n) (hy : y < n) (hz : z < n) : z = op x y ↔ x = op z (inv y) := by
 constructor
 ·rintro rfl
  rw [h.as _ hx _ hy _ (h.ilt y hy), h.ir y hy, h.zr x hx]
 ·rintro rfl
  rw [h.as _ hz _ (h.ilt y hy) _ hy, h.il y hy, h.zr z hz]
theorem GrpP.inv2 (h : GrpP n op inv) {x : Nat} (hx : x < n) : inv (inv x) = x := by
 have h1 := (h.left (h.ilt x hx) hx h.pos).1 (h.il x hx).symm
 rw [h.zr _ (h.ilt _ (h.ilt x hx))] at h1
 exact h1.symm
theorem GrpP.zero (h : GrpP n op inv) {x y : Nat} (hx : x < n) (hy : y < n) : 0 = op x y ↔ y = inv x := by
 rw [h.left hx hy h.pos, h.zr _ (h.ilt x hx)]
theorem opG_InM {x y z : Nat} : InM (opG op x y z) := by unfold InM opG; split <;> decide
theorem ite_iff {p q : Prop} [Decidable p] [Decidable q] {a b : Int} (h : p ↔ q) : (if p then a else b) = if q then a else b := by
 by_cases e : p
 ·rw [if_pos e, if_pos (h.1 e)]
 ·rw [if_neg e, if_neg (fun e2 => e (h.2 e2))]
theorem dl_ite {i k : Nat} : dl i k = if i = k then 1 else 0 := by unfold dl; exact ite_iff Int.natCast_inj
theorem opG_sum (h : GrpP n op inv) {i j : Nat} (hi : i < n) (hj : j < n) (f : Nat → Int) : sumTo (fun m => opG op i j m * f m) n = f (op i j) := by
 unfold opG
 rw [sum_pick (h.lt i hi j hj), Int.one_mul]
theorem GrpP.ring (h : GrpP n op inv) (h16 : n ≤ 16) : RingP (cubF n (opG op)) := by
 have h1 := h.pos
 refine ring_of (d := inv) h1 h16 (fun _ _ _ _ _ _ => opG_InM) ?_ ?_ h.ilt (fun i hi => h.inv2 hi) ?_ ?_ ?_ ?_
 ·intro i hi k hk
  unfold opG
  rw [h.zl i hi, dl_ite]; exact ite_iff eq_comm
 ·intro i hi k hk
  unfold opG
  rw [h.zr i hi, dl_ite]; exact ite_iff eq_comm
 ·intro i hi j hj
  exact ite_iff (h.zero hi hj)
 ·intro i hi j hj k hk
  exact ite_iff (h.left hi hj hk)
 ·intro i hi j hj k hk
  exact ite_iff (h.right hi hj hk)
 ·intro i hi j hj k hk l hl
  rw [opG_sum h hi hj, opG_sum h hj hk]
  unfold opG
  rw [h.as i hi j hj k hk]
def nrF (n : Nat) (op : Nat → Nat → Nat) (inv : Nat → Nat) (k : Int) : Gf := fun x y z =>
 if x < n then (if y < n then (if z < n then opG op x y z else 0) else if z < n then 0 else 1)
 else if y < n then (if z < n then 0 else 1) else if z < n then 1 else k
theorem nrF_ggg {k : Int} {x y z : Nat} (hx : x < n) (hy : y < n) (hz : z < n) : nrF n op inv k x y z = opG op x y z := by unfold nrF; rw [if_pos hx, if_pos hy, if_pos hz]
theorem nrF_ggN {k : Int} {x y : Nat} (hx : x < n) (hy : y < n) : nrF n op inv k x y n = 0 := by unfold nrF; rw [if_pos hx, if_pos hy, if_neg (Nat.lt_irrefl n)]
theorem nrF_gNg {k : Int} {x z : Nat} (hx : x < n) (hz : z < n) : nrF n op inv k x n z = 0 := by unfold nrF; rw [if_pos hx, if_neg (Nat.lt_irrefl n), if_pos hz]
theorem nrF_gNN {k : Int} {x : Nat} (hx : x < n) : nrF n op inv k x n n = 1 := by unfold nrF; rw [if_pos hx, if_neg (Nat.lt_irrefl n), if_neg (Nat.lt_irrefl n)]
theorem nrF_Ngg {k : Int} {y z : Nat} (hy : y < n) (hz : z < n) : nrF n op inv k n y z = 0 := by unfold nrF; rw [if_neg (Nat.lt_irrefl n), if_pos hy, if_pos hz]
theorem nrF_NgN {k : Int} {y : Nat} (hy : y < n) : nrF n op inv k n y n = 1 := by unfold nrF; rw [if_neg (Nat.lt_irrefl n), if_pos hy, if_neg (Nat.lt_irrefl n)]
theorem nrF_NNg {k : Int} {z : Nat} (hz : z < n) : nrF n op inv k n n z = 1 := by unfold nrF; rw [if_neg (Nat.lt_irrefl n), if_neg (Nat.lt_irrefl n), if_pos hz]
theorem nrF_NNN {k : Int} : nrF n op inv k n n n = k := by unfold nrF; rw [if_neg (Nat.lt_irrefl n), if_neg (Nat.lt_irrefl n), if_neg (Nat.lt_irrefl n)]
theorem br4 {f g f' g' : Nat → Int} {n : Nat} {a' b' : Int} (h1 : ∀ m, m < n → f m = f' m) (h2 : ∀ m, m < n → g m = g' m) (h3 : f n = a') (h4 : g n = b') (h : sumTo f' n + a' = sumTo g' n + b') : sumTo f (n + 1) = sumTo g (n + 1) := by
 show sumTo f n + f n = sumTo g n + g n
 rw [sum_congr h1, sum_congr h2, h3, h4, h]
theorem lt_or_n {x : Nat} (h : x < n + 1) : x < n ∨ x = n := by omega
theorem sum_op_l (h : GrpP n op inv) {j k : Nat} (hj : j < n) : sumTo (fun m => opG op m j k) n = if k < n then 1 else 0 := by
 by_cases hk : k < n
 ·rw [if_pos hk, ← sum_one (f := fun _ => 1) (h.lt k hk _ (h.ilt j hj))]
  exact sum_congr fun m hm => ite_iff (h.right hm hj hk)
 ·rw [if_neg hk, ← sum_zero (n := n)]
  refine sum_congr fun m hm => if_neg fun e => hk ?_
  rw [e]; exact h.lt m hm j hj
theorem sum_op_r (h : GrpP n op inv) {j k : Nat} (hj : j < n) : sumTo (fun m => opG op j m k) n = if k < n then 1 else 0 := by
 by_cases hk : k < n
 ·rw [if_pos hk, ← sum_one (f := fun _ => 1) (h.lt _ (h.ilt j hj) k hk)]
  exact sum_congr fun m hm => ite_iff (h.left hj hm hk)
 ·rw [if_neg hk, ← sum_zero (n := n)]
  refine sum_congr fun m hm => if_neg fun e => hk ?_
  rw [e]; exact h.lt j hj m hm
theorem GrpP.near (h : GrpP n op inv) (h15 : n ≤ 15) {k : Int} (k0 : 0 ≤ k) (k1 : k ≤ 1000) : RingP (cubF (n + 1) (nrF n op inv k)) := by
 have h1 := h.pos
 have hin : ∀ x, x < n → inv x < n := h.ilt
 refine ring_of (d := fun x => if x < n then inv x else n) (by omega) (by omega) ?_ ?_ ?_ ?_ ?_ ?_ ?_ ?_ ?_
 ·intro i _ j _ l _
  unfold nrF
  (repeat' split) <;> first | exact opG_InM | exact ⟨k0, k1⟩ | (unfold InM; decide)
 ·intro i hi l hl
  rcases lt_or_n hi with hi | rfl <;> rcases lt_or_n hl with hl | rfl
  ·rw [nrF_ggg h1 hi hl]; unfold opG; rw [h.zl i hi, dl_ite]; exact ite_iff eq_comm
  ·rw [nrF_ggN h1 hi, dl_ite, if_neg (by omega)]
  ·rw [nrF_gNg h1 hl, dl_ite, if_neg (by omega)]
  ·rw [nrF_gNN h1, dl_ite, if_pos rfl]
 ·intro i hi l hl
  rcases lt_or_n hi with hi | rfl <;> rcases lt_or_n hl with hl | rfl
  ·rw [nrF_ggg hi h1 hl]; unfold opG; rw [h.zr i hi, dl_ite]; exact ite_iff eq_comm
  ·rw [nrF_ggN hi h1, dl_ite, if_neg (by omega)]
  ·rw [nrF_Ngg h1 hl, dl_ite, if_neg (by omega)]
  ·rw [nrF_NgN h1, dl_ite, if_pos rfl]
 ·intro i hi
  split
  ·have := h.ilt i (by assumption); omega
  ·omega
 ·intro i hi
  rcases lt_or_n hi with hi | rfl
  ·rw [if_pos hi, if_pos (h.ilt i hi), h.inv2 hi]
  ·rw [if_neg (Nat.lt_irrefl i), if_neg (Nat.lt_irrefl i)]
 ·intro i hi j hj
  rcases lt_or_n hi with hi | rfl <;> rcases lt_or_n hj with hj | rfl
  ·rw [nrF_ggg hi hj h1, if_pos hi]; exact ite_iff (h.zero hi hj)
  ·rw [nrF_gNg hi h1, if_pos hi, if_neg (by have := hin i hi; omega)]
  ·rw [nrF_Ngg hj h1, if_neg (Nat.lt_irrefl i), if_neg (by omega)]
  ·rw [nrF_NNg h1, if_neg (Nat.lt_irrefl _), if_pos rfl]
 ·intro i hi j hj l hl
  rcases lt_or_n hi with hi | rfl <;> rcases lt_or_n hj with hj | rfl <;> rcases lt_or_n hl with hl | rfl
  ·rw [if_pos hi, nrF_ggg hi hj hl, nrF_ggg (hin i hi) hl hj]; exact ite_iff (h.left hi hj hl)
  ·rw [if_pos hi, nrF_ggN hi hj, nrF_gNg (hin i hi) hj]
  ·rw [if_pos hi, nrF_gNg hi hl, nrF_ggN (hin i hi) hl]
  ·rw [if_pos hi, nrF_gNN hi, nrF_gNN (hin i hi)]
  ·rw [if_neg (Nat.lt_irrefl i), nrF_Ngg hj hl, nrF_Ngg hl hj]
  ·rw [if_neg (Nat.lt_irrefl _), nrF_NgN hj, nrF_NNg hj]
  ·rw [if_neg (Nat.lt_irrefl _), nrF_NNg hl, nrF_NgN hl]
  ·rw [if_neg (Nat.lt_irrefl _), nrF_NNN]
 ·intro i hi j hj l hl
  rcases lt_or_n hi with hi | rfl <;> rcases lt_or_n hj with hj | rfl <;> rcases lt_or_n hl with hl | rfl
  ·rw [if_pos hj, nrF_ggg hi hj hl, nrF_ggg hl (hin j hj) hi]; exact ite_iff (h.right hi hj hl)
  ·rw [if_pos hj, nrF_ggN hi hj, nrF_Ngg (hin j hj) hi]
  ·rw [if_neg (Nat.lt_irrefl _), nrF_gNg hi hl, nrF_gNg hl hi]
  ·rw [if_neg (Nat.lt_irrefl _), nrF_gNN hi, nrF_NNg hi]
  ·rw [if_pos hj, nrF_Ngg hj hl, nrF_ggN hl (hin j hj)]
  ·rw [if_pos hj, nrF_NgN hj, nrF_NgN (hin j hj)]
  ·rw [if_neg (Nat.lt_irrefl _), nrF_NNg hl, nrF_gNN hl]
  ·rw [if_neg (Nat.lt_irrefl _), nrF_NNN]
 ·intro i hi j hj l hl q hq
  rcases lt_or_n hi with hi | hi <;> rcases lt_or_n hj with hj | hj <;> rcases lt_or_n hl with hl | hl <;> rcases lt_or_n hq with hq | hq
  ·refine br4 (f' := fun m => opG op i j m * opG op m l q) (g' := fun m => opG op j l m * opG op i m q) (a' := 0) (b' := 0) (fun m hm => ?_) (fun m hm => ?_) ?_ ?_ ?_
   ·simp only [hi, hj, hl, hq, hm, nrF_ggg, nrF_ggN, nrF_gNg, nrF_gNN, nrF_Ngg, nrF_NgN, nrF_NNg, nrF_NNN, Int.mul_zero, Int.zero_mul, Int.one_mul, Int.mul_one]
   ·simp only [hi, hj, hl, hq, hm, nrF_ggg, nrF_ggN, nrF_gNg, nrF_gNN, nrF_Ngg, nrF_NgN, nrF_NNg, nrF_NNN, Int.mul_zero, Int.zero_mul, Int.one_mul, Int.mul_one]
   ·simp only [hi, hj, hl, hq, nrF_ggg, nrF_ggN, nrF_gNg, nrF_gNN, nrF_Ngg, nrF_NgN, nrF_NNg, nrF_NNN, Int.mul_zero, Int.zero_mul, Int.one_mul, Int.mul_one]
   ·simp only [hi, hj, hl, hq, nrF_ggg, nrF_ggN, nrF_gNg, nrF_gNN, nrF_Ngg, nrF_NgN, nrF_NNg, nrF_NNN, Int.mul_zero, Int.zero_mul, Int.one_mul, Int.mul_one]
   ·rw [opG_sum h hi hj, opG_sum h hj hl]; unfold opG; rw [h.as i hi j hj l hl]
  ·refine br4 (f' := fun _ => 0) (g' := fun _ => 0) (a' := 0) (b' := 0) (fun m hm => ?_) (fun m hm => ?_) ?_ ?_ ?_
   ·simp only [hi, hj, hl, hq, hm, nrF_ggg, nrF_ggN, nrF_gNg, nrF_gNN, nrF_Ngg, nrF_NgN, nrF_NNg, nrF_NNN, Int.mul_zero, Int.zero_mul, Int.one_mul, Int.mul_one]
   ·simp only [hi, hj, hl, hq, hm, nrF_ggg, nrF_ggN, nrF_gNg, nrF_gNN, nrF_Ngg, nrF_NgN, nrF_NNg, nrF_NNN, Int.mul_zero, Int.zero_mul, Int.one_mul, Int.mul_one]
   ·simp only [hi, hj, hl, hq, nrF_ggg, nrF_ggN, nrF_gNg, nrF_gNN, nrF_Ngg, nrF_NgN, nrF_NNg, nrF_NNN, Int.mul_zero, Int.zero_mul, Int.one_mul, Int.mul_one]
   ·simp only [hi, hj, hl, hq, nrF_ggg, nrF_ggN, nrF_gNg, nrF_gNN, nrF_Ngg, nrF_NgN, nrF_NNg, nrF_NNN, Int.mul_zero, Int.zero_mul, Int.one_mul, Int.mul_one]
   ·rfl
  ·refine br4 (f' := fun _ => 0) (g' := fun _ => 0) (a' := 0) (b' := 0) (fun m hm => ?_) (fun m hm => ?_) ?_ ?_ ?_
   ·simp only [hi, hj, hl, hq, hm, nrF_ggg, nrF_ggN, nrF_gNg, nrF_gNN, nrF_Ngg, nrF_NgN, nrF_NNg, nrF_NNN, Int.mul_zero, Int.zero_mul, Int.one_mul, Int.mul_one]
   ·simp only [hi, hj, hl, hq, hm, nrF_ggg, nrF_ggN, nrF_gNg, nrF_gNN, nrF_Ngg, nrF_NgN, nrF_NNg, nrF_NNN, Int.mul_zero, Int.zero_mul, Int.one_mul, Int.mul_one]
   ·simp only [hi, hj, hl, hq, nrF_ggg, nrF_ggN, nrF_gNg, nrF_gNN, nrF_Ngg, nrF_NgN, nrF_NNg, nrF_NNN, Int.mul_zero, Int.zero_mul, Int.one_mul, Int.mul_one]
   ·simp only [hi, hj, hl, hq, nrF_ggg, nrF_ggN, nrF_gNg, nrF_gNN, nrF_Ngg, nrF_NgN, nrF_NNg, nrF_NNN, Int.mul_zero, Int.zero_mul, Int.one_mul, Int.mul_one]
   ·rfl
  ·refine br4 (f' := fun m => opG op i j m * 1) (g' := fun _ => 0) (a' := 0) (b' := 1) (fun m hm => ?_) (fun m hm => ?_) ?_ ?_ ?_
   ·simp only [hi, hj, hl, hq, hm, nrF_ggg, nrF_ggN, nrF_gNg, nrF_gNN, nrF_Ngg, nrF_NgN, nrF_NNg, nrF_NNN, Int.mul_zero, Int.zero_mul, Int.one_mul, Int.mul_one]
   ·simp only [hi, hj, hl, hq, hm, nrF_ggg, nrF_ggN, nrF_gNg, nrF_gNN, nrF_Ngg, nrF_NgN, nrF_NNg, nrF_NNN, Int.mul_zero, Int.zero_mul, Int.one_mul, Int.mul_one]
   ·simp only [hi, hj, hl, hq, nrF_ggg, nrF_ggN, nrF_gNg, nrF_gNN, nrF_Ngg, nrF_NgN, nrF_NNg, nrF_NNN, Int.mul_zero, Int.zero_mul, Int.one_mul, Int.mul_one]
   ·simp only [hi, hj, hl, hq, nrF_ggg, nrF_ggN, nrF_gNg, nrF_gNN, nrF_Ngg, nrF_NgN, nrF_NNg, nrF_NNN, Int.mul_zero, Int.zero_mul, Int.one_mul, Int.mul_one]
   ·rw [opG_sum h hi hj, sum_zero]; rfl
  ·refine br4 (f' := fun _ => 0) (g' := fun _ => 0) (a' := 0) (b' := 0) (fun m hm => ?_) (fun m hm => ?_) ?_ ?_ ?_
   ·simp only [hi, hj, hl, hq, hm, nrF_ggg, nrF_ggN, nrF_gNg, nrF_gNN, nrF_Ngg, nrF_NgN, nrF_NNg, nrF_NNN, Int.mul_zero, Int.zero_mul, Int.one_mul, Int.mul_one]
   ·simp only [hi, hj, hl, hq, hm, nrF_ggg, nrF_ggN, nrF_gNg, nrF_gNN, nrF_Ngg, nrF_NgN, nrF_NNg, nrF_NNN, Int.mul_zero, Int.zero_mul, Int.one_mul, Int.mul_one]
   ·simp only [hi, hj, hl, hq, nrF_ggg, nrF_ggN, nrF_gNg, nrF_gNN, nrF_Ngg, nrF_NgN, nrF_NNg, nrF_NNN, Int.mul_zero, Int.zero_mul, Int.one_mul, Int.mul_one]
   ·simp only [hi, hj, hl, hq, nrF_ggg, nrF_ggN, nrF_gNg, nrF_gNN, nrF_Ngg, nrF_NgN, nrF_NNg, nrF_NNN, Int.mul_zero, Int.zero_mul, Int.one_mul, Int.mul_one]
   ·rfl
  ·refine br4 (f' := fun _ => 0) (g' := fun _ => 0) (a' := 1) (b' := 1) (fun m hm => ?_) (fun m hm => ?_) ?_ ?_ ?_
   ·simp only [hi, hj, hl, hq, hm, nrF_ggg, nrF_ggN, nrF_gNg, nrF_gNN, nrF_Ngg, nrF_NgN, nrF_NNg, nrF_NNN, Int.mul_zero, Int.zero_mul, Int.one_mul, Int.mul_one]
   ·simp only [hi, hj, hl, hq, hm, nrF_ggg, nrF_ggN, nrF_gNg, nrF_gNN, nrF_Ngg, nrF_NgN, nrF_NNg, nrF_NNN, Int.mul_zero, Int.zero_mul, Int.one_mul, Int.mul_one]
   ·simp only [hi, hj, hl, hq, nrF_ggg, nrF_ggN, nrF_gNg, nrF_gNN, nrF_Ngg, nrF_NgN, nrF_NNg, nrF_NNN, Int.mul_zero, Int.zero_mul, Int.one_mul, Int.mul_one]
   ·simp only [hi, hj, hl, hq, nrF_ggg, nrF_ggN, nrF_gNg, nrF_gNN, nrF_Ngg, nrF_NgN, nrF_NNg, nrF_NNN, Int.mul_zero, Int.zero_mul, Int.one_mul, Int.mul_one]
   ·rfl
  ·refine br4 (f' := fun _ => 0) (g' := fun m => opG op i m q) (a' := 1) (b' := 0) (fun m hm => ?_) (fun m hm => ?_) ?_ ?_ ?_
   ·simp only [hi, hj, hl, hq, hm, nrF_ggg, nrF_ggN, nrF_gNg, nrF_gNN, nrF_Ngg, nrF_NgN, nrF_NNg, nrF_NNN, Int.mul_zero, Int.zero_mul, Int.one_mul, Int.mul_one]
   ·simp only [hi, hj, hl, hq, hm, nrF_ggg, nrF_ggN, nrF_gNg, nrF_gNN, nrF_Ngg, nrF_NgN, nrF_NNg, nrF_NNN, Int.mul_zero, Int.zero_mul, Int.one_mul, Int.mul_one]
   ·simp only [hi, hj, hl, hq, nrF_ggg, nrF_ggN, nrF_gNg, nrF_gNN, nrF_Ngg, nrF_NgN, nrF_NNg, nrF_NNN, Int.mul_zero, Int.zero_mul, Int.one_mul, Int.mul_one]
   ·simp only [hi, hj, hl, hq, nrF_ggg, nrF_ggN, nrF_gNg, nrF_gNN, nrF_Ngg, nrF_NgN, nrF_NNg, nrF_NNN, Int.mul_zero, Int.zero_mul, Int.one_mul, Int.mul_one]
   ·rw [sum_op_r h hi, if_pos hq, sum_zero]; rfl
  ·refine br4 (f' := fun _ => 0) (g' := fun _ => 0) (a' := k) (b' := k) (fun m hm => ?_) (fun m hm => ?_) ?_ ?_ ?_
   ·simp only [hi, hj, hl, hq, hm, nrF_ggg, nrF_ggN, nrF_gNg, nrF_gNN, nrF_Ngg, nrF_NgN, nrF_NNg, nrF_NNN, Int.mul_zero, Int.zero_mul, Int.one_mul, Int.mul_one]
   ·simp only [hi, hj, hl, hq, hm, nrF_ggg, nrF_ggN, nrF_gNg, nrF_gNN, nrF_Ngg, nrF_NgN, nrF_NNg, nrF_NNN, Int.mul_zero, Int.zero_mul, Int.one_mul, Int.mul_one]
   ·simp only [hi, hj, hl, hq, nrF_ggg, nrF_ggN, nrF_gNg, nrF_gNN, nrF_Ngg, nrF_NgN, nrF_NNg, nrF_NNN, Int.mul_zero, Int.zero_mul, Int.one_mul, Int.mul_one]
   ·simp only [hi, hj, hl, hq, nrF_ggg, nrF_ggN, nrF_gNg, nrF_gNN, nrF_Ngg, nrF_NgN, nrF_NNg, nrF_NNN, Int.mul_zero, Int.zero_mul, Int.one_mul, Int.mul_one]
   ·rfl
  ·refine br4 (f' := fun _ => 0) (g' := fun _ => 0) (a' := 0) (b' := 0) (fun m hm => ?_) (fun m hm => ?_) ?_ ?_ ?_
   ·simp only [hi, hj, hl, hq, hm, nrF_ggg, nrF_ggN, nrF_gNg, nrF_gNN, nrF_Ngg, nrF_NgN, nrF_NNg, nrF_NNN, Int.mul_zero, Int.zero_mul, Int.one_mul, Int.mul_one]
   ·simp only [hi, hj, hl, hq, hm, nrF_ggg, nrF_ggN, nrF_gNg, nrF_gNN, nrF_Ngg, nrF_NgN, nrF_NNg, nrF_NNN, Int.mul_zero, Int.zero_mul, Int.one_mul, Int.mul_one]
   ·simp only [hi, hj, hl, hq, nrF_ggg, nrF_ggN, nrF_gNg, nrF_gNN, nrF_Ngg, nrF_NgN, nrF_NNg, nrF_NNN, Int.mul_zero, Int.zero_mul, Int.one_mul, Int.mul_one]
   ·simp only [hi, hj, hl, hq, nrF_ggg, nrF_ggN, nrF_gNg, nrF_gNN, nrF_Ngg, nrF_NgN, nrF_NNg, nrF_NNN, Int.mul_zero, Int.zero_mul, Int.one_mul, Int.mul_one]
   ·rfl
  ·refine br4 (f' := fun _ => 0) (g' := fun m => opG op j l m * 1) (a' := 1) (b' := 0) (fun m hm => ?_) (fun m hm => ?_) ?_ ?_ ?_
   ·simp only [hi, hj, hl, hq, hm, nrF_ggg, nrF_ggN, nrF_gNg, nrF_gNN, nrF_Ngg, nrF_NgN, nrF_NNg, nrF_NNN, Int.mul_zero, Int.zero_mul, Int.one_mul, Int.mul_one]
   ·simp only [hi, hj, hl, hq, hm, nrF_ggg, nrF_ggN, nrF_gNg, nrF_gNN, nrF_Ngg, nrF_NgN, nrF_NNg, nrF_NNN, Int.mul_zero, Int.zero_mul, Int.one_mul, Int.mul_one]
   ·simp only [hi, hj, hl, hq, nrF_ggg, nrF_ggN, nrF_gNg, nrF_gNN, nrF_Ngg, nrF_NgN, nrF_NNg, nrF_NNN, Int.mul_zero, Int.zero_mul, Int.one_mul, Int.mul_one]
   ·simp only [hi, hj, hl, hq, nrF_ggg, nrF_ggN, nrF_gNg, nrF_gNN, nrF_Ngg, nrF_NgN, nrF_NNg, nrF_NNN, Int.mul_zero, Int.zero_mul, Int.one_mul, Int.mul_one]
   ·rw [opG_sum h hj hl, sum_zero]; rfl
  ·refine br4 (f' := fun _ => 0) (g' := fun _ => 0) (a' := 1) (b' := 1) (fun m hm => ?_) (fun m hm => ?_) ?_ ?_ ?_
   ·simp only [hi, hj, hl, hq, hm, nrF_ggg, nrF_ggN, nrF_gNg, nrF_gNN, nrF_Ngg, nrF_NgN, nrF_NNg, nrF_NNN, Int.mul_zero, Int.zero_mul, Int.one_mul, Int.mul_one]
   ·simp only [hi, hj, hl, hq, hm, nrF_ggg, nrF_ggN, nrF_gNg, nrF_gNN, nrF_Ngg, nrF_NgN, nrF_NNg, nrF_NNN, Int.mul_zero, Int.zero_mul, Int.one_mul, Int.mul_one]
   ·simp only [hi, hj, hl, hq, nrF_ggg, nrF_ggN, nrF_gNg, nrF_gNN, nrF_Ngg, nrF_NgN, nrF_NNg, nrF_NNN, Int.mul_zero, Int.zero_mul, Int.one_mul, Int.mul_one]
   ·simp only [hi, hj, hl, hq, nrF_ggg, nrF_ggN, nrF_gNg, nrF_gNN, nrF_Ngg, nrF_NgN, nrF_NNg, nrF_NNN, Int.mul_zero, Int.zero_mul, Int.one_mul, Int.mul_one]
   ·rfl
  ·refine br4 (f' := fun _ => 0) (g' := fun _ => 0) (a' := k) (b' := k) (fun m hm => ?_) (fun m hm => ?_) ?_ ?_ ?_
   ·simp only [hi, hj, hl, hq, hm, nrF_ggg, nrF_ggN, nrF_gNg, nrF_gNN, nrF_Ngg, nrF_NgN, nrF_NNg, nrF_NNN, Int.mul_zero, Int.zero_mul, Int.one_mul, Int.mul_one]
   ·simp only [hi, hj, hl, hq, hm, nrF_ggg, nrF_ggN, nrF_gNg, nrF_gNN, nrF_Ngg, nrF_NgN, nrF_NNg, nrF_NNN, Int.mul_zero, Int.zero_mul, Int.one_mul, Int.mul_one]
   ·simp only [hi, hj, hl, hq, nrF_ggg, nrF_ggN, nrF_gNg, nrF_gNN, nrF_Ngg, nrF_NgN, nrF_NNg, nrF_NNN, Int.mul_zero, Int.zero_mul, Int.one_mul, Int.mul_one]
   ·simp only [hi, hj, hl, hq, nrF_ggg, nrF_ggN, nrF_gNg, nrF_gNN, nrF_Ngg, nrF_NgN, nrF_NNg, nrF_NNN, Int.mul_zero, Int.zero_mul, Int.one_mul, Int.mul_one]
   ·rfl
  ·refine br4 (f' := fun m => opG op m l q) (g' := fun _ => 0) (a' := 0) (b' := 1) (fun m hm => ?_) (fun m hm => ?_) ?_ ?_ ?_
   ·simp only [hi, hj, hl, hq, hm, nrF_ggg, nrF_ggN, nrF_gNg, nrF_gNN, nrF_Ngg, nrF_NgN, nrF_NNg, nrF_NNN, Int.mul_zero, Int.zero_mul, Int.one_mul, Int.mul_one]
   ·simp only [hi, hj, hl, hq, hm, nrF_ggg, nrF_ggN, nrF_gNg, nrF_gNN, nrF_Ngg, nrF_NgN, nrF_NNg, nrF_NNN, Int.mul_zero, Int.zero_mul, Int.one_mul, Int.mul_one]
   ·simp only [hi, hj, hl, hq, nrF_ggg, nrF_ggN, nrF_gNg, nrF_gNN, nrF_Ngg, nrF_NgN, nrF_NNg, nrF_NNN, Int.mul_zero, Int.zero_mul, Int.one_mul, Int.mul_one]
   ·simp only [hi, hj, hl, hq, nrF_ggg, nrF_ggN, nrF_gNg, nrF_gNN, nrF_Ngg, nrF_NgN, nrF_NNg, nrF_NNN, Int.mul_zero, Int.zero_mul, Int.one_mul, Int.mul_one]
   ·rw [sum_op_l h hl, if_pos hq, sum_zero]; rfl
  ·refine br4 (f' := fun _ => 0) (g' := fun _ => 0) (a' := k) (b' := k) (fun m hm => ?_) (fun m hm => ?_) ?_ ?_ ?_
   ·simp only [hi, hj, hl, hq, hm, nrF_ggg, nrF_ggN, nrF_gNg, nrF_gNN, nrF_Ngg, nrF_NgN, nrF_NNg, nrF_NNN, Int.mul_zero, Int.zero_mul, Int.one_mul, Int.mul_one]
   ·simp only [hi, hj, hl, hq, hm, nrF_ggg, nrF_ggN, nrF_gNg, nrF_gNN, nrF_Ngg, nrF_NgN, nrF_NNg, nrF_NNN, Int.mul_zero, Int.zero_mul, Int.one_mul, Int.mul_one]
   ·simp only [hi, hj, hl, hq, nrF_ggg, nrF_ggN, nrF_gNg, nrF_gNN, nrF_Ngg, nrF_NgN, nrF_NNg, nrF_NNN, Int.mul_zero, Int.zero_mul, Int.one_mul, Int.mul_one]
   ·simp only [hi, hj, hl, hq, nrF_ggg, nrF_ggN, nrF_gNg, nrF_gNN, nrF_Ngg, nrF_NgN, nrF_NNg, nrF_NNN, Int.mul_zero, Int.zero_mul, Int.one_mul, Int.mul_one]
   ·rfl
  ·refine br4 (f' := fun _ => 0) (g' := fun _ => 0) (a' := k) (b' := k) (fun m hm => ?_) (fun m hm => ?_) ?_ ?_ ?_
   ·simp only [hi, hj, hl, hq, hm, nrF_ggg, nrF_ggN, nrF_gNg, nrF_gNN, nrF_Ngg, nrF_NgN, nrF_NNg, nrF_NNN, Int.mul_zero, Int.zero_mul, Int.one_mul, Int.mul_one]
   ·simp only [hi, hj, hl, hq, hm, nrF_ggg, nrF_ggN, nrF_gNg, nrF_gNN, nrF_Ngg, nrF_NgN, nrF_NNg, nrF_NNN, Int.mul_zero, Int.zero_mul, Int.one_mul, Int.mul_one]
   ·simp only [hi, hj, hl, hq, nrF_ggg, nrF_ggN, nrF_gNg, nrF_gNN, nrF_Ngg, nrF_NgN, nrF_NNg, nrF_NNN, Int.mul_zero, Int.zero_mul, Int.one_mul, Int.mul_one]
   ·simp only [hi, hj, hl, hq, nrF_ggg, nrF_ggN, nrF_gNg, nrF_gNN, nrF_Ngg, nrF_NgN, nrF_NNg, nrF_NNN, Int.mul_zero, Int.zero_mul, Int.one_mul, Int.mul_one]
   ·rfl
  ·refine br4 (f' := fun _ => 1) (g' := fun _ => 1) (a' := k * k) (b' := k * k) (fun m hm => ?_) (fun m hm => ?_) ?_ ?_ ?_
   ·simp only [hi, hj, hl, hq, hm, nrF_ggg, nrF_ggN, nrF_gNg, nrF_gNN, nrF_Ngg, nrF_NgN, nrF_NNg, nrF_NNN, Int.mul_zero, Int.zero_mul, Int.one_mul, Int.mul_one]
   ·simp only [hi, hj, hl, hq, hm, nrF_ggg, nrF_ggN, nrF_gNg, nrF_gNN, nrF_Ngg, nrF_NgN, nrF_NNg, nrF_NNN, Int.mul_zero, Int.zero_mul, Int.one_mul, Int.mul_one]
   ·simp only [hi, hj, hl, hq, nrF_ggg, nrF_ggN, nrF_gNg, nrF_gNN, nrF_Ngg, nrF_NgN, nrF_NNg, nrF_NNN, Int.mul_zero, Int.zero_mul, Int.one_mul, Int.mul_one]
   ·simp only [hi, hj, hl, hq, nrF_ggg, nrF_ggN, nrF_gNg, nrF_gNN, nrF_Ngg, nrF_NgN, nrF_NNg, nrF_NNN, Int.mul_zero, Int.zero_mul, Int.one_mul, Int.mul_one]
   ·rfl
end
end Go.Pl
namespace Go.Pl
open Go.Aw
theorem sum_shift {f : Nat → Int} : ∀ {n : Nat}, sumTo f (n + 1) = f 0 + sumTo (fun k => f (k + 1)) n
 | 0 => by show sumTo f 0 + f 0 = f 0 + 0; show (0 : Int) + f 0 = f 0 + 0; omega
 | n + 1 => by
  have ih := sum_shift (f := f) (n := n)
  show sumTo f (n + 1) + f (n + 1) = f 0 + (sumTo (fun k => f (k + 1)) n + f (n + 1))
  rw [ih, Int.add_assoc]
def addR : List Int → Int → Int → Int
 | [], _, _ => 0
 | m :: l, x, y => (x % m + y % m) % m + m * addR l (x / m) (y / m)
def negR : List Int → Int → Int
 | [], _ => 0
 | m :: l, x => (m - x % m) % m + m * negR l (x / m)
def AllP (l : List Int) : Prop := ∀ m ∈ l, 1 ≤ m
theorem AllP.tail {m : Int} {l : List Int} (h : AllP (m :: l)) : 1 ≤ m ∧ AllP l := ⟨h m (List.mem_cons_self ..), fun x hx => h x (List.mem_cons_of_mem _ hx)⟩
theorem low_dm {m r q : Int} (hm : 1 ≤ m) (h0 : 0 ≤ r) (h1 : r < m) : (r + m * q) % m = r ∧ (r + m * q) / m = q := by
 constructor
 ·rw [Int.add_mul_emod_self_left, Int.emod_eq_of_lt h0 h1]
 ·rw [Int.add_mul_ediv_left _ _ (by omega), Int.ediv_eq_zero_of_lt h0 h1, Int.zero_add]
theorem low_bd {m r q p : Int} (hm : 1 ≤ m) (h0 : 0 ≤ r) (h1 : r < m) (hq : 0 ≤ q) (hp : q < p) : 0 ≤ r + m * q ∧ r + m * q < m * p := by
 have h2 : 0 ≤ m * q := Int.mul_nonneg (by omega) hq
 have h3 : m * (q + 1) ≤ m * p := Int.mul_le_mul_of_nonneg_left (by omega) (by omega)
 rw [Int.mul_add, Int.mul_one] at h3
 omega
theorem mod_bd {a m : Int} (hm : 1 ≤ m) : 0 ≤ a % m ∧ a % m < m := ⟨Int.emod_nonneg _ (by omega), Int.emod_lt_of_pos _ (by omega)⟩
theorem addR_bd : ∀ {l : List Int} (x y : Int), AllP l → 0 ≤ addR l x y ∧ addR l x y < prodO l
 | [], _, _, _ => ⟨Int.le_refl 0, by show (0 : Int) < 1; omega⟩
 | m :: l, x, y, h => by
  have h1 := addR_bd (l := l) (x / m) (y / m) h.tail.2
  have hb := mod_bd (a := x % m + y % m) h.tail.1
  exact low_bd h.tail.1 hb.1 hb.2 h1.1 h1.2
theorem negR_bd : ∀ {l : List Int} (x : Int), AllP l → 0 ≤ negR l x ∧ negR l x < prodO l
 | [], _, _ => ⟨Int.le_refl 0, by show (0 : Int) < 1; omega⟩
 | m :: l, x, h => by
  have h1 := negR_bd (l := l) (x / m) h.tail.2
  have hb := mod_bd (a := m - x % m) h.tail.1
  exact low_bd h.tail.1 hb.1 hb.2 h1.1 h1.2
theorem addR_dm {m : Int} {l : List Int} {x y : Int} (hm : 1 ≤ m) : addR (m :: l) x y % m = (x % m + y % m) % m ∧ addR (m :: l) x y / m = addR l (x / m) (y / m) :=
 low_dm hm (mod_bd hm).1 (mod_bd hm).2
theorem negR_dm {m : Int} {l : List Int} {x : Int} (hm : 1 ≤ m) : negR (m :: l) x % m = (m - x % m) % m ∧ negR (m :: l) x / m = negR l (x / m) :=
 low_dm hm (mod_bd hm).1 (mod_bd hm).2
theorem addR_comm : ∀ (l : List Int) (x y : Int), addR l x y = addR l y x
 | [], _, _ => rfl
 | m :: l, x, y => by unfold addR; rw [Int.add_comm (x % m), addR_comm l]
theorem addR_assoc : ∀ {l : List Int} (x y z : Int), AllP l → addR l (addR l x y) z = addR l x (addR l y z)
 | [], _, _, _, _ => rfl
 | m :: l, x, y, z, h => by
  have hm := h.tail.1
  have e1 : addR (m :: l) (addR (m :: l) x y) z = (addR (m :: l) x y % m + z % m) % m + m * addR l (addR (m :: l) x y / m) (z / m) := rfl
  have e2 : addR (m :: l) x (addR (m :: l) y z) = (x % m + addR (m :: l) y z % m) % m + m * addR l (x / m) (addR (m :: l) y z / m) := rfl
  rw [e1, e2, (addR_dm hm).1, (addR_dm hm).2, (addR_dm hm).1, (addR_dm hm).2, addR_assoc _ _ _ h.tail.2]
  congr 1
  simp only [Int.emod_add_emod, Int.add_emod_emod, Int.add_assoc]
theorem addR_zero : ∀ {l : List Int} (x : Int), AllP l → 0 ≤ x → x < prodO l → addR l 0 x = x
 | [], x, _, h0, h1 => by
  have : x < 1 := h1
  show (0 : Int) = x
  omega
 | m :: l, x, h, h0, h1 => by
  have hm := h.tail.1
  have h2 : x < m * prodO l := h1
  have ih := addR_zero (l := l) (x / m) h.tail.2 (Int.ediv_nonneg h0 (by omega)) (Int.ediv_lt_of_lt_mul (by omega) (by rw [Int.mul_comm]; exact h2))
  show (0 % m + x % m) % m + m * addR l (0 / m) (x / m) = x
  rw [Int.zero_emod, Int.zero_ediv, Int.zero_add, Int.emod_emod_of_dvd _ (Int.dvd_refl m), ih]
  exact Int.emod_add_mul_ediv x m
theorem addR_neg : ∀ {l : List Int} (x : Int), AllP l → addR l (negR l x) x = 0
 | [], _, _ => rfl
 | m :: l, x, h => by
  have hm := h.tail.1
  show (negR (m :: l) x % m + x % m) % m + m * addR l (negR (m :: l) x / m) (x / m) = 0
  rw [(negR_dm hm).1, (negR_dm hm).2, addR_neg (x / m) h.tail.2, Int.emod_add_emod, show m - x % m + x % m = m by omega, Int.emod_self, Int.mul_zero]
  rfl
def qX (q : List Int) (x : Int) : Nat → Int
 | 0 => x
 | k + 1 => qX q x k / q.getD k 0
def qP (q : List Int) : Nat → Int
 | 0 => 1
 | k + 1 => qP q k * q.getD k 0
theorem qX_cons {m : Int} {q : List Int} {x : Int} : ∀ k, qX (m :: q) x (k + 1) = qX q (x / m) k
 | 0 => rfl
 | k + 1 => by
  have ih := qX_cons (m := m) (q := q) (x := x) k
  show qX (m :: q) x (k + 1) / q.getD k 0 = qX q (x / m) k / q.getD k 0
  rw [ih]
theorem qP_cons {m : Int} {q : List Int} : ∀ k, qP (m :: q) (k + 1) = m * qP q k
 | 0 => by show 1 * m = m * 1; omega
 | k + 1 => by
  have ih := qP_cons (m := m) (q := q) k
  show qP (m :: q) (k + 1) * q.getD k 0 = m * (qP q k * q.getD k 0)
  rw [ih, Int.mul_assoc]
def qG (q : List Int) (x y : Int) (k : Nat) : Int := (qX q x k % q.getD k 0 + qX q y k % q.getD k 0) % q.getD k 0
theorem qS_eq : ∀ (q : List Int) (x y : Int), sumTo (fun k => qG q x y k * qP q k) q.length = addR q x y
 | [], _, _ => rfl
 | m :: q, x, y => by
  have ih := qS_eq q (x / m) (y / m)
  show sumTo _ (q.length + 1) = _
  rw [sum_shift]
  have e0 : qG (m :: q) x y 0 * qP (m :: q) 0 = (x % m + y % m) % m := by
   show (x % m + y % m) % m * 1 = _
   rw [Int.mul_one]
  have e1 : sumTo (fun k => qG (m :: q) x y (k + 1) * qP (m :: q) (k + 1)) q.length = sumTo (fun k => (qG q (x / m) (y / m) k * qP q k) * m) q.length := sum_congr fun k _ => by
   unfold qG
   rw [qX_cons, qX_cons, qP_cons, List.getD_cons_succ, Int.mul_comm m, Int.mul_assoc]
  rw [e0, e1, sum_mul, ih, Int.mul_comm]
  rfl
theorem getD_rev {o : List Int} {k : Nat} (h : k < o.length) : o.reverse.getD k 0 = o.getD (o.length - 1 - k) 0 := by
 rw [List.getD_eq_getElem?_getD, List.getElem?_reverse h, List.getD_eq_getElem?_getD]
theorem adX_q {o : List Int} {x : Int} : ∀ k, k ≤ o.length → adX o x k = qX o.reverse x k
 | 0, _ => rfl
 | k + 1, h => by
  show adX o x k / adQ o k = qX o.reverse x k / o.reverse.getD k 0
  rw [adX_q k (by omega), getD_rev (by omega)]
  rfl
theorem adP_q {o : List Int} : ∀ k, k ≤ o.length → adP o k = qP o.reverse k
 | 0, _ => rfl
 | k + 1, h => by
  show adP o k * adQ o k = qP o.reverse k * o.reverse.getD k 0
  rw [adP_q k (by omega), getD_rev (by omega)]
  rfl
theorem adS_sum {o : List Int} {x y : Int} : ∀ k, adS o x y k = sumTo (fun k => adG o x y k * adP o k) k
 | 0 => rfl
 | k + 1 => by
  show adS o x y k + _ = sumTo _ k + _
  rw [adS_sum k]
theorem addO_R (o : List Int) (x y : Int) : addO o x y = addR o.reverse x y := by
 rw [← qS_eq, List.length_reverse]
 unfold addO
 rw [adS_sum]
 refine sum_congr fun k hk => ?_
 rw [adP_q k (by omega)]
 unfold adG qG
 rw [adX_q k (by omega), adX_q k (by omega), getD_rev hk]
 rfl
theorem prodO_rev : ∀ o : List Int, prodO o.reverse = prodO o
 | [] => rfl
 | m :: l => by rw [List.reverse_cons, prodO_append, prodO_rev l, Int.mul_comm]; rfl
theorem PosO.all {o : List Int} (h : PosO o) : AllP o.reverse := fun m hm => by
 rw [List.mem_reverse] at hm
 obtain ⟨i, hi, rfl⟩ := List.getElem_of_mem hm
 have := h.2 i hi
 rwa [List.getD_eq_getElem?_getD, List.getElem?_eq_getElem hi] at this
def ngO (o : List Int) (x : Nat) : Nat := (negR o.reverse x).toNat
theorem PosO.grp {o : List Int} (h : PosO o) : GrpP (prodO o).toNat (ad o) (ngO o) := by
 have hp := prodO_pos h
 have ha := h.all
 have hpr := prodO_rev o
 have e : ∀ x y : Nat, ((ad o x y : Nat) : Int) = addR o.reverse x y := fun x y => by rw [ad_eq h, addO_R]
 have en : ∀ x : Nat, ((ngO o x : Nat) : Int) = negR o.reverse x := fun x => by
  have := (negR_bd (x : Int) ha).1
  unfold ngO
  omega
 have lt : ∀ x y : Nat, ad o x y < (prodO o).toNat := fun x y => by
  have := addR_bd (x : Int) (y : Int) ha
  have := e x y
  omega
 have cm : ∀ x y : Nat, ad o x y = ad o y x := fun x y => by
  have h1 := e x y
  have h2 := e y x
  rw [addR_comm] at h2
  omega
 have zl : ∀ x, x < (prodO o).toNat → ad o 0 x = x := fun x hx => by
  have h1 := e 0 x
  have h2 := addR_zero (x : Int) ha (by omega) (by omega)
  rw [show ((0 : Nat) : Int) = 0 from rfl] at h1
  omega
 have il : ∀ x, ad o (ngO o x) x = 0 := fun x => by
  have h1 := e (ngO o x) x
  rw [en, addR_neg (x : Int) ha] at h1
  omega
 refine ⟨by omega, fun x _ y _ => lt x y, fun x _ => ?_, zl, fun x hx => by rw [cm]; exact zl x hx, fun x _ => il x, fun x _ => by rw [cm]; exact il x, fun x _ y _ z _ => ?_⟩
 ·have := negR_bd (x : Int) ha
  have := en x
  omega
 ·have h1 := e (ad o x y) z
  have h2 := e x (ad o y z)
  rw [e x y] at h1
  rw [e y z] at h2
  rw [addR_assoc _ _ _ ha] at h1
  omega
theorem ad_comm {o : List Int} (h : PosO o) (x y : Nat) : ad o x y = ad o y x := by
 have h1 : ((ad o x y : Nat) : Int) = addR o.reverse x y := by rw [ad_eq h, addO_R]
 have h2 : ((ad o y x : Nat) : Int) = addR o.reverse y x := by rw [ad_eq h, addO_R]
 rw [addR_comm] at h2
 omega
theorem it2_eq {n : Nat} {zf : Nat → Nat → Nat} : it (fun x g => it (fun y g => updG g x y (zf x y) 1) n g) n zG = fun x y z => if x < n ∧ y < n ∧ z = zf x y then 1 else 0 := by
 refine it_inv (P := fun k g => g = fun x y z => if x < k ∧ y < n ∧ z = zf x y then (1 : Int) else 0) ?_ ?_
 ·funext x y z
  rw [if_neg (by omega)]
  rfl
 ·intro k hk g hg
  subst hg
  have := it_inv (n := n) (f := fun y g => updG g k y (zf k y) 1) (a := fun x y z => if x < k ∧ y < n ∧ z = zf x y then (1 : Int) else 0)
   (P := fun j g => g = fun x y z => if (x < k ∧ y < n ∨ x = k ∧ y < j) ∧ z = zf x y then (1 : Int) else 0) ?_ ?_
  ·rw [this]
   funext x y z
   exact ite_iff (by
    constructor
    ·rintro ⟨h, e⟩; exact ⟨by omega, by omega, e⟩
    ·rintro ⟨h1, h2, e⟩; exact ⟨by omega, e⟩)
  ·funext x y z
   exact ite_iff (by
    constructor
    ·rintro ⟨h1, h2, e⟩; exact ⟨.inl ⟨h1, h2⟩, e⟩
    ·rintro ⟨h, e⟩; exact ⟨by omega, by omega, e⟩)
  ·intro j hj g hg
   subst hg
   funext x y z
   unfold updG
   by_cases c : x = k ∧ y = j ∧ z = zf k j
   ·obtain ⟨rfl, rfl, rfl⟩ := c
    rw [if_pos ⟨rfl, rfl, rfl⟩, if_pos ⟨by omega, rfl⟩]
   ·rw [if_neg c]
    refine ite_iff ⟨fun ⟨h, e⟩ => ⟨by omega, e⟩, fun ⟨h, e⟩ => ⟨?_, e⟩⟩
    rcases h with h | ⟨h1, h2⟩
    ·exact .inl h
    ·refine .inr ⟨h1, ?_⟩
     by_cases c2 : y = j
     ·subst h1 c2; exact absurd ⟨rfl, rfl, e⟩ c
     ·omega
theorem it2_cub {n : Nat} {zf : Nat → Nat → Nat} : cubF n (it (fun x g => it (fun y g => updG g x y (zf x y) 1) n g) n zG) = cubF n (opG zf) := by
 rw [it2_eq]
 refine cubF_congr fun i hi j hj k hk => ite_iff ⟨fun h => h.2.2, fun h => ⟨hi, hj, h⟩⟩
theorem grpT_eq (o : List Int) : grpT o 0 = cubF (prodO o).toNat (opG (ad o)) := it2_cub
theorem dhgT_eq (n : Nat) : dhgT n = cubF (2 * n) (opG (dhZ n)) := it2_cub
theorem grpG_at (o : List Int) (n x y z : Nat) : grpG o n x y z = if x < n ∧ y < n ∧ z = ad o x y then 1 else 0 := by
 unfold grpG
 rw [it2_eq]
theorem nrG_at (o : List Int) (m : Nat) : ∀ k, k ≤ m → ∀ x y z, x ≤ m → y ≤ m → z ≤ m → nrG o m k x y z = if (x < k ∧ y = m ∧ z = m) ∨ (x = m ∧ y < k ∧ z = m) ∨ (x = m ∧ y = m ∧ z < k) then 1 else grpG o m x y z := by
 intro k hk
 refine it_inv (n := k) (f := fun a g => updG (updG (updG g a m m 1) m a m 1) m m a 1) (a := grpG o m) (P := fun k g => ∀ x y z, x ≤ m → y ≤ m → z ≤ m → g x y z = if (x < k ∧ y = m ∧ z = m) ∨ (x = m ∧ y < k ∧ z = m) ∨ (x = m ∧ y = m ∧ z < k) then 1 else grpG o m x y z) ?_ ?_
 ·intro x y z _ _ _
  rw [if_neg (by omega)]
 ·intro a ha g hg x y z hx hy hz
  unfold updG
  by_cases c1 : x = m ∧ y = m ∧ z = a
  ·rw [if_pos c1, if_pos (by omega)]
  ·rw [if_neg c1]
   by_cases c2 : x = m ∧ y = a ∧ z = m
   ·rw [if_pos c2, if_pos (by omega)]
   ·rw [if_neg c2]
    by_cases c3 : x = a ∧ y = m ∧ z = m
    ·rw [if_pos c3, if_pos (by omega)]
    ·rw [if_neg c3, hg x y z hx hy hz]
     by_cases c4 : (x < a ∧ y = m ∧ z = m) ∨ (x = m ∧ y < a ∧ z = m) ∨ (x = m ∧ y = m ∧ z < a)
     ·rw [if_pos c4, if_pos (by omega)]
     ·rw [if_neg c4, if_neg (by omega)]
theorem nearT_eq {o : List Int} (hO : PosO o) (k : Int) (inv : Nat → Nat) : nearT o k = cubF ((prodO o).toNat + 1) (nrF (prodO o).toNat (ad o) inv k) := by
 unfold nearT
 have hlt := hO.grp.lt
 obtain ⟨m, em⟩ : ∃ m, (prodO o).toNat = m := ⟨_, rfl⟩
 rw [em] at hlt ⊢
 refine cubF_congr fun x hx y hy z hz => ?_
 unfold updG nrF
 by_cases c : x = m ∧ y = m ∧ z = m
 ·obtain ⟨rfl, rfl, rfl⟩ := c
  rw [if_pos ⟨rfl, rfl, rfl⟩, if_neg (Nat.lt_irrefl _), if_neg (Nat.lt_irrefl _), if_neg (Nat.lt_irrefl _)]
 ·rw [if_neg c, nrG_at o m m (Nat.le_refl _) x y z (by omega) (by omega) (by omega), grpG_at]
  unfold opG
  by_cases h1 : x < m
  ·rw [if_pos h1]
   by_cases h2 : y < m
   ·rw [if_pos h2, if_neg (by omega)]
    by_cases h3 : z < m
    ·rw [if_pos h3]; exact ite_iff ⟨fun h => h.2.2, fun h => ⟨h1, h2, h⟩⟩
    ·rw [if_neg h3]
     rw [if_neg]
     rintro ⟨-, -, rfl⟩
     exact h3 (hlt x h1 y h2)
   ·rw [if_neg h2]
    by_cases h3 : z < m
    ·rw [if_pos h3, if_neg (by omega), if_neg (by omega)]
    ·rw [if_neg h3, if_pos (by omega)]
  ·rw [if_neg h1]
   by_cases h2 : y < m
   ·rw [if_pos h2]
    by_cases h3 : z < m
    ·rw [if_pos h3, if_neg (by omega), if_neg (by omega)]
    ·rw [if_neg h3, if_pos (by omega)]
   ·rw [if_neg h2]
    by_cases h3 : z < m
    ·rw [if_pos h3, if_pos (by omega)]
    ·omega
theorem grp_ringP {o : List Int} (h : PosO o) (h16 : prodO o ≤ 16) : RingP (grpT o 0) := by
 rw [grpT_eq]
 exact h.grp.ring (by omega)
theorem near_ringP {o : List Int} (h : PosO o) (h15 : prodO o ≤ 15) {k : Int} (k0 : 0 ≤ k) (k1 : k ≤ 1000) : RingP (nearT o k) := by
 rw [nearT_eq h k (ngO o)]
 exact h.grp.near (by omega) k0 k1
theorem grp_comm {o : List Int} (h : PosO o) : CommP (grpT o 0) := by
 rw [grpT_eq]
 intro i hi j hj
 rw [cubF_length] at hi hj
 rw [cubF_get hi, cubF_get hj, matF_get hi, matF_get hj]
 refine rowF_congr fun k _ => ?_
 unfold opG
 rw [ad_comm h]
theorem opG_dim {n : Nat} {op : Nat → Nat → Nat} {inv : Nat → Nat} (h : GrpP n op inv) : DimF (cubF n (opG op)) fun _ => 1 := by
 refine ⟨fun i hi j hj => ?_, fun _ _ => by decide⟩
 rw [cubF_length] at hi hj ⊢
 rw [sum_congr (g := fun k => opG op i j k * 1) (f := fun k => e3 (cubF n (opG op)) i j k * 1) fun k hk => by rw [cubF_e3 hi hj hk], opG_sum h hi hj]
 rfl
theorem inv_all {t : Cu} (h : ∀ k, k < t.length → InvL t k) : (lbI t.length (unS t)).length = t.length := by
 unfold lbI lbl
 rw [List.length_map, List.filter_eq_self.2, List.length_range]
 intro k hk
 exact unS_bit.2 ⟨by simpa using hk, h k (by simpa using hk)⟩
theorem grp_point {o : List Int} (h : PosO o) (h16 : prodO o ≤ 16) : (lbI (grpT o 0).length (unS (grpT o 0))).length = (grpT o 0).length := by
 have hR := grp_ringP h h16
 refine inv_all fun i hi k hk => ?_
 have hg := h.grp
 have hd := hR.dual i hi
 have hd2 : (dual (grpT o 0) i).toNat < (grpT o 0).length := by omega
 have hz := hR.zero hi hd2
 rw [if_pos rfl] at hz
 have hp := hR.cube.1
 unfold dN
 generalize (dual (grpT o 0) i).toNat = d at hz hd2 ⊢
 rw [grpT_eq] at hz ⊢
 rw [grpT_eq, cubF_length] at hi hk hp hd2
 rw [cubF_e3 hi hd2 (by omega)] at hz
 rw [cubF_e3 hi hd2 hk]
 unfold opG at hz ⊢
 by_cases c : 0 = ad o i d
 ·rw [← c]
 ·rw [if_neg c] at hz
  exact absurd hz (by decide)
end Go.Pl
namespace Go.Pl
open Go.Aw
def grpB (n : Nat) (op : Nat → Nat → Nat) (inv : Nat → Nat) : Bool :=
 (List.range n).all fun x => op 0 x == x && op x 0 == x && Nat.blt (inv x) n && op (inv x) x == 0 && op x (inv x) == 0 &&
  (List.range n).all fun y => Nat.blt (op x y) n && (List.range n).all fun z => op (op x y) z == op x (op y z)
theorem grpB_P {n : Nat} {op : Nat → Nat → Nat} {inv : Nat → Nat} (h1 : 1 ≤ n) (h : grpB n op inv = true) : GrpP n op inv := by
 unfold grpB at h
 simp only [List.all_eq_true, List.mem_range, Bool.and_eq_true, beq_iff_eq, Nat.blt_eq] at h
 exact ⟨h1, fun x hx y hy => ((h x hx).2 y hy).1, fun x hx => (h x hx).1.1.1.2, fun x hx => (h x hx).1.1.1.1.1, fun x hx => (h x hx).1.1.1.1.2,
  fun x hx => (h x hx).1.1.2, fun x hx => (h x hx).1.2, fun x hx y hy z hz => ((h x hx).2 y hy).2 z hz⟩
def dhI (n x : Nat) : Nat := if n ≤ x then x else (n - x) % n
theorem dh1 : grpB (2 * 1) (dhZ 1) (dhI 1) = true := by decide +kernel
theorem dh2 : grpB (2 * 2) (dhZ 2) (dhI 2) = true := by decide +kernel
theorem dh3 : grpB (2 * 3) (dhZ 3) (dhI 3) = true := by decide +kernel
theorem dh4 : grpB (2 * 4) (dhZ 4) (dhI 4) = true := by decide +kernel
theorem dh5 : grpB (2 * 5) (dhZ 5) (dhI 5) = true := by decide +kernel
theorem dh6 : grpB (2 * 6) (dhZ 6) (dhI 6) = true := by decide +kernel
theorem dh7 : grpB (2 * 7) (dhZ 7) (dhI 7) = true := by decide +kernel
theorem dh8 : grpB (2 * 8) (dhZ 8) (dhI 8) = true := by decide +kernel
theorem dh_grp (n : Nat) (h1 : 1 ≤ n) (h8 : n ≤ 8) : GrpP (2 * n) (dhZ n) (dhI n) := by
 refine grpB_P (by omega) ?_
 have h : n = 1 ∨ n = 2 ∨ n = 3 ∨ n = 4 ∨ n = 5 ∨ n = 6 ∨ n = 7 ∨ n = 8 := by omega
 rcases h with rfl | rfl | rfl | rfl | rfl | rfl | rfl | rfl
 ·exact dh1
 ·exact dh2
 ·exact dh3
 ·exact dh4
 ·exact dh5
 ·exact dh6
 ·exact dh7
 ·exact dh8
theorem dhg_ringP {n : Nat} (h1 : 1 ≤ n) (h8 : n ≤ 8) : RingP (dhgT n) := by
 rw [dhgT_eq]
 exact (dh_grp n h1 h8).ring (by omega)
theorem dhg_dim {n : Nat} (h1 : 1 ≤ n) (h8 : n ≤ 8) : DimF (dhgT n) fun _ => 1 := by
 rw [dhgT_eq]
 exact opG_dim (dh_grp n h1 h8)
theorem dhg_comm {n : Nat} (h1 : 1 ≤ n) (h8 : n ≤ 8) : CommP (dhgT n) ↔ n ≤ 2 := by
 rw [dhgT_eq]
 constructor
 ·intro h
  have := h 1 (by rw [cubF_length]; omega) n (by rw [cubF_length]; omega)
  rw [cubF_get (by omega), cubF_get (by omega), matF_get (by omega), matF_get (by omega)] at this
  have h2 := congrArg (fun r : List Int => r.getD (dhZ n 1 n) 0) this
  have hlt := (dh_grp n h1 h8).lt 1 (by omega) n (by omega)
  rw [rowF_get hlt, rowF_get hlt] at h2
  unfold opG at h2
  rw [if_pos rfl] at h2
  have e : dhZ n 1 n = dhZ n n 1 := by
   by_cases c : dhZ n 1 n = dhZ n n 1
   ·exact c
   ·rw [if_neg c] at h2; exact absurd h2 (by decide)
  have h : n = 1 ∨ n = 2 ∨ n = 3 ∨ n = 4 ∨ n = 5 ∨ n = 6 ∨ n = 7 ∨ n = 8 := by omega
  rcases h with rfl | rfl | rfl | rfl | rfl | rfl | rfl | rfl
  ·omega
  ·omega
  all_goals exact absurd e (by decide)
 ·intro h i hi j hj
  rw [cubF_length] at hi hj
  rw [cubF_get hi, cubF_get hj, matF_get hi, matF_get hj]
  refine rowF_congr fun k _ => ?_
  have e : dhZ n i j = dhZ n j i := by
   have h : n = 1 ∨ n = 2 := by omega
   rcases h with rfl | rfl
   ·have : ∀ i, i < 2 → ∀ j, j < 2 → dhZ 1 i j = dhZ 1 j i := by decide
    exact this i hi j hj
   ·have : ∀ i, i < 4 → ∀ j, j < 4 → dhZ 2 i j = dhZ 2 j i := by decide
    exact this i hi j hj
  unfold opG
  rw [e]
theorem it_hom {α β : Type} {F : α → β} {f : Nat → α → α} {f' : Nat → β → β} {a : α} : ∀ {n : Nat}, (∀ k, k < n → ∀ g, F (f k g) = f' k (F g)) → F (it f n a) = it f' n (F a)
 | 0, _ => rfl
 | n + 1, h => by
  show F (f n (it f n a)) = f' n (it f' n (F a))
  rw [h n (Nat.lt_succ_self n), it_hom fun k hk => h k (Nat.lt_succ_of_lt hk)]
def set3 (t : Cu) (i j k : Nat) (v : Int) : Cu := t.set i ((t.getD i []).set j (((t.getD i []).getD j []).set k v))
def inc3 (t : Cu) (i j k : Nat) : Cu := set3 t i j k (e3 t i j k + 1)
theorem set3_cub {n : Nat} {g : Gf} {i j k : Nat} {v : Int} (hi : i < n) (hj : j < n) : cubF n (updG g i j k v) = set3 (cubF n g) i j k v := (cubF_upd hi hj).symm
theorem upd_out {n : Nat} {g : Gf} {i j k : Nat} {v : Int} (hk : ¬ k < n) : cubF n (updG g i j k v) = cubF n g := cubF_congr fun x _ y _ z hz => by
 unfold updG
 rw [if_neg (by omega)]
theorem inc3_cub {n : Nat} {g : Gf} {i j k : Nat} (hi : i < n) (hj : j < n) : cubF n (incG g i j k) = inc3 (cubF n g) i j k := by
 unfold incG inc3
 by_cases hk : k < n
 ·rw [cubF_e3 hi hj hk, set3_cub hi hj]
 ·rw [← set3_cub hi hj, upd_out hk, upd_out hk]
def zC (n : Nat) : Cu := List.replicate n (List.replicate n (List.replicate n (0 : Int)))
def grpC (o : List Int) (n : Nat) (t : Cu) : Cu := it (fun x g => it (fun y g => set3 g x y (ad o x y) 1) n g) n t
def dcA (n h v a : Nat) (t : Cu) : Cu :=
 it (fun i g => inc3 (inc3 g a v ((if 2 ≤ a then turnL n (n / 2 - h) else turnL n h).getD i 0).toNat) v a ((if 2 ≤ a then turnL n (n / 2 - h) else turnL n h).getD i 0).toNat) (if 2 ≤ a then turnL n (n / 2 - h) else turnL n h).length t
def dcK (n h v k c : Nat) (t : Cu) : Cu := it (fun i g => inc3 g v c ((turn2 n h k).getD i 0).toNat) (turn2 n h k).length t
def dcH (n h : Nat) (g : Cu) : Cu :=
 it (fun t g => dcK n h (onesD n + h - 1) (t + 1) (onesD n + t) g) ((n - 1) / 2) (it (fun a g => dcA n h (onesD n + h - 1) a g) (onesD n) g)
def dcT (n : Nat) : Cu := it (fun t g => dcH n (t + 1) g) ((n - 1) / 2) (grpC (ordD n) (onesD n) (zC (dhdN n)))
theorem dcT_eq (n : Nat) : dhdT n = dcT n := by
 have hz : cubF (dhdN n) zG = zC (dhdN n) := (zeros_cubF _).symm
 have hN : dhdN n = onesD n + (n - 1) / 2 := rfl
 unfold dhdT dcT dhdG
 generalize dhdN n = N at *
 rw [it_hom (F := cubF N) (f' := fun t g => dcH n (t + 1) g)]
 ·congr 1
  unfold grpG grpC
  rw [it_hom (F := cubF N) (f' := fun x g => it (fun y g => set3 g x y (ad (ordD n) x y) 1) (onesD n) g), hz]
  intro x hx g
  rw [it_hom (F := cubF N) (f' := fun y g => set3 g x y (ad (ordD n) x y) 1)]
  intro y hy g
  exact set3_cub (by omega) (by omega)
 ·intro t ht g
  unfold dhH dcH
  rw [it_hom (F := cubF N) (f' := fun s g => dcK n (t + 1) (onesD n + (t + 1) - 1) (s + 1) (onesD n + s) g)]
  ·congr 1
   rw [it_hom (F := cubF N) (f' := fun a g => dcA n (t + 1) (onesD n + (t + 1) - 1) a g)]
   intro a ha g
   unfold dhA dcA
   rw [it_hom (F := cubF N) (f' := fun i g => inc3 (inc3 g a (onesD n + (t + 1) - 1) ((if 2 ≤ a then turnL n (n / 2 - (t + 1)) else turnL n (t + 1)).getD i 0).toNat) (onesD n + (t + 1) - 1) a ((if 2 ≤ a then turnL n (n / 2 - (t + 1)) else turnL n (t + 1)).getD i 0).toNat)]
   intro i _ g
   rw [inc3_cub (by omega) (by omega), inc3_cub (by omega) (by omega)]
  ·intro s hs g
   unfold dhK dcK
   rw [it_hom (F := cubF N) (f' := fun i g => inc3 g (onesD n + (t + 1) - 1) (onesD n + s) ((turn2 n (t + 1) (s + 1)).getD i 0).toNat)]
   intro i _ g
   exact inc3_cub (by omega) (by omega)
def dotN : List Nat → List Nat → Nat
 | a :: as, b :: bs => a * b + dotN as bs
 | _, _ => 0
def encN : List Nat → Nat
 | [] => 0
 | a :: l => a + 64 * encN l
def cst (T : List (List (List Nat))) : Cu := T.map fun m => m.map fun r => r.map fun (a : Nat) => (a : Int)
abbrev n3 (T : List (List (List Nat))) (i j : Nat) : List Nat := (T.getD i []).getD j []
def dihB (n N : Nat) (T : List (List (List Nat))) (E : List (List Nat)) (d : List Nat) : Bool :=
 decide (dcT n = cst T) && decide (T.map (fun m => m.map encN) = E) && Nat.beq (dhdN n) N && Nat.ble 1 N && Nat.ble N 12 && Nat.beq d.length N && Nat.beq (dotN d d) (2 * n) &&
 (List.range N).all fun i => Nat.ble 1 (d.getD i 0) && (List.range N).all fun j => Nat.beq (n3 T i j).length N && decide (n3 T i j = n3 T j i) && Nat.beq ((n3 T i j).getD 0 0) (if i = j then 1 else 0) &&
  Nat.beq ((n3 T 0 i).getD j 0) (if i = j then 1 else 0) && Nat.beq (dotN (n3 T i j) d) (d.getD i 0 * d.getD j 0) &&
  (n3 T i j).all (fun x => Nat.ble x 2) &&
  (List.range N).all fun k => Nat.beq ((n3 T i j).getD k 0) ((n3 T i k).getD j 0) && Nat.beq (dotN (n3 T i j) (E.getD k [])) (dotN (n3 T j k) (E.getD i []))
theorem getD_map {α β : Type} {f : α → β} {l : List α} {i : Nat} {d : α} {d' : β} (h : f d = d') : (l.map f).getD i d' = f (l.getD i d) := by
 subst h
 simp only [List.getD_eq_getElem?_getD, List.getElem?_map]
 cases l[i]? <;> rfl
theorem mm_get {α β : Type} {f : α → β} {l : List (List α)} {k : Nat} : (l.map fun m => m.map f).getD k [] = (l.getD k []).map f := getD_map rfl
theorem enc_get {l : List (List Nat)} {m : Nat} : (l.map encN).getD m 0 = encN (l.getD m []) := getD_map rfl
theorem int_get {l : List Nat} {m : Nat} : (l.map fun (a : Nat) => (a : Int)).getD m 0 = ((l.getD m 0 : Nat) : Int) := getD_map rfl
theorem cst_e3 {T : List (List (List Nat))} {i j k : Nat} : e3 (cst T) i j k = (((n3 T i j).getD k 0 : Nat) : Int) := by
 unfold e3 cst
 rw [mm_get, mm_get, int_get]
theorem dotN_int : ∀ {a b : List Nat} {n : Nat}, a.length = n → b.length = n → ((dotN a b : Nat) : Int) = sumTo (fun m => ((a.getD m 0 : Nat) : Int) * ((b.getD m 0 : Nat) : Int)) n
 | [], [], _, rfl, _ => rfl
 | [], _ :: _, _, h1, h2 => by subst h1; simp at h2
 | _ :: _, [], _, h1, h2 => by subst h2; simp at h1
 | a :: as, b :: bs, 0, h1, _ => by simp at h1
 | a :: as, b :: bs, n + 1, h1, h2 => by
  have ih := dotN_int (a := as) (b := bs) (n := n) (by simpa using h1) (by simpa using h2)
  rw [sum_shift]
  show ((a * b + dotN as bs : Nat) : Int) = _
  rw [Int.natCast_add, Int.natCast_mul, ih]
  rfl
def pw64 : Nat → Int
 | 0 => 1
 | p + 1 => 64 * pw64 p
theorem encN_int : ∀ (r : List Nat), ((encN r : Nat) : Int) = sumTo (fun p => ((r.getD p 0 : Nat) : Int) * pw64 p) r.length
 | [] => rfl
 | a :: l => by
  have ih := encN_int l
  show ((a + 64 * encN l : Nat) : Int) = sumTo _ (l.length + 1)
  rw [sum_shift, Int.natCast_add, Int.natCast_mul, ih]
  have e : sumTo (fun p => (((a :: l).getD (p + 1) 0 : Nat) : Int) * pw64 (p + 1)) l.length = sumTo (fun p => (((l.getD p 0 : Nat) : Int) * pw64 p) * 64) l.length := sum_congr fun p _ => by
   show ((l.getD p 0 : Nat) : Int) * (64 * pw64 p) = _
   rw [Int.mul_comm 64, Int.mul_assoc]
  rw [e, sum_mul, Int.mul_comm]
  show _ = (a : Int) * 1 + _
  rw [Int.mul_one]
  rfl
theorem digits : ∀ {n : Nat} {f g : Nat → Int}, (∀ p, p < n → 0 ≤ f p ∧ f p < 64) → (∀ p, p < n → 0 ≤ g p ∧ g p < 64) → sumTo (fun p => f p * pw64 p) n = sumTo (fun p => g p * pw64 p) n → ∀ p, p < n → f p = g p
 | 0, _, _, _, _, _, p, hp => absurd hp (Nat.not_lt_zero p)
 | n + 1, f, g, hf, hg, h, p, hp => by
  have sh : ∀ f : Nat → Int, sumTo (fun p => f p * pw64 p) (n + 1) = f 0 + 64 * sumTo (fun p => f (p + 1) * pw64 p) n := fun f => by
   rw [sum_shift]
   have e : sumTo (fun p => f (p + 1) * pw64 (p + 1)) n = sumTo (fun p => (f (p + 1) * pw64 p) * 64) n := sum_congr fun p _ => by
    show f (p + 1) * (64 * pw64 p) = _
    rw [Int.mul_comm 64, Int.mul_assoc]
   rw [e, sum_mul, Int.mul_comm _ 64]
   show f 0 * 1 + _ = _
   rw [Int.mul_one]
  rw [sh f, sh g] at h
  have h1 := hf 0 (by omega)
  have h2 := hg 0 (by omega)
  cases p with
  | zero => omega
  | succ p => exact digits (n := n) (f := fun p => f (p + 1)) (g := fun p => g (p + 1)) (fun p hp => hf (p + 1) (by omega)) (fun p hp => hg (p + 1) (by omega)) (by omega) p (by omega)
def DihOk (n : Nat) : Prop := RingP (dhdT n) ∧ ∃ d : Nat → Int, DimF (dhdT n) d ∧ sumTo (fun k => d k * d k) (dhdT n).length = 2 * n
theorem getD_all {l : List Nat} {p : Nat → Bool} (h : l.all p = true) {k : Nat} (hk : k < l.length) : p (l.getD k 0) = true := by
 rw [List.getD_eq_getElem?_getD, List.getElem?_eq_getElem hk]
 exact List.all_eq_true.1 h _ (List.getElem_mem hk)
theorem dih_ok {n N : Nat} {T : List (List (List Nat))} {E : List (List Nat)} {d : List Nat} (h : dihB n N T E d = true) : DihOk n := by
 unfold dihB at h
 simp only [List.all_eq_true (l := List.range N), List.mem_range, Bool.and_eq_true, decide_eq_true_eq, Nat.beq_eq, Nat.ble_eq] at h
 obtain ⟨⟨⟨⟨⟨⟨⟨hT, hE⟩, hN⟩, h1⟩, h12⟩, hd⟩, hdd⟩, hi⟩ := h
 have len : ∀ i, i < N → ∀ j, j < N → (n3 T i j).length = N := fun i a j b => ((hi i a).2 j b).1.1.1.1.1.1
 have com : ∀ i, i < N → ∀ j, j < N → n3 T i j = n3 T j i := fun i a j b => ((hi i a).2 j b).1.1.1.1.1.2
 have zer : ∀ i, i < N → ∀ j, j < N → (n3 T i j).getD 0 0 = if i = j then 1 else 0 := fun i a j b => ((hi i a).2 j b).1.1.1.1.2
 have uni : ∀ i, i < N → ∀ j, j < N → (n3 T 0 i).getD j 0 = if i = j then 1 else 0 := fun i a j b => ((hi i a).2 j b).1.1.1.2
 have dim : ∀ i, i < N → ∀ j, j < N → dotN (n3 T i j) d = d.getD i 0 * d.getD j 0 := fun i a j b => ((hi i a).2 j b).1.1.2
 have le2 : ∀ i, i < N → ∀ j, j < N → ∀ k, k < N → (n3 T i j).getD k 0 ≤ 2 := fun i a j b k c => by
  have := getD_all ((hi i a).2 j b).1.2 (k := k) (by rw [len i a j b]; exact c)
  simpa using this
 have trn : ∀ i, i < N → ∀ j, j < N → ∀ k, k < N → (n3 T i j).getD k 0 = (n3 T i k).getD j 0 := fun i a j b k c => (((hi i a).2 j b).2 k c).1
 have brk : ∀ i, i < N → ∀ j, j < N → ∀ k, k < N → dotN (n3 T i j) (E.getD k []) = dotN (n3 T j k) (E.getD i []) := fun i a j b k c => (((hi i a).2 j b).2 k c).2
 have pos : ∀ i, i < N → 1 ≤ d.getD i 0 := fun i a => (hi i a).1
 have eg : dhdT n = cubF N fun i j k => (((n3 T i j).getD k 0 : Nat) : Int) := by
  have e1 : dhdT n = cubF (dhdN n) (dhdG n ((n - 1) / 2)) := rfl
  have e2 : dhdT n = cst T := by rw [dcT_eq, hT]
  rw [hN] at e1
  rw [e1]
  refine cubF_congr fun i hi j hj k hk => ?_
  rw [← cst_e3, ← e2, e1, cubF_e3 hi hj hk]
 have lT : ∀ k, k < N → (T.getD k []).length = N := fun k hk => by
  have h2 : (cst T).getD k [] = (dhdT n).getD k [] := by rw [dcT_eq, hT]
  unfold cst at h2
  rw [mm_get, eg] at h2
  have h3 := congrArg List.length h2
  rw [List.length_map, cubF_mat hk] at h3
  exact h3
 have eE : ∀ k, k < N → ∀ m, m < N → (E.getD k []).getD m 0 = encN (n3 T k m) := fun k hk m hm => by
  rw [← hE, mm_get, enc_get]
 have lE : ∀ k, k < N → (E.getD k []).length = N := fun k hk => by
  rw [← hE, mm_get, List.length_map, lT k hk]
 have hR : RingP (dhdT n) := by
  rw [eg]
  refine ring_of (d := fun i => i) h1 (by omega) ?_ ?_ ?_ (fun i hi => hi) (fun i _ => rfl) ?_ ?_ ?_ ?_
  ·intro i a j b k c
   have := le2 i a j b k c
   unfold InM
   omega
  ·intro i a k c
   rw [uni i a k c, dl_ite]
   split <;> rfl
  ·intro i a k c
   rw [com i a 0 (by omega), uni i a k c, dl_ite]
   split <;> rfl
  ·intro i a j b
   rw [zer i a j b]
   by_cases e : i = j
   ·rw [if_pos e, if_pos e.symm]; rfl
   ·rw [if_neg e, if_neg fun e2 => e e2.symm]; rfl
  ·intro i a j b k c
   rw [trn i a j b k c]
  ·intro i a j b k c
   rw [com i a j b, trn j b i a k c, com j b k c]
  ·intro i a j b k c l hl
   have hb : ∀ i, i < N → ∀ j, j < N → ∀ k, k < N → ∀ i', i' < N → ∀ j', j' < N → ∀ k', k' < N → 0 ≤ (((n3 T i j).getD k 0 : Nat) : Int) * (((n3 T i' j').getD k' 0 : Nat) : Int) ∧ (((n3 T i j).getD k 0 : Nat) : Int) * (((n3 T i' j').getD k' 0 : Nat) : Int) ≤ 4 := fun i a j b k c i' a' j' b' k' c' => by
    have h1 := le2 i a j b k c
    have h2 := le2 i' a' j' b' k' c'
    have h3 := Nat.mul_le_mul h1 h2
    rw [← Int.natCast_mul]
    omega
   have L : ((dotN (n3 T i j) (E.getD k []) : Nat) : Int) = sumTo (fun p => sumTo (fun m => (((n3 T i j).getD m 0 : Nat) : Int) * (((n3 T m k).getD p 0 : Nat) : Int)) N * pw64 p) N := by
    rw [dotN_int (len i a j b) (lE k c)]
    have e1 : sumTo (fun m => (((n3 T i j).getD m 0 : Nat) : Int) * (((E.getD k []).getD m 0 : Nat) : Int)) N = sumTo (fun m => sumTo (fun p => ((((n3 T i j).getD m 0 : Nat) : Int) * (((n3 T m k).getD p 0 : Nat) : Int)) * pw64 p) N) N := sum_congr fun m hm => by
     rw [eE k c m hm, com k c m hm, encN_int, len m hm k c, Int.mul_comm, ← sum_mul]
     exact sum_congr fun p _ => by rw [Int.mul_comm, Int.mul_assoc]
    rw [e1, sum_comm]
    exact sum_congr fun p _ => sum_mul
   have R : ((dotN (n3 T j k) (E.getD i []) : Nat) : Int) = sumTo (fun p => sumTo (fun m => (((n3 T j k).getD m 0 : Nat) : Int) * (((n3 T i m).getD p 0 : Nat) : Int)) N * pw64 p) N := by
    rw [dotN_int (len j b k c) (lE i a)]
    have e1 : sumTo (fun m => (((n3 T j k).getD m 0 : Nat) : Int) * (((E.getD i []).getD m 0 : Nat) : Int)) N = sumTo (fun m => sumTo (fun p => ((((n3 T j k).getD m 0 : Nat) : Int) * (((n3 T i m).getD p 0 : Nat) : Int)) * pw64 p) N) N := sum_congr fun m hm => by
     rw [eE i a m hm, encN_int, len i a m hm, Int.mul_comm, ← sum_mul]
     exact sum_congr fun p _ => by rw [Int.mul_comm, Int.mul_assoc]
    rw [e1, sum_comm]
    exact sum_congr fun p _ => sum_mul
   have e := brk i a j b k c
   rw [e, R] at L
   refine (digits (f := fun p => sumTo (fun m => (((n3 T j k).getD m 0 : Nat) : Int) * (((n3 T i m).getD p 0 : Nat) : Int)) N) (g := fun p => sumTo (fun m => (((n3 T i j).getD m 0 : Nat) : Int) * (((n3 T m k).getD p 0 : Nat) : Int)) N) ?_ ?_ L l hl).symm
   ·intro p hp
    have := sumTo_le (f := fun m => (((n3 T j k).getD m 0 : Nat) : Int) * (((n3 T i m).getD p 0 : Nat) : Int)) (B := 4) (n := N) fun m hm => hb j b k c m hm i a m hm p hp
    omega
   ·intro p hp
    have := sumTo_le (f := fun m => (((n3 T i j).getD m 0 : Nat) : Int) * (((n3 T m k).getD p 0 : Nat) : Int)) (B := 4) (n := N) fun m hm => hb i a j b m hm m hm k c p hp
    omega
 refine ⟨hR, fun k => ((d.getD k 0 : Nat) : Int), ⟨?_, ?_⟩, ?_⟩
 ·rw [eg, cubF_length]
  intro i a j b
  rw [← Int.natCast_mul, ← dim i a j b, dotN_int (len i a j b) hd]
  exact sum_congr fun k c => by rw [cubF_e3 a b c]
 ·rw [eg, cubF_length]
  intro j b
  have := pos j b
  omega
 ·rw [eg, cubF_length, ← dotN_int hd hd, hdd]
  push_cast
  rfl
def svN (n h z : Nat) : Nat :=
 if turnK n h = 0 then (if z = 0 ∨ z = 1 then 1 else 0) else if 2 * turnK n h = n then (if z = 2 ∨ z = 3 then 1 else 0) else if z = (if n % 2 = 1 then 1 else 3) + turnK n h then 1 else 0
def absN (a b : Nat) : Nat := (a - b) + (b - a)
def dpN (n i j z : Nat) : Nat :=
 if i < onesD n then
  (if j < onesD n then (if z = i ^^^ j then 1 else 0)
   else if i < 2 then svN n (j + 1 - onesD n) z else svN n (absN (n / 2) (j + 1 - onesD n)) z)
 else if j < onesD n then (if j < 2 then svN n (i + 1 - onesD n) z else svN n (absN (n / 2) (i + 1 - onesD n)) z)
 else svN n ((i + 1 - onesD n) + (j + 1 - onesD n)) z + svN n (absN (i + 1 - onesD n) (j + 1 - onesD n)) z
def dpF (n : Nat) : Gf := fun i j z => ((dpN n i j z : Nat) : Int)
def dpB (n N : Nat) (T : List (List (List Nat))) : Bool :=
 (List.range N).all fun i => (List.range N).all fun j => (List.range N).all fun z => Nat.beq (dpN n i j z) ((n3 T i j).getD z 0)
theorem dp_ok {n N : Nat} {T : List (List (List Nat))} {E : List (List Nat)} {d : List Nat} (h : dihB n N T E d = true) (hp : dpB n N T = true) : dhdT n = cubF (dhdN n) (dpF n) := by
 unfold dihB at h
 simp only [Bool.and_eq_true, decide_eq_true_eq, Nat.beq_eq, Nat.ble_eq] at h
 obtain ⟨⟨⟨⟨⟨⟨⟨hT, -⟩, hN⟩, -⟩, -⟩, -⟩, -⟩, -⟩ := h
 unfold dpB at hp
 simp only [List.all_eq_true, List.mem_range, Nat.beq_eq] at hp
 have e1 : dhdT n = cubF (dhdN n) (dhdG n ((n - 1) / 2)) := rfl
 have e2 : dhdT n = cst T := by rw [dcT_eq, hT]
 rw [hN] at e1 ⊢
 rw [e1]
 refine cubF_congr fun i hi j hj k hk => ?_
 unfold dpF
 rw [hp i hi j hj k hk, ← cst_e3, ← e2, e1, cubF_e3 hi hj hk]
end Go.Pl
namespace Go.Pl
open Go.Aw
theorem cubF_setRow {n : Nat} {f : Gf} {i j : Nat} {r : List Int} (hi : i < n) (hj : j < n) (hr : r.length = n) :
  (cubF n f).set i (((cubF n f).getD i []).set j r) = cubF n (fun x y z => if x = i ∧ y = j then r.getD z 0 else f x y z) := by
 rw [cubF_get hi]
 apply List.ext_getElem
 ·simp [cubF]
 ·intro m h1 h2
  simp only [cubF, List.getElem_set, List.getElem_map, List.getElem_range]
  by_cases hm : i = m
  ·subst hm
   rw [if_pos rfl]
   apply List.ext_getElem
   ·simp [matF]
   ·intro p h3 h4
    simp only [matF, List.getElem_set, List.getElem_map, List.getElem_range]
    by_cases hp : j = p
    ·subst hp
     rw [if_pos rfl]
     refine List.ext_getElem (by simp [rowF, hr]) fun q h5 h6 => ?_
     simp only [rowF, List.getElem_map, List.getElem_range, List.getD_eq_getElem?_getD, List.getElem?_eq_getElem h5, Option.getD_some, and_self, if_true]
    ·rw [if_neg hp]
     exact rowF_congr fun z _ => by rw [if_neg (fun e => hp e.2.symm)]
  ·rw [if_neg hm]
   exact matF_congr fun y _ z _ => by rw [if_neg (fun e => hm e.1.symm)]
def ngG (T : Cu) (n i j : Nat) : Gf := fun x y z =>
 if (x < i ∨ (x = i ∧ y < j)) ∧ x < n ∧ y < n ∧ z < n then e3 T x y z
 else if (x < i ∧ y = n ∧ z = n) ∨ (x = n ∧ y < i ∧ z = n) ∨ (x = n ∧ y = n ∧ z < i) then 1 else 0
def NgIn (n i j x y z : Nat) : Prop := (x < i ∨ (x = i ∧ y < j)) ∧ x < n ∧ y < n ∧ z < n
def NgOne (n i x y z : Nat) : Prop := (x < i ∧ y = n ∧ z = n) ∨ (x = n ∧ y < i ∧ z = n) ∨ (x = n ∧ y = n ∧ z < i)
theorem ng_in {T : Cu} {n i j x y z : Nat} (h : NgIn n i j x y z) : ngG T n i j x y z = e3 T x y z := if_pos h
theorem ng_one {T : Cu} {n i j x y z : Nat} (h : ¬ NgIn n i j x y z) (h1 : NgOne n i x y z) : ngG T n i j x y z = 1 := (if_neg h).trans (if_pos h1)
theorem ng_no {T : Cu} {n i j x y z : Nat} (h : ¬ NgIn n i j x y z) (h1 : ¬ NgOne n i x y z) : ngG T n i j x y z = 0 := (if_neg h).trans (if_neg h1)
theorem gd_app {l m : List Int} {z : Nat} (h : z < l.length) : (l ++ m).getD z 0 = l.getD z 0 := by
 rw [List.getD_eq_getElem?_getD, List.getElem?_append_left h, List.getD_eq_getElem?_getD]
theorem gd_app0 {l : List Int} {z k : Nat} (h : ¬ z < l.length) : (l ++ List.replicate k 0).getD z 0 = 0 := by
 rw [List.getD_eq_getElem?_getD, List.getElem?_append_right (by omega), List.getElem?_replicate]
 split <;> rfl
theorem ng_row {T : Cu} {n i j : Nat} (hi : i < n) (hj : j < n) : ((cubF (n + 1) (ngG T n i j)).getD i []).getD j [] = List.replicate (n + 1) 0 := by
 rw [cubF_get (by omega), matF_get (by omega)]
 have e : List.replicate (n + 1) (0 : Int) = rowF (n + 1) fun _ => 0 := by simp [rowF, List.map_const']
 rw [e]
 refine rowF_congr fun z hz => ?_
 rw [ng_no (by unfold NgIn; omega) (by unfold NgOne; omega)]
theorem ng_copy {T : Cu} {n i j : Nat} (hi : i < n) (hj : j < n) (hr : ((T.getD i []).getD j []).length = n) :
  (cubF (n + 1) (ngG T n i j)).set i (((cubF (n + 1) (ngG T n i j)).getD i []).set j (cpL (((cubF (n + 1) (ngG T n i j)).getD i []).getD j []) ((T.getD i []).getD j []) 0 (((cubF (n + 1) (ngG T n i j)).getD i []).getD j []).length)) = cubF (n + 1) (ngG T n i (j + 1)) := by
 rw [ng_row hi hj, List.length_replicate, cp_low hr, cubF_setRow (by omega) (by omega) (by rw [List.length_append, hr, List.length_replicate])]
 refine cubF_congr fun x hx y hy z hz => ?_
 by_cases c : x = i ∧ y = j
 ·obtain ⟨rfl, rfl⟩ := c
  rw [if_pos ⟨rfl, rfl⟩]
  by_cases hz2 : z < n
  ·rw [ng_in (by unfold NgIn; omega), gd_app (by omega)]
  ·rw [ng_no (by unfold NgIn; omega) (by unfold NgOne; omega), gd_app0 (by omega)]
 ·rw [if_neg c]
  by_cases h1 : NgIn n i j x y z
  ·rw [ng_in h1, ng_in (by unfold NgIn at h1 ⊢; omega)]
  ·have h3 : ¬ NgIn n i (j + 1) x y z := by unfold NgIn at h1 ⊢; omega
   by_cases h2 : NgOne n i x y z
   ·rw [ng_one h1 h2, ng_one h3 h2]
   ·rw [ng_no h1 h2, ng_no h3 h2]
theorem ng_step {T : Cu} {n i : Nat} (hi : i < n) : cubF (n + 1) (updG (updG (updG (ngG T n i n) i n n 1) n i n 1) n n i 1) = cubF (n + 1) (ngG T n (i + 1) 0) := by
 refine cubF_congr fun x hx y hy z hz => ?_
 unfold updG
 by_cases c1 : x = n ∧ y = n ∧ z = i
 ·rw [if_pos c1, ng_one (by unfold NgIn; omega) (by unfold NgOne; omega)]
 ·rw [if_neg c1]
  by_cases c2 : x = n ∧ y = i ∧ z = n
  ·rw [if_pos c2, ng_one (by unfold NgIn; omega) (by unfold NgOne; omega)]
  ·rw [if_neg c2]
   by_cases c3 : x = i ∧ y = n ∧ z = n
   ·rw [if_pos c3, ng_one (by unfold NgIn; omega) (by unfold NgOne; omega)]
   ·rw [if_neg c3]
    by_cases h1 : NgIn n i n x y z
    ·rw [ng_in h1, ng_in (by unfold NgIn at h1 ⊢; omega)]
    ·have h3 : ¬ NgIn n (i + 1) 0 x y z := by unfold NgIn at h1 ⊢; omega
     by_cases h2 : NgOne n i x y z
     ·rw [ng_one h1 h2, ng_one h3 (by unfold NgOne at h2 ⊢; omega)]
     ·rw [ng_no h1 h2, ng_no h3 (by unfold NgOne at h2 ⊢; omega)]
theorem ng_zero {T : Cu} {n : Nat} : cubF (n + 1) zG = cubF (n + 1) (ngG T n 0 0) := by
 refine cubF_congr fun x hx y hy z hz => ?_
 rw [ng_no (by unfold NgIn; omega) (by unfold NgOne; omega)]
 rfl
theorem ng_end {o : List Int} (h : PosO o) {k : Int} {n : Nat} (hn : (prodO o).toNat = n) : cubF (n + 1) (updG (ngG (grpT o 0) n n 0) n n n k) = nearT o k := by
 rw [nearT_eq h k (ngO o), grpT_eq, hn]
 refine cubF_congr fun x hx y hy z hz => ?_
 unfold updG nrF
 by_cases c : x = n ∧ y = n ∧ z = n
 ·rw [if_pos c, if_neg (by omega), if_neg (by omega), if_neg (by omega)]
 ·rw [if_neg c]
  by_cases h1 : x < n <;> by_cases h2 : y < n <;> by_cases h3 : z < n
  ·rw [ng_in (by unfold NgIn; omega), if_pos h1, if_pos h2, if_pos h3, cubF_e3 h1 h2 h3]
  ·rw [ng_no (by unfold NgIn; omega) (by unfold NgOne; omega), if_pos h1, if_pos h2, if_neg h3]
  ·rw [ng_no (by unfold NgIn; omega) (by unfold NgOne; omega), if_pos h1, if_neg h2, if_pos h3]
  ·rw [ng_one (by unfold NgIn; omega) (by unfold NgOne; omega), if_pos h1, if_neg h2, if_neg h3]
  ·rw [ng_no (by unfold NgIn; omega) (by unfold NgOne; omega), if_neg h1, if_pos h2, if_pos h3]
  ·rw [ng_one (by unfold NgIn; omega) (by unfold NgOne; omega), if_neg h1, if_pos h2, if_neg h3]
  ·rw [ng_one (by unfold NgIn; omega) (by unfold NgOne; omega), if_neg h1, if_neg h2, if_pos h3]
  ·omega
theorem dh_low {m i j : Nat} (hm : 1 ≤ m) (hi : i < m) (hj : j < 2 * m) : dhZ m i j = j / m * m + (i + j) % m := by
 unfold dhZ
 rw [if_neg (by omega), ← Nat.add_mod]
 by_cases c : j < m
 ·have e : j / m = 0 := Nat.div_eq_of_lt c
  rw [if_pos (by rw [decide_eq_false (by omega), decide_eq_false (by omega)]), e]
  omega
 ·have e : j / m = 1 := by
   rw [Nat.div_eq_iff (by omega)]
   omega
  rw [if_neg (by rw [decide_eq_false (by omega), decide_eq_true (by omega)]; decide), e]
  omega
theorem dh_high {m i j : Nat} (hm : 1 ≤ m) (hi : ¬ i < m) (hi2 : i < 2 * m) (hj : j < 2 * m) : dhZ m i j = (1 - j / m) * m + (i + m - j % m) % m ∧ j / m ≤ 1 ∧ j % m < m := by
 unfold dhZ
 have hr : j % m < m := Nat.mod_lt _ (by omega)
 have e2 : (i % m + m - j % m) % m = (i + m - j % m) % m := by
  rw [Nat.add_sub_assoc (by omega), Nat.add_sub_assoc (by omega), Nat.mod_add_mod]
 rw [if_pos (by omega), e2]
 by_cases c : j < m
 ·have e : j / m = 0 := Nat.div_eq_of_lt c
  rw [if_neg (by rw [decide_eq_true (by omega), decide_eq_false (by omega)]; decide), e]
  refine ⟨by omega, by omega, hr⟩
 ·have e : j / m = 1 := by
   rw [Nat.div_eq_iff (by omega)]
   omega
  rw [if_pos (by rw [decide_eq_true (by omega), decide_eq_true (by omega)]), e]
  refine ⟨by omega, by omega, hr⟩
end Go.Pl
