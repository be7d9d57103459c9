import Derived.Test.YtkdadpdmnmjikaaKp2
import Derived.Test.YtkdadpdmnmjikaaKp1
import Derived.Test.YtkdadpdmnmjikaaQd3
set_option linter.unusedSimpArgs false
set_option linter.unusedVariables false
namespace Go.Pl
open Go.Aw
def Gf.tab (n : Nat) (F : Gf) : Cu := cubF n F
theorem ring_of {n : Nat} {F : Gf} {d : Nat → Nat} (h1 : 1 ≤ n) (h16 : n ≤ 16)
  (hb : ∀ i, i < n → ∀ j, j < n → ∀ k, k < n → InM (F i j k))
  (hl : ∀ i, i < n → ∀ k, k < n → F 0 i k = dl i k)
  (hr : ∀ i, i < n → ∀ k, k < n → F i 0 k = dl i k)
  (hd : ∀ i, i < n → d i < n) (hdd : ∀ i, i < n → d (d i) = i)
  (h0 : ∀ i, i < n → ∀ j, j < n → F i j 0 = if j = d i then 1 else 0)
  (ht : ∀ i, i < n → ∀ j, j < n → ∀ k, k < n → F i j k = F (d i) k j)
  (ht2 : ∀ i, i < n → ∀ j, j < n → ∀ k, k < n → F i j k = F k (d j) i)
  (hbr : ∀ i, i < n → ∀ j, j < n → ∀ k, k < n → ∀ l, l < n → sumTo (fun m => F i j m * F m k l) n = sumTo (fun m => F j k m * F i m l) n) :
  RingP (cubF n F) := by
 have hdu : ∀ i, i < n → dual (cubF n F) i = d i := fun i hi => by
  refine dual_uniq (by rw [cubF_length]; exact hd i hi) ?_ ?_
  ·rw [cubF_e3 hi (hd i hi) (by omega), h0 i hi _ (hd i hi), if_pos rfl]
  ·intro k hk hne
   rw [cubF_length] at hk
   rw [cubF_e3 hi hk (by omega), h0 i hi k hk, if_neg hne]
 refine ⟨⟨?_, ?_, ?_⟩, ?_, ?_, ?_, ?_, ?_, ?_, ?_⟩
 ·rw [cubF_length]; exact h1
 ·rw [cubF_length]; exact h16
 ·intro i hi
  rw [cubF_length] at hi ⊢
  refine ⟨cubF_mat hi, fun j hj => ⟨cubF_row hi hj, fun k hk => ?_⟩⟩
  have := hb i hi j hj k hk
  rw [← cubF_e3 (f := F) hi hj hk] at this
  exact this
 all_goals intro i hi; rw [cubF_length] at hi
 ·intro k hk
  rw [cubF_length] at hk
  rw [cubF_e3 (by omega) hi hk, hl i hi k hk]
 ·intro k hk
  rw [cubF_length] at hk
  rw [cubF_e3 hi (by omega) hk, hr i hi k hk]
 ·rw [cubF_length, hdu i hi]
  have := hd i hi
  omega
 ·rw [hdu i hi, Int.toNat_natCast, hdu _ (hd i hi), hdd i hi]
 ·intro j hj k hk
  rw [cubF_length] at hj hk
  rw [hdu i hi, Int.toNat_natCast, cubF_e3 hi hj hk, cubF_e3 (hd i hi) hk hj, ht i hi j hj k hk]
 ·intro j hj k hk
  rw [cubF_length] at hj hk
  rw [hdu j hj, Int.toNat_natCast, cubF_e3 hi hj hk, cubF_e3 hk (hd j hj) hi, ht2 i hi j hj k hk]
 ·intro j hj k hk l hl'
  rw [cubF_length] at hj hk hl' ⊢
  have a : sumTo (brL (cubF n F) i j k l) n = sumTo (fun m => F i j m * F m k l) n := sum_congr fun m hm => by
   unfold brL; rw [cubF_e3 hi hj hm, cubF_e3 hm hk hl']
  have b : sumTo (brR (cubF n F) i j k l) n = sumTo (fun m => F j k m * F i m l) n := sum_congr fun m hm => by
   unfold brR; rw [cubF_e3 hj hk hm, cubF_e3 hi hm hl']
  rw [a, b, hbr i hi j hj k hk l hl']
structure GrpP (n : Nat) (op : Nat → Nat → Nat) (inv : Nat → Nat) : Prop where
 pos : 1 ≤ n
 lt : ∀ x, x < n → ∀ y, y < n → op x y < n
 ilt : ∀ x, x < n → inv x < n
 zl : ∀ x, x < n → op 0 x = x
 zr : ∀ x, x < n → op x 0 = x
 il : ∀ x, x < n → op (inv x) x = 0
 ir : ∀ x, x < n → op x (inv x) = 0
 as : ∀ x, x < n → ∀ y, y < n → ∀ z, z < n → op (op x y) z = op x (op y z)
section
variable {n : Nat} {op : Nat → Nat → Nat} {inv : Nat → Nat}
theorem GrpP.left (h : GrpP n op inv) {x y z : Nat} (hx : x < n) (hy : y < n) (hz : z < n) : z = op x y ↔ y = op (inv x) z := by
 constructor
 ·rintro rfl
  rw [← h.as _ (h.ilt x hx) _ hx _ hy, h.il x hx, h.zl y hy]
 ·rintro rfl
  rw [← h.as _ hx _ (h.ilt x hx) _ hz, h.ir x hx, h.zl z hz]
theorem GrpP.right (h : GrpP n op inv) {x y z : Nat} (hx : x < n) (hy : y < n) (hz : z < n) : z = op x y ↔ x = op z (inv y) := by
 constructor
 ·rintro rfl
  rw [h.as _ hx _ hy _ (h.ilt y hy), h.ir y hy, h.zr x hx]
 ·rintro rfl
  rw [h.as _ hz _ (h.ilt y hy) _ hy, h.il y hy, h.zr z hz]
theorem GrpP.zero (h : GrpP n op inv) {x y : Nat} (hx : x < n) (hy : y < n) : 0 = op x y ↔ y = inv x := by
 rw [h.left hx hy h.pos, h.zr _ (h.ilt x hx)]
theorem ite_iff {p q : Prop} [Decidable p] [Decidable q] {a b : Int} (h : p ↔ q) : (if p then a else b) = if q then a else b := by
 by_cases e : p
 ·rw [if_pos e, if_pos (h.1 e)]
 ·rw [if_neg e, if_neg (fun e2 => e (h.2 e2))]
theorem dl_ite {i k : Nat} : dl i k = if i = k then 1 else 0 := by unfold dl; exact ite_iff Int.natCast_inj
end
end Go.Pl
namespace Go.Pl
open Go.Aw
def AllP (l : List Int) : Prop := ∀ m ∈ l, 1 ≤ m
theorem PosO.all {o : List Int} (h : PosO o) : AllP o.reverse := fun m hm => by
 rw [List.mem_reverse] at hm
 obtain ⟨i, hi, rfl⟩ := List.getElem_of_mem hm
 have := h.2 i hi
 rwa [List.getD_eq_getElem?_getD, List.getElem?_eq_getElem hi] at this
end Go.Pl
namespace Go.Pl
open Go.Aw
abbrev n3 (T : List (List (List Nat))) (i j : Nat) : List Nat := (T.getD i []).getD j []
def absN (a b : Nat) : Nat := (a - b) + (b - a)
end Go.Pl
