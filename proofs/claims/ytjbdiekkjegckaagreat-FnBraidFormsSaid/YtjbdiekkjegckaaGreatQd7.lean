import Derived.Test.YtjbdiekkjegckaaGreatQd3
set_option linter.unusedSimpArgs false
set_option linter.unusedVariables false
namespace Go.Pl
open Go.Aw
def Gf.tab (n : Nat) (F : Gf) : Cu := z5_ n F
structure GrpP (n : Nat) (op : Nat → Nat → Nat) (inv : Nat → Nat) : Prop where
 pos : 1 ≤ n
 lt : ∀ x, x < n → ∀ y, y < n → op x y < n
 ilt : ∀ x, x < n → inv x < n
 zl : ∀ x, x < n → op 0 x = x
 zr : ∀ x, x < n → op x 0 = x
 il : ∀ x, x < n → op (inv x) x = 0
 ir : ∀ x, x < n → op x (inv x) = 0
 as : ∀ x, x < n → ∀ y, y < n → ∀ z, z < n → op (op x y) z = op x (op y z)
section
variable {n : Nat} {op : Nat → Nat → Nat} {inv : Nat → Nat}
theorem GrpP.left (h : GrpP n op inv) {x y z : Nat} (hx : x < n) (hy : y < n) (hz : z < n) : z = op x y ↔ y = op (inv x) z := by
 constructor
 ·rintro rfl
  rw [← h.as _ (h.ilt x hx) _ hx _ hy, h.il x hx, h.zl y hy]
 ·rintro rfl
  rw [← h.as _ hx _ (h.ilt x hx) _ hz, h.ir x hx, h.zl z hz]
theorem GrpP.right (h : GrpP n op inv) {x y z : Nat} (hx : x < n) (hy : y < n) (hz : z < n) : z = op x y ↔ x = op z (inv y) := by
 constructor
 ·rintro rfl
  rw [h.as _ hx _ hy _ (h.ilt y hy), h.ir y hy, h.zr x hx]
 ·rintro rfl
  rw [h.as _ hz _ (h.ilt y hy) _ hy, h.il y hy, h.zr z hz]
theorem GrpP.zero (h : GrpP n op inv) {x y : Nat} (hx : x < n) (hy : y < n) : 0 = op x y ↔ y = inv x := by
 rw [h.left hx hy h.pos, h.zr _ (h.ilt x hx)]
end
end Go.Pl
namespace Go.Pl
open Go.Aw
theorem Uz_ {f : Nat → Int} : ∀ {n : Nat}, sumTo f (n + 1) = f 0 + sumTo (fun k => f (k + 1)) n
 | 0 => by show sumTo f 0 + f 0 = f 0 + 0; show (0 : Int) + f 0 = f 0 + 0; omega
 | n + 1 => by
  have ih := Uz_ (f := f) (n := n)
  show sumTo f (n + 1) + f (n + 1) = f 0 + (sumTo (fun k => f (k + 1)) n + f (n + 1))
  rw [ih, Int.add_assoc]
def Xp_ : List Int → Int → Int → Int
 | [], _, _ => 0
 | m :: l, x, y => (x % m + y % m) % m + m * Xp_ l (x / m) (y / m)
def Kw_ : List Int → Int → Int
 | [], _ => 0
 | m :: l, x => (m - x % m) % m + m * Kw_ l (x / m)
def AllP (l : List Int) : Prop := ∀ m ∈ l, 1 ≤ m
theorem AllP.tail {m : Int} {l : List Int} (h : AllP (m :: l)) : 1 ≤ m ∧ AllP l := ⟨h m (List.mem_cons_self ..), fun x hx => h x (List.mem_cons_of_mem _ hx)⟩
theorem ai6 {m r q : Int} (hm : 1 ≤ m) (h0 : 0 ≤ r) (h1 : r < m) : (r + m * q) % m = r ∧ (r + m * q) / m = q := by
 constructor
 ·rw [Int.add_mul_emod_self_left, Int.emod_eq_of_lt h0 h1]
 ·rw [Int.add_mul_ediv_left _ _ (by omega), Int.ediv_eq_zero_of_lt h0 h1, Int.zero_add]
theorem ai7 {m r q p : Int} (hm : 1 ≤ m) (h0 : 0 ≤ r) (h1 : r < m) (hq : 0 ≤ q) (hp : q < p) : 0 ≤ r + m * q ∧ r + m * q < m * p := by
 have h2 : 0 ≤ m * q := Int.mul_nonneg (by omega) hq
 have h3 : m * (q + 1) ≤ m * p := Int.mul_le_mul_of_nonneg_left (by omega) (by omega)
 rw [Int.mul_add, Int.mul_one] at h3
 omega
theorem WS_ {a m : Int} (hm : 1 ≤ m) : 0 ≤ a % m ∧ a % m < m := ⟨Int.emod_nonneg _ (by omega), Int.emod_lt_of_pos _ (by omega)⟩
theorem Kx_ : ∀ {l : List Int} (x y : Int), AllP l → 0 ≤ Xp_ l x y ∧ Xp_ l x y < xA_ l
 | [], _, _, _ => ⟨Int.le_refl 0, by show (0 : Int) < 1; omega⟩
 | m :: l, x, y, h => by
  have h1 := Kx_ (l := l) (x / m) (y / m) h.tail.2
  have hb := WS_ (a := x % m + y % m) h.tail.1
  exact ai7 h.tail.1 hb.1 hb.2 h1.1 h1.2
theorem Tw_ : ∀ {l : List Int} (x : Int), AllP l → 0 ≤ Kw_ l x ∧ Kw_ l x < xA_ l
 | [], _, _ => ⟨Int.le_refl 0, by show (0 : Int) < 1; omega⟩
 | m :: l, x, h => by
  have h1 := Tw_ (l := l) (x / m) h.tail.2
  have hb := WS_ (a := m - x % m) h.tail.1
  exact ai7 h.tail.1 hb.1 hb.2 h1.1 h1.2
theorem VC_ {m : Int} {l : List Int} {x y : Int} (hm : 1 ≤ m) : Xp_ (m :: l) x y % m = (x % m + y % m) % m ∧ Xp_ (m :: l) x y / m = Xp_ l (x / m) (y / m) :=
 ai6 hm (WS_ hm).1 (WS_ hm).2
theorem Ky_ {m : Int} {l : List Int} {x : Int} (hm : 1 ≤ m) : Kw_ (m :: l) x % m = (m - x % m) % m ∧ Kw_ (m :: l) x / m = Kw_ l (x / m) :=
 ai6 hm (WS_ hm).1 (WS_ hm).2
theorem Z5_ : ∀ (l : List Int) (x y : Int), Xp_ l x y = Xp_ l y x
 | [], _, _ => rfl
 | m :: l, x, y => by unfold Xp_; rw [Int.add_comm (x % m), Z5_ l]
theorem WT_ : ∀ {l : List Int} (x y z : Int), AllP l → Xp_ l (Xp_ l x y) z = Xp_ l x (Xp_ l y z)
 | [], _, _, _, _ => rfl
 | m :: l, x, y, z, h => by
  have hm := h.tail.1
  have e1 : Xp_ (m :: l) (Xp_ (m :: l) x y) z = (Xp_ (m :: l) x y % m + z % m) % m + m * Xp_ l (Xp_ (m :: l) x y / m) (z / m) := rfl
  have e2 : Xp_ (m :: l) x (Xp_ (m :: l) y z) = (x % m + Xp_ (m :: l) y z % m) % m + m * Xp_ l (x / m) (Xp_ (m :: l) y z / m) := rfl
  rw [e1, e2, (VC_ hm).1, (VC_ hm).2, (VC_ hm).1, (VC_ hm).2, WT_ _ _ _ h.tail.2]
  congr 1
  simp only [Int.emod_add_emod, Int.add_emod_emod, Int.add_assoc]
theorem UA_ : ∀ {l : List Int} (x : Int), AllP l → 0 ≤ x → x < xA_ l → Xp_ l 0 x = x
 | [], x, _, h0, h1 => by
  have : x < 1 := h1
  show (0 : Int) = x
  omega
 | m :: l, x, h, h0, h1 => by
  have hm := h.tail.1
  have h2 : x < m * xA_ l := h1
  have ih := UA_ (l := l) (x / m) h.tail.2 (Int.ediv_nonneg h0 (by omega)) (Int.ediv_lt_of_lt_mul (by omega) (by rw [Int.mul_comm]; exact h2))
  show (0 % m + x % m) % m + m * Xp_ l (0 / m) (x / m) = x
  rw [Int.zero_emod, Int.zero_ediv, Int.zero_add, Int.emod_emod_of_dvd _ (Int.dvd_refl m), ih]
  exact Int.emod_add_mul_ediv x m
theorem T7_ : ∀ {l : List Int} (x : Int), AllP l → Xp_ l (Kw_ l x) x = 0
 | [], _, _ => rfl
 | m :: l, x, h => by
  have hm := h.tail.1
  show (Kw_ (m :: l) x % m + x % m) % m + m * Xp_ l (Kw_ (m :: l) x / m) (x / m) = 0
  rw [(Ky_ hm).1, (Ky_ hm).2, T7_ (x / m) h.tail.2, Int.emod_add_emod, show m - x % m + x % m = m by omega, Int.emod_self, Int.mul_zero]
  rfl
def qX (q : List Int) (x : Int) : Nat → Int
 | 0 => x
 | k + 1 => qX q x k / q.getD k 0
def qP (q : List Int) : Nat → Int
 | 0 => 1
 | k + 1 => qP q k * q.getD k 0
theorem Tx_ {m : Int} {q : List Int} {x : Int} : ∀ k, qX (m :: q) x (k + 1) = qX q (x / m) k
 | 0 => rfl
 | k + 1 => by
  have ih := Tx_ (m := m) (q := q) (x := x) k
  show qX (m :: q) x (k + 1) / q.getD k 0 = qX q (x / m) k / q.getD k 0
  rw [ih]
theorem Kz_ {m : Int} {q : List Int} : ∀ k, qP (m :: q) (k + 1) = m * qP q k
 | 0 => by show 1 * m = m * 1; omega
 | k + 1 => by
  have ih := Kz_ (m := m) (q := q) k
  show qP (m :: q) (k + 1) * q.getD k 0 = m * (qP q k * q.getD k 0)
  rw [ih, Int.mul_assoc]
def qG (q : List Int) (x y : Int) (k : Nat) : Int := (qX q x k % q.getD k 0 + qX q y k % q.getD k 0) % q.getD k 0
theorem aF0 : ∀ (q : List Int) (x y : Int), sumTo (fun k => qG q x y k * qP q k) q.length = Xp_ q x y
 | [], _, _ => rfl
 | m :: q, x, y => by
  have ih := aF0 q (x / m) (y / m)
  show sumTo _ (q.length + 1) = _
  rw [Uz_]
  have e0 : qG (m :: q) x y 0 * qP (m :: q) 0 = (x % m + y % m) % m := by
   show (x % m + y % m) % m * 1 = _
   rw [Int.mul_one]
  have e1 : sumTo (fun k => qG (m :: q) x y (k + 1) * qP (m :: q) (k + 1)) q.length = sumTo (fun k => (qG q (x / m) (y / m) k * qP q k) * m) q.length := yb_ fun k _ => by
   unfold qG
   rw [Tx_, Tx_, Kz_, List.getD_cons_succ, Int.mul_comm m, Int.mul_assoc]
  rw [e0, e1, Zo_, ih, Int.mul_comm]
  rfl
theorem VD_ {o : List Int} {k : Nat} (h : k < o.length) : o.reverse.getD k 0 = o.getD (o.length - 1 - k) 0 := by
 rw [List.getD_eq_getElem?_getD, List.getElem?_reverse h, List.getD_eq_getElem?_getD]
theorem au0 {o : List Int} {x : Int} : ∀ k, k ≤ o.length → adX o x k = qX o.reverse x k
 | 0, _ => rfl
 | k + 1, h => by
  show adX o x k / adQ o k = qX o.reverse x k / o.reverse.getD k 0
  rw [au0 k (by omega), VD_ (by omega)]
  rfl
theorem aF1 {o : List Int} : ∀ k, k ≤ o.length → adP o k = qP o.reverse k
 | 0, _ => rfl
 | k + 1, h => by
  show adP o k * adQ o k = qP o.reverse k * o.reverse.getD k 0
  rw [aF1 k (by omega), VD_ (by omega)]
  rfl
theorem KA_ {o : List Int} {x y : Int} : ∀ k, adS o x y k = sumTo (fun k => adG o x y k * adP o k) k
 | 0 => rfl
 | k + 1 => by
  show adS o x y k + _ = sumTo _ k + _
  rw [KA_ k]
theorem KB_ (o : List Int) (x y : Int) : av0 o x y = Xp_ o.reverse x y := by
 rw [← aF0, List.length_reverse]
 unfold av0
 rw [KA_]
 refine yb_ fun k hk => ?_
 rw [aF1 k (by omega)]
 unfold adG qG
 rw [au0 k (by omega), au0 k (by omega), VD_ hk]
 rfl
theorem UB_ : ∀ o : List Int, xA_ o.reverse = xA_ o
 | [] => rfl
 | m :: l => by rw [List.reverse_cons, wQ_, UB_ l, Int.mul_comm]; rfl
theorem PosO.all {o : List Int} (h : PosO o) : AllP o.reverse := fun m hm => by
 rw [List.mem_reverse] at hm
 obtain ⟨i, hi, rfl⟩ := List.getElem_of_mem hm
 have := h.2 i hi
 rwa [List.getD_eq_getElem?_getD, List.getElem?_eq_getElem hi] at this
def ngO (o : List Int) (x : Nat) : Nat := (Kw_ o.reverse x).toNat
theorem PosO.grp {o : List Int} (h : PosO o) : GrpP (xA_ o).toNat (ad o) (ngO o) := by
 have hp := yk_ h
 have ha := h.all
 have hpr := UB_ o
 have e : ∀ x y : Nat, ((ad o x y : Nat) : Int) = Xp_ o.reverse x y := fun x y => by rw [UU_ h, KB_]
 have en : ∀ x : Nat, ((ngO o x : Nat) : Int) = Kw_ o.reverse x := fun x => by
  have := (Tw_ (x : Int) ha).1
  unfold ngO
  omega
 have lt : ∀ x y : Nat, ad o x y < (xA_ o).toNat := fun x y => by
  have := Kx_ (x : Int) (y : Int) ha
  have := e x y
  omega
 have cm : ∀ x y : Nat, ad o x y = ad o y x := fun x y => by
  have h1 := e x y
  have h2 := e y x
  rw [Z5_] at h2
  omega
 have zl : ∀ x, x < (xA_ o).toNat → ad o 0 x = x := fun x hx => by
  have h1 := e 0 x
  have h2 := UA_ (x : Int) ha (by omega) (by omega)
  rw [show ((0 : Nat) : Int) = 0 from rfl] at h1
  omega
 have il : ∀ x, ad o (ngO o x) x = 0 := fun x => by
  have h1 := e (ngO o x) x
  rw [en, T7_ (x : Int) ha] at h1
  omega
 refine ⟨by omega, fun x _ y _ => lt x y, fun x _ => ?_, zl, fun x hx => by rw [cm]; exact zl x hx, fun x _ => il x, fun x _ => by rw [cm]; exact il x, fun x _ y _ z _ => ?_⟩
 ·have := Tw_ (x : Int) ha
  have := en x
  omega
 ·have h1 := e (ad o x y) z
  have h2 := e x (ad o y z)
  rw [e x y] at h1
  rw [e y z] at h2
  rw [WT_ _ _ _ ha] at h1
  omega
theorem Z6_ {o : List Int} (h : PosO o) (x y : Nat) : ad o x y = ad o y x := by
 have h1 : ((ad o x y : Nat) : Int) = Xp_ o.reverse x y := by rw [UU_ h, KB_]
 have h2 : ((ad o y x : Nat) : Int) = Xp_ o.reverse y x := by rw [UU_ h, KB_]
 rw [Z5_] at h2
 omega
end Go.Pl
namespace Go.Pl
open Go.Aw
abbrev n3 (T : List (List (List Nat))) (i j : Nat) : List Nat := (T.getD i []).getD j []
end Go.Pl
