import Derived.Test.YtjbdiekkjegckaaGreatPl2
set_option linter.unusedSimpArgs false
set_option linter.unusedVariables false
namespace Go.Pl
open Go.Aw
def xA_ : List Int → Int
 | [] => 1
 | a :: l => a * xA_ l
def PosO (o : List Int) : Prop := 0 < o.length ∧ ∀ i, i < o.length → 1 ≤ o.getD i 0
def frP (o : List Int) : Nat → Int
 | 0 => 1
 | k + 1 => frP o k * o.getD k 0
def adQ (o : List Int) (k : Nat) : Int := o.getD (o.length - 1 - k) 0
def adP (o : List Int) : Nat → Int
 | 0 => 1
 | k + 1 => adP o k * adQ o k
def adX (o : List Int) (x : Int) : Nat → Int
 | 0 => x
 | k + 1 => adX o x k / adQ o k
def adG (o : List Int) (x y : Int) (k : Nat) : Int := (adX o x k % adQ o k + adX o y k % adQ o k) % adQ o k
def adS (o : List Int) (x y : Int) : Nat → Int
 | 0 => 0
 | k + 1 => adS o x y k + adG o x y k * adP o k
def av0 (o : List Int) (x y : Int) : Int := adS o x y o.length
theorem wQ_ (a : List Int) (x : Int) : xA_ (a ++ [x]) = xA_ a * x := by
 induction a with
 | nil => simp [xA_]
 | cons y a ih => simp only [List.cons_append, xA_, ih, Int.mul_assoc]
theorem chain {f q : Nat → Int} {N : Nat} (h0 : f 0 = 1) (hs : ∀ k, k < N → f (k + 1) = f k * q k) (hq : ∀ k, k < N → 1 ≤ q k) : ∀ k, k ≤ N → 1 ≤ f k ∧ f k ≤ f N := by
 have up : ∀ k, k < N → 1 ≤ f k → f k ≤ f (k + 1) := fun k hk h1 => by
  rw [hs k hk]
  have := Int.mul_le_mul_of_nonneg_left (hq k hk) (show 0 ≤ f k by omega)
  omega
 have pos : ∀ k, k ≤ N → 1 ≤ f k := by
  intro k
  induction k with
  | zero => intro _; omega
  | succ k ih =>
   intro hk
   have h1 := ih (by omega)
   have h2 := up k (by omega) h1
   omega
 intro k hk
 refine ⟨pos k hk, ?_⟩
 have : ∀ d, k + d ≤ N → f k ≤ f (k + d) := by
  intro d
  induction d with
  | zero => intro _; exact Int.le_refl _
  | succ d ih =>
   intro h
   have h1 := ih (by omega)
   have h2 := up (k + d) (by omega) (pos _ (by omega))
   rw [show k + (d + 1) = k + d + 1 by omega]
   omega
 have h := this (N - k) (by omega)
 rw [show k + (N - k) = N by omega] at h
 exact h
theorem K9_ (o : List Int) : ∀ k, k ≤ o.length → frP o k = xA_ (o.take k) := by
 intro k
 induction k with
 | zero => intro _; simp [frP, xA_]
 | succ k ih =>
  intro h
  have e : o.take (k + 1) = o.take k ++ [o.getD k 0] := by
   rw [← List.take_append_getElem (show k < o.length by omega), List.getD_eq_getElem?_getD, List.getElem?_eq_getElem (show k < o.length by omega)]
   rfl
  rw [e, wQ_, ← ih (by omega)]
  rfl
theorem wp_ (o : List Int) : frP o o.length = xA_ o := by
 rw [K9_ o _ (Nat.le_refl _), List.take_length]
theorem Wx_ {o : List Int} {j : Nat} (h : ∀ i, i < j → 1 ≤ o.getD i 0) : ∀ k, k ≤ j → 1 ≤ frP o k ∧ frP o k ≤ frP o j := chain rfl (fun _ _ => rfl) h
theorem Ja_ (o : List Int) : ∀ k, k ≤ o.length → adP o k = xA_ (o.drop (o.length - k)) := by
 intro k
 induction k with
 | zero => intro _; simp [adP, xA_]
 | succ k ih =>
  intro h
  have hl : o.length - (k + 1) < o.length := by omega
  have e : o.drop (o.length - (k + 1)) = adQ o k :: o.drop (o.length - k) := by
   rw [List.drop_eq_getElem_cons hl, show o.length - (k + 1) + 1 = o.length - k by omega]
   congr 1
   unfold adQ
   rw [List.getD_eq_getElem?_getD, show o.length - 1 - k = o.length - (k + 1) by omega, List.getElem?_eq_getElem hl]
   rfl
  rw [e, xA_, ← ih (by omega), Int.mul_comm]
  rfl
theorem W3_ (o : List Int) : adP o o.length = xA_ o := by
 rw [Ja_ o _ (Nat.le_refl _), Nat.sub_self, List.drop_zero]
theorem Zj_ {o : List Int} (h : PosO o) {k : Nat} (hk : k < o.length) : 1 ≤ adQ o k := h.2 _ (by omega)
theorem Wy_ {o : List Int} (h : PosO o) : ∀ k, k ≤ o.length → 1 ≤ adP o k ∧ adP o k ≤ xA_ o := by
 rw [← W3_ o]
 exact chain rfl (fun _ _ => rfl) (fun k hk => Zj_ h hk)
theorem YI_ {o : List Int} (h : PosO o) {x : Int} (hx : 0 ≤ x) : ∀ k, k ≤ o.length → 0 ≤ adX o x k ∧ adX o x k ≤ x := by
 intro k
 induction k with
 | zero => intro _; exact ⟨hx, Int.le_refl _⟩
 | succ k ih =>
  intro hk
  have h1 := ih (by omega)
  have hq := Zj_ h (show k < o.length by omega)
  have h2 : adX o x k / adQ o k ≤ adX o x k := Int.ediv_le_self _ h1.1
  have h3 : 0 ≤ adX o x k / adQ o k := Int.ediv_nonneg h1.1 (by omega)
  simp only [adX]
  omega
theorem R9_ {o : List Int} (h : PosO o) (x y : Int) {k : Nat} (hk : k < o.length) : 0 ≤ adG o x y k ∧ adG o x y k < adQ o k := by
 have hq := Zj_ h hk
 exact ⟨Int.emod_nonneg _ (by omega), Int.emod_lt_of_pos _ (by omega)⟩
theorem VV_ {o : List Int} (h : PosO o) (x y : Int) : ∀ k, k ≤ o.length → 0 ≤ adS o x y k ∧ adS o x y k < adP o k := by
 intro k
 induction k with
 | zero => intro _; simp [adS, adP]
 | succ k ih =>
  intro hk
  have h1 := ih (by omega)
  have hg := R9_ h x y (show k < o.length by omega)
  have hp := (Wy_ h k (by omega)).1
  have h2 : 0 ≤ adG o x y k * adP o k := Int.mul_nonneg hg.1 (by omega)
  have h3 : (adG o x y k + 1) * adP o k ≤ adQ o k * adP o k := Int.mul_le_mul_of_nonneg_right (by omega) (by omega)
  rw [Int.add_mul, Int.one_mul] at h3
  simp only [adS, adP]
  rw [Int.mul_comm (adP o k)]
  omega
theorem Qa_ {o : List Int} (h : PosO o) (x y : Int) : 0 ≤ av0 o x y ∧ av0 o x y < xA_ o := by
 have := VV_ h x y o.length (Nat.le_refl _)
 rwa [W3_] at this
theorem yk_ {o : List Int} (h : PosO o) : 1 ≤ xA_ o := by
 have := Wy_ h o.length (Nat.le_refl _)
 rw [W3_] at this
 exact this.1
theorem zH_ {o : List Int} (h : PosO o) {i : Nat} (hi : i < o.length) : o.getD i 0 ≤ xA_ o := by
 have h1 := Wx_ (o := o) (j := o.length) h.2 (i + 1) (by omega)
 have h2 := Wx_ (o := o) (j := o.length) h.2 i (by omega)
 rw [wp_] at h1
 have h3 : frP o (i + 1) = frP o i * o.getD i 0 := rfl
 have h4 := h.2 i hi
 have h5 : 1 * o.getD i 0 ≤ frP o i * o.getD i 0 := Int.mul_le_mul_of_nonneg_right h2.1 (by omega)
 omega
def RE_ (o : List Int) : Int := if xA_ o ≤ 8 then xA_ o else 9
def yG_ (a : Int) : Int := if a ≤ 17 then a else 17
noncomputable def gsz (o : List Int) : Int := if bd (PosO o) = true then yG_ (xA_ o) else 0
theorem Qb_ {a b : Int} (ha : 1 ≤ a) (hb : 1 ≤ b) : yG_ (yG_ a * yG_ b) = yG_ (a * b) := by
 have hab : ∀ {c d : Int}, 1 ≤ c → 17 < d → 17 < c * d := fun {c d} hc hd => by
  have := Int.mul_le_mul_of_nonneg_right hc (show 0 ≤ d by omega)
  omega
 unfold yG_
 by_cases h1 : a ≤ 17
 ·by_cases h2 : b ≤ 17
  ·rw [if_pos h1, if_pos h2]
  ·rw [if_pos h1, if_neg h2]
   have h3 := hab ha (show 17 < b by omega)
   have h4 : 1 * 17 ≤ a * 17 := Int.mul_le_mul_of_nonneg_right ha (by omega)
   rw [if_neg (show ¬ a * b ≤ 17 by omega)]
   by_cases h5 : a * 17 ≤ 17
   ·rw [if_pos h5]; omega
   ·rw [if_neg h5]
 ·have h3 := hab hb (show 17 < a by omega)
  rw [Int.mul_comm b a] at h3
  rw [if_neg h1, if_neg (show ¬ a * b ≤ 17 by omega)]
  have h6 : 1 ≤ (if b ≤ 17 then b else 17) := by split <;> omega
  have h4 := Int.mul_le_mul_of_nonneg_left h6 (show (0 : Int) ≤ 17 by omega)
  generalize (17 : Int) * (if b ≤ 17 then b else 17) = z at h4 ⊢
  by_cases h5 : z ≤ 17
  ·rw [if_pos h5]; omega
  ·rw [if_neg h5]
def aw1 (n : Nat) (m : Int) (r : List Int) : Prop := r.length = n ∧ ∀ k, k < n → 0 ≤ r.getD k 0 ∧ r.getD k 0 ≤ m - 1
def GridB (n : Nat) (m : Int) (g : List (List Int)) : Prop := g.length = n ∧ ∀ j, j < n → aw1 n m (g.getD j [])
def CubB (n : Nat) (m : Int) (w : List (List (List Int))) : Prop := w.length = n ∧ ∀ i, i < n → GridB n m (w.getD i [])
def CocS (o : List Int) (m : Int) (w : List (List (List Int))) : Prop := PosO o ∧ xA_ o ≤ 8 ∧ 1 ≤ m ∧ m ≤ 1000 ∧ (w.length : Int) = xA_ o ∧ CubB w.length m w
theorem GridB.row {n : Nat} {m : Int} {g : List (List Int)} (h : GridB n m g) {j : Nat} (hj : j < n) : (g.getD j []).length = n := (h.2 j hj).1
theorem GridB.bd {n : Nat} {m : Int} {g : List (List Int)} (h : GridB n m g) {j k : Nat} (hj : j < n) (hk : k < n) : 0 ≤ e2 g j k ∧ e2 g j k ≤ m - 1 := (h.2 j hj).2 k hk
theorem CubB.mat {n : Nat} {m : Int} {w : List (List (List Int))} (h : CubB n m w) {i : Nat} (hi : i < n) : (w.getD i []).length = n := (h.2 i hi).1
theorem CubB.row {n : Nat} {m : Int} {w : List (List (List Int))} (h : CubB n m w) {i j : Nat} (hi : i < n) (hj : j < n) : ((w.getD i []).getD j []).length = n := (h.2 i hi).row hj
theorem CubB.bd {n : Nat} {m : Int} {w : List (List (List Int))} (h : CubB n m w) {i j k : Nat} (hi : i < n) (hj : j < n) (hk : k < n) : 0 ≤ e3 w i j k ∧ e3 w i j k ≤ m - 1 := (h.2 i hi).bd hj hk
theorem CocS.n8 {o : List Int} {m : Int} {w : List (List (List Int))} (h : CocS o m w) : 1 ≤ w.length ∧ w.length ≤ 8 := by
 have := h.2.2.2.2.1
 have h1 := yk_ h.1
 have := h.2.1
 omega
def ad (o : List Int) (x y : Nat) : Nat := (av0 o x y).toNat
theorem UU_ {o : List Int} (h : PosO o) (x y : Nat) : ((ad o x y : Nat) : Int) = av0 o x y := by
 have := (Qa_ h x y).1
 unfold ad
 omega
theorem CocS.ad {o : List Int} {m : Int} {w : List (List (List Int))} (h : CocS o m w) (x y : Nat) : ad o x y < w.length := by
 have h1 := UU_ h.1 x y
 have h2 := (Qa_ h.1 x y).2
 have := h.2.2.2.2.1
 omega
theorem Zk_ {n m : Int} (hm : 1 ≤ m) : (n.tmod m + m).tmod m = n % m := by
 have h1 : -m < n.tmod m := by
  have := Int.tmod_lt_of_pos (-n) (show 0 < m by omega)
  rw [Int.neg_tmod] at this
  omega
 rw [Int.tmod_eq_emod_of_nonneg (by omega), Int.add_emod_right]
 rw [Int.tmod_eq_emod]
 split
 ·simp
 ·have : ((m.natAbs : Nat) : Int) = m := by omega
  rw [this]
  simp
theorem tmod_zero {n m : Int} : n.tmod m = 0 ↔ n % m = 0 := by
 rw [← Int.dvd_iff_tmod_eq_zero, ← Int.dvd_iff_emod_eq_zero]
theorem sub_zero {a b m : Int} : (a - b) % m = 0 ↔ a % m = b % m := by
 rw [Int.emod_eq_emod_iff_emod_sub_eq_zero]
def Sx_ (w : List (List (List Int))) : Prop := ∀ i, i < w.length → ∀ j, j < w.length → e3 w 0 i j = 0 ∧ e3 w i 0 j = 0 ∧ e3 w i j 0 = 0
def cfV (o : List Int) (w : List (List (List Int))) (x y z t : Nat) : Int := e3 w y z t - e3 w (ad o x y) z t + e3 w x (ad o y z) t - e3 w x y (ad o z t) + e3 w x y z
def cfG (o : List Int) (m : Int) (w : List (List (List Int))) (x y z t : Nat) : Option (List Int) := if cfV o w x y z t % m ≠ 0 then some [(x : Int), (y : Int), (z : Int), (t : Int)] else none
def cfF (o : List Int) (m : Int) (w : List (List (List Int))) : Option (List Int) := first w.length fun x => first w.length fun y => first w.length fun z => first w.length (cfG o m w x y z)
def wM_ (o : List Int) (m : Int) (w : List (List (List Int))) : Prop := CocS o m w ∧ Sx_ w ∧ cfF o m w = none
noncomputable def UV_ (o : List Int) (m : Int) (w : List (List (List Int))) : Bool := bd (wM_ o m w)
def wq_ (n : Nat) (m : Int) (c : List (List Int)) : Prop := GridB n m c ∧ ∀ x, x < n → e2 c 0 x = 0 ∧ e2 c x 0 = 0
def br1 (o : List Int) (w : List (List (List Int))) (c : List (List Int)) (x y z : Nat) : Int := e3 w y z x + e2 c x (ad o y z) + e3 w x y z - e2 c x z - e3 w y x z - e2 c x y
def br2 (o : List Int) (w : List (List (List Int))) (c : List (List Int)) (x y z : Nat) : Int := e2 c (ad o x y) z - e3 w z x y - e3 w x y z - e2 c x z - e2 c y z + e3 w x z y
def brV (o : List Int) (w : List (List (List Int))) (c : List (List Int)) (q x y z : Nat) : Int := if q = 0 then br1 o w c x y z else br2 o w c x y z
def bfG (o : List Int) (m : Int) (w : List (List (List Int))) (c : List (List Int)) (q x y z : Nat) : Option (List Int) := if brV o w c q x y z % m ≠ 0 then some [(q : Int) + 1, (x : Int), (y : Int), (z : Int)] else none
def bfF (o : List Int) (m : Int) (w : List (List (List Int))) (c : List (List Int)) : Option (List Int) := first 2 fun q => first w.length fun x => first w.length fun y => first w.length (bfG o m w c q x y)
def zv_ (o : List Int) (m : Int) (w : List (List (List Int))) (c : List (List Int)) : Prop := wM_ o m w ∧ wq_ w.length m c
noncomputable def Zl_ (o : List Int) (m : Int) (w : List (List (List Int))) (c : List (List Int)) : Bool := bd (zv_ o m w c ∧ bfF o m w c = none)
def sumW (m : Int) (n : Nat) (v w : List (List (List Int))) : List (List (List Int)) := z5_ n fun i j k => (e3 v i j k + e3 w i j k) % m
def Wd_ (m : Int) (n : Nat) (c d : List (List Int)) : List (List Int) := yW_ n n fun i j => (e2 c i j + e2 d i j) % m
noncomputable def abA (o : List Int) (m : Int) (w : List (List (List Int))) (c : List (List Int)) (o' : List Int) (m' : Int) (w' : List (List (List Int))) (c' : List (List Int)) : AV :=
 if Zl_ o m w c = true ∧ Zl_ o' m' w' c' = true then (if o = o' ∧ m = m' then .tup [.agg [.l1 o, .int m, .l3 (sumW m w.length w w'), .l2 (Wd_ m w.length c c')], .int 0] else .tup [.agg [.nil, .int 0, .nil, .nil], .int 2]) else .tup [.agg [.nil, .int 0, .nil, .nil], .int 1]
end Go.Pl
namespace Go.Pl
open Go.Aw
def lx3 (f g : Nat → Nat → Nat → Int) (i j k x y z : Nat) : Int := if x < i ∨ (x = i ∧ (y < j ∨ (y = j ∧ z < k))) then f x y z else g x y z
def wrC (n : Nat) (f g : Nat → Nat → Nat → Int) (i j k : Nat) : List (List (List Int)) := z5_ n (lx3 f g i j k)
theorem Xs_ {n : Nat} {f g : Nat → Nat → Nat → Int} {i j k : Nat} (hi : i < n) (hj : j < n) :
  (wrC n f g i j k).set i (((wrC n f g i j k).getD i []).set j ((((wrC n f g i j k).getD i []).getD j []).set k (f i j k))) = wrC n f g i j (k + 1) := by
 unfold wrC
 rw [Je_ hi hj]
 refine zJ_ fun x _ y _ z _ => ?_
 unfold lx3
 by_cases h : x = i ∧ y = j ∧ z = k
 ·obtain ⟨rfl, rfl, rfl⟩ := h
  rw [if_pos ⟨rfl, rfl, rfl⟩, if_pos (by omega)]
 ·rw [if_neg h]
  by_cases h1 : x < i ∨ (x = i ∧ (y < j ∨ (y = j ∧ z < k)))
  ·rw [if_pos h1, if_pos (by omega)]
  ·rw [if_neg h1, if_neg (by omega)]
theorem Xt_ {n : Nat} {f g : Nat → Nat → Nat → Int} {i j : Nat} : wrC n f g i j n = wrC n f g i (j + 1) 0 := by
 refine zJ_ fun x _ y _ z hz => ?_
 unfold lx3
 by_cases h1 : x < i ∨ (x = i ∧ (y < j ∨ (y = j ∧ z < n)))
 ·rw [if_pos h1, if_pos (by omega)]
 ·rw [if_neg h1, if_neg (by omega)]
theorem Xu_ {n : Nat} {f g : Nat → Nat → Nat → Int} {i : Nat} : wrC n f g i n 0 = wrC n f g (i + 1) 0 0 := by
 refine zJ_ fun x _ y hy z _ => ?_
 unfold lx3
 by_cases h1 : x < i ∨ (x = i ∧ (y < n ∨ (y = n ∧ z < 0)))
 ·rw [if_pos h1, if_pos (by omega)]
 ·rw [if_neg h1, if_neg (by omega)]
theorem Yj_ {n : Nat} {f g : Nat → Nat → Nat → Int} : wrC n f g n 0 0 = z5_ n f :=
 zJ_ fun x hx y _ z _ => if_pos (.inl hx)
theorem Y2_ {n : Nat} {f g : Nat → Nat → Nat → Int} : wrC n f g 0 0 0 = z5_ n g :=
 zJ_ fun x hx y _ z _ => if_neg (by omega)
theorem wr_ {n : Nat} {f g : Nat → Nat → Nat → Int} {i j k : Nat} : (wrC n f g i j k).length = n := xL_ ..
theorem Zm_ {n : Nat} {f g : Nat → Nat → Nat → Int} {i j k x : Nat} (h : x < n) : ((wrC n f g i j k).getD x []).length = n := TJ_ h
theorem Zn_ {n : Nat} {f g : Nat → Nat → Nat → Int} {i j k x y : Nat} (h : x < n) (hy : y < n) : (((wrC n f g i j k).getD x []).getD y []).length = n := TK_ h hy
def lx2 (f g : Nat → Nat → Int) (i j x y : Nat) : Int := if x < i ∨ (x = i ∧ y < j) then f x y else g x y
def wrM (n : Nat) (f g : Nat → Nat → Int) (i j : Nat) : List (List Int) := yW_ n n (lx2 f g i j)
theorem ws_ {n : Nat} {f g : Nat → Nat → Int} {i j : Nat} (hi : i < n) : (wrM n f g i j).set i (((wrM n f g i j).getD i []).set j (f i j)) = wrM n f g i (j + 1) := by
 unfold wrM
 rw [TL_ hi]
 refine zg_ fun x _ y _ => ?_
 unfold lx2
 by_cases h : x = i ∧ y = j
 ·obtain ⟨rfl, rfl⟩ := h
  rw [if_pos ⟨rfl, rfl⟩, if_pos (by omega)]
 ·rw [if_neg h]
  by_cases h1 : x < i ∨ (x = i ∧ y < j)
  ·rw [if_pos h1, if_pos (by omega)]
  ·rw [if_neg h1, if_neg (by omega)]
theorem wt_ {n : Nat} {f g : Nat → Nat → Int} {i : Nat} : wrM n f g i n = wrM n f g (i + 1) 0 := by
 refine zg_ fun x _ y hy => ?_
 unfold lx2
 by_cases h1 : x < i ∨ (x = i ∧ y < n)
 ·rw [if_pos h1, if_pos (by omega)]
 ·rw [if_neg h1, if_neg (by omega)]
theorem wu_ {n : Nat} {f g : Nat → Nat → Int} : wrM n f g n 0 = yW_ n n f := zg_ fun x hx y _ => if_pos (.inl hx)
theorem w6_ {n : Nat} {f g : Nat → Nat → Int} : wrM n f g 0 0 = yW_ n n g := zg_ fun x hx y _ => if_neg (by omega)
theorem yT_ {n : Nat} {f g : Nat → Nat → Int} {i j : Nat} : (wrM n f g i j).length = n := ya_ ..
theorem XL_ {n : Nat} {f g : Nat → Nat → Int} {i j x : Nat} (h : x < n) : ((wrM n f g i j).getD x []).length = n := by unfold wrM; rw [yK_ h, xT_]
theorem Jb_ {r : List Int} {n : Nat} (h : r.length = n) : zo_ n (fun k => r.getD k 0) = r := by
 subst h
 apply List.ext_getElem
 ·simp [zo_]
 ·intro i h1 h2
  simp [zo_, List.getD, h2]
theorem Jc_ {g : List (List Int)} {n : Nat} {m : Int} (h : GridB n m g) : yW_ n n (e2 g) = g := by
 obtain ⟨rfl, h2⟩ := h
 apply List.ext_getElem
 ·simp [yW_]
 ·intro i h1 h3
  have e : g.getD i [] = g[i] := by simp [List.getD, h3]
  have := Jb_ (h2 i h3).1
  rw [e] at this
  simp only [yW_, List.getElem_map, List.getElem_range]
  refine Eq.trans (wc_ fun j hj => ?_) this
  rw [e2, e]
theorem Jd_ {w : List (List (List Int))} {n : Nat} {m : Int} (h : CubB n m w) : z5_ n (e3 w) = w := by
 obtain ⟨rfl, h2⟩ := h
 apply List.ext_getElem
 ·simp [z5_]
 ·intro i h1 h3
  have e : w.getD i [] = w[i] := by simp [List.getD, h3]
  have := Jc_ (h2 i h3)
  rw [e] at this
  simp only [z5_, List.getElem_map, List.getElem_range]
  refine Eq.trans (zg_ fun j hj k hk => ?_) this
  rw [e3, e, e2]
def We_ (n : Nat) (f : Nat → Nat → Nat → Int) (i : Nat) : List (List (List Int)) := (List.range i).map fun u => yW_ n n (f u)
theorem wb_ {n : Nat} {f : Nat → Nat → Nat → Int} {i : Nat} : We_ n f (i + 1) = We_ n f i ++ [yW_ n n (f i)] := by simp [We_, List.range_succ]
theorem W4_ {n : Nat} {f : Nat → Nat → Nat → Int} : We_ n f n = z5_ n f := rfl
theorem w7_ {n : Nat} {f : Nat → Nat → Nat → Int} {i : Nat} : (We_ n f i).length = i := by simp [We_]
theorem zP_ {r n : Nat} {f : Nat → Nat → Int} : yW_ (r + 1) n f = yW_ r n f ++ [zo_ n (f r)] := by simp [yW_, List.range_succ]
theorem yR_ {k : Nat} {f : Nat → Int} : zo_ (k + 1) f = zo_ k f ++ [f k] := by simp [zo_, List.range_succ]
end Go.Pl
