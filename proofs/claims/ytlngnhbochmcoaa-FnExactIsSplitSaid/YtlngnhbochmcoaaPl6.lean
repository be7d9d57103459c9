import Derived.Test.YtlngnhbochmcoaaPl2
set_option linter.unusedSimpArgs false
set_option linter.unusedVariables false
namespace Go.Pl
open Go.Aw
def wQ_ : List Int → Int
 | [] => 1
 | a :: l => a * wQ_ l
def PosO (o : List Int) : Prop := 0 < o.length ∧ ∀ i, i < o.length → 1 ≤ o.getD i 0
def adQ (o : List Int) (k : Nat) : Int := o.getD (o.length - 1 - k) 0
def adP (o : List Int) : Nat → Int
 | 0 => 1
 | k + 1 => adP o k * adQ o k
def adX (o : List Int) (x : Int) : Nat → Int
 | 0 => x
 | k + 1 => adX o x k / adQ o k
def adG (o : List Int) (x y : Int) (k : Nat) : Int := (adX o x k % adQ o k + adX o y k % adQ o k) % adQ o k
def adS (o : List Int) (x y : Int) : Nat → Int
 | 0 => 0
 | k + 1 => adS o x y k + adG o x y k * adP o k
def aZ6 (o : List Int) (x y : Int) : Int := adS o x y o.length
theorem chain {f q : Nat → Int} {N : Nat} (h0 : f 0 = 1) (hs : ∀ k, k < N → f (k + 1) = f k * q k) (hq : ∀ k, k < N → 1 ≤ q k) : ∀ k, k ≤ N → 1 ≤ f k ∧ f k ≤ f N := by
 have up : ∀ k, k < N → 1 ≤ f k → f k ≤ f (k + 1) := fun k hk h1 => by
  rw [hs k hk]
  have := Int.mul_le_mul_of_nonneg_left (hq k hk) (show 0 ≤ f k by omega)
  omega
 have pos : ∀ k, k ≤ N → 1 ≤ f k := by
  intro k
  induction k with
  | zero => intro _; omega
  | succ k ih =>
   intro hk
   have h1 := ih (by omega)
   have h2 := up k (by omega) h1
   omega
 intro k hk
 refine ⟨pos k hk, ?_⟩
 have : ∀ d, k + d ≤ N → f k ≤ f (k + d) := by
  intro d
  induction d with
  | zero => intro _; exact Int.le_refl _
  | succ d ih =>
   intro h
   have h1 := ih (by omega)
   have h2 := up (k + d) (by omega) (pos _ (by omega))
   rw [show k + (d + 1) = k + d + 1 by omega]
   omega
 have h := this (N - k) (by omega)
 rw [show k + (N - k) = N by omega] at h
 exact h
theorem ap2 (o : List Int) : ∀ k, k ≤ o.length → adP o k = wQ_ (o.drop (o.length - k)) := by
 intro k
 induction k with
 | zero => intro _; simp [adP, wQ_]
 | succ k ih =>
  intro h
  have hl : o.length - (k + 1) < o.length := by omega
  have e : o.drop (o.length - (k + 1)) = adQ o k :: o.drop (o.length - k) := by
   rw [List.drop_eq_getElem_cons hl, show o.length - (k + 1) + 1 = o.length - k by omega]
   congr 1
   unfold adQ
   rw [List.getD_eq_getElem?_getD, show o.length - 1 - k = o.length - (k + 1) by omega, List.getElem?_eq_getElem hl]
   rfl
  rw [e, wQ_, ← ih (by omega), Int.mul_comm]
  rfl
theorem SV_ (o : List Int) : adP o o.length = wQ_ o := by
 rw [ap2 o _ (Nat.le_refl _), Nat.sub_self, List.drop_zero]
theorem Jz_ {o : List Int} (h : PosO o) {k : Nat} (hk : k < o.length) : 1 ≤ adQ o k := h.2 _ (by omega)
theorem aV5 {o : List Int} (h : PosO o) : ∀ k, k ≤ o.length → 1 ≤ adP o k ∧ adP o k ≤ wQ_ o := by
 rw [← SV_ o]
 exact chain rfl (fun _ _ => rfl) (fun k hk => Jz_ h hk)
theorem aV6 {o : List Int} (h : PosO o) (x y : Int) {k : Nat} (hk : k < o.length) : 0 ≤ adG o x y k ∧ adG o x y k < adQ o k := by
 have hq := Jz_ h hk
 exact ⟨Int.emod_nonneg _ (by omega), Int.emod_lt_of_pos _ (by omega)⟩
theorem aV7 {o : List Int} (h : PosO o) (x y : Int) : ∀ k, k ≤ o.length → 0 ≤ adS o x y k ∧ adS o x y k < adP o k := by
 intro k
 induction k with
 | zero => intro _; simp [adS, adP]
 | succ k ih =>
  intro hk
  have h1 := ih (by omega)
  have hg := aV6 h x y (show k < o.length by omega)
  have hp := (aV5 h k (by omega)).1
  have h2 : 0 ≤ adG o x y k * adP o k := Int.mul_nonneg hg.1 (by omega)
  have h3 : (adG o x y k + 1) * adP o k ≤ adQ o k * adP o k := Int.mul_le_mul_of_nonneg_right (by omega) (by omega)
  rw [Int.add_mul, Int.one_mul] at h3
  simp only [adS, adP]
  rw [Int.mul_comm (adP o k)]
  omega
theorem JA_ {o : List Int} (h : PosO o) (x y : Int) : 0 ≤ aZ6 o x y ∧ aZ6 o x y < wQ_ o := by
 have := aV7 h x y o.length (Nat.le_refl _)
 rwa [SV_] at this
def cf2 (n : Nat) (m : Int) (r : List Int) : Prop := r.length = n ∧ ∀ k, k < n → 0 ≤ r.getD k 0 ∧ r.getD k 0 ≤ m - 1
def GridB (n : Nat) (m : Int) (g : List (List Int)) : Prop := g.length = n ∧ ∀ j, j < n → cf2 n m (g.getD j [])
def CubB (n : Nat) (m : Int) (w : List (List (List Int))) : Prop := w.length = n ∧ ∀ i, i < n → GridB n m (w.getD i [])
def CocS (o : List Int) (m : Int) (w : List (List (List Int))) : Prop := PosO o ∧ wQ_ o ≤ 8 ∧ 1 ≤ m ∧ m ≤ 1000 ∧ (w.length : Int) = wQ_ o ∧ CubB w.length m w
theorem GridB.row {n : Nat} {m : Int} {g : List (List Int)} (h : GridB n m g) {j : Nat} (hj : j < n) : (g.getD j []).length = n := (h.2 j hj).1
theorem GridB.bd {n : Nat} {m : Int} {g : List (List Int)} (h : GridB n m g) {j k : Nat} (hj : j < n) (hk : k < n) : 0 ≤ e2 g j k ∧ e2 g j k ≤ m - 1 := (h.2 j hj).2 k hk
theorem CubB.mat {n : Nat} {m : Int} {w : List (List (List Int))} (h : CubB n m w) {i : Nat} (hi : i < n) : (w.getD i []).length = n := (h.2 i hi).1
theorem CubB.row {n : Nat} {m : Int} {w : List (List (List Int))} (h : CubB n m w) {i j : Nat} (hi : i < n) (hj : j < n) : ((w.getD i []).getD j []).length = n := (h.2 i hi).row hj
theorem CubB.bd {n : Nat} {m : Int} {w : List (List (List Int))} (h : CubB n m w) {i j k : Nat} (hi : i < n) (hj : j < n) (hk : k < n) : 0 ≤ e3 w i j k ∧ e3 w i j k ≤ m - 1 := (h.2 i hi).bd hj hk
def ad (o : List Int) (x y : Nat) : Nat := (aZ6 o x y).toNat
theorem bh0 {o : List Int} (h : PosO o) (x y : Nat) : ((ad o x y : Nat) : Int) = aZ6 o x y := by
 have := (JA_ h x y).1
 unfold ad
 omega
theorem CocS.ad {o : List Int} {m : Int} {w : List (List (List Int))} (h : CocS o m w) (x y : Nat) : ad o x y < w.length := by
 have h1 := bh0 h.1 x y
 have h2 := (JA_ h.1 x y).2
 have := h.2.2.2.2.1
 omega
theorem sub_zero {a b m : Int} : (a - b) % m = 0 ↔ a % m = b % m := by
 rw [Int.emod_eq_emod_iff_emod_sub_eq_zero]
end Go.Pl
namespace Go.Pl
open Go.Aw
end Go.Pl
