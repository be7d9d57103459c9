import Derived.Test.YtjbdiekkjegckaaGreatPl1
set_option linter.unusedSimpArgs false
set_option linter.unusedVariables false
namespace Go.Pl
open Go.Aw
noncomputable def aI2 (t a : List (List (List Int))) : Bool := bd (ah3 t = true ∧ Fam t a ∧ bg6 t a = none)
def dg (m : List (List Int)) (x : Nat) : Int := e2 m x x
def trM (m : List (List Int)) : Int := sumTo (dg m) m.length
def trL (a : List (List (List Int))) : List Int := a.map trM
noncomputable def trA (t a : List (List (List Int))) : AV := if aI2 t a = true then .tup [.l1 (trL a), .int 0] else .tup [.nil, .int 1]
end Go.Pl
namespace Go.Pl
open Go.Aw
def InP (x : Int) : Prop := 0 ≤ x ∧ x ≤ 55440
def pwL (out a : Int) (k : Nat) : Int := if k = 0 then out else pwL (if k % 2 = 1 then out * a % 55441 else out) (a * a % 55441) (k / 2)
termination_by k
decreasing_by omega
def pw (a : Int) (k : Nat) : Int := pwL 1 a k
def inv (a : Int) : Int := pw a 55439
theorem ah1 {f : Nat → Int} {n : Nat} : sumTo (fun i => f i % 55441) n % 55441 = sumTo f n % 55441 := by
 induction n with
 | zero => rfl
 | succ n ih => simp only [sumTo]; omega
theorem yb_ {f g : Nat → Int} {n : Nat} (h : ∀ i, i < n → f i = g i) : sumTo f n = sumTo g n := by
 induction n with
 | zero => rfl
 | succ n ih => simp only [sumTo]; rw [ih (fun i hi => h i (by omega)), h n (by omega)]
theorem aw2 {f g : Nat → Int} {n : Nat} (h : ∀ i, i < n → f i % 55441 = g i % 55441) : sumTo f n % 55441 = sumTo g n % 55441 := by
 rw [← ah1, ← ah1 (f := g)]
 rw [yb_ h]
theorem Zo_ {f : Nat → Int} {c : Int} {n : Nat} : sumTo (fun i => f i * c) n = sumTo f n * c := by
 induction n with
 | zero => simp [sumTo]
 | succ n ih => simp only [sumTo]; rw [ih, Int.add_mul]
theorem Qc_ {f : Nat → Int} {n j : Nat} (hj : j < n) : sumTo (fun k => if k = j then f k else 0) n = f j := by
 have h0 : ∀ m, m ≤ j → sumTo (fun k => if k = j then f k else 0) m = 0 := by
  intro m
  induction m with
  | zero => intro _; rfl
  | succ m ih => intro hm; simp only [sumTo]; rw [ih (by omega), if_neg (by omega)]; rfl
 have h1 : ∀ m, j < m → sumTo (fun k => if k = j then f k else 0) m = f j := by
  intro m
  induction m with
  | zero => intro h; omega
  | succ m ih =>
   intro hm
   simp only [sumTo]
   by_cases hjm : m = j
   ·subst hjm; rw [h0 m (by omega), if_pos rfl, Int.zero_add]
   ·rw [ih (by omega), if_neg hjm, Int.add_zero]
 exact h1 n hj
def MatP (n : Nat) (a : List (List Int)) : Prop := a.length = n ∧ ∀ i, i < n → (a.getD i []).length = n ∧ ∀ j, j < n → InP (e2 a i j)
theorem MatP.row {n : Nat} {a : List (List Int)} (h : MatP n a) {i : Nat} (hi : i < n) : (a.getD i []).length = n := (h.2 i hi).1
theorem Yk_ {r c : Nat} {f : Nat → Nat → Int} {i j : Nat} (hi : i < r) (hj : j < c) : e2 (yW_ r c f) i j = f i j := by
 simp only [e2]
 rw [yK_ hi, y4_ hj]
def pG (a b : List (List Int)) (i j k : Nat) : Int := e2 a i k * e2 b k j
def ak3 (a b : List (List Int)) (n : Nat) : List (List Int) := yW_ n n (fun i j => sumTo (pG a b i j) n % 55441)
def Shape (s : List (List Int)) (t : List Int) : Prop := 1 ≤ t.length ∧ t.length ≤ 16 ∧ MatP t.length s ∧ ∀ i, i < t.length → InP (t.getD i 0)
def wG (s : List (List Int)) (i : Nat) : Int := e2 s 0 i * e2 s 0 i
def Wz_ (s : List (List Int)) (n : Nat) : Int := sumTo (wG s) n % 55441
def aw3 (s : List (List Int)) (t : List Int) : Prop := (∀ i, i < t.length → ∀ j, j < t.length → e2 s i j = e2 s j i) ∧ e2 s 0 0 = 1 ∧ t.getD 0 0 = 1 ∧ (∀ i, i < t.length → e2 s 0 i ≠ 0) ∧ ∀ i, i < t.length → t.getD i 0 ≠ 0
def sqD (s : List (List Int)) (n : Nat) : List (List Int) := ak3 s s n
def cI (s : List (List Int)) (n i : Nat) : Int := RF_ (fun x => !decide (x = 0)) ((sqD s n).getD i [])
def Good (s : List (List Int)) (n i : Nat) : Prop := 0 ≤ cI s n i ∧ e2 (sqD s n) i (cI s n i).toNat = Wz_ s n ∧ ∀ k, k < n → k ≠ (cI s n i).toNat → e2 (sqD s n) i k = 0
def aw4 (s : List (List Int)) (t : List Int) (i : Nat) : Prop := Good s t.length i ∧ (∀ j, j < i → cI s t.length j ≠ cI s t.length i) ∧ t.getD (cI s t.length i).toNat 0 = t.getD i 0 ∧ (i = 0 ↔ cI s t.length i = 0)
def cL (s : List (List Int)) (n : Nat) : List Int := (List.range n).map (cI s n)
noncomputable def cj (s : List (List Int)) (t : List Int) : Option (List Int) := @ite _ (∀ i, i < t.length → aw4 s t i) (Classical.propDecidable _) (some (cL s t.length)) none
def gG (s : List (List Int)) (t : List Int) (i : Nat) : Int := e2 s 0 i * e2 s 0 i % 55441 * t.getD i 0
def aw5 (s : List (List Int)) (t : List Int) (n : Nat) : Int := sumTo (gG s t) n % 55441
def uD (s : List (List Int)) (t : List Int) (n : Nat) : List (List Int) := yW_ n n (fun i j => e2 s i j * t.getD j 0 % 55441)
def aI3 (s : List (List Int)) (t : List Int) (n : Nat) : List (List Int) := ak3 (ak3 (uD s t n) (uD s t n) n) (uD s t n) n
def aI4 (s : List (List Int)) (t : List Int) : Prop := ∀ i, i < t.length → ∀ j, j < t.length → e2 (aI3 s t t.length) i j = aw5 s t t.length * e2 (sqD s t.length) i j % 55441
def z5_ (n : Nat) (f : Nat → Nat → Nat → Int) : List (List (List Int)) := (List.range n).map fun i => yW_ n n (f i)
def nG (s : List (List Int)) (n : Nat) (c : List Int) (i j k l : Nat) : Int := e2 s i l * e2 s j l * inv (e2 s 0 l) * e2 s (c.getD k 0).toNat l
def bg0 (s : List (List Int)) (n : Nat) (c : List Int) : List (List (List Int)) := z5_ n (fun i j k => sumTo (nG s n c i j k) n * inv (Wz_ s n) % 55441)
noncomputable def dF (s : List (List Int)) (t : List Int) : Int :=
 if bd (aw3 s t) = true then (if Wz_ s t.length = 0 then 1 else match cj s t with
  | none => 2
  | some c => if bd (aI4 s t) = true then (if ah3 (bg0 s t.length c) = true then -1 else 4) else 3) else 0
noncomputable def isData (s : List (List Int)) (t : List Int) : Bool := bd (Shape s t ∧ dF s t = -1)
end Go.Pl
namespace Go.Pl
open Go.Aw
def aH0 (x y : List Int) (n : Nat) : Int := sumTo (bg7 x y) n % 55441
section
variable {s : List (List Int)} {t : List Int}
def aI (s : List (List Int)) (n i : Nat) : Int := RF_ (fun x => decide (x = Wz_ s n)) ((sqD s n).getD i [])
end
end Go.Pl
namespace Go.Pl
open Go.Aw
theorem xL_ (n : Nat) (f : Nat → Nat → Nat → Int) : (z5_ n f).length = n := by simp [z5_]
theorem wv_ {n : Nat} {f : Nat → Nat → Nat → Int} {i : Nat} (h : i < n) : (z5_ n f).getD i [] = yW_ n n (f i) := by simp [z5_, List.getD, h]
theorem zJ_ {n : Nat} {f g : Nat → Nat → Nat → Int} (h : ∀ i, i < n → ∀ j, j < n → ∀ k, k < n → f i j k = g i j k) : z5_ n f = z5_ n g := List.map_congr_left (fun i hi => zg_ (h i (by simpa using hi)))
theorem TJ_ {n : Nat} {f : Nat → Nat → Nat → Int} {i : Nat} (h : i < n) : ((z5_ n f).getD i []).length = n := by rw [wv_ h, ya_]
theorem TK_ {n : Nat} {f : Nat → Nat → Nat → Int} {i j : Nat} (h : i < n) (hj : j < n) : (((z5_ n f).getD i []).getD j []).length = n := by rw [wv_ h, yK_ hj, xT_]
theorem Je_ {n : Nat} {f : Nat → Nat → Nat → Int} {i j k : Nat} {v : Int} (hi : i < n) (hj : j < n) :
  (z5_ n f).set i (((z5_ n f).getD i []).set j ((((z5_ n f).getD i []).getD j []).set k v)) = z5_ n (fun x y z => if x = i ∧ y = j ∧ z = k then v else f x y z) := by
 rw [wv_ hi, TL_ hj]
 apply List.ext_getElem
 ·simp [z5_]
 ·intro m h1 h2
  simp only [z5_, List.getElem_set, List.getElem_map, List.getElem_range]
  by_cases hm : i = m
  ·subst hm; simp
  ·rw [if_neg hm]
   exact zg_ fun y _ z _ => by rw [if_neg (fun e => hm e.1.symm)]
theorem emd (a : Int) : a % 55441 % 55441 = a % 55441 := Int.emod_emod_of_dvd _ (Int.dvd_refl _)
theorem cgm {a a' b b' : Int} (h1 : a % 55441 = a' % 55441) (h2 : b % 55441 = b' % 55441) : a * b % 55441 = a' * b' % 55441 := by
 rw [Int.mul_emod, h1, h2, ← Int.mul_emod]
def bg1 (s : List (List Int)) (n : Nat) (c : List Int) (i j k : Nat) : Int := sumTo (nG s n c i j k) n * inv (Wz_ s n) % 55441
section
variable {s : List (List Int)} {t : List Int}
end
end Go.Pl
namespace Go.Pl
open Go.Aw
section
variable {s : List (List Int)} {t : List Int}
end
end Go.Pl
namespace Go.Pl
open Go.Aw
theorem ah2 {a : Int} (h : InP a) : a % 55441 = a := by
 unfold InP at h
 omega
def rs (a k : Int) : Int := if k < 0 then pw (inv a) (-k).toNat else pw a k.toNat
end Go.Pl
