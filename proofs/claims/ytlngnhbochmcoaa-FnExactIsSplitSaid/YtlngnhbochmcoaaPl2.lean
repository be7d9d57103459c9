import Derived.Test.YtlngnhbochmcoaaPl1
set_option linter.unusedSimpArgs false
set_option linter.unusedVariables false
namespace Go.Pl
open Go.Aw
end Go.Pl
namespace Go.Pl
open Go.Aw
theorem tmP {x y : Int} (h : 0 ≤ x) : x.tmod y = x % y := Int.tmod_eq_emod_of_nonneg h
theorem tdP {x y : Int} (h : 0 ≤ x) : x.tdiv y = x / y := Int.tdiv_eq_ediv_of_nonneg h
def InP (x : Int) : Prop := 0 ≤ x ∧ x ≤ 55440
theorem x7_ (x : Int) : InP (x % 55441) := ⟨by omega, by omega⟩
theorem Jm_ : InP 1 := ⟨by decide, by decide⟩
theorem getD_at {α : Type} {l : List α} {i : Nat} {d : α} (h : i < l.length) : l[i] = l.getD i d := by simp [List.getD, h]
theorem Wv_ {a b : Int} (ha : InP a) (hb : InP b) : 0 ≤ a * b ∧ a * b ≤ 3073593600 := by
 refine ⟨Int.mul_nonneg ha.1 hb.1, ?_⟩
 have h1 : a * b ≤ 55440 * b := Int.mul_le_mul_of_nonneg_right ha.2 hb.1
 have := hb.2
 omega
theorem au4 (a b : Int) : (a % 55441) * b % 55441 = a * b % 55441 := by
 rw [Int.mul_emod, Int.emod_emod_of_dvd _ (Int.dvd_refl _), ← Int.mul_emod]
def pwL (out a : Int) (k : Nat) : Int := if k = 0 then out else pwL (if k % 2 = 1 then out * a % 55441 else out) (a * a % 55441) (k / 2)
termination_by k
decreasing_by omega
theorem Zd_ (out a : Int) : pwL out a 0 = out := by rw [pwL]; simp
theorem w9_ {out a : Int} {k : Nat} (h : k ≠ 0) : pwL out a k = pwL (if k % 2 = 1 then out * a % 55441 else out) (a * a % 55441) (k / 2) := by rw [pwL, if_neg h]
theorem aF5 : ∀ (k : Nat) {out a : Int}, InP out → InP a → InP (pwL out a k) := by
 intro k
 induction k using Nat.strongRecOn with
 | _ k ih =>
  intro out a ho ha
  by_cases h : k = 0
  ·subst h; rw [Zd_]; exact ho
  ·rw [w9_ h]
   refine ih (k / 2) (by omega) ?_ (x7_ _)
   split
   ·exact x7_ _
   ·exact ho
def pw (a : Int) (k : Nat) : Int := pwL 1 a k
theorem au5 {a : Int} {k : Nat} (h : InP a) : InP (pw a k) := aF5 k ⟨by decide, by decide⟩ h
def inv (a : Int) : Int := pw a 55439
theorem Yv_ {a : Int} (h : InP a) : InP (inv a) := au5 h
theorem Jn_ {f : Nat → Int} {n : Nat} : sumTo (fun i => f i % 55441) n % 55441 = sumTo f n % 55441 := by
 induction n with
 | zero => rfl
 | succ n ih => simp only [sumTo]; omega
theorem aU4 {f : Nat → Int} {n : Nat} : (sumTo f n % 55441 + f n) % 55441 = sumTo f (n + 1) % 55441 := by simp only [sumTo]; omega
theorem xs_ {f g : Nat → Int} {n : Nat} (h : ∀ i, i < n → f i = g i) : sumTo f n = sumTo g n := by
 induction n with
 | zero => rfl
 | succ n ih => simp only [sumTo]; rw [ih (fun i hi => h i (by omega)), h n (by omega)]
theorem WU_ {f g : Nat → Int} {n : Nat} (h : ∀ i, i < n → f i % 55441 = g i % 55441) : sumTo f n % 55441 = sumTo g n % 55441 := by
 rw [← Jn_, ← Jn_ (f := g)]
 rw [xs_ h]
theorem sum_mul {f : Nat → Int} {c : Int} {n : Nat} : sumTo (fun i => f i * c) n = sumTo f n * c := by
 induction n with
 | zero => simp [sumTo]
 | succ n ih => simp only [sumTo]; rw [ih, Int.add_mul]
theorem Z4_ {f : Nat → Int} {n j : Nat} (hj : j < n) : sumTo (fun k => if k = j then f k else 0) n = f j := by
 have h0 : ∀ m, m ≤ j → sumTo (fun k => if k = j then f k else 0) m = 0 := by
  intro m
  induction m with
  | zero => intro _; rfl
  | succ m ih => intro hm; simp only [sumTo]; rw [ih (by omega), if_neg (by omega)]; rfl
 have h1 : ∀ m, j < m → sumTo (fun k => if k = j then f k else 0) m = f j := by
  intro m
  induction m with
  | zero => intro h; omega
  | succ m ih =>
   intro hm
   simp only [sumTo]
   by_cases hjm : m = j
   ·subst hjm; rw [h0 m (by omega), if_pos rfl, Int.zero_add]
   ·rw [ih (by omega), if_neg hjm, Int.add_zero]
 exact h1 n hj
def MatP (n : Nat) (a : List (List Int)) : Prop := a.length = n ∧ ∀ i, i < n → (a.getD i []).length = n ∧ ∀ j, j < n → InP (e2 a i j)
theorem MatP.row {n : Nat} {a : List (List Int)} (h : MatP n a) {i : Nat} (hi : i < n) : (a.getD i []).length = n := (h.2 i hi).1
theorem MatP.inP {n : Nat} {a : List (List Int)} (h : MatP n a) {i j : Nat} (hi : i < n) (hj : j < n) : InP (e2 a i j) := (h.2 i hi).2 j hj
theorem UQ_ {n : Nat} {f : Nat → Nat → Int} (h : ∀ i, i < n → ∀ j, j < n → InP (f i j)) : MatP n (xy_ n n f) := by
 refine ⟨xx_ .., fun i hi => ?_⟩
 simp only [e2]
 rw [xF_ hi]
 refine ⟨xn_ .., fun j hj => ?_⟩
 rw [xE_ hj]
 exact h i hi j hj
theorem zN_ {r c : Nat} {f : Nat → Nat → Int} {i j : Nat} (hi : i < r) (hj : j < c) : e2 (xy_ r c f) i j = f i j := by
 simp only [e2]
 rw [xF_ hi, xE_ hj]
def pG (a b : List (List Int)) (i j k : Nat) : Int := e2 a i k * e2 b k j
def wz_ (a b : List (List Int)) (n : Nat) : List (List Int) := xy_ n n (fun i j => sumTo (pG a b i j) n % 55441)
theorem wN_ (a b : List (List Int)) (n : Nat) : MatP n (wz_ a b n) := UQ_ fun _ _ _ _ => x7_ _
def Shape (s : List (List Int)) (t : List Int) : Prop := 1 ≤ t.length ∧ t.length ≤ 16 ∧ MatP t.length s ∧ ∀ i, i < t.length → InP (t.getD i 0)
def wG (s : List (List Int)) (i : Nat) : Int := e2 s 0 i * e2 s 0 i
def y7_ (s : List (List Int)) (n : Nat) : Int := sumTo (wG s) n % 55441
def Jo_ (s : List (List Int)) (t : List Int) : Prop := (∀ i, i < t.length → ∀ j, j < t.length → e2 s i j = e2 s j i) ∧ e2 s 0 0 = 1 ∧ t.getD 0 0 = 1 ∧ (∀ i, i < t.length → e2 s 0 i ≠ 0) ∧ ∀ i, i < t.length → t.getD i 0 ≠ 0
def sqD (s : List (List Int)) (n : Nat) : List (List Int) := wz_ s s n
def cI (s : List (List Int)) (n i : Nat) : Int := Qp_ (fun x => !decide (x = 0)) ((sqD s n).getD i [])
def Good (s : List (List Int)) (n i : Nat) : Prop := 0 ≤ cI s n i ∧ e2 (sqD s n) i (cI s n i).toNat = y7_ s n ∧ ∀ k, k < n → k ≠ (cI s n i).toNat → e2 (sqD s n) i k = 0
def au6 (s : List (List Int)) (t : List Int) (i : Nat) : Prop := Good s t.length i ∧ (∀ j, j < i → cI s t.length j ≠ cI s t.length i) ∧ t.getD (cI s t.length i).toNat 0 = t.getD i 0 ∧ (i = 0 ↔ cI s t.length i = 0)
def cL (s : List (List Int)) (n : Nat) : List Int := (List.range n).map (cI s n)
noncomputable def cj (s : List (List Int)) (t : List Int) : Option (List Int) := @ite _ (∀ i, i < t.length → au6 s t i) (Classical.propDecidable _) (some (cL s t.length)) none
def gG (s : List (List Int)) (t : List Int) (i : Nat) : Int := e2 s 0 i * e2 s 0 i % 55441 * t.getD i 0
def Jp_ (s : List (List Int)) (t : List Int) (n : Nat) : Int := sumTo (gG s t) n % 55441
def uD (s : List (List Int)) (t : List Int) (n : Nat) : List (List Int) := xy_ n n (fun i j => e2 s i j * t.getD j 0 % 55441)
def T1_ (s : List (List Int)) (t : List Int) (n : Nat) : List (List Int) := wz_ (wz_ (uD s t n) (uD s t n) n) (uD s t n) n
def aU5 (s : List (List Int)) (t : List Int) : Prop := ∀ i, i < t.length → ∀ j, j < t.length → e2 (T1_ s t t.length) i j = Jp_ s t t.length * e2 (sqD s t.length) i j % 55441
def UR_ (n : Nat) (f : Nat → Nat → Nat → Int) : List (List (List Int)) := (List.range n).map fun i => xy_ n n (f i)
def nG (s : List (List Int)) (n : Nat) (c : List Int) (i j k l : Nat) : Int := e2 s i l * e2 s j l * inv (e2 s 0 l) * e2 s (c.getD k 0).toNat l
def cf1 (s : List (List Int)) (n : Nat) (c : List Int) : List (List (List Int)) := UR_ n (fun i j k => sumTo (nG s n c i j k) n * inv (y7_ s n) % 55441)
noncomputable def dF (s : List (List Int)) (t : List Int) : Int :=
 if bd (Jo_ s t) = true then (if y7_ s t.length = 0 then 1 else match cj s t with
  | none => 2
  | some c => if bd (aU5 s t) = true then (if zM_ (cf1 s t.length c) = true then -1 else 4) else 3) else 0
noncomputable def isData (s : List (List Int)) (t : List Int) : Bool := bd (Shape s t ∧ dF s t = -1)
end Go.Pl
namespace Go.Pl
open Go.Aw
def ao4 (xs : List Int) : Bool := !(xs.any fun n => !(decide (0 ≤ n) && decide (n ≤ 55440)))
theorem numsB_iff {xs : List Int} : ao4 xs = true ↔ ∀ i, i < xs.length → InP (xs.getD i 0) := by
 have h : (∀ x ∈ xs, InP x) ↔ ∀ i, i < xs.length → InP (xs.getD i 0) := Zc_
 rw [← h]
 unfold ao4 InP
 simp only [Bool.not_eq_true', List.any_eq_false, Bool.not_eq_true, Bool.not_eq_false', Bool.not_eq_false, Bool.and_eq_true, decide_eq_true_eq]
def Ti_ (x y : List Int) (n : Nat) : Int := sumTo (Qt_ x y) n % 55441
theorem Jq_ {α : Type} {d : α} {p : α → Bool} {xs : List α} {c : Nat} (hc : c < xs.length) (hp : p (xs.getD c d) = true) (h : ∀ j, j < xs.length → j ≠ c → p (xs.getD j d) = false) : Qp_ p xs = c :=
 XZ_ (d := d) hc (fun i hi => h i (by omega) (by omega)) hp
section
variable {s : List (List Int)} {t : List Int}
def aI (s : List (List Int)) (n i : Nat) : Int := Qp_ (fun x => decide (x = y7_ s n)) ((sqD s n).getD i [])
theorem au7 {n i : Nat} (hi : i < n) : ((sqD s n).getD i []).length = n := (wN_ s s n).row hi
theorem aU6 {n i : Nat} (h : i < n) : (cL s n).getD i 0 = cI s n i := by simp [cL, List.getD, h]
end
end Go.Pl
namespace Go.Pl
open Go.Aw
theorem T2_ (n : Nat) (f : Nat → Nat → Nat → Int) : (UR_ n f).length = n := by simp [UR_]
theorem ao5 {n : Nat} {f : Nat → Nat → Nat → Int} {i : Nat} (h : i < n) : (UR_ n f).getD i [] = xy_ n n (f i) := by simp [UR_, List.getD, h]
theorem emd (a : Int) : a % 55441 % 55441 = a % 55441 := Int.emod_emod_of_dvd _ (Int.dvd_refl _)
theorem cgm {a a' b b' : Int} (h1 : a % 55441 = a' % 55441) (h2 : b % 55441 = b' % 55441) : a * b % 55441 = a' * b' % 55441 := by
 rw [Int.mul_emod, h1, h2, ← Int.mul_emod]
def bg7 (s : List (List Int)) (n : Nat) (c : List Int) (i j k : Nat) : Int := sumTo (nG s n c i j k) n * inv (y7_ s n) % 55441
section
variable {s : List (List Int)} {t : List Int}
end
end Go.Pl
namespace Go.Pl
open Go.Aw
def apL (b : List (List Int)) (v : List Int) (n : Nat) : List Int := xU_ n fun j => sumTo (fun k => v.getD k 0 * e2 b k j) n % 55441
theorem Jr_ {a : List (List Int)} {k : Nat} (h : k < (a.getD 0 []).length) : (Wu_ a).getD k [] = xU_ a.length (fun i => e2 a i k) := by
 rw [Yu_, xF_ h]
theorem US_ (a : List (List Int)) : (Wu_ a).length = (a.getD 0 []).length := by rw [Yu_, xx_]
theorem aF6 {b : List (List Int)} {v : List Int} {n j : Nat} : Ti_ (xU_ n fun i => e2 b i j) v n = sumTo (fun k => v.getD k 0 * e2 b k j) n % 55441 := by
 unfold Ti_
 congr 1
 refine xs_ fun i hi => ?_
 unfold Qt_
 rw [xE_ hi, Int.mul_comm]
section
variable {s : List (List Int)} {t : List Int}
end
end Go.Pl
namespace Go.Pl
open Go.Aw
theorem SP_ (a : Int) (m : Nat) : ∀ n, a ^ (m + n) = a ^ m * a ^ n
 | 0 => by simp
 | n + 1 => by rw [← Nat.add_assoc, Int.pow_succ, SP_ a m n, Int.pow_succ, Int.mul_assoc]
theorem SQ_ (a : Int) (m : Nat) : ∀ n, a ^ (m * n) = (a ^ m) ^ n
 | 0 => by simp
 | n + 1 => by rw [Nat.mul_add, Nat.mul_one, SP_, SQ_ a m n, Int.pow_succ]
theorem isq (a : Int) : a * a = a ^ 2 := by simp [Int.pow_succ]
theorem au8 {a b : Int} (h : a % 55441 = b % 55441) : ∀ k : Nat, a ^ k % 55441 = b ^ k % 55441
 | 0 => by simp
 | k + 1 => by rw [Int.pow_succ, Int.pow_succ]; exact cgm (au8 h k) h
theorem aU7 : ∀ (k : Nat) (out a : Int), pwL out a k % 55441 = out * a ^ k % 55441 := by
 intro k
 induction k using Nat.strongRecOn with
 | _ k ih =>
  intro out a
  by_cases h : k = 0
  ·subst h; rw [Zd_]; simp
  ·rw [w9_ h, ih (k / 2) (by omega), cgm rfl (au8 (emd (a * a)) (k / 2)), isq, ← SQ_]
   by_cases ho : k % 2 = 1
   ·rw [if_pos ho, au4, Int.mul_assoc, Int.mul_comm a, ← Int.pow_succ]
    have : (2 * (k / 2)).succ = k := by omega
    rw [this]
   ·rw [if_neg ho]
    have : 2 * (k / 2) = k := by omega
    rw [this]
theorem SR_ {a : Int} (h : InP a) : a % 55441 = a := by
 unfold InP at h
 omega
theorem bg8 {a : Int} {k : Nat} (h : InP a) : pw a k = a ^ k % 55441 := by
 rw [← SR_ (au5 (k := k) h), pw, aU7, Int.one_mul]
theorem aU8 {a : Int} (h : InP a) : inv a % 55441 = a ^ 55439 % 55441 := by
 unfold inv
 rw [bg8 h, emd]
def rs (a k : Int) : Int := if k < 0 then pw (inv a) (-k).toNat else pw a k.toNat
end Go.Pl
