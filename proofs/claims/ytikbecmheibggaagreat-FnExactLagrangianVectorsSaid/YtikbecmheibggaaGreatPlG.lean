import Derived.Test.YtikbecmheibggaaGreatPl1
set_option linter.unusedSimpArgs false
set_option linter.unusedVariables false
namespace Go.Pl
open Go.Aw
theorem tmP {x y : Int} (h : 0 ≤ x) : x.tmod y = x % y := Int.tmod_eq_emod_of_nonneg h
theorem tdP {x y : Int} (h : 0 ≤ x) : x.tdiv y = x / y := Int.tdiv_eq_ediv_of_nonneg h
def InP (x : Int) : Prop := 0 ≤ x ∧ x ≤ 55440
theorem inP_md (x : Int) : InP (x % 55441) := ⟨by omega, by omega⟩
theorem inP_one : InP 1 := ⟨by decide, by decide⟩
theorem getD_at {α : Type} {l : List α} {i : Nat} {d : α} (h : i < l.length) : l[i] = l.getD i d := by simp [List.getD, h]
theorem mulP {a b : Int} (ha : InP a) (hb : InP b) : 0 ≤ a * b ∧ a * b ≤ 3073593600 := by
  refine ⟨Int.mul_nonneg ha.1 hb.1, ?_⟩
  have h1 : a * b ≤ 55440 * b := Int.mul_le_mul_of_nonneg_right ha.2 hb.1
  have := hb.2
  omega
theorem mul_md (a b : Int) : (a % 55441) * b % 55441 = a * b % 55441 := by
  rw [Int.mul_emod, Int.emod_emod_of_dvd _ (Int.dvd_refl _), ← Int.mul_emod]
def pwL (out a : Int) (k : Nat) : Int := if k = 0 then out else pwL (if k % 2 = 1 then out * a % 55441 else out) (a * a % 55441) (k / 2)
termination_by k
decreasing_by omega
theorem pwL_zero (out a : Int) : pwL out a 0 = out := by rw [pwL]; simp
theorem pwL_step {out a : Int} {k : Nat} (h : k ≠ 0) : pwL out a k = pwL (if k % 2 = 1 then out * a % 55441 else out) (a * a % 55441) (k / 2) := by rw [pwL, if_neg h]
theorem pwL_InP : ∀ (k : Nat) {out a : Int}, InP out → InP a → InP (pwL out a k) := by
  intro k
  induction k using Nat.strongRecOn with
  | _ k ih =>
    intro out a ho ha
    by_cases h : k = 0
    · subst h; rw [pwL_zero]; exact ho
    · rw [pwL_step h]
      refine ih (k / 2) (by omega) ?_ (inP_md _)
      split
      · exact inP_md _
      · exact ho
def pw (a : Int) (k : Nat) : Int := pwL 1 a k
theorem pw_InP {a : Int} {k : Nat} (h : InP a) : InP (pw a k) := pwL_InP k ⟨by decide, by decide⟩ h
def inv (a : Int) : Int := pw a 55439
theorem inv_InP {a : Int} (h : InP a) : InP (inv a) := pw_InP h
theorem sum_md {f : Nat → Int} {n : Nat} : sumTo (fun i => f i % 55441) n % 55441 = sumTo f n % 55441 := by
  induction n with
  | zero => rfl
  | succ n ih => simp only [sumTo]; omega
theorem sum_it {f : Nat → Int} {n : Nat} : (sumTo f n % 55441 + f n) % 55441 = sumTo f (n + 1) % 55441 := by simp only [sumTo]; omega
theorem sum_congr {f g : Nat → Int} {n : Nat} (h : ∀ i, i < n → f i = g i) : sumTo f n = sumTo g n := by
  induction n with
  | zero => rfl
  | succ n ih => simp only [sumTo]; rw [ih (fun i hi => h i (by omega)), h n (by omega)]
theorem sum_cg {f g : Nat → Int} {n : Nat} (h : ∀ i, i < n → f i % 55441 = g i % 55441) : sumTo f n % 55441 = sumTo g n % 55441 := by
  rw [← sum_md, ← sum_md (f := g)]
  rw [sum_congr h]
theorem sum_mul {f : Nat → Int} {c : Int} {n : Nat} : sumTo (fun i => f i * c) n = sumTo f n * c := by
  induction n with
  | zero => simp [sumTo]
  | succ n ih => simp only [sumTo]; rw [ih, Int.add_mul]
theorem sum_one {f : Nat → Int} {n j : Nat} (hj : j < n) : sumTo (fun k => if k = j then f k else 0) n = f j := by
  have h0 : ∀ m, m ≤ j → sumTo (fun k => if k = j then f k else 0) m = 0 := by
    intro m
    induction m with
    | zero => intro _; rfl
    | succ m ih => intro hm; simp only [sumTo]; rw [ih (by omega), if_neg (by omega)]; rfl
  have h1 : ∀ m, j < m → sumTo (fun k => if k = j then f k else 0) m = f j := by
    intro m
    induction m with
    | zero => intro h; omega
    | succ m ih =>
      intro hm
      simp only [sumTo]
      by_cases hjm : m = j
      · subst hjm; rw [h0 m (by omega), if_pos rfl, Int.zero_add]
      · rw [ih (by omega), if_neg hjm, Int.add_zero]
  exact h1 n hj
def MatP (n : Nat) (a : List (List Int)) : Prop := a.length = n ∧ ∀ i, i < n → (a.getD i []).length = n ∧ ∀ j, j < n → InP (e2 a i j)
theorem MatP.row {n : Nat} {a : List (List Int)} (h : MatP n a) {i : Nat} (hi : i < n) : (a.getD i []).length = n := (h.2 i hi).1
theorem MatP.inP {n : Nat} {a : List (List Int)} (h : MatP n a) {i j : Nat} (hi : i < n) (hj : j < n) : InP (e2 a i j) := (h.2 i hi).2 j hj
theorem matF_MatP {n : Nat} {f : Nat → Nat → Int} (h : ∀ i, i < n → ∀ j, j < n → InP (f i j)) : MatP n (matF n n f) := by
  refine ⟨matF_length .., fun i hi => ?_⟩
  simp only [e2]
  rw [matF_get hi]
  refine ⟨rowF_length .., fun j hj => ?_⟩
  rw [rowF_get hj]
  exact h i hi j hj
theorem matF_e2 {r c : Nat} {f : Nat → Nat → Int} {i j : Nat} (hi : i < r) (hj : j < c) : e2 (matF r c f) i j = f i j := by
  simp only [e2]
  rw [matF_get hi, rowF_get hj]
def pG (a b : List (List Int)) (i j k : Nat) : Int := e2 a i k * e2 b k j
def mulM (a b : List (List Int)) (n : Nat) : List (List Int) := matF n n (fun i j => sumTo (pG a b i j) n % 55441)
theorem mulM_MatP (a b : List (List Int)) (n : Nat) : MatP n (mulM a b n) := matF_MatP fun _ _ _ _ => inP_md _
theorem pG_bd {n : Nat} {a b : List (List Int)} (ha : MatP n a) (hb : MatP n b) {i j : Nat} (hi : i < n) (hj : j < n) : ∀ k, k < n → 0 ≤ pG a b i j k ∧ pG a b i j k ≤ 3073593600 := fun _ hk => mulP (ha.inP hi hk) (hb.inP hk hj)
def Shape (s : List (List Int)) (t : List Int) : Prop := 1 ≤ t.length ∧ t.length ≤ 16 ∧ MatP t.length s ∧ ∀ i, i < t.length → InP (t.getD i 0)
def wG (s : List (List Int)) (i : Nat) : Int := e2 s 0 i * e2 s 0 i
def wholeD (s : List (List Int)) (n : Nat) : Int := sumTo (wG s) n % 55441
def StartP (s : List (List Int)) (t : List Int) : Prop := (∀ i, i < t.length → ∀ j, j < t.length → e2 s i j = e2 s j i) ∧ e2 s 0 0 = 1 ∧ t.getD 0 0 = 1 ∧ (∀ i, i < t.length → e2 s 0 i ≠ 0) ∧ ∀ i, i < t.length → t.getD i 0 ≠ 0
def sqD (s : List (List Int)) (n : Nat) : List (List Int) := mulM s s n
def cI (s : List (List Int)) (n i : Nat) : Int := fidx (fun x => !decide (x = 0)) ((sqD s n).getD i [])
def Good (s : List (List Int)) (n i : Nat) : Prop := 0 ≤ cI s n i ∧ e2 (sqD s n) i (cI s n i).toNat = wholeD s n ∧ ∀ k, k < n → k ≠ (cI s n i).toNat → e2 (sqD s n) i k = 0
def StepOk (s : List (List Int)) (t : List Int) (i : Nat) : Prop := Good s t.length i ∧ (∀ j, j < i → cI s t.length j ≠ cI s t.length i) ∧ t.getD (cI s t.length i).toNat 0 = t.getD i 0 ∧ (i = 0 ↔ cI s t.length i = 0)
def cL (s : List (List Int)) (n : Nat) : List Int := (List.range n).map (cI s n)
noncomputable def cj (s : List (List Int)) (t : List Int) : Option (List Int) := @ite _ (∀ i, i < t.length → StepOk s t i) (Classical.propDecidable _) (some (cL s t.length)) none
def gG (s : List (List Int)) (t : List Int) (i : Nat) : Int := e2 s 0 i * e2 s 0 i % 55441 * t.getD i 0
def gaussD (s : List (List Int)) (t : List Int) (n : Nat) : Int := sumTo (gG s t) n % 55441
def uD (s : List (List Int)) (t : List Int) (n : Nat) : List (List Int) := matF n n (fun i j => e2 s i j * t.getD j 0 % 55441)
def cubeD (s : List (List Int)) (t : List Int) (n : Nat) : List (List Int) := mulM (mulM (uD s t n) (uD s t n) n) (uD s t n) n
def TurnP (s : List (List Int)) (t : List Int) : Prop := ∀ i, i < t.length → ∀ j, j < t.length → e2 (cubeD s t t.length) i j = gaussD s t t.length * e2 (sqD s t.length) i j % 55441
def cubF (n : Nat) (f : Nat → Nat → Nat → Int) : List (List (List Int)) := (List.range n).map fun i => matF n n (f i)
def nG (s : List (List Int)) (n : Nat) (c : List Int) (i j k l : Nat) : Int := e2 s i l * e2 s j l * inv (e2 s 0 l) * e2 s (c.getD k 0).toNat l
def numD (s : List (List Int)) (n : Nat) (c : List Int) : List (List (List Int)) := cubF n (fun i j k => sumTo (nG s n c i j k) n * inv (wholeD s n) % 55441)
noncomputable def dF (s : List (List Int)) (t : List Int) : Int :=
  if bd (StartP s t) = true then (if wholeD s t.length = 0 then 1 else match cj s t with
    | none => 2
    | some c => if bd (TurnP s t) = true then (if isRing (numD s t.length c) = true then -1 else 4) else 3) else 0
noncomputable def isData (s : List (List Int)) (t : List Int) : Bool := bd (Shape s t ∧ dF s t = -1)
end Go.Pl
