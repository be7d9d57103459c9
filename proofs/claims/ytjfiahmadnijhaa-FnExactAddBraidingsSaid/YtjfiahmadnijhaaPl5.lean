/-
  Joined out of: PlL PlT.
-/
import Derived.Test.YtjfiahmadnijhaaPl2
set_option linter.unusedSimpArgs false
set_option linter.unusedVariables false
namespace Go.Pl
open Go.Aw

def labB (n : Nat) (cs : List Int) : Bool := !(cs.any fun x => !(decide (0 ≤ x) && decide (x ≤ (n : Int) - 1))) && decide (cs.length ≤ 8)
theorem any_rng {n : Nat} {cs : List Int} : (!(cs.any fun x => !(decide (0 ≤ x) && decide (x ≤ (n : Int) - 1)))) = true ↔ ∀ i, i < cs.length → 0 ≤ cs.getD i 0 ∧ cs.getD i 0 < n := by
  have h : (∀ x ∈ cs, 0 ≤ x ∧ x < (n : Int)) ↔ ∀ i, i < cs.length → 0 ≤ cs.getD i 0 ∧ cs.getD i 0 < n := all_getD
  rw [← h]
  simp only [Bool.not_eq_true', List.any_eq_false, Bool.not_eq_true, Bool.not_eq_false', Bool.not_eq_false, Bool.and_eq_true, decide_eq_true_eq]
  constructor
  · intro h x hx; have := h x hx; omega
  · intro h x hx; have := h x hx; omega
theorem labB_iff {n : Nat} {cs : List Int} : labB n cs = true ↔ (∀ i, i < cs.length → 0 ≤ cs.getD i 0 ∧ cs.getD i 0 < n) ∧ cs.length ≤ 8 := by
  unfold labB
  rw [Bool.and_eq_true, any_rng, decide_eq_true_eq]
def pr (s : List (List Int)) (cs : List Int) (x : Int) (l : Nat) : Nat → Int
  | 0 => x
  | i + 1 => pr s cs x l i * e2 s (cs.getD i 0).toNat l % 55441
theorem pr_InP {s : List (List Int)} {cs : List Int} {x : Int} {l : Nat} (h : InP x) : ∀ i, InP (pr s cs x l i)
  | 0 => h
  | _ + 1 => inP_md _
theorem pr_mul {s : List (List Int)} {cs : List Int} {w x : Int} {l : Nat} : ∀ i, pr s cs (w * x % 55441) l i = w * pr s cs x l i % 55441
  | 0 => rfl
  | i + 1 => by
    show pr s cs (w * x % 55441) l i * _ % 55441 = w * (pr s cs x l i * _ % 55441) % 55441
    rw [pr_mul i, mul_md, md_mul, Int.mul_assoc]
def suE (g : Int) (cs : List Int) : Int := 2 - 2 * g - cs.length
def suT (s : List (List Int)) (g : Int) (cs : List Int) (l i : Nat) : Int := pr s cs (rs (e2 s 0 l) (suE g cs)) l i
def suW (s : List (List Int)) (n : Nat) (g : Int) : Int := rs (wholeD s n) (g - 1)
def suT' (s : List (List Int)) (n : Nat) (g : Int) (cs : List Int) (l i : Nat) : Int := pr s cs (suW s n g * rs (e2 s 0 l) (suE g cs) % 55441) l i
theorem su_eq (s : List (List Int)) (n : Nat) (g : Int) (cs : List Int) : sumTo (fun l => suT s g cs l cs.length) n % 55441 * suW s n g % 55441 = sumTo (fun l => suT' s n g cs l cs.length) n % 55441 := by
  rw [mul_md, ← sum_mul]
  refine sum_cg fun l hl => ?_
  unfold suT' suT
  rw [pr_mul, emd, Int.mul_comm]
noncomputable def suA (s : List (List Int)) (t : List Int) (g : Int) (cs : List Int) : Int × Int := if isData s t then (if (decide (0 ≤ g) && decide (g ≤ 20)) && labB t.length cs then (sumTo (fun l => suT' s t.length g cs l cs.length) t.length % 55441, 0) else (0, 2)) else (0, 1)

def rngB (a b : Int) (cs : List Int) : Bool := !(cs.any fun x => !(decide (a ≤ x) && decide (x ≤ b)))
theorem rngB_iff {a b : Int} {cs : List Int} : rngB a b cs = true ↔ ∀ i, i < cs.length → a ≤ cs.getD i 0 ∧ cs.getD i 0 ≤ b := by
  have h : (∀ x ∈ cs, a ≤ x ∧ x ≤ b) ↔ ∀ i, i < cs.length → a ≤ cs.getD i 0 ∧ cs.getD i 0 ≤ b := all_getD
  rw [← h]
  unfold rngB
  simp only [Bool.not_eq_true', List.any_eq_false, Bool.not_eq_true, Bool.not_eq_false', Bool.not_eq_false, Bool.and_eq_true, decide_eq_true_eq]
theorem rowF_succ {n : Nat} {f : Nat → Int} : rowF (n + 1) f = rowF n f ++ [f n] := by simp [rowF, List.range_succ]
theorem rowF_self {r : List Int} {n : Nat} (h : r.length = n) : rowF n (fun k => r.getD k 0) = r := by
  apply List.ext_getElem
  · rw [rowF_length, h]
  · intro i h1 h2
    rw [getD_at (d := 0) h1, getD_at (d := 0) h2, rowF_get (by omega)]
def updR (f : Nat → Int) (r : List Int) (n j : Nat) : List Int := rowF n (fun k => if k < j then f k else r.getD k 0)
theorem updR_length {f : Nat → Int} {r : List Int} {n j : Nat} : (updR f r n j).length = n := rowF_length ..
theorem updR_zero {f : Nat → Int} {r : List Int} {n : Nat} (h : r.length = n) : updR f r n 0 = r := by
  unfold updR
  rw [← rowF_self h]
  exact rowF_congr fun j hj => by rw [if_neg (by omega), rowF_get hj]
theorem updR_end {f : Nat → Int} {r : List Int} {n : Nat} : updR f r n n = rowF n f := rowF_congr fun j hj => if_pos hj
theorem updR_get {f : Nat → Int} {r : List Int} {n j : Nat} (h : j < n) : (updR f r n j).getD j 0 = r.getD j 0 := by
  unfold updR
  rw [rowF_get h, if_neg (by omega)]
theorem updR_step {f : Nat → Int} {r : List Int} {n j : Nat} (h : j < n) : (updR f r n j).set j (f j) = updR f r n (j + 1) := by
  unfold updR
  apply List.ext_getElem
  · rw [List.length_set, rowF_length, rowF_length]
  · intro i h1 h2
    rw [List.getElem_set]
    rw [rowF_length] at h2
    by_cases hi : j = i
    · subst hi
      rw [if_pos rfl, getD_at (d := 0) (by rw [rowF_length]; exact h2), rowF_get h2, if_pos (by omega)]
    · rw [if_neg hi, getD_at (d := 0) (by rw [rowF_length]; exact h2), getD_at (d := 0) (by rw [rowF_length]; exact h2), rowF_get h2, rowF_get h2]
      by_cases h3 : i < j
      · rw [if_pos h3, if_pos (by omega)]
      · rw [if_neg h3, if_neg (by omega)]

/-! ### Lens numbers -/
def avL (a : List (List Int)) (v : List Int) (n : Nat) : List Int := rowF n fun i => dotP (a.getD i []) v n
def lnF (r t : List Int) (a : Int) (k : Nat) : Int := r.getD k 0 * rs (t.getD k 0) a % 55441
def lnR (s : List (List Int)) (t ws : List Int) : Nat → List Int
  | 0 => s.getD 0 []
  | i + 1 => avL s (rowF t.length (lnF (lnR s t ws i) t (ws.getD i 0))) t.length
theorem dotP_InP (x y : List Int) (n : Nat) : InP (dotP x y n) := inP_md _
theorem lnR_ok {s : List (List Int)} {t ws : List Int} (hs : Shape s t) : ∀ i, (lnR s t ws i).length = t.length ∧ ∀ k, k < t.length → InP ((lnR s t ws i).getD k 0)
  | 0 => ⟨hs.2.2.1.row (show 0 < t.length by have := hs.1; omega), fun k hk => hs.2.2.1.inP (by omega) hk⟩
  | i + 1 => ⟨rowF_length .., fun k hk => by
    show InP ((avL s _ t.length).getD k 0)
    unfold avL
    rw [rowF_get hk]
    exact dotP_InP _ _ _⟩
def lnOk (ws : List Int) : Bool := decide (ws.length ≤ 16) && rngB (-1000) 1000 ws
noncomputable def lnA (s : List (List Int)) (t ws : List Int) : Int × Int := if isData s t then (if lnOk ws then ((lnR s t ws ws.length).getD 0 0, 0) else (0, 2)) else (0, 1)

/-! ### Lagrangian vectors -/
theorem dotP_comm (x y : List Int) (n : Nat) : dotP x y n = dotP y x n := by
  unfold dotP
  congr 1
  exact sum_congr fun i _ => by unfold dotG; rw [Int.mul_comm]
def LagP (s : List (List Int)) (t v : List Int) : Prop := v.length = t.length ∧ v.getD 0 0 = 1 ∧ (∀ i, i < t.length → (0 ≤ v.getD i 0 ∧ v.getD i 0 ≤ 1000) ∧ (v.getD i 0 ≠ 0 → t.getD i 0 = 1)) ∧ (∀ i, i < t.length → dotP (s.getD i []) v t.length = dotP (s.getD 0 []) v t.length * v.getD i 0 % 55441) ∧ dotP (s.getD 0 []) v t.length * dotP (s.getD 0 []) v t.length % 55441 = wholeD s t.length
noncomputable def lagA (s : List (List Int)) (t v : List Int) : Bool × Int := if isData s t then (bd (LagP s t v), 0) else (false, 1)

/-! ### Invariants -/
theorem matOk_row {n : Nat} {m : List (List Int)} (h : MatOk n m) {i : Nat} (hi : i < n) : (m.getD i []).length = n := (h.2 i hi).1
theorem matOk_in {n : Nat} {m : List (List Int)} (h : MatOk n m) {i j : Nat} (hi : i < n) (hj : j < n) : 0 ≤ e2 m i j ∧ e2 m i j ≤ 1000 := (h.2 i hi).2 j hj
theorem matOk_MatP {n : Nat} {m : List (List Int)} (h : MatOk n m) : MatP n m := ⟨h.1, fun i hi => ⟨matOk_row h hi, fun j hj => by
  have := matOk_in h hi hj
  unfold InP
  omega⟩⟩
def InvP (s : List (List Int)) (t : List Int) (m : List (List Int)) : Prop := MatOk t.length m ∧ e2 m 0 0 = 1 ∧ (∀ i, i < t.length → ∀ j, j < t.length → e2 m i j ≠ 0 → t.getD i 0 = t.getD j 0) ∧ mulM s m t.length = mulM m s t.length
noncomputable def ivA (s : List (List Int)) (t : List Int) (m : List (List Int)) : Bool × Int := if isData s t then (bd (InvP s t m), 0) else (false, 1)

/-! ### Indicators -/
def dS (f : Nat → Nat → Int) (n j l : Nat) : Int := sumTo (fun j => sumTo (f j) n) j + sumTo (f j) l
theorem dS_zero {f : Nat → Nat → Int} {n : Nat} : dS f n 0 0 = 0 := rfl
theorem dS_row {f : Nat → Nat → Int} {n j : Nat} : dS f n j n = dS f n (j + 1) 0 := by simp [dS, sumTo]
theorem dS_step {f : Nat → Nat → Int} {n j l : Nat} : dS f n j (l + 1) = dS f n j l + f j l := by simp only [dS, sumTo, Int.add_assoc]
theorem dS_it {f : Nat → Nat → Int} {n j l : Nat} : (dS f n j l % 55441 + f j l) % 55441 = dS f n j (l + 1) % 55441 := by rw [dS_step]; omega
theorem dS_le {f : Nat → Nat → Int} {n j l : Nat} (h : ∀ x, x < n → ∀ y, y < n → 0 ≤ f x y ∧ f x y ≤ 55440) (hn : n ≤ 16) (hj : j < n ∨ (j = n ∧ l = 0)) (hl : l ≤ n) : 0 ≤ dS f n j l ∧ dS f n j l ≤ 100000000 := by
  have h1 : ∀ x, x < n → 0 ≤ sumTo (f x) n ∧ sumTo (f x) n ≤ 887040 := fun x hx => by
    have := sumTo_le (f := f x) (B := 55440) (n := n) (h x hx)
    omega
  have h2 := sumTo_le (f := fun j => sumTo (f j) n) (B := 887040) (n := j) (fun x hx => h1 x (by omega))
  have h3 : 0 ≤ sumTo (f j) l ∧ sumTo (f j) l ≤ 887040 := by
    rcases hj with hj | ⟨rfl, rfl⟩
    · have := sumTo_le (f := f j) (B := 55440) (n := l) (fun y hy => h j hj y (by omega))
      omega
    · exact ⟨by simp [sumTo], by simp [sumTo]⟩
  unfold dS
  omega
def gI (s : List (List Int)) (t c : List Int) (a : Nat) (k : Int) (j l : Nat) : Int := numV s t.length c j l a * e2 s 0 j % 55441 * e2 s 0 l % 55441 * rs (t.getD j 0 * inv (t.getD l 0) % 55441) k
def hI (s : List (List Int)) (t c : List Int) (a : Nat) (k : Int) (j l : Nat) : Int := numV s t.length c j l a * (e2 s 0 j * e2 s 0 l % 55441 * rs (t.getD j 0 * inv (t.getD l 0) % 55441) k % 55441) % 55441
theorem gI_hI (s : List (List Int)) (t c : List Int) (a : Nat) (k : Int) (j l : Nat) : hI s t c a k j l % 55441 = gI s t c a k j l % 55441 := by
  unfold hI gI
  rw [emd, md_mul, cgm (a := numV s t.length c j l a) rfl (cgm (b := rs (t.getD j 0 * inv (t.getD l 0) % 55441) k) (emd _) rfl), cgm (b := rs (t.getD j 0 * inv (t.getD l 0) % 55441) k) ((emd _).trans (cgm (emd _) rfl)) rfl]
  congr 1
  simp only [Int.mul_assoc]
theorem dS_hI (s : List (List Int)) (t c : List Int) (a : Nat) (k : Int) (n : Nat) : dS (hI s t c a k) n n 0 % 55441 = dS (gI s t c a k) n n 0 % 55441 := by
  have h : sumTo (fun j => sumTo (hI s t c a k j) n) n % 55441 = sumTo (fun j => sumTo (gI s t c a k j) n) n % 55441 := sum_cg fun j _ => sum_cg fun l _ => gI_hI s t c a k j l
  simp only [dS, sumTo, Int.add_zero]
  exact h
def kOk (k : Int) : Bool := decide (-1000 ≤ k) && decide (k ≤ 1000)

/-! ### Products of invariants, outer products -/
theorem matF_succ {r c : Nat} {f : Nat → Nat → Int} : matF (r + 1) c f = matF r c f ++ [rowF c (f r)] := by simp [matF, List.range_succ]
theorem mg_le {n : Nat} {a b : List (List Int)} (ha : MatOk n a) (hb : MatOk n b) {i j : Nat} (hi : i < n) (hj : j < n) : ∀ l, l < n → 0 ≤ mg a b i j l ∧ mg a b i j l ≤ 1000000 := fun l hl => by
  have h1 := matOk_in ha hi hl
  have h2 := matOk_in hb hl hj
  unfold mg
  refine ⟨Int.mul_nonneg h1.1 h2.1, ?_⟩
  have : e2 a i l * e2 b l j ≤ 1000 * e2 b l j := Int.mul_le_mul_of_nonneg_right h1.2 h2.1
  omega
def outM (v w : List Int) (n : Nat) : List (List Int) := matF n n (fun i j => v.getD i 0 * w.getD j 0)
theorem LagP.le {s : List (List Int)} {t v : List Int} (h : LagP s t v) : ∀ i, i < t.length → 0 ≤ v.getD i 0 ∧ v.getD i 0 ≤ 1000 := fun i hi => (h.2.2.1 i hi).1
theorem mul_le6 {a b : Int} (h1 : 0 ≤ a ∧ a ≤ 1000) (h2 : 0 ≤ b ∧ b ≤ 1000) : 0 ≤ a * b ∧ a * b ≤ 1000000 := by
  refine ⟨Int.mul_nonneg h1.1 h2.1, ?_⟩
  have : a * b ≤ 1000 * b := Int.mul_le_mul_of_nonneg_right h1.2 h2.1
  omega
end Go.Pl

namespace Go.Pl
open Go.Aw

theorem ext_getD {α : Type} {d : α} {xs ys : List α} (hl : xs.length = ys.length) (h : ∀ i, i < xs.length → xs.getD i d = ys.getD i d) : xs = ys := by
  apply List.ext_getElem hl
  intro i h1 h2
  have := h i h1
  simpa [List.getD, List.getElem?_eq_getElem h1, List.getElem?_eq_getElem h2] using this

/-- The labels commute. -/
def CommP (t : List (List (List Int))) : Prop := ∀ i, i < t.length → ∀ j, j < t.length → (t.getD i []).getD j [] = (t.getD j []).getD i []
def oppR (t : List (List (List Int))) (i j : Nat) : List (List Int) := (List.range j).map fun j => (t.getD j []).getD i []
def oppL (t : List (List (List Int))) (i : Nat) : List (List (List Int)) := (List.range i).map fun i => oppR t i t.length
theorem oppR_length {t : List (List (List Int))} {i j : Nat} : (oppR t i j).length = j := by simp [oppR]
theorem oppL_length {t : List (List (List Int))} {i : Nat} : (oppL t i).length = i := by simp [oppL]
theorem oppR_succ {t : List (List (List Int))} {i j : Nat} : oppR t i (j + 1) = oppR t i j ++ [(t.getD j []).getD i []] := by simp [oppR, List.range_succ]
theorem oppL_succ {t : List (List (List Int))} {i : Nat} : oppL t (i + 1) = oppL t i ++ [oppR t i t.length] := by simp [oppL, List.range_succ]
theorem oppL_get {t : List (List (List Int))} {i n : Nat} (h : i < n) : (oppL t n).getD i [] = oppR t i t.length := by simp [oppL, List.getD, h]
theorem oppR_get {t : List (List (List Int))} {i j n : Nat} (h : j < n) : (oppR t i n).getD j [] = (t.getD j []).getD i [] := by simp [oppR, List.getD, h]
theorem comm_iff {t : List (List (List Int))} (hc : Cube t) : CommP t ↔ t = oppL t t.length := by
  constructor
  · intro h
    refine ext_getD (d := []) oppL_length.symm (fun i hi => ?_)
    have hm := hc.2.2 i hi
    refine ext_getD (d := []) (by rw [oppL_get hi, oppR_length]; exact hm.1) (fun j hj => ?_)
    rw [hm.1] at hj
    rw [oppL_get hi, oppR_get hj]
    exact h i hi j hj
  · intro h i hi j hj
    have e : (t.getD i []).getD j [] = ((oppL t t.length).getD i []).getD j [] := by rw [← h]
    rw [e, oppL_get hi, oppR_get hj]

/-- A list of numbers is a character. -/
def ListP (t : List (List (List Int))) (x : List Int) : Prop := x.length = t.length ∧ numsB x = true
def MulP (t : List (List (List Int))) (x : List Int) : Prop := ∀ i, i < t.length → ∀ j, j < t.length → dotP ((t.getD i []).getD j []) x t.length = x.getD i 0 * x.getD j 0 % 55441
def CharP (t : List (List (List Int))) (x : List Int) : Prop := MulP t x ∧ x.getD 0 0 = 1
theorem ListP.inP {t : List (List (List Int))} {x : List Int} (h : ListP t x) : ∀ i, i < t.length → InP (x.getD i 0) := fun i hi => numsB_iff.1 h.2 i (by rw [h.1]; exact hi)
theorem Cube.rowP {t : List (List (List Int))} (h : Cube t) {i j : Nat} (hi : i < t.length) (hj : j < t.length) : ((t.getD i []).getD j []).length = t.length ∧ ∀ k, k < t.length → InP (((t.getD i []).getD j []).getD k 0) := by
  have hm := h.2.2 i hi
  refine ⟨hm.row hj, fun k hk => ?_⟩
  have := (hm.2 j hj).2 k hk
  unfold InM at this
  unfold InP
  omega

noncomputable def codeA (t : List (List (List Int))) : Int := if isRing t = true then (if bd (CommP t) = true then 0 else 5) else 1
noncomputable def charC (t : List (List (List Int))) (x : List Int) : Int := if codeA t = 0 then (if bd (ListP t x ∧ CharP t x) = true then 0 else 2) else codeA t
/-- What a list has at duals. -/
def tnL (t : List (List (List Int))) (x : List Int) : List Int := (ds t).map fun k => x.getD k.toNat 0
def pairN (t : List (List (List Int))) (x : List Int) : Int := dotP x (tnL t x) t.length
def idL (t : List (List (List Int))) (x : List Int) : List Int := (tnL t x).map fun v => v * inv (pairN t x) % 55441
noncomputable def idemA (t : List (List (List Int))) (x : List Int) : AV := if charC t x = 0 then (if pairN t x = 0 then .tup [.nil, .int 5] else .tup [.l1 (idL t x), .int 0]) else .tup [.nil, .int (charC t x)]
theorem tnL_length {t : List (List (List Int))} {x : List Int} : (tnL t x).length = t.length := by simp [tnL, ds_length]
theorem charC_zero {t : List (List (List Int))} {x : List Int} (h : charC t x = 0) : isRing t = true ∧ CommP t ∧ ListP t x ∧ CharP t x := by
  unfold charC codeA at h
  by_cases h1 : isRing t = true
  · by_cases h2 : bd (CommP t) = true
    · by_cases h3 : bd (ListP t x ∧ CharP t x) = true
      · have := bd_iff.1 h3
        exact ⟨h1, bd_iff.1 h2, this.1, this.2⟩
      · rw [if_pos h1, if_pos h2, if_pos rfl, if_neg h3] at h; omega
    · rw [if_pos h1, if_neg h2, if_neg (by omega)] at h; omega
  · rw [if_neg h1, if_neg (by omega)] at h; omega
theorem tnL_get {t : List (List (List Int))} {x : List Int} {i : Nat} (h : i < t.length) : (tnL t x).getD i 0 = x.getD (dual t i).toNat 0 := by
  have := ds_get h
  unfold tnL
  simp only [List.getD, List.getElem?_map] at this ⊢
  rw [List.getElem?_eq_getElem (by rw [ds_length]; exact h)] at this ⊢
  simp only [Option.getD_some, Option.map_some] at this ⊢
  rw [this]
theorem tnL_inP {t : List (List (List Int))} {x : List Int} (hf : faultF t = none) (hx : ListP t x) : ∀ i, i < t.length → InP ((tnL t x).getD i 0) := fun i hi => by
  rw [tnL_get hi]
  exact hx.inP _ (dual_ok (faultF_dual hf) hi).2.1
theorem pairN_inP {t : List (List (List Int))} {x : List Int} : InP (pairN t x) := dotP_InP _ _ _
theorem map_step {f : Int → Int} {L : List Int} {i : Nat} (h : i < L.length) : ((L.take i).map f ++ L.drop i).getD i 0 = L.getD i 0 ∧ ((L.take i).map f ++ L.drop i).set i (f (L.getD i 0)) = (L.take (i + 1)).map f ++ L.drop (i + 1) := by
  have hl : ((L.take i).map f).length = i := by simp; omega
  have hd : L.drop i = L.getD i 0 :: L.drop (i + 1) := by
    rw [List.drop_eq_getElem_cons h, List.getD_eq_getElem?_getD, List.getElem?_eq_getElem h]; rfl
  constructor
  · rw [hd, List.getD_eq_getElem?_getD, List.getElem?_append_right (by omega), hl, Nat.sub_self]; rfl
  · rw [hd, List.set_append_right _ _ (by omega), hl, Nat.sub_self, List.set_cons_zero, take_succ_map (d := 0) h, List.append_assoc]; rfl
theorem map_len {f : Int → Int} {L : List Int} {i : Nat} (h : i ≤ L.length) : ((L.take i).map f ++ L.drop i).length = L.length := by simp; omega
theorem idemA_shape (t : List (List (List Int))) (x : List Int) : ∃ (u : Option (List Int)) (c : Int), idemA t x = .tup [optA u, .int c] ∧ ∀ v, u = some v → v.length ≤ 1048576 := by
  unfold idemA
  split
  · rename_i h
    obtain ⟨r1, r2, r3, r4⟩ := charC_zero h
    have h16 := (isRing_true r1).1.2.1
    split
    · exact ⟨none, 5, rfl, fun _ h => by cases h⟩
    · exact ⟨some (idL t x), 0, rfl, fun v hv => by cases hv; rw [show (idL t x).length = t.length by simp [idL, tnL_length]]; omega⟩
  · exact ⟨none, _, rfl, fun _ h => by cases h⟩
end Go.Pl
