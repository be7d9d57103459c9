import Derived.Test.YtikbecmheibggaaGreatPlH
set_option linter.unusedSimpArgs false
set_option linter.unusedVariables false
namespace Go.Pl
open Go.Aw
theorem cubF_length (n : Nat) (f : Nat → Nat → Nat → Int) : (cubF n f).length = n := by simp [cubF]
theorem cubF_get {n : Nat} {f : Nat → Nat → Nat → Int} {i : Nat} (h : i < n) : (cubF n f).getD i [] = matF n n (f i) := by simp [cubF, List.getD, h]
theorem cubF_congr {n : Nat} {f g : Nat → Nat → Nat → Int} (h : ∀ i, i < n → ∀ j, j < n → ∀ k, k < n → f i j k = g i j k) : cubF n f = cubF n g := List.map_congr_left (fun i hi => matF_congr (h i (by simpa using hi)))
theorem cubF_mat {n : Nat} {f : Nat → Nat → Nat → Int} {i : Nat} (h : i < n) : ((cubF n f).getD i []).length = n := by rw [cubF_get h, matF_length]
theorem cubF_row {n : Nat} {f : Nat → Nat → Nat → Int} {i j : Nat} (h : i < n) (hj : j < n) : (((cubF n f).getD i []).getD j []).length = n := by rw [cubF_get h, matF_get hj, rowF_length]
theorem zeros_cubF (n : Nat) : List.replicate n (List.replicate n (List.replicate n (0 : Int))) = cubF n (fun _ _ _ => 0) := by
  rw [zeros_matF]
  simp [cubF, List.map_const']
theorem cubF_set {n : Nat} {f : Nat → Nat → Nat → Int} {i j k : Nat} {v : Int} (hi : i < n) (hj : j < n) :
    (cubF n f).set i (((cubF n f).getD i []).set j ((((cubF n f).getD i []).getD j []).set k v)) = cubF n (fun x y z => if x = i ∧ y = j ∧ z = k then v else f x y z) := by
  rw [cubF_get hi, matF_set hj]
  apply List.ext_getElem
  · simp [cubF]
  · intro m h1 h2
    simp only [cubF, List.getElem_set, List.getElem_map, List.getElem_range]
    by_cases hm : i = m
    · subst hm; simp
    · rw [if_neg hm]
      exact matF_congr fun y _ z _ => by rw [if_neg (fun e => hm e.1.symm)]
def lexF (g : Nat → Nat → Nat → Int) (i j k x y z : Nat) : Int := if x < i ∨ (x = i ∧ (y < j ∨ (y = j ∧ z < k))) then g x y z else 0
def cubL (n : Nat) (g : Nat → Nat → Nat → Int) (i j k : Nat) : List (List (List Int)) := cubF n (lexF g i j k)
theorem cubL_zero {n : Nat} {g : Nat → Nat → Nat → Int} : cubL n g 0 0 0 = List.replicate n (List.replicate n (List.replicate n 0)) := by
  rw [zeros_cubF]
  exact cubF_congr fun x _ y _ z _ => if_neg (by omega)
theorem cubL_set {n : Nat} {g : Nat → Nat → Nat → Int} {i j k : Nat} (hi : i < n) (hj : j < n) :
    (cubL n g i j k).set i (((cubL n g i j k).getD i []).set j ((((cubL n g i j k).getD i []).getD j []).set k (g i j k))) = cubL n g i j (k + 1) := by
  unfold cubL
  rw [cubF_set hi hj]
  refine cubF_congr fun x _ y _ z _ => ?_
  unfold lexF
  by_cases h : x = i ∧ y = j ∧ z = k
  · obtain ⟨rfl, rfl, rfl⟩ := h
    rw [if_pos ⟨rfl, rfl, rfl⟩, if_pos (by omega)]
  · rw [if_neg h]
    by_cases h2 : x < i ∨ (x = i ∧ (y < j ∨ (y = j ∧ z < k)))
    · rw [if_pos h2, if_pos (by omega)]
    · rw [if_neg h2, if_neg (by omega)]
theorem cubL_row {n : Nat} {g : Nat → Nat → Nat → Int} {i j : Nat} : cubL n g i j n = cubL n g i (j + 1) 0 := cubF_congr fun x _ y _ z _ => by
  unfold lexF
  by_cases h2 : x < i ∨ (x = i ∧ (y < j ∨ (y = j ∧ z < n)))
  · rw [if_pos h2, if_pos (by omega)]
  · rw [if_neg h2, if_neg (by omega)]
theorem cubL_mat {n : Nat} {g : Nat → Nat → Nat → Int} {i : Nat} : cubL n g i n 0 = cubL n g (i + 1) 0 0 := cubF_congr fun x _ y _ z _ => by
  unfold lexF
  by_cases h2 : x < i ∨ (x = i ∧ (y < n ∨ (y = n ∧ z < 0)))
  · rw [if_pos h2, if_pos (by omega)]
  · rw [if_neg h2, if_neg (by omega)]
theorem cubL_all {n : Nat} {g : Nat → Nat → Nat → Int} : cubL n g n 0 0 = cubF n g := cubF_congr fun x _ y _ z _ => if_pos (by omega)
theorem cubL_length {n : Nat} {g : Nat → Nat → Nat → Int} {i j k : Nat} : (cubL n g i j k).length = n := cubF_length ..
theorem emd (a : Int) : a % 55441 % 55441 = a % 55441 := Int.emod_emod_of_dvd _ (Int.dvd_refl _)
theorem cgm {a a' b b' : Int} (h1 : a % 55441 = a' % 55441) (h2 : b % 55441 = b' % 55441) : a * b % 55441 = a' * b' % 55441 := by
  rw [Int.mul_emod, h1, h2, ← Int.mul_emod]
def numV (s : List (List Int)) (n : Nat) (c : List Int) (i j k : Nat) : Int := sumTo (nG s n c i j k) n * inv (wholeD s n) % 55441
theorem numD_eq (s : List (List Int)) (n : Nat) (c : List Int) : numD s n c = cubF n (numV s n c) := rfl
def ivL (s : List (List Int)) (n : Nat) (l : Nat) : Int := inv (e2 s 0 l) * inv (wholeD s n) % 55441
def boF (s : List (List Int)) (n i j l : Nat) : Int := e2 s i l * e2 s j l % 55441 * ivL s n l % 55441
theorem map_get {n l : Nat} {f : Nat → Int} (h : l < n) : ((List.range n).map f).getD l 0 = f l := by simp [List.getD, h]
theorem spNum (s : List (List Int)) (n : Nat) (c : List Int) (i j k : Nat) : dotP ((List.range n).map (boF s n i j)) (s.getD (c.getD k 0).toNat []) n = numV s n c i j k := by
  unfold dotP numV
  rw [← sum_mul]
  refine sum_cg fun l hl => ?_
  unfold dotG
  rw [map_get hl]
  unfold boF ivL nG
  rw [cgm (emd _) rfl, cgm (cgm (emd _) (emd _)) rfl]
  congr 1
  show e2 s i l * e2 s j l * (inv (e2 s 0 l) * inv (wholeD s n)) * e2 s (c.getD k 0).toNat l = _
  simp only [Int.mul_assoc, Int.mul_comm, Int.mul_left_comm]
def teF (s : List (List Int)) (c : List Int) (i j k l : Nat) : Int := e2 s i l * e2 s j l % 55441 * e2 s (c.getD k 0).toNat l % 55441 * (1 * inv (e2 s 0 l) % 55441)
theorem imNum (s : List (List Int)) (n : Nat) (c : List Int) (i j k : Nat) : sumTo (fun l => teF s c i j k l % 55441) n % 55441 * inv (wholeD s n) % 55441 = numV s n c i j k := by
  unfold numV
  rw [sum_md, mul_md]
  refine cgm (sum_cg fun l hl => ?_) rfl
  unfold teF nG
  rw [Int.one_mul, cgm ((emd _).trans (cgm (emd _) rfl)) (emd _)]
  congr 1
  simp only [Int.mul_assoc, Int.mul_comm, Int.mul_left_comm]
section
variable {s : List (List Int)} {t : List Int}
theorem dF_0 (h : ¬ StartP s t) : dF s t = 0 := by unfold dF; rw [bd_false h]; rfl
theorem dF_1 (h : StartP s t) (h0 : wholeD s t.length = 0) : dF s t = 1 := by unfold dF; rw [bd_true h, if_pos rfl, if_pos h0]
theorem dF_2 (h : StartP s t) (h0 : wholeD s t.length ≠ 0) (hc : cj s t = none) : dF s t = 2 := by unfold dF; rw [bd_true h, if_pos rfl, if_neg h0, hc]
theorem dF_3 (h : StartP s t) (h0 : wholeD s t.length ≠ 0) {c : List Int} (hc : cj s t = some c) (hT : ¬ TurnP s t) : dF s t = 3 := by unfold dF; rw [bd_true h, if_pos rfl, if_neg h0, hc]; simp only [bd_false hT]; rfl
theorem dF_4 (h : StartP s t) (h0 : wholeD s t.length ≠ 0) {c : List Int} (hc : cj s t = some c) (hT : TurnP s t) (hr : isRing (numD s t.length c) = false) : dF s t = 4 := by unfold dF; rw [bd_true h, if_pos rfl, if_neg h0, hc]; simp only [bd_true hT, hr, if_true]; rfl
theorem dF_5 (h : StartP s t) (h0 : wholeD s t.length ≠ 0) {c : List Int} (hc : cj s t = some c) (hT : TurnP s t) (hr : isRing (numD s t.length c) = true) : dF s t = -1 := by unfold dF; rw [bd_true h, if_pos rfl, if_neg h0, hc]; simp only [bd_true hT, hr, if_true]
theorem dF_range (s : List (List Int)) (t : List Int) : dF s t = -1 ∨ (0 ≤ dF s t ∧ dF s t ≤ 4) := by
  by_cases h : StartP s t
  · by_cases h0 : wholeD s t.length = 0
    · rw [dF_1 h h0]; omega
    · cases hc : cj s t with
      | none => rw [dF_2 h h0 hc]; omega
      | some c =>
        by_cases hT : TurnP s t
        · cases hr : isRing (numD s t.length c) with
          | false => rw [dF_4 h h0 hc hT hr]; omega
          | true => rw [dF_5 h h0 hc hT hr]; omega
        · rw [dF_3 h h0 hc hT]; omega
  · rw [dF_0 h]; omega
theorem cond_start (h1 : 1 ≤ t.length) (h : ∀ i, i < t.length → ∀ j, j < t.length → e2 s i j = e2 s j i ∧ e2 s 0 i ≠ 0 ∧ t.getD i 0 ≠ 0 ∧ e2 s 0 0 = 1 ∧ t.getD 0 0 = 1) : StartP s t :=
  ⟨fun i hi j hj => (h i hi j hj).1, (h 0 (by omega) 0 (by omega)).2.2.2.1, (h 0 (by omega) 0 (by omega)).2.2.2.2, fun i hi => (h i hi 0 (by omega)).2.1, fun i hi => (h i hi 0 (by omega)).2.2.1⟩
theorem uD_MatP (hs : Shape s t) : MatP t.length (uD s t t.length) := matF_MatP fun _ _ _ _ => inP_md _
theorem cj_in {c : List Int} (hc : cj s t = some c) : c.length = t.length ∧ ∀ k, k < t.length → 0 ≤ c.getD k 0 ∧ c.getD k 0 < t.length := by
  obtain ⟨rfl, h⟩ := cj_get hc
  refine ⟨cL_length _, fun k hk => ?_⟩
  rw [cL_get hk]
  exact ⟨(h k hk).1.1, (cI_lt hk).2⟩
theorem isData_iff : isData s t = true ↔ Shape s t ∧ dF s t = -1 := bd_iff
theorem isData_no (h : ¬ (Shape s t ∧ dF s t = -1)) : isData s t = false := bd_false h
theorem isData_some (h : isData s t = true) : Shape s t ∧ StartP s t ∧ wholeD s t.length ≠ 0 ∧ ∃ c, cj s t = some c ∧ TurnP s t ∧ isRing (numD s t.length c) = true := by
  obtain ⟨h1, h2⟩ := isData_iff.1 h
  refine ⟨h1, ?_⟩
  by_cases h : StartP s t
  · refine ⟨h, ?_⟩
    by_cases h0 : wholeD s t.length = 0
    · rw [dF_1 h h0] at h2; omega
    · refine ⟨h0, ?_⟩
      cases hc : cj s t with
      | none => rw [dF_2 h h0 hc] at h2; omega
      | some c =>
        refine ⟨c, rfl, ?_⟩
        by_cases hT : TurnP s t
        · cases hr : isRing (numD s t.length c) with
          | false => rw [dF_4 h h0 hc hT hr] at h2; omega
          | true => exact ⟨hT, rfl⟩
        · rw [dF_3 h h0 hc hT] at h2; omega
  · rw [dF_0 h] at h2; omega
end
end Go.Pl
