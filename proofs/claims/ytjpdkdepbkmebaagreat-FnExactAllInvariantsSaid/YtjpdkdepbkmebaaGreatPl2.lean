import Derived.Test.YtjpdkdepbkmebaaGreatPl1
set_option linter.unusedSimpArgs false
set_option linter.unusedVariables false
namespace Go.Pl
open Go.Aw
end Go.Pl
namespace Go.Pl
open Go.Aw
theorem tmP {x y : Int} (h : 0 ≤ x) : x.tmod y = x % y := Int.tmod_eq_emod_of_nonneg h
theorem tdP {x y : Int} (h : 0 ≤ x) : x.tdiv y = x / y := Int.tdiv_eq_ediv_of_nonneg h
def InP (x : Int) : Prop := 0 ≤ x ∧ x ≤ 55440
theorem inP_md (x : Int) : InP (x % 55441) := ⟨by omega, by omega⟩
theorem inP_one : InP 1 := ⟨by decide, by decide⟩
theorem getD_at {α : Type} {l : List α} {i : Nat} {d : α} (h : i < l.length) : l[i] = l.getD i d := by simp [List.getD, h]
theorem mulP {a b : Int} (ha : InP a) (hb : InP b) : 0 ≤ a * b ∧ a * b ≤ 3073593600 := by
 refine ⟨Int.mul_nonneg ha.1 hb.1, ?_⟩
 have h1 : a * b ≤ 55440 * b := Int.mul_le_mul_of_nonneg_right ha.2 hb.1
 have := hb.2
 omega
theorem mul_md (a b : Int) : (a % 55441) * b % 55441 = a * b % 55441 := by
 rw [Int.mul_emod, Int.emod_emod_of_dvd _ (Int.dvd_refl _), ← Int.mul_emod]
def pwL (out a : Int) (k : Nat) : Int := if k = 0 then out else pwL (if k % 2 = 1 then out * a % 55441 else out) (a * a % 55441) (k / 2)
termination_by k
decreasing_by omega
theorem pwL_zero (out a : Int) : pwL out a 0 = out := by rw [pwL]; simp
theorem pwL_step {out a : Int} {k : Nat} (h : k ≠ 0) : pwL out a k = pwL (if k % 2 = 1 then out * a % 55441 else out) (a * a % 55441) (k / 2) := by rw [pwL, if_neg h]
theorem pwL_InP : ∀ (k : Nat) {out a : Int}, InP out → InP a → InP (pwL out a k) := by
 intro k
 induction k using Nat.strongRecOn with
 | _ k ih =>
  intro out a ho ha
  by_cases h : k = 0
  ·subst h; rw [pwL_zero]; exact ho
  ·rw [pwL_step h]
   refine ih (k / 2) (by omega) ?_ (inP_md _)
   split
   ·exact inP_md _
   ·exact ho
def pw (a : Int) (k : Nat) : Int := pwL 1 a k
theorem pw_InP {a : Int} {k : Nat} (h : InP a) : InP (pw a k) := pwL_InP k ⟨by decide, by decide⟩ h
def inv (a : Int) : Int := pw a 55439
theorem inv_InP {a : Int} (h : InP a) : InP (inv a) := pw_InP h
theorem sum_md {f : Nat → Int} {n : Nat} : sumTo (fun i => f i % 55441) n % 55441 = sumTo f n % 55441 := by
 induction n with
 | zero => rfl
 | succ n ih => simp only [sumTo]; omega
theorem sum_it {f : Nat → Int} {n : Nat} : (sumTo f n % 55441 + f n) % 55441 = sumTo f (n + 1) % 55441 := by simp only [sumTo]; omega
theorem sum_congr {f g : Nat → Int} {n : Nat} (h : ∀ i, i < n → f i = g i) : sumTo f n = sumTo g n := by
 induction n with
 | zero => rfl
 | succ n ih => simp only [sumTo]; rw [ih (fun i hi => h i (by omega)), h n (by omega)]
theorem sum_cg {f g : Nat → Int} {n : Nat} (h : ∀ i, i < n → f i % 55441 = g i % 55441) : sumTo f n % 55441 = sumTo g n % 55441 := by
 rw [← sum_md, ← sum_md (f := g)]
 rw [sum_congr h]
theorem sum_mul {f : Nat → Int} {c : Int} {n : Nat} : sumTo (fun i => f i * c) n = sumTo f n * c := by
 induction n with
 | zero => simp [sumTo]
 | succ n ih => simp only [sumTo]; rw [ih, Int.add_mul]
theorem sum_one {f : Nat → Int} {n j : Nat} (hj : j < n) : sumTo (fun k => if k = j then f k else 0) n = f j := by
 have h0 : ∀ m, m ≤ j → sumTo (fun k => if k = j then f k else 0) m = 0 := by
  intro m
  induction m with
  | zero => intro _; rfl
  | succ m ih => intro hm; simp only [sumTo]; rw [ih (by omega), if_neg (by omega)]; rfl
 have h1 : ∀ m, j < m → sumTo (fun k => if k = j then f k else 0) m = f j := by
  intro m
  induction m with
  | zero => intro h; omega
  | succ m ih =>
   intro hm
   simp only [sumTo]
   by_cases hjm : m = j
   ·subst hjm; rw [h0 m (by omega), if_pos rfl, Int.zero_add]
   ·rw [ih (by omega), if_neg hjm, Int.add_zero]
 exact h1 n hj
def MatP (n : Nat) (a : List (List Int)) : Prop := a.length = n ∧ ∀ i, i < n → (a.getD i []).length = n ∧ ∀ j, j < n → InP (e2 a i j)
theorem MatP.row {n : Nat} {a : List (List Int)} (h : MatP n a) {i : Nat} (hi : i < n) : (a.getD i []).length = n := (h.2 i hi).1
theorem MatP.inP {n : Nat} {a : List (List Int)} (h : MatP n a) {i j : Nat} (hi : i < n) (hj : j < n) : InP (e2 a i j) := (h.2 i hi).2 j hj
theorem matF_MatP {n : Nat} {f : Nat → Nat → Int} (h : ∀ i, i < n → ∀ j, j < n → InP (f i j)) : MatP n (matF n n f) := by
 refine ⟨matF_length .., fun i hi => ?_⟩
 simp only [e2]
 rw [matF_get hi]
 refine ⟨rowF_length .., fun j hj => ?_⟩
 rw [rowF_get hj]
 exact h i hi j hj
theorem matF_e2 {r c : Nat} {f : Nat → Nat → Int} {i j : Nat} (hi : i < r) (hj : j < c) : e2 (matF r c f) i j = f i j := by
 simp only [e2]
 rw [matF_get hi, rowF_get hj]
def pG (a b : List (List Int)) (i j k : Nat) : Int := e2 a i k * e2 b k j
def mulM (a b : List (List Int)) (n : Nat) : List (List Int) := matF n n (fun i j => sumTo (pG a b i j) n % 55441)
theorem mulM_MatP (a b : List (List Int)) (n : Nat) : MatP n (mulM a b n) := matF_MatP fun _ _ _ _ => inP_md _
theorem pG_bd {n : Nat} {a b : List (List Int)} (ha : MatP n a) (hb : MatP n b) {i j : Nat} (hi : i < n) (hj : j < n) : ∀ k, k < n → 0 ≤ pG a b i j k ∧ pG a b i j k ≤ 3073593600 := fun _ hk => mulP (ha.inP hi hk) (hb.inP hk hj)
def Shape (s : List (List Int)) (t : List Int) : Prop := 1 ≤ t.length ∧ t.length ≤ 16 ∧ MatP t.length s ∧ ∀ i, i < t.length → InP (t.getD i 0)
def wG (s : List (List Int)) (i : Nat) : Int := e2 s 0 i * e2 s 0 i
def wholeD (s : List (List Int)) (n : Nat) : Int := sumTo (wG s) n % 55441
def StartP (s : List (List Int)) (t : List Int) : Prop := (∀ i, i < t.length → ∀ j, j < t.length → e2 s i j = e2 s j i) ∧ e2 s 0 0 = 1 ∧ t.getD 0 0 = 1 ∧ (∀ i, i < t.length → e2 s 0 i ≠ 0) ∧ ∀ i, i < t.length → t.getD i 0 ≠ 0
def sqD (s : List (List Int)) (n : Nat) : List (List Int) := mulM s s n
def cI (s : List (List Int)) (n i : Nat) : Int := fidx (fun x => !decide (x = 0)) ((sqD s n).getD i [])
def Good (s : List (List Int)) (n i : Nat) : Prop := 0 ≤ cI s n i ∧ e2 (sqD s n) i (cI s n i).toNat = wholeD s n ∧ ∀ k, k < n → k ≠ (cI s n i).toNat → e2 (sqD s n) i k = 0
def StepOk (s : List (List Int)) (t : List Int) (i : Nat) : Prop := Good s t.length i ∧ (∀ j, j < i → cI s t.length j ≠ cI s t.length i) ∧ t.getD (cI s t.length i).toNat 0 = t.getD i 0 ∧ (i = 0 ↔ cI s t.length i = 0)
def cL (s : List (List Int)) (n : Nat) : List Int := (List.range n).map (cI s n)
noncomputable def cj (s : List (List Int)) (t : List Int) : Option (List Int) := @ite _ (∀ i, i < t.length → StepOk s t i) (Classical.propDecidable _) (some (cL s t.length)) none
def gG (s : List (List Int)) (t : List Int) (i : Nat) : Int := e2 s 0 i * e2 s 0 i % 55441 * t.getD i 0
def gaussD (s : List (List Int)) (t : List Int) (n : Nat) : Int := sumTo (gG s t) n % 55441
def uD (s : List (List Int)) (t : List Int) (n : Nat) : List (List Int) := matF n n (fun i j => e2 s i j * t.getD j 0 % 55441)
def cubeD (s : List (List Int)) (t : List Int) (n : Nat) : List (List Int) := mulM (mulM (uD s t n) (uD s t n) n) (uD s t n) n
def TurnP (s : List (List Int)) (t : List Int) : Prop := ∀ i, i < t.length → ∀ j, j < t.length → e2 (cubeD s t t.length) i j = gaussD s t t.length * e2 (sqD s t.length) i j % 55441
def cubF (n : Nat) (f : Nat → Nat → Nat → Int) : List (List (List Int)) := (List.range n).map fun i => matF n n (f i)
def nG (s : List (List Int)) (n : Nat) (c : List Int) (i j k l : Nat) : Int := e2 s i l * e2 s j l * inv (e2 s 0 l) * e2 s (c.getD k 0).toNat l
def numD (s : List (List Int)) (n : Nat) (c : List Int) : List (List (List Int)) := cubF n (fun i j k => sumTo (nG s n c i j k) n * inv (wholeD s n) % 55441)
noncomputable def dF (s : List (List Int)) (t : List Int) : Int :=
 if bd (StartP s t) = true then (if wholeD s t.length = 0 then 1 else match cj s t with
  | none => 2
  | some c => if bd (TurnP s t) = true then (if isRing (numD s t.length c) = true then -1 else 4) else 3) else 0
noncomputable def isData (s : List (List Int)) (t : List Int) : Bool := bd (Shape s t ∧ dF s t = -1)
end Go.Pl
namespace Go.Pl
open Go.Aw
def numsB (xs : List Int) : Bool := !(xs.any fun n => !(decide (0 ≤ n) && decide (n ≤ 55440)))
theorem numsB_iff {xs : List Int} : numsB xs = true ↔ ∀ i, i < xs.length → InP (xs.getD i 0) := by
 have h : (∀ x ∈ xs, InP x) ↔ ∀ i, i < xs.length → InP (xs.getD i 0) := all_getD
 rw [← h]
 unfold numsB InP
 simp only [Bool.not_eq_true', List.any_eq_false, Bool.not_eq_true, Bool.not_eq_false', Bool.not_eq_false, Bool.and_eq_true, decide_eq_true_eq]
def dotP (x y : List Int) (n : Nat) : Int := sumTo (dotG x y) n % 55441
theorem fidx_lt {α : Type} {p : α → Bool} {xs : List α} : -1 ≤ fidx p xs ∧ fidx p xs < xs.length := by
 unfold fidx
 cases h : xs.findIdx? p with
 | none => simp only; omega
 | some i =>
  rw [List.findIdx?_eq_some_iff_getElem] at h
  obtain ⟨hi, _, _⟩ := h
  simp only; omega
theorem fidx_at {α : Type} {d : α} {p : α → Bool} {xs : List α} (h : 0 ≤ fidx p xs) : p (xs.getD (fidx p xs).toNat d) = true ∧ ∀ j, j < (fidx p xs).toNat → p (xs.getD j d) = false := by
 unfold fidx at h ⊢
 cases hf : xs.findIdx? p with
 | none => rw [hf] at h; simp at h
 | some i =>
  rw [List.findIdx?_eq_some_iff_getElem] at hf
  obtain ⟨hi, hp, hj⟩ := hf
  simp only [Int.toNat_natCast]
  refine ⟨by simpa [List.getD, hi] using hp, fun j hj' => ?_⟩
  have h2 := hj j hj'
  have hjl : j < xs.length := by omega
  simpa [List.getD, hjl] using h2
theorem fidx_neg {α : Type} {d : α} {p : α → Bool} {xs : List α} (h : fidx p xs < 0) : ∀ j, j < xs.length → p (xs.getD j d) = false := by
 unfold fidx at h
 cases hf : xs.findIdx? p with
 | some i => rw [hf] at h; simp only at h; omega
 | none =>
  rw [List.findIdx?_eq_none_iff] at hf
  exact (all_getD (d := d)).1 hf
theorem fidx_uniq {α : Type} {d : α} {p : α → Bool} {xs : List α} {c : Nat} (hc : c < xs.length) (hp : p (xs.getD c d) = true) (h : ∀ j, j < xs.length → j ≠ c → p (xs.getD j d) = false) : fidx p xs = c :=
 fidx_some (d := d) hc (fun i hi => h i (by omega) (by omega)) hp
section
variable {s : List (List Int)} {t : List Int}
def aI (s : List (List Int)) (n i : Nat) : Int := fidx (fun x => decide (x = wholeD s n)) ((sqD s n).getD i [])
def Sp (s : List (List Int)) (t : List Int) (i : Nat) : Prop := Good s t.length i ∧ (∀ j, j < i → cI s t.length j ≠ cI s t.length i) ∧ t.getD (cI s t.length i).toNat 0 = t.getD i 0
theorem sq_row {n i : Nat} (hi : i < n) : ((sqD s n).getD i []).length = n := (mulM_MatP s s n).row hi
theorem cI_lt {n i : Nat} (hi : i < n) : -1 ≤ cI s n i ∧ cI s n i < n := by
 have := fidx_lt (p := fun x => !decide (x = (0 : Int))) (xs := (sqD s n).getD i [])
 rw [sq_row hi] at this
 exact this
theorem aI_lt {n i : Nat} (hi : i < n) : -1 ≤ aI s n i ∧ aI s n i < n := by
 have := fidx_lt (p := fun x => decide (x = wholeD s n)) (xs := (sqD s n).getD i [])
 rw [sq_row hi] at this
 exact this
theorem good_aI {n i : Nat} (hi : i < n) (hw : wholeD s n ≠ 0) (h : Good s n i) : aI s n i = cI s n i := by
 have hl := sq_row (s := s) hi
 have h3 := cI_lt (s := s) hi
 have h4 : ((cI s n i).toNat : Int) = cI s n i := Int.toNat_of_nonneg h.1
 unfold aI
 rw [fidx_uniq (d := 0) (c := (cI s n i).toNat) (by rw [hl]; omega) (by simp only [decide_eq_true_eq]; exact h.2.1) (fun j hj hne => by
  rw [hl] at hj
  have := h.2.2 j hj hne
  simp only [e2] at this
  simp only [this, decide_eq_false_iff_not]
  exact fun e => hw e.symm)]
 exact h4
theorem good_of {n i : Nat} (hi : i < n) (hw : wholeD s n ≠ 0) (h0 : 0 ≤ aI s n i) (hz : ∀ k, k < n → (k : Int) ≠ aI s n i → e2 (sqD s n) i k = 0) : cI s n i = aI s n i ∧ Good s n i := by
 have hl := sq_row (s := s) hi
 have h3 := aI_lt (s := s) hi
 have h4 : ((aI s n i).toNat : Int) = aI s n i := Int.toNat_of_nonneg h0
 have h5 := (fidx_at (d := (0 : Int)) (p := fun x => decide (x = wholeD s n)) (xs := (sqD s n).getD i []) h0).1
 simp only [decide_eq_true_eq] at h5
 have h6 : cI s n i = (aI s n i).toNat := by
  unfold cI
  refine fidx_uniq (d := 0) (by rw [hl]; omega) ?_ (fun j hj hne => ?_)
  ·simp only [Bool.not_eq_true', decide_eq_false_iff_not]
   intro e
   exact hw (h5.symm.trans e)
  ·rw [hl] at hj
   have := hz j hj (by omega)
   simp only [e2] at this
   simp only [this, decide_true, Bool.not_true]
 have h7 : cI s n i = aI s n i := h6.trans h4
 refine ⟨h7, by omega, ?_, fun k hk hne => hz k hk (by omega)⟩
 rw [h7]
 exact h5
theorem cj_some (h : ∀ i, i < t.length → Sp s t i) (h0 : 0 < t.length → cI s t.length 0 = 0) : cj s t = some (cL s t.length) := by
 unfold cj
 rw [if_pos]
 intro i hi
 have hi' := h i hi
 refine ⟨hi'.1, hi'.2.1, hi'.2.2, ⟨fun e => by subst e; exact h0 hi, fun e => ?_⟩⟩
 by_cases hz : i = 0
 ·exact hz
 ·exact absurd ((h0 (by omega)).trans e.symm) (hi'.2.1 0 (by omega))
theorem cj_none_sp {i : Nat} (hi : i < t.length) (h : ¬ Sp s t i) : cj s t = none := by
 unfold cj
 rw [if_neg]
 intro hh
 have := hh i hi
 exact h ⟨this.1, this.2.1, this.2.2.1⟩
theorem cj_none_0 (hi : 0 < t.length) (h : cI s t.length 0 ≠ 0) : cj s t = none := by
 unfold cj
 rw [if_neg]
 intro hh
 exact h ((hh 0 hi).2.2.2.1 rfl)
theorem cj_none_st {i : Nat} (hi : i < t.length) (h : ¬ StepOk s t i) : cj s t = none := by
 unfold cj
 rw [if_neg]
 exact fun hh => h (hh i hi)
theorem cj_some_st (h : ∀ i, i < t.length → StepOk s t i) : cj s t = some (cL s t.length) := by
 unfold cj
 rw [if_pos h]
theorem cj_get {c : List Int} (h : cj s t = some c) : c = cL s t.length ∧ ∀ i, i < t.length → StepOk s t i := by
 unfold cj at h
 split at h
 ·rename_i hh
  cases h
  exact ⟨rfl, hh⟩
 ·cases h
theorem cL_length (n : Nat) : (cL s n).length = n := by simp [cL]
theorem cL_get {n i : Nat} (h : i < n) : (cL s n).getD i 0 = cI s n i := by simp [cL, List.getD, h]
theorem any_cI {n i : Nat} {x : Int} : ((List.range i).map (cI s n)).any (fun y => decide (y = x)) = true ↔ ∃ j, j < i ∧ cI s n j = x := by
 simp [List.any_eq_true]
end
end Go.Pl
namespace Go.Pl
open Go.Aw
theorem cubF_length (n : Nat) (f : Nat → Nat → Nat → Int) : (cubF n f).length = n := by simp [cubF]
theorem cubF_get {n : Nat} {f : Nat → Nat → Nat → Int} {i : Nat} (h : i < n) : (cubF n f).getD i [] = matF n n (f i) := by simp [cubF, List.getD, h]
theorem cubF_congr {n : Nat} {f g : Nat → Nat → Nat → Int} (h : ∀ i, i < n → ∀ j, j < n → ∀ k, k < n → f i j k = g i j k) : cubF n f = cubF n g := List.map_congr_left (fun i hi => matF_congr (h i (by simpa using hi)))
theorem cubF_mat {n : Nat} {f : Nat → Nat → Nat → Int} {i : Nat} (h : i < n) : ((cubF n f).getD i []).length = n := by rw [cubF_get h, matF_length]
theorem cubF_row {n : Nat} {f : Nat → Nat → Nat → Int} {i j : Nat} (h : i < n) (hj : j < n) : (((cubF n f).getD i []).getD j []).length = n := by rw [cubF_get h, matF_get hj, rowF_length]
theorem zeros_cubF (n : Nat) : List.replicate n (List.replicate n (List.replicate n (0 : Int))) = cubF n (fun _ _ _ => 0) := by
 rw [zeros_matF]
 simp [cubF, List.map_const']
theorem cubF_set {n : Nat} {f : Nat → Nat → Nat → Int} {i j k : Nat} {v : Int} (hi : i < n) (hj : j < n) :
  (cubF n f).set i (((cubF n f).getD i []).set j ((((cubF n f).getD i []).getD j []).set k v)) = cubF n (fun x y z => if x = i ∧ y = j ∧ z = k then v else f x y z) := by
 rw [cubF_get hi, matF_set hj]
 apply List.ext_getElem
 ·simp [cubF]
 ·intro m h1 h2
  simp only [cubF, List.getElem_set, List.getElem_map, List.getElem_range]
  by_cases hm : i = m
  ·subst hm; simp
  ·rw [if_neg hm]
   exact matF_congr fun y _ z _ => by rw [if_neg (fun e => hm e.1.symm)]
def lexF (g : Nat → Nat → Nat → Int) (i j k x y z : Nat) : Int := if x < i ∨ (x = i ∧ (y < j ∨ (y = j ∧ z < k))) then g x y z else 0
def cubL (n : Nat) (g : Nat → Nat → Nat → Int) (i j k : Nat) : List (List (List Int)) := cubF n (lexF g i j k)
theorem cubL_zero {n : Nat} {g : Nat → Nat → Nat → Int} : cubL n g 0 0 0 = List.replicate n (List.replicate n (List.replicate n 0)) := by
 rw [zeros_cubF]
 exact cubF_congr fun x _ y _ z _ => if_neg (by omega)
theorem cubL_set {n : Nat} {g : Nat → Nat → Nat → Int} {i j k : Nat} (hi : i < n) (hj : j < n) :
  (cubL n g i j k).set i (((cubL n g i j k).getD i []).set j ((((cubL n g i j k).getD i []).getD j []).set k (g i j k))) = cubL n g i j (k + 1) := by
 unfold cubL
 rw [cubF_set hi hj]
 refine cubF_congr fun x _ y _ z _ => ?_
 unfold lexF
 by_cases h : x = i ∧ y = j ∧ z = k
 ·obtain ⟨rfl, rfl, rfl⟩ := h
  rw [if_pos ⟨rfl, rfl, rfl⟩, if_pos (by omega)]
 ·rw [if_neg h]
  by_cases h2 : x < i ∨ (x = i ∧ (y < j ∨ (y = j ∧ z < k)))
  ·rw [if_pos h2, if_pos (by omega)]
  ·rw [if_neg h2, if_neg (by omega)]
theorem cubL_row {n : Nat} {g : Nat → Nat → Nat → Int} {i j : Nat} : cubL n g i j n = cubL n g i (j + 1) 0 := cubF_congr fun x _ y _ z _ => by
 unfold lexF
 by_cases h2 : x < i ∨ (x = i ∧ (y < j ∨ (y = j ∧ z < n)))
 ·rw [if_pos h2, if_pos (by omega)]
 ·rw [if_neg h2, if_neg (by omega)]
theorem cubL_mat {n : Nat} {g : Nat → Nat → Nat → Int} {i : Nat} : cubL n g i n 0 = cubL n g (i + 1) 0 0 := cubF_congr fun x _ y _ z _ => by
 unfold lexF
 by_cases h2 : x < i ∨ (x = i ∧ (y < n ∨ (y = n ∧ z < 0)))
 ·rw [if_pos h2, if_pos (by omega)]
 ·rw [if_neg h2, if_neg (by omega)]
theorem cubL_all {n : Nat} {g : Nat → Nat → Nat → Int} : cubL n g n 0 0 = cubF n g := cubF_congr fun x _ y _ z _ => if_pos (by omega)
theorem cubL_length {n : Nat} {g : Nat → Nat → Nat → Int} {i j k : Nat} : (cubL n g i j k).length = n := cubF_length ..
theorem emd (a : Int) : a % 55441 % 55441 = a % 55441 := Int.emod_emod_of_dvd _ (Int.dvd_refl _)
theorem cgm {a a' b b' : Int} (h1 : a % 55441 = a' % 55441) (h2 : b % 55441 = b' % 55441) : a * b % 55441 = a' * b' % 55441 := by
 rw [Int.mul_emod, h1, h2, ← Int.mul_emod]
def numV (s : List (List Int)) (n : Nat) (c : List Int) (i j k : Nat) : Int := sumTo (nG s n c i j k) n * inv (wholeD s n) % 55441
theorem numD_eq (s : List (List Int)) (n : Nat) (c : List Int) : numD s n c = cubF n (numV s n c) := rfl
def ivL (s : List (List Int)) (n : Nat) (l : Nat) : Int := inv (e2 s 0 l) * inv (wholeD s n) % 55441
def boF (s : List (List Int)) (n i j l : Nat) : Int := e2 s i l * e2 s j l % 55441 * ivL s n l % 55441
theorem map_get {n l : Nat} {f : Nat → Int} (h : l < n) : ((List.range n).map f).getD l 0 = f l := by simp [List.getD, h]
theorem spNum (s : List (List Int)) (n : Nat) (c : List Int) (i j k : Nat) : dotP ((List.range n).map (boF s n i j)) (s.getD (c.getD k 0).toNat []) n = numV s n c i j k := by
 unfold dotP numV
 rw [← sum_mul]
 refine sum_cg fun l hl => ?_
 unfold dotG
 rw [map_get hl]
 unfold boF ivL nG
 rw [cgm (emd _) rfl, cgm (cgm (emd _) (emd _)) rfl]
 congr 1
 show e2 s i l * e2 s j l * (inv (e2 s 0 l) * inv (wholeD s n)) * e2 s (c.getD k 0).toNat l = _
 simp only [Int.mul_assoc, Int.mul_comm, Int.mul_left_comm]
def teF (s : List (List Int)) (c : List Int) (i j k l : Nat) : Int := e2 s i l * e2 s j l % 55441 * e2 s (c.getD k 0).toNat l % 55441 * (1 * inv (e2 s 0 l) % 55441)
theorem imNum (s : List (List Int)) (n : Nat) (c : List Int) (i j k : Nat) : sumTo (fun l => teF s c i j k l % 55441) n % 55441 * inv (wholeD s n) % 55441 = numV s n c i j k := by
 unfold numV
 rw [sum_md, mul_md]
 refine cgm (sum_cg fun l hl => ?_) rfl
 unfold teF nG
 rw [Int.one_mul, cgm ((emd _).trans (cgm (emd _) rfl)) (emd _)]
 congr 1
 simp only [Int.mul_assoc, Int.mul_comm, Int.mul_left_comm]
section
variable {s : List (List Int)} {t : List Int}
theorem dF_0 (h : ¬ StartP s t) : dF s t = 0 := by unfold dF; rw [bd_false h]; rfl
theorem dF_1 (h : StartP s t) (h0 : wholeD s t.length = 0) : dF s t = 1 := by unfold dF; rw [bd_true h, if_pos rfl, if_pos h0]
theorem dF_2 (h : StartP s t) (h0 : wholeD s t.length ≠ 0) (hc : cj s t = none) : dF s t = 2 := by unfold dF; rw [bd_true h, if_pos rfl, if_neg h0, hc]
theorem dF_3 (h : StartP s t) (h0 : wholeD s t.length ≠ 0) {c : List Int} (hc : cj s t = some c) (hT : ¬ TurnP s t) : dF s t = 3 := by unfold dF; rw [bd_true h, if_pos rfl, if_neg h0, hc]; simp only [bd_false hT]; rfl
theorem dF_4 (h : StartP s t) (h0 : wholeD s t.length ≠ 0) {c : List Int} (hc : cj s t = some c) (hT : TurnP s t) (hr : isRing (numD s t.length c) = false) : dF s t = 4 := by unfold dF; rw [bd_true h, if_pos rfl, if_neg h0, hc]; simp only [bd_true hT, hr, if_true]; rfl
theorem dF_5 (h : StartP s t) (h0 : wholeD s t.length ≠ 0) {c : List Int} (hc : cj s t = some c) (hT : TurnP s t) (hr : isRing (numD s t.length c) = true) : dF s t = -1 := by unfold dF; rw [bd_true h, if_pos rfl, if_neg h0, hc]; simp only [bd_true hT, hr, if_true]
theorem dF_range (s : List (List Int)) (t : List Int) : dF s t = -1 ∨ (0 ≤ dF s t ∧ dF s t ≤ 4) := by
 by_cases h : StartP s t
 ·by_cases h0 : wholeD s t.length = 0
  ·rw [dF_1 h h0]; omega
  ·cases hc : cj s t with
   | none => rw [dF_2 h h0 hc]; omega
   | some c =>
    by_cases hT : TurnP s t
    ·cases hr : isRing (numD s t.length c) with
     | false => rw [dF_4 h h0 hc hT hr]; omega
     | true => rw [dF_5 h h0 hc hT hr]; omega
    ·rw [dF_3 h h0 hc hT]; omega
 ·rw [dF_0 h]; omega
theorem cond_start (h1 : 1 ≤ t.length) (h : ∀ i, i < t.length → ∀ j, j < t.length → e2 s i j = e2 s j i ∧ e2 s 0 i ≠ 0 ∧ t.getD i 0 ≠ 0 ∧ e2 s 0 0 = 1 ∧ t.getD 0 0 = 1) : StartP s t :=
 ⟨fun i hi j hj => (h i hi j hj).1, (h 0 (by omega) 0 (by omega)).2.2.2.1, (h 0 (by omega) 0 (by omega)).2.2.2.2, fun i hi => (h i hi 0 (by omega)).2.1, fun i hi => (h i hi 0 (by omega)).2.2.1⟩
theorem uD_MatP (hs : Shape s t) : MatP t.length (uD s t t.length) := matF_MatP fun _ _ _ _ => inP_md _
theorem cj_in {c : List Int} (hc : cj s t = some c) : c.length = t.length ∧ ∀ k, k < t.length → 0 ≤ c.getD k 0 ∧ c.getD k 0 < t.length := by
 obtain ⟨rfl, h⟩ := cj_get hc
 refine ⟨cL_length _, fun k hk => ?_⟩
 rw [cL_get hk]
 exact ⟨(h k hk).1.1, (cI_lt hk).2⟩
theorem isData_iff : isData s t = true ↔ Shape s t ∧ dF s t = -1 := bd_iff
theorem isData_no (h : ¬ (Shape s t ∧ dF s t = -1)) : isData s t = false := bd_false h
theorem isData_some (h : isData s t = true) : Shape s t ∧ StartP s t ∧ wholeD s t.length ≠ 0 ∧ ∃ c, cj s t = some c ∧ TurnP s t ∧ isRing (numD s t.length c) = true := by
 obtain ⟨h1, h2⟩ := isData_iff.1 h
 refine ⟨h1, ?_⟩
 by_cases h : StartP s t
 ·refine ⟨h, ?_⟩
  by_cases h0 : wholeD s t.length = 0
  ·rw [dF_1 h h0] at h2; omega
  ·refine ⟨h0, ?_⟩
   cases hc : cj s t with
   | none => rw [dF_2 h h0 hc] at h2; omega
   | some c =>
    refine ⟨c, rfl, ?_⟩
    by_cases hT : TurnP s t
    ·cases hr : isRing (numD s t.length c) with
     | false => rw [dF_4 h h0 hc hT hr] at h2; omega
     | true => exact ⟨hT, rfl⟩
    ·rw [dF_3 h h0 hc hT] at h2; omega
 ·rw [dF_0 h] at h2; omega
end
end Go.Pl
namespace Go.Pl
open Go.Aw
theorem bd_and {p : Prop} {b : Bool} : bd (p ∧ b = true) = (bd p && b) := by
 by_cases h : p
 ·cases b
  ·have e : bd (p ∧ false = true) = false := bd_false (fun h => by cases h.2)
   rw [e]; simp
  ·have e : bd (p ∧ true = true) = true := bd_true ⟨h, rfl⟩
   rw [e, bd_true h]; rfl
 ·have e : bd (p ∧ b = true) = false := bd_false (fun hh => h hh.1)
  rw [e, bd_false h]; rfl
def Blk (m : List (List Int)) : Prop := (1 ≤ m.length ∧ m.length ≤ 16) ∧ ∀ i, i < m.length → 1 ≤ (m.getD i []).length ∧ (m.getD i []).length ≤ 16 ∧ (m.getD i []).length = (m.getD 0 []).length
def NumsM (m : List (List Int)) : Bool := !(m.any fun r => !(numsB r))
theorem numsM_iff {m : List (List Int)} : NumsM m = true ↔ ∀ i, i < m.length → numsB (m.getD i []) = true := by
 have h : (∀ x ∈ m, numsB x = true) ↔ ∀ i, i < m.length → numsB (m.getD i []) = true := all_getD
 rw [← h]
 unfold NumsM
 simp only [Bool.not_eq_true', List.any_eq_false, Bool.not_eq_true, Bool.not_eq_false', Bool.not_eq_false]
theorem shape_iff {s : List (List Int)} {t : List Int} : Shape s t ↔ ((Blk s ∧ NumsM s = true) ∧ s.length = (s.getD 0 []).length) ∧ t.length = s.length ∧ numsB t = true := by
 constructor
 ·rintro ⟨h1, h2, ⟨h3, h4⟩, h5⟩
  have hl : ∀ i, i < s.length → (s.getD i []).length = t.length := fun i hi => (h4 i (by omega)).1
  refine ⟨⟨⟨⟨⟨by omega, by omega⟩, fun i hi => ?_⟩, numsM_iff.2 fun i hi => numsB_iff.2 fun j hj => (h4 i (by omega)).2 j (by rw [hl i hi] at hj; exact hj)⟩, ?_⟩, by omega, numsB_iff.2 h5⟩
  ·rw [hl i hi, hl 0 (by omega)]; omega
  ·rw [hl 0 (by omega)]; exact h3
 ·rintro ⟨⟨⟨⟨⟨h1, h2⟩, h3⟩, h4⟩, h5⟩, h6, h7⟩
  have hl : ∀ i, i < t.length → (s.getD i []).length = t.length := fun i hi => by have := (h3 i (by omega)).2.2; omega
  exact ⟨by omega, by omega, ⟨by omega, fun i hi => ⟨hl i hi, fun j hj => numsB_iff.1 (numsM_iff.1 h4 i (by omega)) j (by rw [hl i hi]; exact hj)⟩⟩, numsB_iff.1 h7⟩
def apL (b : List (List Int)) (v : List Int) (n : Nat) : List Int := rowF n fun j => sumTo (fun k => v.getD k 0 * e2 b k j) n % 55441
theorem turnM_get {a : List (List Int)} {k : Nat} (h : k < (a.getD 0 []).length) : (turnM a).getD k [] = rowF a.length (fun i => e2 a i k) := by
 rw [turnM_matF, matF_get h]
theorem turnM_length (a : List (List Int)) : (turnM a).length = (a.getD 0 []).length := by rw [turnM_matF, matF_length]
theorem dot_col {b : List (List Int)} {v : List Int} {n j : Nat} : dotP (rowF n fun i => e2 b i j) v n = sumTo (fun k => v.getD k 0 * e2 b k j) n % 55441 := by
 unfold dotP
 congr 1
 refine sum_congr fun i hi => ?_
 unfold dotG
 rw [rowF_get hi, Int.mul_comm]
theorem sym_iff {s : List (List Int)} {n : Nat} (h1 : 1 ≤ n) (hs : MatP n s) : s = turnM s ↔ ∀ i, i < n → ∀ j, j < n → e2 s i j = e2 s j i := by
 have r0 := hs.row (show 0 < n by omega)
 have es : s = matF n n (fun i j => e2 s i j) := by
  apply List.ext_getElem
  ·rw [matF_length, hs.1]
  ·intro i h1 h2
   have hi : i < n := by rw [← hs.1]; exact h1
   rw [getD_at (d := []) h1, getD_at (d := []) h2, matF_get hi]
   apply List.ext_getElem
   ·rw [rowF_length, hs.row hi]
   ·intro j h3 h4
    have hj : j < n := by rw [← hs.row hi]; exact h3
    rw [getD_at (d := 0) h3, getD_at (d := 0) h4, rowF_get hj]
 have et : turnM s = matF n n (fun i j => e2 s j i) := by rw [turnM_matF, r0, hs.1]
 rw [et]
 constructor
 ·intro h
  exact matF_inj.1 (es.symm.trans h)
 ·intro h
  exact es.trans (matF_inj.2 h)
def diF (v : List Int) (n : Nat) : List (List Int) := matF n n fun i j => if i = j then v.getD i 0 else 0
def diS (v : List Int) (n k : Nat) : List (List Int) := matF n n fun i j => if i = j ∧ i < k then v.getD i 0 else 0
theorem diS_zero (v : List Int) (n : Nat) : diS v n 0 = List.replicate n (List.replicate n 0) := by
 rw [zeros_matF]
 exact matF_congr fun i _ j _ => if_neg (by omega)
theorem diS_all (v : List Int) (n : Nat) : diS v n n = diF v n := matF_congr fun i hi j _ => by
 by_cases h : i = j
 ·rw [if_pos ⟨h, hi⟩, if_pos h]
 ·rw [if_neg (fun e => h e.1), if_neg h]
theorem diS_set {v : List Int} {n k : Nat} (hk : k < n) : (diS v n k).set k (((diS v n k).getD k []).set k (v.getD k 0)) = diS v n (k + 1) := by
 unfold diS
 rw [matF_set hk]
 refine matF_congr fun i _ j _ => ?_
 by_cases h : i = k ∧ j = k
 ·obtain ⟨rfl, rfl⟩ := h
  rw [if_pos ⟨rfl, rfl⟩, if_pos ⟨rfl, by omega⟩]
 ·rw [if_neg h]
  by_cases h2 : i = j ∧ i < k
  ·rw [if_pos h2, if_pos ⟨h2.1, by omega⟩]
  ·rw [if_neg h2, if_neg (by omega)]
theorem diS_length (v : List Int) (n k : Nat) : (diS v n k).length = n := matF_length ..
theorem diS_row {v : List Int} {n k i : Nat} (h : i < n) : ((diS v n k).getD i []).length = n := by unfold diS; rw [matF_get h, rowF_length]
theorem diF_MatP {v : List Int} {n : Nat} (h : ∀ i, i < n → InP (v.getD i 0)) : MatP n (diF v n) := matF_MatP fun i hi j _ => by
 by_cases e : i = j
 ·rw [if_pos e]; exact h i hi
 ·rw [if_neg e]; exact ⟨by decide, by decide⟩
theorem mul_di (s : List (List Int)) (t : List Int) (n : Nat) : mulM s (diF t n) n = uD s t n := matF_congr fun i _ j hj => by
 congr 1
 have : sumTo (pG s (diF t n) i j) n = sumTo (fun k => if k = j then e2 s i k * t.getD k 0 else 0) n := sum_congr fun k hk => by
  unfold pG diF
  rw [matF_e2 hk hj]
  by_cases h : k = j
  ·rw [if_pos h, if_pos h]
  ·rw [if_neg h, if_neg h, Int.mul_zero]
 rw [this, sum_one (f := fun k => e2 s i k * t.getD k 0) hj]
def scF (m : List (List Int)) (g : Int) (n : Nat) : List (List Int) := matF n n fun i j => e2 m i j * g % 55441
theorem turn_iff (s : List (List Int)) (t : List Int) : cubeD s t t.length = scF (sqD s t.length) (gaussD s t t.length) t.length ↔ TurnP s t := by
 unfold scF TurnP cubeD mulM
 rw [matF_inj]
 constructor
 ·intro h i hi j hj
  rw [matF_e2 hi hj, h i hi j hj, Int.mul_comm]
 ·intro h i hi j hj
  have := h i hi j hj
  rw [matF_e2 hi hj] at this
  rw [this, Int.mul_comm]
theorem start_iff {s : List (List Int)} {t : List Int} (hs : Shape s t) : StartP s t ↔ ((((s = turnM s ∧ e2 s 0 0 = 1) ∧ t.getD 0 0 = 1) ∧ ((s.getD 0 []).any fun y => decide (y = 0)) = false) ∧ (t.any fun y => decide (y = 0)) = false) := by
 have h0 := hs.2.2.1.row (show 0 < t.length by have := hs.1; omega)
 have a0 : ((s.getD 0 []).any fun y => decide (y = 0)) = false ↔ ∀ i, i < t.length → e2 s 0 i ≠ 0 := by
  have h : (∀ x ∈ s.getD 0 [], x ≠ 0) ↔ ∀ i, i < (s.getD 0 []).length → (s.getD 0 []).getD i 0 ≠ 0 := all_getD
  rw [h0] at h
  rw [← h]
  simp only [List.any_eq_false, decide_eq_true_eq, ne_eq]
 have a1 : (t.any fun y => decide (y = 0)) = false ↔ ∀ i, i < t.length → t.getD i 0 ≠ 0 := by
  have h : (∀ x ∈ t, x ≠ 0) ↔ ∀ i, i < t.length → t.getD i 0 ≠ 0 := all_getD
  rw [← h]
  simp only [List.any_eq_false, decide_eq_true_eq, ne_eq]
 rw [a0, a1, sym_iff hs.1 hs.2.2.1]
 unfold StartP
 constructor
 ·rintro ⟨k1, k2, k3, k4, k5⟩; exact ⟨⟨⟨⟨k1, k2⟩, k3⟩, k4⟩, k5⟩
 ·rintro ⟨⟨⟨⟨k1, k2⟩, k3⟩, k4⟩, k5⟩; exact ⟨k1, k2, k3, k4, k5⟩
theorem take_map_succ {α β : Type} {f : α → β} {xs : List α} {d : α} {k : Nat} (h : k < xs.length) : (xs.take (k + 1)).map f = (xs.take k).map f ++ [f (xs.getD k d)] := by
 rw [List.take_succ_eq_append_getElem h, List.map_append]
 simp [List.getD, h]
def ivF (xs : List Int) : List Int := xs.map fun x => 1 * inv x % 55441
theorem ivF_length (xs : List Int) : (ivF xs).length = xs.length := by simp [ivF]
theorem ivF_get {xs : List Int} {i : Nat} (h : i < xs.length) : (ivF xs).getD i 0 = 1 * inv (xs.getD i 0) % 55441 := by simp [ivF, List.getD, h]
section
variable {s : List (List Int)} {t : List Int}
theorem cI_zero {n i k : Nat} (hi : i < n) (hk : k < n) (h : (k : Int) < cI s n i ∨ cI s n i < 0) : e2 (sqD s n) i k = 0 := by
 have hl := sq_row (s := s) hi
 have key : (fun x => !decide (x = (0 : Int))) (((sqD s n).getD i []).getD k 0) = false := by
  rcases h with h | h
  ·have h0 : 0 ≤ cI s n i := by omega
   exact (fidx_at (d := (0 : Int)) (p := fun x => !decide (x = (0 : Int))) (xs := (sqD s n).getD i []) h0).2 k (by unfold cI at h; omega)
  ·exact fidx_neg (d := (0 : Int)) (p := fun x => !decide (x = (0 : Int))) (xs := (sqD s n).getD i []) h k (by rw [hl]; exact hk)
 simpa using key
theorem good_iff {n i : Nat} (hi : i < n) : Good s n i ↔ 0 ≤ cI s n i ∧ e2 (sqD s n) i (cI s n i).toNat = wholeD s n ∧ ((((sqD s n).getD i []).drop ((cI s n i).toNat + 1)).any fun x => !decide (x = 0)) = false := by
 have hl := sq_row (s := s) hi
 have hc := cI_lt (s := s) hi
 unfold Good
 have hd : ((((sqD s n).getD i []).drop ((cI s n i).toNat + 1)).any fun x => !decide (x = 0)) = false ↔ ∀ k, k < n → (cI s n i).toNat < k → e2 (sqD s n) i k = 0 := by
  rw [List.any_eq_false]
  constructor
  ·intro h k hk hck
   have hm : ((sqD s n).getD i []).getD k 0 ∈ ((sqD s n).getD i []).drop ((cI s n i).toNat + 1) := by
    rw [List.mem_drop_iff_getElem]
    refine ⟨k - ((cI s n i).toNat + 1), by rw [hl]; omega, ?_⟩
    have : (cI s n i).toNat + 1 + (k - ((cI s n i).toNat + 1)) = k := by omega
    simp only [this]
    exact getD_at (by rw [hl]; exact hk)
   have := h _ hm
   simpa using this
  ·intro h x hx
   rw [List.mem_drop_iff_getElem] at hx
   obtain ⟨j, hj, rfl⟩ := hx
   rw [hl] at hj
   have h7 := h ((cI s n i).toNat + 1 + j) (by omega) (by omega)
   have hlt : (cI s n i).toNat + 1 + j < ((sqD s n).getD i []).length := by rw [hl]; omega
   simp only [e2] at h7
   rw [← getD_at hlt] at h7
   simp only [h7, decide_true, Bool.not_true, Bool.false_eq_true, not_false_eq_true]
 rw [hd]
 constructor
 ·rintro ⟨h1, h2, h3⟩
  exact ⟨h1, h2, fun k hk hck => h3 k hk (by omega)⟩
 ·rintro ⟨h1, h2, h3⟩
  refine ⟨h1, h2, fun k hk hne => ?_⟩
  by_cases h : k < (cI s n i).toNat
  ·exact cI_zero hi hk (.inl (by omega))
  ·exact h3 k hk (by omega)
end
end Go.Pl
namespace Go.Pl
open Go.Aw
theorem md_InP {a : Int} (h : InP a) : a % 55441 = a := by
 unfold InP at h
 omega
def rs (a k : Int) : Int := if k < 0 then pw (inv a) (-k).toNat else pw a k.toNat
end Go.Pl
