/-
  Products of rings; when a product of data is data. Of no program.
-/
import Derived.Test.YtphokmkmpelnfaaPlO
set_option linter.unusedSimpArgs false
set_option linter.unusedVariables false
namespace Go.Pl
open Go.Aw

theorem inv_mulP {x y : Int} (hx : InP x) (hy : InP y) : Cg (inv (x * y % 55441)) (inv x * inv y) := by
  refine (inv_cg (inP_md _)).trans ((pow_cg (emd _) _).trans ?_)
  rw [imul_pow]
  exact Cg.mul (inv_cg hx).symm (inv_cg hy).symm
section
variable {s : List (List Int)} {t : List Int} {z : List (List Int)} {u : List Int}
theorem sq_val (h : isData s t = true) {i m : Nat} (hi : i < t.length) (hm : m < t.length) : e2 (sqD s t.length) i m = if m = cN s t.length i then wholeD s t.length else 0 := by
  have e : e2 (sqD s t.length) i m = qS s t.length i m % 55441 := matF_e2 hi hm
  rw [e]
  have := q_cg h hi hm
  unfold Cg at this
  rw [this]
  split
  · exact md_InP (inP_md _)
  · rfl
theorem c_step (h : isData s t = true) {i : Nat} (hi : i < t.length) : StepOk s t i := by
  obtain ⟨hs, hst, hw, c, hc, hT, hR⟩ := isData_some h
  exact (cj_get hc).2 i hi
theorem c_inj (h : isData s t = true) {i j : Nat} (hi : i < t.length) (hj : j < t.length) (e : cN s t.length i = cN s t.length j) : i = j := by
  have e1 := ((data_c h).1 i hi).2
  have e2' := ((data_c h).1 j hj).2
  rcases Nat.lt_trichotomy i j with hlt | rfl | hlt
  · exact absurd (by rw [← e1, ← e2', e]) ((c_step h hj).2.1 i hlt)
  · rfl
  · exact absurd (by rw [← e1, ← e2', e]) ((c_step h hi).2.1 j hlt)
theorem c_twist (h : isData s t = true) {i : Nat} (hi : i < t.length) : t.getD (cN s t.length i) 0 = t.getD i 0 := (c_step h hi).2.2.1
def cP (s : List (List Int)) (z : List (List Int)) (n m x : Nat) : Nat := cN s n (x / m) * m + cN z m (x % m)
theorem cP_lt (h1 : isData s t = true) (h2 : isData z u = true) {x : Nat} (hx : x < t.length * u.length) : cP s z t.length u.length x < t.length * u.length := by
  obtain ⟨hx1, hx2⟩ := dm_lt hx
  exact pair_lt ((data_c h1).1 _ hx1).1 ((data_c h2).1 _ hx2).1
theorem cP_dm (h2 : isData z u = true) {x n : Nat} (hx : x < n * u.length) : cP s z n u.length x / u.length = cN s n (x / u.length) ∧ cP s z n u.length x % u.length = cN z u.length (x % u.length) := by
  obtain ⟨hx1, hx2⟩ := dm_lt hx
  have := ((data_c h2).1 _ hx2).1
  exact ⟨pair_div this, pair_mod this⟩
theorem pr_sq (h1 : isData s t = true) (h2 : isData z u = true) {x y : Nat} (hx : x < t.length * u.length) (hy : y < t.length * u.length) :
    e2 (sqD (prS s z t.length u.length) (t.length * u.length)) x y = if y = cP s z t.length u.length x then wholeD (prS s z t.length u.length) (t.length * u.length) else 0 := by
  obtain ⟨hx1, hx2⟩ := dm_lt hx
  obtain ⟨hy1, hy2⟩ := dm_lt hy
  have l1 := (isData_some h1).1.1
  have l2 := (isData_some h2).1.1
  have hq : Kr t.length u.length (sqD (prS s z t.length u.length) (t.length * u.length)) (sqD s t.length) (sqD z u.length) := kr_S.mul kr_S
  have hk := hq x hx y hy
  rw [sq_val h1 hx1 hy1, sq_val h2 hx2 hy2] at hk
  obtain ⟨d1, d2⟩ := cP_dm (s := s) h2 hx
  refine Cg.eq ((mulM_MatP _ _ _).inP hx hy) ?_ (hk.trans ?_)
  · split
    · exact inP_md _
    · exact ⟨by decide, by decide⟩
  · by_cases hc : y = cP s z t.length u.length x
    · subst hc
      rw [if_pos rfl, if_pos d1, if_pos d2, pr_whole l1 l2]
      exact (Cg.md _).symm
    · rw [if_neg hc]
      by_cases e1 : y / u.length = cN s t.length (x / u.length)
      · have e2' : ¬ y % u.length = cN z u.length (x % u.length) := fun e => hc (pair_eq (m := u.length).2 ⟨by rw [e1, d1], by rw [e, d2]⟩)
        rw [if_neg e2', Int.mul_zero]
      · rw [if_neg e1, Int.zero_mul]
theorem pr_wne (h1 : isData s t = true) (h2 : isData z u = true) : wholeD (prS s z t.length u.length) (t.length * u.length) ≠ 0 := by
  rw [pr_whole (isData_some h1).1.1 (isData_some h2).1.1]
  exact mul_ne (inP_md _) (inP_md _) (isData_some h1).2.2.1 (isData_some h2).2.2.1
theorem pr_cI (h1 : isData s t = true) (h2 : isData z u = true) {x : Nat} (hx : x < t.length * u.length) : cI (prS s z t.length u.length) (t.length * u.length) x = cP s z t.length u.length x := by
  have hl := cP_lt h1 h2 hx
  have hr := sq_row (s := prS s z t.length u.length) hx
  refine fidx_uniq (d := 0) (by rw [hr]; exact hl) ?_ (fun j hj hne => ?_)
  · have := pr_sq h1 h2 hx hl
    rw [if_pos rfl] at this
    unfold e2 at this
    rw [this, decide_eq_false (pr_wne h1 h2)]; rfl
  · rw [hr] at hj
    have := pr_sq h1 h2 hx hj
    rw [if_neg hne] at this
    unfold e2 at this
    rw [this]; rfl
theorem pr_cj (h1 : isData s t = true) (h2 : isData z u = true) : cj (prS s z t.length u.length) (prT t u t.length u.length) = some (cL (prS s z t.length u.length) (t.length * u.length)) := by
  have l1 := (isData_some h1).1.1
  have l2 := (isData_some h2).1.1
  obtain ⟨-, c10, c11⟩ := data_c h1
  obtain ⟨-, c20, c21⟩ := data_c h2
  have key : ∀ i, i < (prT t u t.length u.length).length → StepOk (prS s z t.length u.length) (prT t u t.length u.length) i := by
    rw [prT_length]
    intro i hi
    obtain ⟨hi1, hi2⟩ := dm_lt hi
    have hl := cP_lt h1 h2 hi
    obtain ⟨d1, d2⟩ := cP_dm (s := s) h2 hi
    unfold StepOk Good
    rw [prT_length, pr_cI h1 h2 hi, Int.toNat_natCast]
    refine ⟨⟨by omega, ?_, fun k hk hne => ?_⟩, fun j hj e => ?_, ?_, ?_⟩
    · rw [pr_sq h1 h2 hi hl, if_pos rfl]
    · rw [pr_sq h1 h2 hi hk, if_neg hne]
    · have hj' : j < t.length * u.length := by omega
      obtain ⟨hj1, hj2⟩ := dm_lt hj'
      rw [pr_cI h1 h2 hj'] at e
      obtain ⟨f1, f2⟩ := cP_dm (s := s) h2 hj'
      have e' : cP s z t.length u.length j = cP s z t.length u.length i := by omega
      have g := (pair_eq (m := u.length)).1 e'
      rw [f1, f2, d1, d2] at g
      have := (pair_eq (m := u.length)).2 ⟨c_inj h1 hj1 hi1 g.1, c_inj h2 hj2 hi2 g.2⟩
      omega
    · rw [prT_get hl, prT_get hi, d1, d2, c_twist h1 hi1, c_twist h2 hi2]
    · constructor
      · rintro rfl
        unfold cP
        rw [Nat.zero_div, Nat.zero_mod, c10, c20]; simp
      · intro e
        have e' : cP s z t.length u.length i = 0 := by omega
        rw [e', Nat.zero_div] at d1
        rw [e', Nat.zero_mod] at d2
        exact (pair_eq (m := u.length)).2 ⟨by rw [c11 _ hi1 d1.symm, Nat.zero_div], by rw [c21 _ hi2 d2.symm, Nat.zero_mod]⟩
  have := cj_some_st key
  rw [prT_length] at this
  exact this
theorem pr_num (h1 : isData s t = true) (h2 : isData z u = true) {x y w : Nat} (hx : x < t.length * u.length) (hy : y < t.length * u.length) (hw : w < t.length * u.length) :
    numV (prS s z t.length u.length) (t.length * u.length) (cL (prS s z t.length u.length) (t.length * u.length)) x y w = numV s t.length (cL s t.length) (x / u.length) (y / u.length) (w / u.length) * numV z u.length (cL z u.length) (x % u.length) (y % u.length) (w % u.length) % 55441 := by
  have S1 := (isData_some h1).1
  have S2 := (isData_some h2).1
  have l1 := S1.1
  have l2 := S2.1
  have hp : 0 < t.length * u.length := Nat.mul_pos (by omega) (by omega)
  obtain ⟨hw1, hw2⟩ := dm_lt hw
  obtain ⟨hx1, hx2⟩ := dm_lt hx
  obtain ⟨hy1, hy2⟩ := dm_lt hy
  have hl := cP_lt h1 h2 hw
  obtain ⟨d1, d2⟩ := cP_dm (s := s) h2 hw
  have ec : ((cL (prS s z t.length u.length) (t.length * u.length)).getD w 0).toNat = cP s z t.length u.length w := by rw [cL_get hw, pr_cI h1 h2 hw, Int.toNat_natCast]
  refine Cg.eq (numV_InP ..) (inP_md _) ?_
  refine (Cg.md _).trans (Eq.trans ?_ ((Cg.mul (Cg.md (sumTo (nG s t.length (cL s t.length) (x / u.length) (y / u.length) (w / u.length)) t.length * inv (wholeD s t.length))).symm (Cg.md (sumTo (nG z u.length (cL z u.length) (x % u.length) (y % u.length) (w % u.length)) u.length * inv (wholeD z u.length))).symm).trans (Cg.md _).symm))
  have e1 : Cg (sumTo (nG (prS s z t.length u.length) (t.length * u.length) (cL (prS s z t.length u.length) (t.length * u.length)) x y w) (t.length * u.length)) (sumTo (fun l => nG s t.length (cL s t.length) (x / u.length) (y / u.length) (w / u.length) (l / u.length) * nG z u.length (cL z u.length) (x % u.length) (y % u.length) (w % u.length) (l % u.length)) (t.length * u.length)) := Cg.sum fun l hl' => by
    obtain ⟨hl1, hl2⟩ := dm_lt hl'
    have k0 := prS_e2 (s := s) (z := z) hp hl'
    rw [Nat.zero_div, Nat.zero_mod] at k0
    have kc := kr_S (s := s) (z := z) _ hl l hl'
    rw [d1, d2] at kc
    unfold nG
    rw [ec, k0, cL_cN hw1, cL_cN hw2]
    refine (Cg.mul (Cg.mul (Cg.mul (kr_S x hx l hl') (kr_S y hy l hl')) (inv_mulP (S1.2.2.1.inP (by omega) hl1) (S2.2.2.1.inP (by omega) hl2))) kc).trans (Cg.of ?_)
    simp only [Int.mul_assoc, Int.mul_comm, Int.mul_left_comm]
  have e2' : Cg (inv (wholeD (prS s z t.length u.length) (t.length * u.length))) (inv (wholeD s t.length) * inv (wholeD z u.length)) := by
    rw [pr_whole l1 l2]
    exact inv_mulP (inP_md _) (inP_md _)
  refine (Cg.mul (e1.trans (Cg.of sum_prod2)) e2').trans (Cg.of ?_)
  simp only [Int.mul_assoc, Int.mul_comm, Int.mul_left_comm]
end

/-! ### Products of rings -/
theorem cubF_e3 {n : Nat} {f : Nat → Nat → Nat → Int} {i j k : Nat} (hi : i < n) (hj : j < n) (hk : k < n) : e3 (cubF n f) i j k = f i j k := by
  unfold e3
  rw [cubF_get hi, matF_get hj, rowF_get hk]
def krR (A B : List (List (List Int))) (n m : Nat) : List (List (List Int)) := cubF (n * m) fun x y w => e3 A (x / m) (y / m) (w / m) * e3 B (x % m) (y % m) (w % m)
theorem dualG_skip {g : Nat → Int} : ∀ (l : List Nat) (out : Int), (∀ j ∈ l, g j = 0) → dualG g l out = out
  | [], _, _ => rfl
  | j :: l, out, h => by
    simp only [dualG]
    rw [if_pos (h j (by simp))]
    exact dualG_skip l out (fun k hk => h k (by simp [hk]))
theorem dualG_one {g : Nat → Int} {j0 : Nat} (h1 : g j0 = 1) : ∀ (l : List Nat), l.Nodup → j0 ∈ l → (∀ j ∈ l, j ≠ j0 → g j = 0) → dualG g l (-1) = j0
  | [], _, h, _ => by simp at h
  | j :: l, hn, hm, h0 => by
    simp only [dualG]
    rw [List.nodup_cons] at hn
    by_cases hj : j = j0
    · subst hj
      rw [if_neg (by rw [h1]; decide), if_pos ⟨by decide, h1⟩]
      exact dualG_skip l j (fun k hk => h0 k (by simp [hk]) (fun e => hn.1 (e ▸ hk)))
    · rw [if_pos (h0 j (by simp) hj)]
      refine dualG_one h1 l hn.2 ?_ (fun k hk => h0 k (by simp [hk]))
      rcases List.mem_cons.1 hm with e | e
      · exact absurd e.symm hj
      · exact e
theorem dual_uniq {t : List (List (List Int))} {i j : Nat} (hj : j < t.length) (h1 : e3 t i j 0 = 1) (h0 : ∀ k, k < t.length → k ≠ j → e3 t i k 0 = 0) : dual t i = j :=
  dualG_one (g := fun j => e3 t i j 0) h1 _ List.nodup_range (by simpa using hj) (fun k hk hne => h0 k (by simpa using hk) hne)
theorem RingP.zero {t : List (List (List Int))} (h : RingP t) {i j : Nat} (hi : i < t.length) (hj : j < t.length) : e3 t i j 0 = if j = (Pl.dual t i).toNat then 1 else 0 := by
  have h2 := h.dual i hi
  rw [h.turn i hi j hj 0 (by omega), h.right _ (by omega) _ hj]
  unfold dl
  by_cases e : j = (Pl.dual t i).toNat
  · rw [if_pos e, if_pos (by rw [e])]
  · rw [if_neg e, if_neg (by omega)]
theorem dl_mul {m x y : Nat} : dl (x / m) (y / m) * dl (x % m) (y % m) = dl x y := by
  unfold dl
  by_cases e : x = y
  · subst e; rw [if_pos rfl, if_pos rfl, if_pos rfl]; rfl
  · rw [if_neg (show ¬ (x : Int) = y by omega)]
    by_cases e1 : x / m = y / m
    · have e2' : ¬ x % m = y % m := fun e2' => e (pair_eq (m := m).2 ⟨e1, e2'⟩)
      rw [if_neg (show ¬ ((x % m : Nat) : Int) = (y % m : Nat) by omega), Int.mul_zero]
    · rw [if_neg (show ¬ ((x / m : Nat) : Int) = (y / m : Nat) by omega), Int.zero_mul]
section
variable {A B : List (List (List Int))}
theorem krR_length {n m : Nat} : (krR A B n m).length = n * m := cubF_length ..
theorem krR_e3 {n m x y w : Nat} (hx : x < n * m) (hy : y < n * m) (hw : w < n * m) : e3 (krR A B n m) x y w = e3 A (x / m) (y / m) (w / m) * e3 B (x % m) (y % m) (w % m) := cubF_e3 hx hy hw
def dP (A B : List (List (List Int))) (x : Nat) : Nat := (dual A (x / B.length)).toNat * B.length + (dual B (x % B.length)).toNat
theorem krR_dual (hA : RingP A) (hB : RingP B) {x : Nat} (hx : x < A.length * B.length) : dual (krR A B A.length B.length) x = dP A B x ∧ dP A B x < A.length * B.length ∧ dP A B x / B.length = (dual A (x / B.length)).toNat ∧ dP A B x % B.length = (dual B (x % B.length)).toNat := by
  obtain ⟨hx1, hx2⟩ := dm_lt hx
  have d1 := hA.dual _ hx1
  have d2 := hB.dual _ hx2
  have hd : dP A B x < A.length * B.length := pair_lt (by omega) (by omega)
  have q1 : dP A B x / B.length = (dual A (x / B.length)).toNat := pair_div (by omega)
  have q2 : dP A B x % B.length = (dual B (x % B.length)).toNat := pair_mod (by omega)
  have hp : 0 < A.length * B.length := by omega
  have val : ∀ k, k < A.length * B.length → e3 (krR A B A.length B.length) x k 0 = if k = dP A B x then 1 else 0 := fun k hk => by
    obtain ⟨hk1, hk2⟩ := dm_lt hk
    rw [krR_e3 hx hk hp, Nat.zero_div, Nat.zero_mod, hA.zero hx1 hk1, hB.zero hx2 hk2]
    by_cases e : k = dP A B x
    · subst e
      rw [if_pos q1, if_pos q2, if_pos rfl]; rfl
    · rw [if_neg e]
      by_cases e1 : k / B.length = (dual A (x / B.length)).toNat
      · have e2' : ¬ k % B.length = (dual B (x % B.length)).toNat := fun e2' => e (pair_eq (m := B.length).2 ⟨by rw [e1, q1], by rw [e2', q2]⟩)
        rw [if_neg e2', Int.mul_zero]
      · rw [if_neg e1, Int.zero_mul]
  refine ⟨dual_uniq (by rw [krR_length]; exact hd) (by rw [val _ hd, if_pos rfl]) (fun k hk hne => ?_), hd, q1, q2⟩
  rw [krR_length] at hk
  rw [val k hk, if_neg hne]
theorem RingP.prod (hA : RingP A) (hB : RingP B) (hc : Cube (krR A B A.length B.length)) : RingP (krR A B A.length B.length) := by
  have hp : 0 < A.length * B.length := by have := hc.1; rw [krR_length] at this; exact this
  refine ⟨hc, fun i hi k hk => ?_, fun i hi k hk => ?_, fun i hi => ?_, fun i hi => ?_, fun i hi j hj k hk => ?_, fun i hi j hj k hk => ?_, fun i hi j hj k hk l hl => ?_⟩
  all_goals rw [krR_length] at hi
  · rw [krR_length] at hk
    obtain ⟨hi1, hi2⟩ := dm_lt hi
    obtain ⟨hk1, hk2⟩ := dm_lt hk
    rw [krR_e3 hp hi hk, Nat.zero_div, Nat.zero_mod, hA.left _ hi1 _ hk1, hB.left _ hi2 _ hk2, dl_mul]
  · rw [krR_length] at hk
    obtain ⟨hi1, hi2⟩ := dm_lt hi
    obtain ⟨hk1, hk2⟩ := dm_lt hk
    rw [krR_e3 hi hp hk, Nat.zero_div, Nat.zero_mod, hA.right _ hi1 _ hk1, hB.right _ hi2 _ hk2, dl_mul]
  · obtain ⟨e, h1, -, -⟩ := krR_dual hA hB hi
    rw [e, krR_length]; omega
  · obtain ⟨e, h1, q1, q2⟩ := krR_dual hA hB hi
    obtain ⟨hi1, hi2⟩ := dm_lt hi
    obtain ⟨e', -, -, -⟩ := krR_dual hA hB h1
    rw [e, Int.toNat_natCast, e']
    unfold dP at q1 q2 ⊢
    rw [q1, q2, hA.invo _ hi1, hB.invo _ hi2, Int.toNat_natCast, Int.toNat_natCast, pair_dm]
  · rw [krR_length] at hj hk
    obtain ⟨e, h1, q1, q2⟩ := krR_dual hA hB hi
    obtain ⟨hi1, hi2⟩ := dm_lt hi
    obtain ⟨hj1, hj2⟩ := dm_lt hj
    obtain ⟨hk1, hk2⟩ := dm_lt hk
    rw [e, Int.toNat_natCast, krR_e3 hi hj hk, krR_e3 h1 hk hj, q1, q2, ← hA.turn _ hi1 _ hj1 _ hk1, ← hB.turn _ hi2 _ hj2 _ hk2]
  · rw [krR_length] at hj hk
    obtain ⟨e, h1, q1, q2⟩ := krR_dual hA hB hj
    obtain ⟨hi1, hi2⟩ := dm_lt hi
    obtain ⟨hj1, hj2⟩ := dm_lt hj
    obtain ⟨hk1, hk2⟩ := dm_lt hk
    rw [e, Int.toNat_natCast, krR_e3 hi hj hk, krR_e3 hk h1 hi, q1, q2, ← hA.turn2 _ hi1 _ hj1 _ hk1, ← hB.turn2 _ hi2 _ hj2 _ hk2]
  · rw [krR_length] at hj hk hl ⊢
    obtain ⟨hi1, hi2⟩ := dm_lt hi
    obtain ⟨hj1, hj2⟩ := dm_lt hj
    obtain ⟨hk1, hk2⟩ := dm_lt hk
    obtain ⟨hl1, hl2⟩ := dm_lt hl
    have eL : sumTo (brL (krR A B A.length B.length) i j k l) (A.length * B.length) = sumTo (brL A (i / B.length) (j / B.length) (k / B.length) (l / B.length)) A.length * sumTo (brL B (i % B.length) (j % B.length) (k % B.length) (l % B.length)) B.length := by
      rw [← sum_prod2]
      refine sum_congr fun x hx => ?_
      unfold brL
      rw [krR_e3 hi hj hx, krR_e3 hx hk hl]
      simp only [Int.mul_assoc, Int.mul_comm, Int.mul_left_comm]
    have eR : sumTo (brR (krR A B A.length B.length) i j k l) (A.length * B.length) = sumTo (brR A (i / B.length) (j / B.length) (k / B.length) (l / B.length)) A.length * sumTo (brR B (i % B.length) (j % B.length) (k % B.length) (l % B.length)) B.length := by
      rw [← sum_prod2]
      refine sum_congr fun x hx => ?_
      unfold brR
      rw [krR_e3 hj hk hx, krR_e3 hi hx hl]
      simp only [Int.mul_assoc, Int.mul_comm, Int.mul_left_comm]
    rw [eL, eR, hA.brack _ hi1 _ hj1 _ hk1 _ hl1, hB.brack _ hi2 _ hj2 _ hk2 _ hl2]
def krQ (A B : List (List (List Int))) (n m : Nat) : List (List (List Int)) := cubF (n * m) fun x y w => e3 A (x / m) (y / m) (w / m) * e3 B (x % m) (y % m) (w % m) % 55441
theorem krQ_length {n m : Nat} : (krQ A B n m).length = n * m := cubF_length ..
theorem krQ_e3 {n m x y w : Nat} (hx : x < n * m) (hy : y < n * m) (hw : w < n * m) : e3 (krQ A B n m) x y w = e3 A (x / m) (y / m) (w / m) * e3 B (x % m) (y % m) (w % m) % 55441 := cubF_e3 hx hy hw
/-- Numbers that are products by the prime, and are a ring, are the products. -/
theorem krQ_exact (hA : RingP A) (hB : RingP B) (hQ : RingP (krQ A B A.length B.length)) : krQ A B A.length B.length = krR A B A.length B.length := by
  have hA0 := hA.cube.1
  have hB0 := hB.cube.1
  refine cubF_congr fun x hx y hy w hw => ?_
  obtain ⟨hx1, hx2⟩ := dm_lt hx
  obtain ⟨hy1, hy2⟩ := dm_lt hy
  obtain ⟨hw1, hw2⟩ := dm_lt hw
  have ha : x / B.length * B.length + 0 < A.length * B.length := pair_lt hx1 (by omega)
  have hb : x % B.length < A.length * B.length := by
    have := pair_lt (n := A.length) (m := B.length) (i := 0) (j := x % B.length) (by omega) hx2
    rw [Nat.zero_mul, Nat.zero_add] at this
    exact this
  have a1 : (x / B.length * B.length + 0) / B.length = x / B.length := pair_div (by omega)
  have a2 : (x / B.length * B.length + 0) % B.length = 0 := pair_mod (by omega)
  have b1 : x % B.length / B.length = 0 := Nat.div_eq_of_lt hx2
  have b2 : x % B.length % B.length = x % B.length := Nat.mod_eq_of_lt hx2
  have hr := hQ.brack (x / B.length * B.length + 0) (by rw [krQ_length]; exact ha) (x % B.length) (by rw [krQ_length]; exact hb) y (by rw [krQ_length]; exact hy) w (by rw [krQ_length]; exact hw)
  rw [krQ_length] at hr
  have eL : sumTo (brL (krQ A B A.length B.length) (x / B.length * B.length + 0) (x % B.length) y w) (A.length * B.length) = e3 (krQ A B A.length B.length) x y w := by
    have : sumTo (brL (krQ A B A.length B.length) (x / B.length * B.length + 0) (x % B.length) y w) (A.length * B.length) = sumTo (fun k => (if k = x then 1 else 0) * e3 (krQ A B A.length B.length) k y w) (A.length * B.length) := sum_congr fun k hk => by
      obtain ⟨hk1, hk2⟩ := dm_lt hk
      unfold brL
      congr 1
      rw [krQ_e3 ha hb hk, a1, a2, b1, b2, hA.right _ hx1 _ hk1, hB.left _ hx2 _ hk2, dl_mul]
      unfold dl
      by_cases e : k = x
      · rw [if_pos (by rw [e]), if_pos e]; rfl
      · rw [if_neg (by omega), if_neg e]; rfl
    rw [this, sum_pick (f := fun k => e3 (krQ A B A.length B.length) k y w) hx, Int.one_mul]
  have eR : sumTo (brR (krQ A B A.length B.length) (x / B.length * B.length + 0) (x % B.length) y w) (A.length * B.length) = e3 A (x / B.length) (y / B.length) (w / B.length) * e3 B (x % B.length) (y % B.length) (w % B.length) := by
    have : sumTo (brR (krQ A B A.length B.length) (x / B.length * B.length + 0) (x % B.length) y w) (A.length * B.length) = sumTo (fun k => ((if k / B.length = y / B.length then 1 else 0) * e3 A (x / B.length) (k / B.length) (w / B.length)) * ((if k % B.length = w % B.length then 1 else 0) * e3 B (x % B.length) (y % B.length) (k % B.length))) (A.length * B.length) := sum_congr fun k hk => by
      obtain ⟨hk1, hk2⟩ := dm_lt hk
      have i1 := hB.cube.inM hx2 hy2 hk2
      have i2 := hA.cube.inM hx1 hk1 hw1
      unfold InM at i1 i2
      unfold brR
      rw [krQ_e3 hb hy hk, krQ_e3 ha hk hw, a1, a2, b1, b2, hA.left _ hy1 _ hk1, hB.left _ hk2 _ hw2]
      unfold dl
      by_cases e : k / B.length = y / B.length
      · rw [if_pos (by rw [e]), if_pos e]
        by_cases f : k % B.length = w % B.length
        · rw [if_pos (by rw [f]), if_pos f]
          simp only [Int.one_mul, Int.mul_one]
          rw [md_InP ⟨by omega, by omega⟩, md_InP ⟨by omega, by omega⟩, Int.mul_comm]
        · rw [if_neg (by omega), if_neg f]; simp
      · rw [if_neg (by omega), if_neg e]; simp
    rw [this, sum_prod2 (f := fun k => (if k = y / B.length then 1 else 0) * e3 A (x / B.length) k (w / B.length)) (g := fun k => (if k = w % B.length then 1 else 0) * e3 B (x % B.length) (y % B.length) k), sum_pick (f := fun k => e3 A (x / B.length) k (w / B.length)) hy1, sum_pick (f := fun k => e3 B (x % B.length) (y % B.length) k) hw2, Int.one_mul, Int.one_mul]
  rw [eL, eR] at hr
  rw [← krQ_e3 hx hy hw, hr]
end
/-- A product of data is data exactly if its numbers are in range. -/
theorem pr_data {s : List (List Int)} {t : List Int} {z : List (List Int)} {u : List Int} (h1 : isData s t = true) (h2 : isData z u = true) (hN : t.length * u.length ≤ 16) :
    isData (prS s z t.length u.length) (prT t u t.length u.length) = bd (Cube (krR (numD s t.length (cL s t.length)) (numD z u.length (cL z u.length)) t.length u.length)) := by
  obtain ⟨S1, g1, w1, c1, hc1, T1, R1⟩ := isData_some h1
  obtain ⟨S2, g2, w2, c2, hc2, T2, R2⟩ := isData_some h2
  obtain ⟨rfl, -⟩ := cj_get hc1
  obtain ⟨rfl, -⟩ := cj_get hc2
  have P1 := isRing_P R1
  have P2 := isRing_P R2
  have n1 : (numD s t.length (cL s t.length)).length = t.length := cubF_length ..
  have n2 : (numD z u.length (cL z u.length)).length = u.length := cubF_length ..
  have hst := pr_start S1 S2 g1 g2
  have hT := pr_turn S1 S2 T1 T2
  have hcj := pr_cj h1 h2
  have hW := pr_wne h1 h2
  rw [← prT_length (t := t) (u := u) (n := t.length) (m := u.length)] at hW hcj
  have eQ : numD (prS s z t.length u.length) (prT t u t.length u.length).length (cL (prS s z t.length u.length) (prT t u t.length u.length).length) = krQ (numD s t.length (cL s t.length)) (numD z u.length (cL z u.length)) t.length u.length := by
    rw [prT_length, numD_eq]
    refine cubF_congr fun x hx y hy w hw => ?_
    obtain ⟨hx1, hx2⟩ := dm_lt hx
    obtain ⟨hy1, hy2⟩ := dm_lt hy
    obtain ⟨hw1, hw2⟩ := dm_lt hw
    rw [pr_num h1 h2 hx hy hw, numD_eq, numD_eq, cubF_e3 hx1 hy1 hw1, cubF_e3 hx2 hy2 hw2]
  by_cases hC : Cube (krR (numD s t.length (cL s t.length)) (numD z u.length (cL z u.length)) t.length u.length)
  · rw [bd_true hC]
    refine isData_iff.2 ⟨pr_shape S1 S2 hN, dF_5 hst hW hcj hT ?_⟩
    have eR : krQ (numD s t.length (cL s t.length)) (numD z u.length (cL z u.length)) t.length u.length = krR (numD s t.length (cL s t.length)) (numD z u.length (cL z u.length)) t.length u.length := cubF_congr fun x hx y hy w hw => by
      have := hC.inM (i := x) (j := y) (k := w) (by rw [krR_length]; exact hx) (by rw [krR_length]; exact hy) (by rw [krR_length]; exact hw)
      rw [krR_e3 hx hy hw] at this
      unfold InM at this
      exact md_InP ⟨by omega, by omega⟩
    rw [eQ, eR]
    have hP := RingP.prod P1 P2 (by rw [n1, n2]; exact hC)
    rw [n1, n2] at hP
    exact hP.faults
  · rw [bd_false hC]
    refine isData_no (fun hh => hC ?_)
    have hd := isData_some (isData_iff.2 hh)
    obtain ⟨-, -, -, c, hc, -, hR⟩ := hd
    rw [hcj] at hc
    cases hc
    rw [eQ] at hR
    have hP := isRing_P hR
    have hx := krQ_exact P1 P2 (by rw [n1, n2]; exact hP)
    rw [n1, n2] at hx
    rw [← hx]
    exact hP.cube
end Go.Pl
