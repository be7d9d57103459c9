import Derived.Test.YtkdadpdmnmjikaaDx1
set_option linter.unusedSimpArgs false
set_option linter.unusedVariables false
namespace Go.Proofs.Ytkdadpdmnmjikaa
open Go Go.Aw Go.Pl
def red (x : Int) (p k : Nat) : Nat := if h : 2 ≤ p ∧ 0 < k ∧ k % p = 0 ∧ pw x (k / p) = 1 then red x p (k / p) else k
termination_by k
decreasing_by exact Nat.div_lt_self h.2.1 h.1
theorem red_go {x : Int} {p k : Nat} (h : 2 ≤ p ∧ 0 < k ∧ k % p = 0 ∧ pw x (k / p) = 1) : red x p k = red x p (k / p) := by rw [red, dif_pos h]
theorem red_no {x : Int} {p k : Nat} (h : ¬ (2 ≤ p ∧ 0 < k ∧ k % p = 0 ∧ pw x (k / p) = 1)) : red x p k = k := by rw [red, dif_neg h]
theorem div_dvd {p k m : Nat} (h : k % p = 0) (hd : k ∣ m) : k / p ∣ m := Nat.dvd_trans (Nat.div_dvd_of_dvd (Nat.dvd_of_mod_eq_zero h)) hd
theorem red_dvd (x : Int) (p : Nat) : ∀ (k : Nat) {m : Nat}, k ∣ m → red x p k ∣ m := by
 intro k
 induction k using Nat.strongRecOn with
 | _ k ih =>
  intro m hm
  by_cases h : 2 ≤ p ∧ 0 < k ∧ k % p = 0 ∧ pw x (k / p) = 1
  ·rw [red_go h]
   exact ih (k / p) (Nat.div_lt_self h.2.1 h.1) (div_dvd h.2.2.1 hm)
  ·rw [red_no h]; exact hm
def prm (i : Nat) : Nat := [2, 3, 5, 7, 11].getD i 0
theorem prm_get {i : Nat} (h : i < 5) : ([2, 3, 5, 7, 11] : List Int).getD i 0 = (prm i : Int) ∧ 2 ≤ prm i := by
 match i, h with
 | 0, _ => exact ⟨rfl, by decide⟩
 | 1, _ => exact ⟨rfl, by decide⟩
 | 2, _ => exact ⟨rfl, by decide⟩
 | 3, _ => exact ⟨rfl, by decide⟩
 | 4, _ => exact ⟨rfl, by decide⟩
def ordL (x : Int) : Nat → Nat
 | 0 => 55440
 | i + 1 => red x (prm i) (ordL x i)
theorem ordL_dvd (x : Int) : ∀ i, ordL x i ∣ 55440
 | 0 => Nat.dvd_refl _
 | i + 1 => red_dvd x (prm i) _ (ordL_dvd x i)
theorem dvd_bd {k : Nat} (h : k ∣ 55440) : 0 < k ∧ k ≤ 55440 := ⟨Nat.pos_of_dvd_of_pos h (by decide), Nat.le_of_dvd (by decide) h⟩
theorem tm_nat (a b : Nat) : (a : Int).tmod b = ((a % b : Nat) : Int) := Int.ofNat_tmod a b |>.symm
theorem td_nat (a b : Nat) : (a : Int).tdiv b = ((a / b : Nat) : Int) := Int.ofNat_tdiv a b |>.symm
def lc (a b : Nat) : Nat := a / Nat.gcd a b * b
theorem gcd_it (x y : Nat) : Nat.gcd x y = Nat.gcd y (x % y) := by rw [Nat.gcd_comm x y, Nat.gcd_rec y x, Nat.gcd_comm]
theorem l01Order_ok (x : Int) (hx : InP x) : PureCall Try.prog 62 [.int x] (.int (ordL x 5)) := by
 refine PureCall.intro (n := 38) (rs := [.tmp 2]) Try.call62 Try.func62 rfl rfl rfl (by simp only [List.length_cons, List.length_nil]; omega) (fun cx hcx => ats_of ?_); simp only [argSlots, Nat.zero_add, Nat.reduceAdd]
 refine gA ?_
 refine gA ?_
 refine gA ?_
 refine gA ?_
 (repeat refine ats_seq ?_); refine ats_loop (fun i : Nat => ⟨[(0, .int x), (3, .int (ordL x i : Nat)), (4, .ref 0 []), (5, .int i)], [(0, .t1 [2, 3, 5, 7, 11])]⟩) (fun i => i ≤ 5) (fun i => 5 - i) 0 (Nat.zero_le _) (by refine And.intro ?_ rfl; simp only [leS, Nat.reduceEqDiff, ↓reduceIte, true_and, and_true]; repeat' (first | rfl | with_reducible refine And.intro ?_ ?_ | omega)) (fun i hi => ?_)
 refine gA ?_
 refine gI (fun hli => ?_) fun hli => ?_
 ·obtain ⟨hp, hp2⟩ := prm_get (show i < 5 by omega)
  have hd0 := ordL_dvd x i
  refine ats_skip ?_
  (repeat refine ats_seq ?_); refine ats_block ?_
  (repeat refine ats_seq ?_); refine ats_loop (fun k : Nat => ⟨[(0, .int x), (3, .int k), (4, .ref 0 []), (5, .int i)], [(0, .t1 [2, 3, 5, 7, 11])]⟩) (fun k => k ∣ 55440 ∧ red x (prm i) k = ordL x (i + 1)) (fun k => k) (ordL x i) ⟨hd0, rfl⟩ (by refine And.intro ?_ rfl; simp only [SlotsLe, St.get, slotGet, Nat.reduceEqDiff, ↓reduceIte, true_and, and_true]) (fun k hk => ?_)
  obtain ⟨hkd, hke⟩ := hk
  have hkb := dvd_bd hkd
  have hkp0 : k / prm i ≤ 55440 := Nat.le_trans (Nat.div_le_self _ _) hkb.2
  have hkm : k % prm i ≤ 55440 := Nat.le_trans (Nat.mod_le _ _) hkb.2
  have hlt : 0 < k → k / prm i < k := fun h => Nat.div_lt_self h hp2
  obtain ⟨q, eq⟩ : ∃ q, k / prm i = q := ⟨_, rfl⟩
  obtain ⟨r, er⟩ : ∃ r, k % prm i = r := ⟨_, rfl⟩
  rw [eq] at hkp0 hlt
  rw [er] at hkm
  refine gC fun K hK => ?_
  simp only [hp, tm_nat, td_nat, eq, er]
  (repeat refine aI (hb := ?_))
  first | refine YR_intro (fun _ => acall_data (l01Pow_ok x q hx (by omega)) rfl) ?_ | refine YR_intro (acall_data (l01Pow_ok x q hx (by omega)) rfl) ?_
  simp only [go_sem, seval]
  (repeat refine aI (hb := ?_))
  refine hK _ ?_; clear hK K
  refine gI (fun hc => ?_) fun hc => ?_
  ·simp only [Bool.and_eq_true, decide_eq_true_eq] at hc
   have hc1 : r = 0 := by omega
   refine ats_skip ?_
   (repeat refine ats_seq ?_); refine ats_block ?_
   refine gC fun K hK => ?_
   simp only [hp, td_nat, eq]
   (repeat refine aI (hb := ?_))
   refine hK _ ?_; clear hK K
   refine ⟨q, ⟨?_, ?_⟩, hlt hkb.1, .inl ⟨?_, rfl⟩⟩
   ·rw [← eq]; exact div_dvd (er.trans hc1) hkd
   ·rw [← hke, red_go (k := k) ⟨hp2, hkb.1, er.trans hc1, by rw [eq]; exact hc.2⟩, eq]
   ·simp only [leS, Nat.reduceEqDiff, ↓reduceIte, true_and, and_true]
  ·simp only [Bool.and_eq_false_iff, decide_eq_false_iff_not] at hc
   rw [red_no (fun h => by rw [er, eq] at h; rcases hc with h1 | h1; exact h1 (by omega); exact h1 h.2.2.2)] at hke
   subst hke
   refine ats_exit (lq_x (ats_nil (bq_n ?_)))
   refine gB ?_
   refine ⟨i + 1, by omega, by omega, .inl ⟨?_, rfl⟩⟩
   simp only [leS, Nat.reduceEqDiff, ↓reduceIte, true_and, and_true]
   omega
 ·obtain rfl : i = 5 := by omega
  refine ats_exit (lq_x ?_)
  refine gA ?_
  refine ats_ret (finI rfl ?_)
  rfl
theorem gcd_ok (a b : Nat) (ha : a ≤ 1000000000) (hb : b ≤ 1000000000) : PureCall Try.prog 58 [.int a, .int b] (.int (Nat.gcd a b : Nat)) := by
 refine PureCall.intro (n := 15) (rs := [.tmp 4]) Try.call58 Try.func58 rfl rfl rfl (by simp only [List.length_cons, List.length_nil]; omega) (fun cx hcx => ats_of ?_); simp only [argSlots, Nat.zero_add, Nat.reduceAdd]
 refine gA ?_
 (repeat refine ats_seq ?_); refine ats_loop (fun k : Nat × Nat => ⟨[(0, .int k.1), (1, .int k.2)], []⟩) (fun k => k.1 ≤ 1000000000 ∧ k.2 ≤ 1000000000 ∧ Nat.gcd k.1 k.2 = Nat.gcd a b) (fun k => k.2) (a, b) ⟨ha, hb, rfl⟩ (by
  refine And.intro ?_ rfl; simp only [leS, Nat.reduceEqDiff, ↓reduceIte, true_and, and_true]
  skip) (fun k hk => ?_)
 obtain ⟨x, y⟩ := k
 obtain ⟨h1, h2, h3⟩ := hk
 dsimp only at h1 h2 h3 ⊢
 refine gA ?_
 refine gI (fun hc => ?_) fun hc => ?_
 ·have hm : x % y ≤ 1000000000 := Nat.le_trans (Nat.mod_le _ _) h1
  have hm2 : x % y < y := Nat.mod_lt _ (by omega)
  refine ats_skip ?_
  (repeat refine ats_seq ?_); refine ats_block ?_
  (repeat refine ats_seq ?_); refine ats_pick (fix0 hcx) mixed (by kernel_rfl) fun K hK => ?_; simp only [go_sem, seval]
  simp only [tm_nat]
  (repeat refine aI (hb := ?_))
  refine hK _ ?_; clear hK K
  refine ⟨(y, x % y), ⟨h2, hm, by rw [← h3, gcd_it x y]⟩, hm2, .inl ⟨?_, rfl⟩⟩
  simp only [leS, Nat.reduceEqDiff, ↓reduceIte, true_and, and_true]
 ·obtain rfl : y = 0 := by omega
  refine ats_exit (lq_x ?_)
  rw [Nat.gcd_zero_right] at h3
  refine gB ?_
  refine ats_ret (finI rfl ?_)
  rw [if_neg (by omega), h3]
end Go.Proofs.Ytkdadpdmnmjikaa
