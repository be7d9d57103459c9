import Derived.Test.YtkdadpdmnmjikaaDp
import Derived.Test.YtkdadpdmnmjikaaVn1
import Derived.Test.YtkdadpdmnmjikaaLib6
import Derived.Test.YtkdadpdmnmjikaaEk
import Derived.Test.YtkdadpdmnmjikaaLib7
import Derived.Test.YtkdadpdmnmjikaaWx2
set_option linter.unusedSimpArgs false
set_option linter.unusedVariables false
namespace Go.Proofs.Ytkdadpdmnmjikaa
open Go Go.Aw Go.Pl
attribute [local go_sem] pl_fin pl_stop pl_one pl_alt PK_ap pickO List.getElem?_toArray List.getElem?_cons_zero List.getElem?_cons_succ
theorem ordL_chain (x : Int) : ∀ i, ordL x (i + 1) ∣ ordL x i := fun i => red_dvd x (prm i) _ (Nat.dvd_refl _)
theorem ordL_no {x : Int} {i : Nat} (hi : i < 5) (hp : 55440 % prm i = 0) (h : pw x (55440 / prm i) = 1) : ordL x 5 ≠ 55440 := by
 intro e
 have h2 := (prm_get hi).2
 have hd0 : ∀ d j, ordL x (j + d) ∣ ordL x j := by
  intro d j
  induction d with
  | zero => exact Nat.dvd_refl _
  | succ d ih => exact Nat.dvd_trans (ordL_chain x (j + d)) ih
 have hd : ∀ j, j ≤ 5 → ordL x 5 ∣ ordL x j := fun j hj => by
  have := hd0 (5 - j) j
  rwa [show j + (5 - j) = 5 by omega] at this
 have e1 : ∀ j, j ≤ 5 → ordL x j = 55440 := fun j hj => Nat.dvd_antisymm (ordL_dvd x j) (by rw [← e]; exact hd j hj)
 have e2 := e1 (i + 1) (by omega)
 have e3 : ordL x (i + 1) = red x (prm i) (ordL x i) := rfl
 rw [e1 i (by omega), red_go ⟨h2, by decide, hp, h⟩] at e3
 have e4 := red_dvd x (prm i) (55440 / prm i) (Nat.dvd_refl _)
 rw [← e3, e2] at e4
 have e5 := Nat.le_of_dvd (Nat.div_pos (Nat.le_of_dvd (by decide) (Nat.dvd_of_mod_eq_zero hp)) (by omega)) e4
 have e6 := Nat.div_lt_self (show 0 < 55440 by decide) h2
 omega
theorem ordL_yes {x : Int} (h : ∀ i, i < 5 → pw x (55440 / prm i) ≠ 1) : ordL x 5 = 55440 := by
 have : ∀ j, j ≤ 5 → ordL x j = 55440 := by
  intro j
  induction j with
  | zero => intro _; rfl
  | succ j ih =>
   intro hj
   show red x (prm j) (ordL x j) = 55440
   rw [ih (by omega)]
   exact red_no fun hh => h j (by omega) hh.2.2.2
 exact this 5 (Nat.le_refl _)
def nopB (a : Nat) : Bool := (List.range 5).any fun i => Nat.beq (a ^ (55440 / prm i) % 55441) 1
theorem nop_all : ((List.range 37).all fun a => nopB (a + 1)) = true := by decide +kernel
theorem nop_38 : nopB 38 = false := by decide +kernel
theorem prm_div {i : Nat} (h : i < 5) : 55440 % prm i = 0 := by
 match i, h with
 | 0, _ => rfl
 | 1, _ => rfl
 | 2, _ => rfl
 | 3, _ => rfl
 | 4, _ => rfl
theorem ord_small {a : Nat} (h1 : 1 ≤ a) (h : a < 38) : ordL (a : Int) 5 ≠ 55440 := by
 have := rng_at nop_all (show a - 1 < 37 by omega)
 rw [show a - 1 + 1 = a by omega] at this
 obtain ⟨i, hi, hb⟩ := List.any_eq_true.1 this
 have hi' := List.mem_range.1 hi
 refine ordL_no hi' (prm_div hi') ?_
 rw [pw_nat (by omega), Nat.eq_of_beq_eq_true hb]
 rfl
theorem ord_38 : ordL 38 5 = 55440 := by
 refine ordL_yes fun i hi e => ?_
 have h := List.any_eq_false.1 nop_38 i (List.mem_range.2 hi)
 apply h
 rw [show (38 : Int) = ((38 : Nat) : Int) from rfl, pw_nat (by omega)] at e
 have e' : 38 ^ (55440 / prm i) % 55441 = 1 := by omega
 rw [e']
 rfl
theorem md_two (n : Int) : -55441 < n.tmod 55441 ∧ n.tmod 55441 < 55441 ∧ (n.tmod 55441 + 55441).tmod 55441 = n % 55441 := by
 have h1 := Int.tmod_lt_of_pos n (show (0 : Int) < 55441 by omega)
 have h2 := Int.lt_tmod_of_pos n (show (0 : Int) < 55441 by omega)
 have h3 := Int.tmod_add_mul_tdiv n 55441
 refine ⟨by omega, h1, ?_⟩
 rw [tmP (by omega)]
 omega
theorem l01Mod_ok (n : Int) (h1 : -10000000000 ≤ n) (h2 : n ≤ 10000000000) : PureCall Try.prog 41 [.int n] (.int (n % 55441)) := by
 obtain ⟨e1, e2, e⟩ := md_two n
 refine PureCall.intro (n := 7) (rs := [.tmp 2]) Try.call41 Try.func41 rfl rfl rfl (by simp only [List.length_cons, List.length_nil]; omega) (fun cx hcx => ats_of ?_); simp only [argSlots, Nat.zero_add, Nat.reduceAdd]
 refine gB ?_
 (repeat refine ats_seq ?_); refine ats_go (fix0 hcx) fun K hK => ?_; simp only [go_sem, seval, e]
 (repeat refine aI (hb := ?_))
 refine hK _ ?_; clear hK K
 refine ats_ret (finI rfl ?_)
 rfl
theorem mod_ok (n : Int) (h1 : -10000000000 ≤ n) (h2 : n ≤ 10000000000) : PureCall Try.prog 30 [.int n] (.int (n % 55441)) := by
 obtain ⟨e1, e2, e⟩ := md_two n
 refine PureCall.intro (n := 7) (rs := [.tmp 2]) Try.call30 Try.func30 rfl rfl rfl (by simp only [List.length_cons, List.length_nil]; omega) (fun cx hcx => ats_of ?_); simp only [argSlots, Nat.zero_add, Nat.reduceAdd]
 refine gB ?_
 (repeat refine ats_seq ?_); refine ats_go (fix0 hcx) fun K hK => ?_; simp only [go_sem, seval, e]
 (repeat refine aI (hb := ?_))
 refine hK _ ?_; clear hK K
 refine ats_ret (finI rfl ?_)
 rfl
theorem l01Primitive_ok : PureCall Try.prog 47 [] (.int 38) := by
 refine PureCall.intro (n := 8) (rs := [.tmp 0]) Try.call47 Try.func47 rfl rfl rfl (by simp only [List.length_cons, List.length_nil]; omega) (fun cx hcx => ats_of ?_); simp only [argSlots, Nat.zero_add, Nat.reduceAdd]
 refine gB ?_
 refine gB ?_
 (repeat refine ats_seq ?_); refine ats_loop (fun a : Nat => ⟨[(1, .int (a : Int))], []⟩) (fun a => 1 ≤ a ∧ a ≤ 38) (fun a => 38 - a) 1 ⟨by omega, by omega⟩ (by
  refine And.intro ?_ rfl; simp only [leS, Nat.reduceEqDiff, ↓reduceIte, true_and, and_true]
  rfl) (fun a ha => ?_)
 obtain ⟨ha1, ha2⟩ := ha
 have ho := l01Order_ok (a : Int) ⟨by omega, by omega⟩
 refine gC fun K hK => ?_
 first | refine fcall_data (ho) rfl ?_ | refine YR_intro (acall_data (ho) rfl) ?_
 simp only [go_sem, seval]
 refine hK _ ?_; clear hK K
 by_cases h38 : a = 38
 ·subst h38
  have e := ord_38
  refine gI (fun hc => ?_) fun hc => ?_
  ·exact absurd (show ((ordL ((38 : Nat) : Int) 5 : Nat) : Int) = 55440 by rw [show ((38 : Nat) : Int) = 38 from rfl, e]; rfl) (by simpa using hc)
  ·refine ats_exit (lq_x ?_)
   refine gA ?_
   refine ats_ret (finI rfl ?_)
   rfl
 ·have e := ord_small ha1 (show a < 38 by omega)
  refine gI (fun hc => ?_) fun hc => ?_
  ·refine ats_skip ?_
   (repeat refine ats_seq ?_); refine ats_block ?_
   refine gB ?_
   refine ⟨a + 1, ⟨by omega, by omega⟩, by omega, .inl ⟨?_, rfl⟩⟩
   simp only [leS, Nat.reduceEqDiff, ↓reduceIte, true_and, and_true]
   omega
  ·exact absurd hc (by omega)
theorem l01Unity_ok (o : Nat) (h1 : 1 ≤ o) (h2 : o ≤ 1000) : PureCall Try.prog 34 [.int (o : Int)] (.int (rtI o)) := by
 have hp := l01Primitive_ok
 have hb : 55440 / o ≤ 55440 := Nat.div_le_self _ _
 have hw : PureCall Try.prog 33 [.int 38, .int ((55440 / o : Nat) : Int)] (.int (rtI o)) := l01Pow_ok 38 (55440 / o) ⟨by omega, by omega⟩ (by omega)
 have e : (55440 : Int).tdiv (o : Int) = ((55440 / o : Nat) : Int) := td_nat 55440 o
 generalize 55440 / o = d at hb hw e
 refine PureCall.intro (n := 7) (rs := [.tmp 2]) Try.call34 Try.func34 rfl rfl rfl (by simp only [List.length_cons, List.length_nil]; omega) (fun cx hcx => ats_of ?_); simp only [argSlots, Nat.zero_add, Nat.reduceAdd]
 refine gB ?_
 (repeat refine ats_seq ?_)
 refine ats_plan [] (.one 0 (.one 1 (.one 2 (.one 3 (.one 4 .fin))))) ⟨[(2, .int (rtI o))], []⟩ (fix0 hcx) mixed (by kernel_rfl) (fun K hK => ?_) ?_
 ·simp only [go_sem, seval, Option.getD_some, and_true, true_and, and_self, List.contains_cons, List.contains_nil, Bool.or_false, Bool.or_true]
  repeat' (first | exact hK _ (by refine And.intro ?_ rfl; simp only [leS, Nat.reduceEqDiff, ↓reduceIte, true_and, and_true])  | with_reducible refine And.intro ?_ ?_ | omega | ((first | refine fcall_data (hp) rfl ?_ | refine YR_intro (acall_data (hp) rfl) ?_); simp only [go_sem, seval, Option.getD_some, and_true, true_and, and_self, List.contains_cons, List.contains_nil, Bool.or_false, Bool.or_true]) | ((first | refine fcall_data (hw) rfl ?_ | refine YR_intro (acall_data (hw) rfl) ?_); simp only [go_sem, seval, Option.getD_some, and_true, true_and, and_self, List.contains_cons, List.contains_nil, Bool.or_false, Bool.or_true]) | (rw [e]))
 refine ats_ret (finI rfl ?_)
 rfl
theorem root_ok (o : Nat) (h1 : 1 ≤ o) (h2 : o ≤ 1000) : PureCall Try.prog 29 [.int (o : Int)] (.int (rtI o)) := by
 have hb : 55440 / o ≤ 55440 := Nat.div_le_self _ _
 have hw : PureCall Try.prog 28 [.int 38, .int ((55440 / o : Nat) : Int)] (.int (rtI o)) := power_ok 38 (55440 / o) ⟨by omega, by omega⟩ (by omega)
 have e : (55440 : Int).tdiv (o : Int) = ((55440 / o : Nat) : Int) := td_nat 55440 o
 generalize 55440 / o = d at hb hw e
 refine PureCall.intro (n := 6) (rs := [.tmp 2]) Try.call29 Try.func29 rfl rfl rfl (by simp only [List.length_cons, List.length_nil]; omega) (fun cx hcx => ats_of ?_); simp only [argSlots, Nat.zero_add, Nat.reduceAdd]
 refine gB ?_
 (repeat refine ats_seq ?_); refine ats_go (fix0 hcx) fun K hK => ?_; simp only [go_sem, seval, e]
 (repeat refine aI (hb := ?_))
 first | refine fcall_data (hw) rfl ?_ | refine YR_intro (acall_data (hw) rfl) ?_
 simp only [go_sem, seval]
 refine hK _ ?_; clear hK K
 refine ats_ret (finI rfl ?_)
 rfl
theorem l13Coprime_ok (a b : Nat) (ha : a ≤ 1000000000) (hb : b ≤ 1000000000) : PureCall Try.prog 60 [.int (a : Int), .int (b : Int)] (.bool (decide (Nat.gcd a b = 1))) := by
 refine PureCall.intro (n := 15) (rs := [.tmp 4]) Try.call60 Try.func60 rfl rfl rfl (by simp only [List.length_cons, List.length_nil]; omega) (fun cx hcx => ats_of ?_); simp only [argSlots, Nat.zero_add, Nat.reduceAdd]
 refine gA ?_
 (repeat refine ats_seq ?_); refine ats_loop (fun k : Nat × Nat => ⟨[(0, .int k.1), (1, .int k.2)], []⟩) (fun k => k.1 ≤ 1000000000 ∧ k.2 ≤ 1000000000 ∧ Nat.gcd k.1 k.2 = Nat.gcd a b) (fun k => k.2) (a, b) ⟨ha, hb, rfl⟩ (by
  refine And.intro ?_ rfl; simp only [leS, Nat.reduceEqDiff, ↓reduceIte, true_and, and_true]
  skip) (fun k hk => ?_)
 obtain ⟨x, y⟩ := k
 obtain ⟨h1, h2, h3⟩ := hk
 dsimp only at h1 h2 h3 ⊢
 refine gA ?_
 refine gI (fun hc => ?_) fun hc => ?_
 ·have hm : x % y ≤ 1000000000 := Nat.le_trans (Nat.mod_le _ _) h1
  have hm2 : x % y < y := Nat.mod_lt _ (by omega)
  refine ats_skip ?_
  (repeat refine ats_seq ?_); refine ats_block ?_
  (repeat refine ats_seq ?_); refine ats_go (fix0 hcx) fun K hK => ?_; simp only [go_sem, seval, tm_nat]
  (repeat refine aI (hb := ?_))
  refine hK _ ?_; clear hK K
  refine gB ?_
  refine gB ?_
  refine ⟨(y, x % y), ⟨h2, hm, by rw [← h3, gcd_it x y]⟩, hm2, .inl ⟨?_, rfl⟩⟩
  simp only [leS, Nat.reduceEqDiff, ↓reduceIte, true_and, and_true]
 ·obtain rfl : y = 0 := by omega
  refine ats_exit (lq_x ?_)
  rw [Nat.gcd_zero_right] at h3
  refine gB ?_
  refine ats_ret (finB rfl ?_)
  rw [h3]
  exact decide_eq_decide.2 (by omega)
theorem isOrder_ok (n : Nat) (h1 : 1 ≤ n) (h2 : n ≤ 1000) : PureCall Try.prog 57 [.int (n : Int)] (.bool (decide (55440 % n = 0))) := by
 have e : (55440 : Int).tmod (n : Int) = ((55440 % n : Nat) : Int) := tm_nat 55440 n
 have hb : 55440 % n ≤ 55440 := Nat.mod_le _ _
 generalize 55440 % n = d at hb e
 refine PureCall.intro (n := 10) (rs := [.tmp 2]) Try.call57 Try.func57 rfl rfl rfl (by simp only [List.length_cons, List.length_nil]; omega) (fun cx hcx => ats_of ?_); simp only [argSlots, Nat.zero_add, Nat.reduceAdd]
 refine gB ?_
 (repeat refine ats_seq ?_); refine ats_go (fix0 hcx) fun K hK => ?_; simp only [go_sem, seval, e]
 refine And.intro (fun _ => ⟨by omega, by omega, by omega⟩) ?_
 refine hK _ ?_; clear hK K
 refine ats_ret (finB rfl ?_)
 rw [decide_eq_true (show (1 : Int) ≤ n by omega), Bool.true_and]
 exact decide_eq_decide.2 (by omega)
def spOk (k m : Nat) : Bool := decide (55440 % (4 * (k + 2)) = 0) && decide (Nat.gcd m (4 * (k + 2)) = 1)
theorem isSpin_ok (k m : Nat) (hk : k ≤ 31) (hm : m ≤ 1000) : PureCall Try.prog 42 [.int (k : Int), .int (m : Int)] (.bool (spOk k m)) := by
 have e : (4 : Int) * ((k : Int) + 2) = ((4 * (k + 2) : Nat) : Int) := by omega
 have ho := isOrder_ok (4 * (k + 2)) (by omega) (by omega)
 have hg := gcd_ok m (4 * (k + 2)) (by omega) (by omega)
 unfold spOk
 generalize hq : 55440 % (4 * (k + 2)) = q at ho
 generalize hn : 4 * (k + 2) = n at e ho hg ⊢
 have hn2 : n ≤ 1000 := by omega
 refine PureCall.intro (n := 17) (rs := [.tmp 4]) Try.call42 Try.func42 rfl rfl rfl (by simp only [List.length_cons, List.length_nil]; omega) (fun cx hcx => ats_of ?_); simp only [argSlots, Nat.zero_add, Nat.reduceAdd]
 refine gB ?_
 (repeat refine ats_seq ?_); refine ats_go (fix0 hcx) fun K hK => ?_; simp only [go_sem, seval, e]
 (repeat refine aI (hb := ?_))
 first | refine fcall_data (ho) rfl ?_ | refine YR_intro (acall_data (ho) rfl) ?_
 simp only [go_sem, seval]
 (repeat refine aI (hb := ?_))
 simp only [e]
 first | refine YR_intro (fun _ => acall_data (hg) rfl) ?_ | refine YR_intro (acall_data (hg) rfl) ?_
 simp only [go_sem, seval]
 (repeat refine aI (hb := ?_))
 refine hK _ ?_; clear hK K
 refine ats_ret (finB rfl ?_)
 congr 1
 exact decide_eq_decide.2 (by omega)
end Go.Proofs.Ytkdadpdmnmjikaa
namespace Go.Proofs.Ytkdadpdmnmjikaa
open Go Go.Aw Go.Pl
attribute [local go_sem] pl_fin pl_stop pl_one pl_alt PK_ap pickO List.getElem?_toArray List.getElem?_cons_zero List.getElem?_cons_succ
theorem step_lt {k st : Nat} (hst : st = 1 ∨ st = 2) (i : Nat) : i * st ≤ k ↔ i < k / st + 1 := by
 rcases hst with rfl | rfl
 ·rw [Nat.mul_one, Nat.div_one]; omega
 ·omega
theorem cast_mul1 (x y : Nat) : ((x : Int) + 1) * ((y : Int) + 1) = (((x + 1) * (y + 1) : Nat) : Int) := by rw [Int.natCast_mul]; rfl
theorem cast_mul2 (x : Nat) : (x : Int) * ((x : Int) + 2) = ((x * (x + 2) : Nat) : Int) := by rw [Int.natCast_mul]; rfl
theorem sq_InP {z : Int} (h : InP z) : 0 ≤ z * z ∧ z * z ≤ 3073593600 := mulP h h
def sG (st : Nat) (q : Int) (i j : Nat) : Int := sqI q ((i * st + 1) * (j * st + 1))
def tG (st : Nat) (z : Int) (i : Nat) : Int := pw z (i * st * (i * st + 2))
theorem spin_facts {k m : Nat} : InP (zI k m) ∧ InP (zI k m * zI k m % 55441) := ⟨pw_InP (pw_InP ⟨by omega, by omega⟩), inP_md _⟩
theorem l13Spin_ok (k st m : Nat) (hk : k ≤ 31) (hst : st = 1 ∨ st = 2) (hn : k / st + 1 ≤ 16) (hm : m ≤ 1000) :
  PureCall Try.prog 44 [.int (k : Int), .int (m : Int), .int (st : Int)] (if spOk k m then .tup [.agg [.l2 (spSI (k / st + 1) st (zI k m * zI k m % 55441)), .l1 (spTI (k / st + 1) st (zI k m))], .int 0] else .tup [.agg [.nil, .nil], .int 5]) := by
 have e4 : (4 : Int) * ((k : Int) + 2) = ((4 * (k + 2) : Nat) : Int) := by omega
 have er : (55440 : Int).tmod ((4 * (k + 2) : Nat) : Int) = ((55440 % (4 * (k + 2)) : Nat) : Int) := tm_nat 55440 _
 have hb : 55440 % (4 * (k + 2)) ≤ 55440 := Nat.mod_le _ _
 have hc := l13Coprime_ok m (4 * (k + 2)) (by omega) (by omega)
 have hun := l01Unity_ok (4 * (k + 2)) (by omega) (by omega)
 have hpw : PureCall Try.prog 33 [.int (rtI (4 * (k + 2))), .int (m : Int)] (.int (zI k m)) := l01Pow_ok _ m (pw_InP ⟨by omega, by omega⟩) (by omega)
 obtain ⟨hz, hq⟩ := spin_facts (k := k) (m := m)
 have hzz := sq_InP hz
 have hiq := inv_InP hq
 have hn1 : 1 ≤ k / st + 1 := Nat.le_add_left 1 _
 generalize hN : k / st + 1 = n at hn hn1 ⊢
 have hlt : ∀ i, i * st ≤ k ↔ i < n := fun i => by rw [step_lt hst, hN]
 have hsu : ∀ i, (i + 1) * st = i * st + st := fun i => Nat.succ_mul i st
 have hst2 : 1 ≤ st ∧ st ≤ 2 := by omega
 unfold spOk
 generalize hz' : zI k m = z at *
 generalize ho : 4 * (k + 2) = o at *
 have ho1 : 8 ≤ o ∧ o ≤ 132 := by omega
 generalize hd : 55440 % o = d at *
 generalize decide (Nat.gcd m o = 1) = b at hc ⊢
 have hinv : PureCall Try.prog 35 [.int (z * z % 55441)] (.int (inv (z * z % 55441))) := l01Inv_ok _ hq
 generalize hqq : z * z % 55441 = q at *
 have hmod := l01Mod_ok (q - inv q) (by unfold InP at hq hiq; omega) (by unfold InP at hq hiq; omega)
 have hinv2 : PureCall Try.prog 35 [.int ((q - inv q) % 55441)] (.int (inv ((q - inv q) % 55441))) := l01Inv_ok _ (inP_md _)
 have hbl : InP (inv ((q - inv q) % 55441)) := inv_InP (inP_md _)
 refine PureCall.intro (n := 97) (rs := [.cell 6 28, .tmp 7]) Try.call44 Try.func44 rfl rfl rfl (by simp only [List.length_cons, List.length_nil]; omega) (fun cx hcx => ats_of ?_); simp only [argSlots, Nat.zero_add, Nat.reduceAdd]
 refine gB ?_
 (repeat refine ats_seq ?_); refine ats_go (fix0 hcx) fun K hK => ?_; simp only [go_sem, seval, e4]
 (repeat refine aI (hb := ?_))
 refine hK _ ?_; clear hK K
 (repeat refine ats_seq ?_); refine ats_go (fix0 hcx) fun K hK => ?_; simp only [go_sem, seval, er]
 (repeat refine aI (hb := ?_))
 first | refine YR_intro (fun _ => acall_data (hc) rfl) ?_ | refine YR_intro (acall_data (hc) rfl) ?_
 simp only [go_sem, seval]
 (repeat refine aI (hb := ?_))
 refine hK _ ?_; clear hK K
 by_cases hv : d = 0 ∧ b = true
 ·obtain ⟨rfl, rfl⟩ := hv
  rw [show (decide ((0 : Nat) = 0) && true) = true from rfl, if_pos rfl]
  refine gI (fun hc1 => ?_) fun hc1 => ?_
  ·simp at hc1
  ·refine ats_skip ?_
   refine gC fun K hK => ?_
   first | refine fcall_data (hun) rfl ?_ | refine YR_intro (acall_data (hun) rfl) ?_
   simp only [go_sem, seval]
   first | refine fcall_data (hpw) rfl ?_ | refine YR_intro (acall_data (hpw) rfl) ?_
   simp only [go_sem, seval]
   refine hK _ ?_; clear hK K
   have hqt : (z * z).tmod 55441 = q := by rw [tmP hzz.1, hqq]
   (repeat refine ats_seq ?_); refine ats_go (fix0 hcx) fun K hK => ?_; simp only [go_sem, seval, hqt]
   unfold InP at hz hq
   (repeat refine aI (hb := ?_))
   refine hK _ ?_; clear hK K
   refine gC fun K hK => ?_
   first | refine fcall_data (hinv) rfl ?_ | refine YR_intro (acall_data (hinv) rfl) ?_
   simp only [go_sem, seval]
   refine hK _ ?_; clear hK K
   unfold InP at hiq
   refine gC fun K hK => ?_
   (repeat refine aI (hb := ?_))
   first | refine fcall_data (hmod) rfl ?_ | refine YR_intro (acall_data (hmod) rfl) ?_
   simp only [go_sem, seval]
   first | refine fcall_data (hinv2) rfl ?_ | refine YR_intro (acall_data (hinv2) rfl) ?_
   simp only [go_sem, seval]
   refine hK _ ?_; clear hK K
   refine gB ?_
   have hsS : spSI n st q = matF n n (sG st q) := rfl
   have hsT : spTI n st z = rowF n (tG st z) := rfl
   rw [hsS, hsT]
   have hpw1 : ∀ a : Nat, a ≤ 10000 → PureCall Try.prog 33 [.int q, .int (a : Int)] (.int (pw q a)) := fun a ha => l01Pow_ok q a hq (by omega)
   have hpw2 : ∀ a : Nat, a ≤ 10000 → PureCall Try.prog 33 [.int (inv q), .int (a : Int)] (.int (pw (inv q) a)) := fun a ha => l01Pow_ok _ a hiq (by omega)
   have hpw3 : ∀ a : Nat, a ≤ 10000 → PureCall Try.prog 33 [.int z, .int (a : Int)] (.int (pw z a)) := fun a ha => l01Pow_ok _ a hz (by omega)
   have hsq : ∀ a : Nat, sqI q a = (pw q a - pw (inv q) a) % 55441 * inv ((q - inv q) % 55441) % 55441 := fun _ => rfl
   generalize inv ((q - inv q) % 55441) = lo at hsq hbl ⊢
   have hmm : ∀ a : Nat, PureCall Try.prog 41 [.int (pw q a - pw (inv q) a)] (.int ((pw q a - pw (inv q) a) % 55441)) := fun a => by
    have u1 := pw_InP (k := a) (show InP q from hq)
    have u2 := pw_InP (k := a) (show InP (inv q) from hiq)
    unfold InP at u1 u2
    exact l01Mod_ok _ (by omega) (by omega)
   (repeat refine ats_seq ?_)
   refine ats_loop (fun o : Option Nat => match o with
    | none => ⟨[(0, .int (k : Int)), (2, .int (st : Int)), (6, .bptr 0 0), (9, .int z), (10, .bptr 1 0), (11, .int q), (12, .int (inv q)), (13, .int lo), (14, .int 0)], [(0, .bx [.nil, .nil]), (1, .bx [.nil, .nil])]⟩
    | some i => ⟨[(0, .int (k : Int)), (2, .int (st : Int)), (6, .bptr 0 0), (9, .int z), (10, .bptr 1 0), (11, .int q), (12, .int (inv q)), (13, .int lo), (14, .int ((i * st : Nat) : Int))], [(0, .bx [.nil, .nil]), (1, .bx [.ref 4 [], .ref 6 []]), (4, .t2 (matF i n (sG st q))), (6, .t1 (rowF i (tG st z)))]⟩) (fun o => match o with
    | none => True
    | some i => 1 ≤ i ∧ i ≤ n) (fun o => match o with
    | none => n + 1
    | some i => n - i) none trivial ⟨by simp only [SlotsLe, St.get, slotGet, Nat.reduceEqDiff, ↓reduceIte, true_and, and_true], rfl⟩ (fun o ho => ?_)
   cases o with
   | none =>
    dsimp only at ho ⊢
    refine gB ?_
    refine gI (fun hc2 => ?_) fun hc2 => ?_
    ·refine ats_skip ?_
     (repeat refine ats_seq ?_); refine ats_block ?_
     refine gB ?_
     refine gB ?_
     (repeat refine ats_seq ?_); refine ats_loop (fun y : Nat => ⟨[(0, .int (k : Int)), (2, .int (st : Int)), (6, .bptr 0 0), (9, .int z), (10, .bptr 1 0), (11, .int q), (12, .int (inv q)), (13, .int lo), (14, .int 0), (15, .ref 2 []), (16, .int ((y * st : Nat) : Int))], [(0, .bx [.nil, .nil]), (1, .bx [.nil, .nil]), (2, .t1 (rowF y (sG st q 0)))]⟩) (fun y => y ≤ n) (fun y => n - y) 0 (Nat.zero_le _) (by refine And.intro ?_ rfl; simp only [leS, Nat.reduceEqDiff, ↓reduceIte, true_and, and_true]; repeat' (first | rfl | with_reducible refine And.intro ?_ ?_ | omega)) (fun y hy => ?_)
     have hl := rowF_length y (sG st q 0)
     have hly := hlt y
     refine gB ?_
     refine gI (fun hc3 => ?_) fun hc3 => ?_
     ·have hy : y < n := by omega
      have ea : (1 : Int) * (((y * st : Nat) : Int) + 1) = (((0 * st + 1) * (y * st + 1) : Nat) : Int) := by rw [Nat.zero_mul, Nat.zero_add, Nat.one_mul, Int.one_mul]; rfl
      have hab : (0 * st + 1) * (y * st + 1) ≤ 10000 := by rw [Nat.zero_mul, Nat.zero_add, Nat.one_mul]; omega
      have hes : sG st q 0 y = (pw q ((0 * st + 1) * (y * st + 1)) - pw (inv q) ((0 * st + 1) * (y * st + 1))) % 55441 * lo % 55441 := hsq _
      generalize (0 * st + 1) * (y * st + 1) = a at ea hab hes
      have em : ((pw q a - pw (inv q) a) % 55441 * lo).tmod 55441 = sG st q 0 y := by rw [tmP (mulP (inP_md _) hbl).1, hes]
      have hmb := mulP (inP_md (pw q a - pw (inv q) a)) hbl
      have u1 := pw_InP (k := a) (show InP q from hq)
      have u2 := pw_InP (k := a) (show InP (inv q) from hiq)
      have u3 : InP (sG st q 0 y) := by rw [hes]; exact inP_md _
      unfold InP at u1 u2 u3
      refine ats_skip ?_
      (repeat refine ats_seq ?_); refine ats_block ?_
      (repeat refine ats_seq ?_); refine ats_go (fix0 hcx) fun K hK => ?_; simp only [go_sem, seval, ea]
      (repeat refine aI (hb := ?_))
      refine hK _ ?_; clear hK K
      refine gC fun K hK => ?_
      first | refine fcall_data (hpw1 a hab) rfl ?_ | refine YR_intro (acall_data (hpw1 a hab) rfl) ?_
      simp only [go_sem, seval]
      first | refine fcall_data (hpw2 a hab) rfl ?_ | refine YR_intro (acall_data (hpw2 a hab) rfl) ?_
      simp only [go_sem, seval]
      (repeat refine aI (hb := ?_))
      first | refine fcall_data (hmm a) rfl ?_ | refine YR_intro (acall_data (hmm a) rfl) ?_
      simp only [go_sem, seval]
      simp only [em, hl]
      (repeat refine aI (hb := ?_))
      refine hK _ ?_; clear hK K
      refine gB ?_
      refine ⟨y + 1, by omega, by omega, .inr ⟨[3], by simp only [killL, List.map_cons, List.map_nil, killA, killAs, qOf, rmT, killH, killT, List.filter_cons, List.filter_nil, List.contains_cons, List.contains_nil, SlotsLe, St.get, slotGet, Nat.reduceEqDiff, Nat.reduceBEq, Bool.or_false, Bool.or_true, Bool.false_and, Bool.not_true, Bool.not_false, Bool.false_eq_true, ↓reduceIte, if_true, if_false, AV.int.injEq, AV.bool.injEq, AV.l1.injEq, AV.l2.injEq, AV.l3.injEq, true_and, and_true]; (first | (have := hsu y; omega) | omega), by simp only [killL, List.map_cons, List.map_nil, killA, killAs, qOf, rmT, killH, killT, List.filter_cons, List.filter_nil, List.contains_cons, List.contains_nil, SlotsLe, St.get, slotGet, Nat.reduceEqDiff, Nat.reduceBEq, Bool.or_false, Bool.or_true, Bool.false_and, Bool.not_true, Bool.not_false, Bool.false_eq_true, ↓reduceIte, if_true, if_false, AV.int.injEq, AV.bool.injEq, AV.l1.injEq, AV.l2.injEq, AV.l3.injEq, true_and, and_true]; rw [rowF_succ]⟩⟩
     ·obtain rfl : y = n := by omega
      have hp0 : PureCall Try.prog 33 [.int z, .int 0] (.int (tG st z 0)) := by
       have := hpw3 0 (by omega)
       unfold tG
       rw [Nat.zero_mul, Nat.zero_mul]
       exact this
      refine ats_exit (lq_x ?_)
      refine gB ?_
      (repeat refine ats_seq ?_)
      refine ats_plan [] (.one 0 (.one 1 (.one 2 (.one 3 (.one 4 (.one 5 (.one 6 (.one 7 (.alt 8 (.alt 9 (.one 10 (.alt 11 .fin .stop)) .stop) .stop))))))))) ⟨[(0, .int (k : Int)), (2, .int (st : Int)), (6, .bptr 0 0), (9, .int z), (10, .bptr 1 0), (11, .int q), (12, .int (inv q)), (13, .int lo), (14, .int 0)], [(0, .bx [.nil, .nil]), (1, .bx [.ref 4 [], .ref 6 []]), (4, .t2 [rowF y (sG st q 0)]), (5, .t1 [tG st z 0]), (6, .t1 [tG st z 0])]⟩ (fix0 hcx) mixed (by kernel_rfl) (fun K hK => ?_) ?_
      ·simp only [go_sem, seval, Option.getD_some, and_true, true_and, and_self, List.contains_cons, List.contains_nil, Bool.or_false, Bool.or_true]
       repeat' (first | exact hK _ (by refine And.intro ?_ rfl; simp only [leS, Nat.reduceEqDiff, ↓reduceIte, true_and, and_true])  | with_reducible refine And.intro ?_ ?_ | omega | ((first | refine fcall_data (hp0) rfl ?_ | refine YR_intro (acall_data (hp0) rfl) ?_); simp only [go_sem, seval, Option.getD_some, and_true, true_and, and_self, List.contains_cons, List.contains_nil, Bool.or_false, Bool.or_true]))
      refine gB ?_
      refine ⟨some 1, ⟨Nat.le_refl _, by omega⟩, by show y - 1 < y + 1; omega, .inr ⟨[5], by simp only [killL, List.map_cons, List.map_nil, killA, killAs, qOf, rmT, killH, killT, List.filter_cons, List.filter_nil, List.contains_cons, List.contains_nil, SlotsLe, St.get, slotGet, Nat.reduceEqDiff, Nat.reduceBEq, Bool.or_false, Bool.or_true, Bool.false_and, Bool.not_true, Bool.not_false, Bool.false_eq_true, ↓reduceIte, if_true, if_false, AV.int.injEq, AV.bool.injEq, AV.l1.injEq, AV.l2.injEq, AV.l3.injEq, true_and, and_true]; (rw [Nat.one_mul]; omega), by simp only [killL, List.map_cons, List.map_nil, killA, killAs, qOf, rmT, killH, killT, List.filter_cons, List.filter_nil, List.contains_cons, List.contains_nil, SlotsLe, St.get, slotGet, Nat.reduceEqDiff, Nat.reduceBEq, Bool.or_false, Bool.or_true, Bool.false_and, Bool.not_true, Bool.not_false, Bool.false_eq_true, ↓reduceIte, if_true, if_false, AV.int.injEq, AV.bool.injEq, AV.l1.injEq, AV.l2.injEq, AV.l3.injEq, true_and, and_true]; rfl⟩⟩
    ·omega
   | some x =>
    dsimp only at ho ⊢
    have hlm := matF_length x n (sG st q)
    have hlr := rowF_length x (tG st z)
    have hlx := hlt x
    refine gB ?_
    refine gI (fun hc2 => ?_) fun hc2 => ?_
    ·have hx : x < n := by omega
     refine ats_skip ?_
     (repeat refine ats_seq ?_); refine ats_block ?_
     refine gB ?_
     refine gB ?_
     (repeat refine ats_seq ?_); refine ats_loop (fun y : Nat => ⟨[(0, .int (k : Int)), (2, .int (st : Int)), (6, .bptr 0 0), (9, .int z), (10, .bptr 1 0), (11, .int q), (12, .int (inv q)), (13, .int lo), (14, .int ((x * st : Nat) : Int)), (15, .ref 7 []), (16, .int ((y * st : Nat) : Int))], [(0, .bx [.nil, .nil]), (1, .bx [.ref 4 [], .ref 6 []]), (4, .t2 (matF x n (sG st q))), (6, .t1 (rowF x (tG st z))), (7, .t1 (rowF y (sG st q x)))]⟩) (fun y => y ≤ n) (fun y => n - y) 0 (Nat.zero_le _) (by refine And.intro ?_ rfl; simp only [leS, Nat.reduceEqDiff, ↓reduceIte, true_and, and_true]; repeat' (first | rfl | with_reducible refine And.intro ?_ ?_ | omega)) (fun y hy => ?_)
     have hl := rowF_length y (sG st q x)
     have hly := hlt y
     refine gB ?_
     refine gI (fun hc3 => ?_) fun hc3 => ?_
     ·have hy : y < n := by omega
      have ea := cast_mul1 (x * st) (y * st)
      have hab : (x * st + 1) * (y * st + 1) ≤ 10000 := Nat.le_trans (Nat.mul_le_mul (show x * st + 1 ≤ 32 by omega) (show y * st + 1 ≤ 32 by omega)) (by omega)
      have hes : sG st q x y = (pw q ((x * st + 1) * (y * st + 1)) - pw (inv q) ((x * st + 1) * (y * st + 1))) % 55441 * lo % 55441 := hsq _
      generalize (x * st + 1) * (y * st + 1) = a at ea hab hes
      have em : ((pw q a - pw (inv q) a) % 55441 * lo).tmod 55441 = sG st q x y := by rw [tmP (mulP (inP_md _) hbl).1, hes]
      have hmb := mulP (inP_md (pw q a - pw (inv q) a)) hbl
      have u1 := pw_InP (k := a) (show InP q from hq)
      have u2 := pw_InP (k := a) (show InP (inv q) from hiq)
      have u3 : InP (sG st q x y) := by rw [hes]; exact inP_md _
      unfold InP at u1 u2 u3
      refine ats_skip ?_
      (repeat refine ats_seq ?_); refine ats_block ?_
      (repeat refine ats_seq ?_); refine ats_go (fix0 hcx) fun K hK => ?_; simp only [go_sem, seval, ea]
      (repeat refine aI (hb := ?_))
      refine hK _ ?_; clear hK K
      refine gC fun K hK => ?_
      first | refine fcall_data (hpw1 a hab) rfl ?_ | refine YR_intro (acall_data (hpw1 a hab) rfl) ?_
      simp only [go_sem, seval]
      first | refine fcall_data (hpw2 a hab) rfl ?_ | refine YR_intro (acall_data (hpw2 a hab) rfl) ?_
      simp only [go_sem, seval]
      (repeat refine aI (hb := ?_))
      first | refine fcall_data (hmm a) rfl ?_ | refine YR_intro (acall_data (hmm a) rfl) ?_
      simp only [go_sem, seval]
      simp only [em, hl]
      (repeat refine aI (hb := ?_))
      refine hK _ ?_; clear hK K
      refine gB ?_
      refine ⟨y + 1, by omega, by omega, .inr ⟨[8], by simp only [killL, List.map_cons, List.map_nil, killA, killAs, qOf, rmT, killH, killT, List.filter_cons, List.filter_nil, List.contains_cons, List.contains_nil, SlotsLe, St.get, slotGet, Nat.reduceEqDiff, Nat.reduceBEq, Bool.or_false, Bool.or_true, Bool.false_and, Bool.not_true, Bool.not_false, Bool.false_eq_true, ↓reduceIte, if_true, if_false, AV.int.injEq, AV.bool.injEq, AV.l1.injEq, AV.l2.injEq, AV.l3.injEq, true_and, and_true]; (first | (have := hsu y; omega) | omega), by simp only [killL, List.map_cons, List.map_nil, killA, killAs, qOf, rmT, killH, killT, List.filter_cons, List.filter_nil, List.contains_cons, List.contains_nil, SlotsLe, St.get, slotGet, Nat.reduceEqDiff, Nat.reduceBEq, Bool.or_false, Bool.or_true, Bool.false_and, Bool.not_true, Bool.not_false, Bool.false_eq_true, ↓reduceIte, if_true, if_false, AV.int.injEq, AV.bool.injEq, AV.l1.injEq, AV.l2.injEq, AV.l3.injEq, true_and, and_true]; rw [rowF_succ]⟩⟩
     ·obtain rfl : y = n := by omega
      have hxb : x * st * (x * st + 2) ≤ 10000 := Nat.le_trans (Nat.mul_le_mul (show x * st ≤ 31 by omega) (show x * st + 2 ≤ 33 by omega)) (by omega)
      have hpx : PureCall Try.prog 33 [.int z, .int ((x * st * (x * st + 2) : Nat) : Int)] (.int (tG st z x)) := hpw3 _ hxb
      have ecm := cast_mul2 (x * st)
      refine ats_exit (lq_x ?_)
      refine gC fun K hK => ?_
      simp only [hlm]
      (repeat refine aI (hb := ?_))
      refine hK _ ?_; clear hK K
      generalize x * st * (x * st + 2) = w at hxb hpx ecm
      (repeat refine ats_seq ?_)
      refine ats_plan [] (.one 0 (.one 1 (.one 2 (.one 3 (.one 4 (.one 5 (.one 6 (.one 7 (.alt 8 (.alt 9 (.one 10 (.alt 11 .fin .stop)) .stop) .stop))))))))) ⟨[(0, .int (k : Int)), (2, .int (st : Int)), (6, .bptr 0 0), (9, .int z), (10, .bptr 1 0), (11, .int q), (12, .int (inv q)), (13, .int lo), (14, .int ((x * st : Nat) : Int))], [(0, .bx [.nil, .nil]), (1, .bx [.ref 4 [], .ref 6 []]), (4, .t2 (matF x y (sG st q) ++ [rowF y (sG st q x)])), (6, .t1 (rowF x (tG st z) ++ [tG st z x])), (7, .t1 [tG st z x])]⟩ (fix0 hcx) mixed (by kernel_rfl) (fun K hK => ?_) ?_
      ·simp only [go_sem, seval, Option.getD_some, and_true, true_and, and_self, List.contains_cons, List.contains_nil, Bool.or_false, Bool.or_true]
       repeat' (first | exact hK _ (by refine And.intro ?_ rfl; simp only [leS, Nat.reduceEqDiff, ↓reduceIte, true_and, and_true])  | with_reducible refine And.intro ?_ ?_ | omega | ((first | refine fcall_data (hpx) rfl ?_ | refine YR_intro (acall_data (hpx) rfl) ?_); simp only [go_sem, seval, Option.getD_some, and_true, true_and, and_self, List.contains_cons, List.contains_nil, Bool.or_false, Bool.or_true]) | (rw [ecm]) | ((rw [hlr]; omega)))
      refine gB ?_
      refine ⟨some (x + 1), ⟨by omega, by omega⟩, by show y - (x + 1) < y - x; omega, .inr ⟨[7], by simp only [killL, List.map_cons, List.map_nil, killA, killAs, qOf, rmT, killH, killT, List.filter_cons, List.filter_nil, List.contains_cons, List.contains_nil, SlotsLe, St.get, slotGet, Nat.reduceEqDiff, Nat.reduceBEq, Bool.or_false, Bool.or_true, Bool.false_and, Bool.not_true, Bool.not_false, Bool.false_eq_true, ↓reduceIte, if_true, if_false, AV.int.injEq, AV.bool.injEq, AV.l1.injEq, AV.l2.injEq, AV.l3.injEq, true_and, and_true]; (have := hsu x; omega), by simp only [killL, List.map_cons, List.map_nil, killA, killAs, qOf, rmT, killH, killT, List.filter_cons, List.filter_nil, List.contains_cons, List.contains_nil, SlotsLe, St.get, slotGet, Nat.reduceEqDiff, Nat.reduceBEq, Bool.or_false, Bool.or_true, Bool.false_and, Bool.not_true, Bool.not_false, Bool.false_eq_true, ↓reduceIte, if_true, if_false, AV.int.injEq, AV.bool.injEq, AV.l1.injEq, AV.l2.injEq, AV.l3.injEq, true_and, and_true]; rw [matF_succ, rowF_succ]⟩⟩
    ·obtain rfl : x = n := by omega
     refine ats_exit (lq_x ?_)
     refine gB ?_
     exact ats_ret (fin2C (v := .agg [.ref 4 [], .ref 6 []]) (by simp only [go_sem, seval]) trivial rfl)
 ·rw [show (decide (d = 0) && b) = false from by simpa using hv, if_neg (by simp)]
  refine gI (fun hc1 => ?_) fun hc1 => ?_
  ·refine gB ?_
   exact ats_ret (fin2C (v := .agg [.nil, .nil]) (by simp only [go_sem, seval]) trivial rfl)
  ·exact absurd hv (by simpa using hc1)
end Go.Proofs.Ytkdadpdmnmjikaa
namespace Go.Proofs.Ytkdadpdmnmjikaa
open Go Go.Aw Go.Pl
attribute [local go_sem] pl_fin pl_stop pl_one pl_alt PK_ap pickO List.getElem?_toArray List.getElem?_cons_zero List.getElem?_cons_succ
attribute [local go_sem] pickO List.getElem?_toArray List.getElem?_cons_zero List.getElem?_cons_succ Option.getD_some and_true true_and and_self
theorem quantum_ok (q : Int) (hq : InP q) (a : Nat) (ha : a ≤ 10000) : PureCall Try.prog 59 [.int (a : Int), .cptr [.int q] 0] (.int (sqI q a)) := by
 have hp := power_ok q a hq (by omega)
 have u1 := pw_InP (k := a) hq
 have u2 := pw_InP (k := a) (inv_InP hq)
 have u3 := inv_InP hq
 have d1 : PureCall Try.prog 31 [.int 1, .int (pw q a)] (.int (pw (inv q) a)) := by
  rw [← inv_pw hq]
  exact divide_ok 1 _ ⟨by omega, by omega⟩ u1
 have d2 : PureCall Try.prog 31 [.int 1, .int q] (.int (inv q)) := by
  have := divide_ok 1 q ⟨by omega, by omega⟩ hq
  rwa [Int.one_mul, md_InP u3] at this
 have m1 := mod_ok (pw q a - pw (inv q) a) (by unfold InP at u1 u2; omega) (by unfold InP at u1 u2; omega)
 have m2 := mod_ok (q - inv q) (by unfold InP at hq u3; omega) (by unfold InP at hq u3; omega)
 have d3 : PureCall Try.prog 31 [.int ((pw q a - pw (inv q) a) % 55441), .int ((q - inv q) % 55441)] (.int (sqI q a)) := divide_ok _ _ (inP_md _) (inP_md _)
 unfold InP at u1 u2 u3 hq
 refine PureCall.intro (n := 19) (rs := [.tmp 3]) Try.call59 Try.func59 rfl rfl rfl (by simp only [List.length_cons, List.length_nil]; omega) (fun cx hcx => ats_of ?_); simp only [argSlots, Nat.zero_add, Nat.reduceAdd]
 refine gB ?_
 refine gC fun K hK => ?_
 first | refine fcall_data (hp) rfl ?_ | refine YR_intro (acall_data (hp) rfl) ?_
 simp only [go_sem, seval]
 refine hK _ ?_; clear hK K
 (repeat refine ats_seq ?_)
 refine ats_plan [] (.one 0 (.one 1 (.one 2 (.one 3 (.one 4 (.one 5 (.one 6 (.one 7 (.one 8 (.one 9 (.one 10 (.one 11 .fin)))))))))))) ⟨[(3, .int (sqI q a))], []⟩ (fix0 hcx) mixed (by kernel_rfl) (fun K hK => ?_) ?_
 ·simp only [go_sem, seval, Option.getD_some, and_true, true_and, and_self, List.contains_cons, List.contains_nil, Bool.or_false, Bool.or_true]
  repeat' (first | exact hK _ (by refine And.intro ?_ rfl; simp only [leS, Nat.reduceEqDiff, ↓reduceIte, true_and, and_true])  | with_reducible refine And.intro ?_ ?_ | omega | ((first | refine fcall_data (d1) rfl ?_ | refine YR_intro (acall_data (d1) rfl) ?_); simp only [go_sem, seval, Option.getD_some, and_true, true_and, and_self, List.contains_cons, List.contains_nil, Bool.or_false, Bool.or_true]) | ((first | refine fcall_data (d2) rfl ?_ | refine YR_intro (acall_data (d2) rfl) ?_); simp only [go_sem, seval, Option.getD_some, and_true, true_and, and_self, List.contains_cons, List.contains_nil, Bool.or_false, Bool.or_true]) | ((first | refine fcall_data (m1) rfl ?_ | refine YR_intro (acall_data (m1) rfl) ?_); simp only [go_sem, seval, Option.getD_some, and_true, true_and, and_self, List.contains_cons, List.contains_nil, Bool.or_false, Bool.or_true]) | ((first | refine fcall_data (m2) rfl ?_ | refine YR_intro (acall_data (m2) rfl) ?_); simp only [go_sem, seval, Option.getD_some, and_true, true_and, and_self, List.contains_cons, List.contains_nil, Bool.or_false, Bool.or_true]) | ((first | refine fcall_data (d3) rfl ?_ | refine YR_intro (acall_data (d3) rfl) ?_); simp only [go_sem, seval, Option.getD_some, and_true, true_and, and_self, List.contains_cons, List.contains_nil, Bool.or_false, Bool.or_true]))
 refine ats_ret (finI rfl ?_)
 rfl
set_option maxHeartbeats 0 in
theorem spinData_ok (k st m : Nat) (hk : k ≤ 31) (hst : st = 1 ∨ st = 2) (hn : k / st + 1 ≤ 16) (hm : m ≤ 1000) :
  PureCall Try.prog 43 [.int (k : Int), .int (m : Int), .int (st : Int)] (.agg [.l2 (spSI (k / st + 1) st (zI k m * zI k m % 55441)), .l1 (spTI (k / st + 1) st (zI k m))]) := by
 have e4 : (4 : Int) * ((k : Int) + 2) = ((4 * (k + 2) : Nat) : Int) := by omega
 have hun := root_ok (4 * (k + 2)) (by omega) (by omega)
 have hpw : PureCall Try.prog 28 [.int (rtI (4 * (k + 2))), .int (m : Int)] (.int (zI k m)) := power_ok _ m (pw_InP ⟨by omega, by omega⟩) (by omega)
 obtain ⟨hz, hq⟩ := spin_facts (k := k) (m := m)
 have hzz := sq_InP hz
 have hn1 : 1 ≤ k / st + 1 := Nat.le_add_left 1 _
 generalize hN : k / st + 1 = n at hn hn1 ⊢
 have hlt : ∀ i, i * st ≤ k ↔ i < n := fun i => by rw [step_lt hst, hN]
 have hsu : ∀ i, (i + 1) * st = i * st + st := fun i => Nat.succ_mul i st
 have hst2 : 1 ≤ st ∧ st ≤ 2 := by omega
 generalize hz' : zI k m = zt at *
 generalize ho : 4 * (k + 2) = o at *
 have ho1 : 8 ≤ o ∧ o ≤ 132 := by omega
 generalize hqq : zt * zt % 55441 = q at *
 have hsS : spSI n st q = matF n n (sG st q) := rfl
 have hsT : spTI n st zt = rowF n (tG st zt) := rfl
 rw [hsS, hsT]
 have hQ : ∀ a : Nat, a ≤ 10000 → PureCall Try.prog 59 [.int (a : Int), .cptr [.int q] 0] (.int (sqI q a)) := fun a ha => quantum_ok q hq a ha
 have hpw3 : ∀ a : Nat, a ≤ 10000 → PureCall Try.prog 28 [.int zt, .int (a : Int)] (.int (pw zt a)) := fun a ha => power_ok zt a hz (by omega)
 have hqt : (zt * zt).tmod 55441 = q := by rw [tmP hzz.1, hqq]
 unfold InP at hz hq
 refine PureCall.introR (n := 69) (rs := [.cell 6 28]) Try.call43 Try.func43 rfl rfl rfl (by simp only [List.length_cons, List.length_nil]; omega) (fun cx hcx hrd => ats_of ?_); simp only [argSlots, Nat.zero_add, Nat.reduceAdd]
 refine gB ?_
 (repeat refine ats_seq ?_); refine ats_go (fix0 hcx) fun K hK => ?_; simp only [go_sem, seval, e4]
 (repeat refine aI (hb := ?_))
 refine hK _ ?_; clear hK K
 refine gC fun K hK => ?_
 first | refine fcall_data (hun) rfl ?_ | refine YR_intro (acall_data (hun) rfl) ?_
 simp only [go_sem, seval]
 first | refine fcall_data (hpw) rfl ?_ | refine YR_intro (acall_data (hpw) rfl) ?_
 simp only [go_sem, seval]
 refine hK _ ?_; clear hK K
 (repeat refine ats_seq ?_); refine ats_go (fix0 hcx) fun K hK => ?_; simp only [go_sem, seval, hqt]
 (repeat refine aI (hb := ?_))
 refine hK _ ?_; clear hK K
 refine gB ?_
 refine gB ?_
 refine gB ?_
 (repeat refine ats_seq ?_)
 refine ats_loop (fun o : Option Nat => match o with
  | none => ⟨[(0, .int (k : Int)), (2, .int (st : Int)), (6, .bptr 0 0), (8, .int zt), (10, .fn 59 [.bptr 1 0]), (11, .bptr 2 0), (12, .int 0)], [(0, .bx [.nil, .nil]), (1, .bx [.int q]), (2, .bx [.nil, .nil])]⟩
  | some i => ⟨[(0, .int (k : Int)), (2, .int (st : Int)), (6, .bptr 0 0), (8, .int zt), (10, .fn 59 [.bptr 1 0]), (11, .bptr 2 0), (12, .int ((i * st : Nat) : Int))], [(0, .bx [.nil, .nil]), (1, .bx [.int q]), (2, .bx [.ref 5 [], .ref 7 []]), (5, .t2 (matF i n (sG st q))), (7, .t1 (rowF i (tG st zt)))]⟩) (fun o => match o with
  | none => True
  | some i => 1 ≤ i ∧ i ≤ n) (fun o => match o with
  | none => n + 1
  | some i => n - i) none trivial ⟨by simp only [SlotsLe, St.get, slotGet, Nat.reduceEqDiff, ↓reduceIte, true_and, and_true], rfl⟩ (fun o ho => ?_)
 cases o with
 | none =>
  dsimp only at ho ⊢
  refine gB ?_
  refine gI (fun hc2 => ?_) fun hc2 => ?_
  ·refine ats_skip ?_
   (repeat refine ats_seq ?_); refine ats_block ?_
   refine gB ?_
   refine gB ?_
   (repeat refine ats_seq ?_); refine ats_loop (fun y : Nat => ⟨[(0, .int (k : Int)), (2, .int (st : Int)), (6, .bptr 0 0), (8, .int zt), (10, .fn 59 [.bptr 1 0]), (11, .bptr 2 0), (12, .int 0), (13, .ref 3 []), (14, .int ((y * st : Nat) : Int))], [(0, .bx [.nil, .nil]), (1, .bx [.int q]), (2, .bx [.nil, .nil]), (3, .t1 (rowF y (sG st q 0)))]⟩) (fun y => y ≤ n) (fun y => n - y) 0 (Nat.zero_le _) (by refine And.intro ?_ rfl; simp only [leS, Nat.reduceEqDiff, ↓reduceIte, true_and, and_true]; repeat' (first | rfl | with_reducible refine And.intro ?_ ?_ | omega)) (fun y hy => ?_)
   have hl := rowF_length y (sG st q 0)
   have hly := hlt y
   refine gB ?_
   refine gI (fun hc3 => ?_) fun hc3 => ?_
   ·have hy : y < n := by omega
    have ea : (1 : Int) * (((y * st : Nat) : Int) + 1) = (((0 * st + 1) * (y * st + 1) : Nat) : Int) := by rw [Nat.zero_mul, Nat.zero_add, Nat.one_mul, Int.one_mul]; rfl
    have hab : (0 * st + 1) * (y * st + 1) ≤ 10000 := by rw [Nat.zero_mul, Nat.zero_add, Nat.one_mul]; omega
    have hqa : PureCall Try.prog 59 [.int (((0 * st + 1) * (y * st + 1) : Nat) : Int), .cptr [.int q] 0] (.int (sG st q 0 y)) := hQ _ hab
    have u3 : InP (sG st q 0 y) := inP_md _
    generalize (0 * st + 1) * (y * st + 1) = a at ea hab hqa
    unfold InP at u3
    refine ats_skip ?_
    (repeat refine ats_seq ?_); refine ats_block ?_
    (repeat refine ats_seq ?_); refine ats_go (fix0 hcx) fun K hK => ?_; simp only [go_sem, seval, ea]
    (repeat refine aI (hb := ?_))
    first | refine fcall_free rfl rfl (hqa) ?_ | refine YR_intro (acall_free rfl rfl (hqa)) ?_
    simp only [go_sem, seval]
    simp only [hl]
    (repeat refine aI (hb := ?_))
    refine hK _ ?_; clear hK K
    refine gB ?_
    refine ⟨y + 1, by omega, by omega, .inr ⟨[4], by simp only [killL, List.map_cons, List.map_nil, killA, killAs, qOf, rmT, killH, killT, List.filter_cons, List.filter_nil, List.contains_cons, List.contains_nil, SlotsLe, St.get, slotGet, Nat.reduceEqDiff, Nat.reduceBEq, Bool.or_false, Bool.or_true, Bool.false_and, Bool.not_true, Bool.not_false, Bool.false_eq_true, ↓reduceIte, if_true, if_false, AV.int.injEq, AV.bool.injEq, AV.l1.injEq, AV.l2.injEq, AV.l3.injEq, true_and, and_true]; (first | (have := hsu y; omega) | omega), by simp only [killL, List.map_cons, List.map_nil, killA, killAs, qOf, rmT, killH, killT, List.filter_cons, List.filter_nil, List.contains_cons, List.contains_nil, SlotsLe, St.get, slotGet, Nat.reduceEqDiff, Nat.reduceBEq, Bool.or_false, Bool.or_true, Bool.false_and, Bool.not_true, Bool.not_false, Bool.false_eq_true, ↓reduceIte, if_true, if_false, AV.int.injEq, AV.bool.injEq, AV.l1.injEq, AV.l2.injEq, AV.l3.injEq, true_and, and_true]; rw [rowF_succ]⟩⟩
   ·obtain rfl : y = n := by omega
    have hp0 : PureCall Try.prog 28 [.int zt, .int 0] (.int (tG st zt 0)) := by
     have := hpw3 0 (by omega)
     unfold tG
     rw [Nat.zero_mul, Nat.zero_mul]
     exact this
    refine ats_exit (lq_x ?_)
    (repeat refine ats_seq ?_)
    obtain ⟨z0, ez0⟩ : ∃ z : St, z = ⟨[(0, .int (k : Int)), (2, .int (st : Int)), (6, .bptr 0 0), (8, .int zt), (10, .fn 59 [.bptr 1 0]), (11, .bptr 2 0), (12, .int 0), (53, .ref 3 []), (58, .int zt), (59, .int 0), (60, .int 0)], [(0, .bx [.nil, .nil]), (1, .bx [.int q]), (2, .bx [.nil, .nil]), (3, .t1 (rowF y (sG st q 0)))]⟩ := ⟨_, rfl⟩
    obtain ⟨z1, ez1⟩ : ∃ z : St, z = ⟨[(0, .int (k : Int)), (2, .int (st : Int)), (6, .bptr 0 0), (8, .int zt), (10, .fn 59 [.bptr 1 0]), (11, .bptr 2 0), (12, .int 0), (51, .bptr 2 0), (53, .ref 3 []), (58, .int zt), (59, .int 0), (60, .int 0)], [(0, .bx [.nil, .nil]), (1, .bx [.int q]), (2, .bx [.nil, .nil]), (3, .t1 (rowF y (sG st q 0)))]⟩ := ⟨_, rfl⟩
    obtain ⟨z2, ez2⟩ : ∃ z : St, z = ⟨[(0, .int (k : Int)), (2, .int (st : Int)), (6, .bptr 0 0), (8, .int zt), (10, .fn 59 [.bptr 1 0]), (11, .bptr 2 0), (12, .int 0), (54, .ref 4 []), (58, .int zt), (59, .int 0), (60, .int 0)], [(0, .bx [.nil, .nil]), (1, .bx [.int q]), (2, .bx [.nil, .nil]), (4, .t2 [rowF y (sG st q 0)])]⟩ := ⟨_, rfl⟩
    obtain ⟨z3, ez3⟩ : ∃ z : St, z = ⟨[(0, .int (k : Int)), (2, .int (st : Int)), (6, .bptr 0 0), (8, .int zt), (10, .fn 59 [.bptr 1 0]), (11, .bptr 2 0), (12, .int 0), (53, .ref 3 []), (56, .bptr 2 1), (58, .int zt), (59, .int 0), (60, .int 0)], [(0, .bx [.nil, .nil]), (1, .bx [.int q]), (2, .bx [.nil, .nil]), (3, .t1 (rowF y (sG st q 0)))]⟩ := ⟨_, rfl⟩
    obtain ⟨z4, ez4⟩ : ∃ z : St, z = ⟨[(0, .int (k : Int)), (2, .int (st : Int)), (6, .bptr 0 0), (8, .int zt), (10, .fn 59 [.bptr 1 0]), (11, .bptr 2 0), (12, .int 0), (53, .ref 3 []), (58, .int zt), (59, .int 0), (61, .int 2)], [(0, .bx [.nil, .nil]), (1, .bx [.int q]), (2, .bx [.nil, .nil]), (3, .t1 (rowF y (sG st q 0)))]⟩ := ⟨_, rfl⟩
    obtain ⟨z5, ez5⟩ : ∃ z : St, z = ⟨[(0, .int (k : Int)), (2, .int (st : Int)), (6, .bptr 0 0), (8, .int zt), (10, .fn 59 [.bptr 1 0]), (11, .bptr 2 0), (12, .int 0), (52, .nil), (53, .ref 3 []), (58, .int zt), (59, .int 0), (60, .int 0)], [(0, .bx [.nil, .nil]), (1, .bx [.int q]), (2, .bx [.nil, .nil]), (3, .t1 (rowF y (sG st q 0)))]⟩ := ⟨_, rfl⟩
    obtain ⟨z6, ez6⟩ : ∃ z : St, z = ⟨[(0, .int (k : Int)), (2, .int (st : Int)), (6, .bptr 0 0), (8, .int zt), (10, .fn 59 [.bptr 1 0]), (11, .bptr 2 0), (12, .int 0), (51, .bptr 2 0), (54, .ref 4 []), (58, .int zt), (59, .int 0), (60, .int 0)], [(0, .bx [.nil, .nil]), (1, .bx [.int q]), (2, .bx [.nil, .nil]), (4, .t2 [rowF y (sG st q 0)])]⟩ := ⟨_, rfl⟩
    obtain ⟨z7, ez7⟩ : ∃ z : St, z = ⟨[(0, .int (k : Int)), (2, .int (st : Int)), (6, .bptr 0 0), (8, .int zt), (10, .fn 59 [.bptr 1 0]), (11, .bptr 2 0), (12, .int 0), (51, .bptr 2 0), (53, .ref 3 []), (56, .bptr 2 1), (58, .int zt), (59, .int 0), (60, .int 0)], [(0, .bx [.nil, .nil]), (1, .bx [.int q]), (2, .bx [.nil, .nil]), (3, .t1 (rowF y (sG st q 0)))]⟩ := ⟨_, rfl⟩
    obtain ⟨z8, ez8⟩ : ∃ z : St, z = ⟨[(0, .int (k : Int)), (2, .int (st : Int)), (6, .bptr 0 0), (8, .int zt), (10, .fn 59 [.bptr 1 0]), (11, .bptr 2 0), (12, .int 0), (51, .bptr 2 0), (53, .ref 3 []), (58, .int zt), (59, .int 0), (61, .int 2)], [(0, .bx [.nil, .nil]), (1, .bx [.int q]), (2, .bx [.nil, .nil]), (3, .t1 (rowF y (sG st q 0)))]⟩ := ⟨_, rfl⟩
    obtain ⟨z9, ez9⟩ : ∃ z : St, z = ⟨[(0, .int (k : Int)), (2, .int (st : Int)), (6, .bptr 0 0), (8, .int zt), (10, .fn 59 [.bptr 1 0]), (11, .bptr 2 0), (12, .int 0), (54, .ref 4 []), (56, .bptr 2 1), (58, .int zt), (59, .int 0), (60, .int 0)], [(0, .bx [.nil, .nil]), (1, .bx [.int q]), (2, .bx [.nil, .nil]), (4, .t2 [rowF y (sG st q 0)])]⟩ := ⟨_, rfl⟩
    obtain ⟨z10, ez10⟩ : ∃ z : St, z = ⟨[(0, .int (k : Int)), (2, .int (st : Int)), (6, .bptr 0 0), (8, .int zt), (10, .fn 59 [.bptr 1 0]), (11, .bptr 2 0), (12, .int 0), (54, .ref 4 []), (58, .int zt), (59, .int 0), (61, .int 2)], [(0, .bx [.nil, .nil]), (1, .bx [.int q]), (2, .bx [.nil, .nil]), (4, .t2 [rowF y (sG st q 0)])]⟩ := ⟨_, rfl⟩
    obtain ⟨z11, ez11⟩ : ∃ z : St, z = ⟨[(0, .int (k : Int)), (2, .int (st : Int)), (6, .bptr 0 0), (8, .int zt), (10, .fn 59 [.bptr 1 0]), (11, .bptr 2 0), (12, .int 0), (53, .ref 3 []), (57, .nil), (58, .int zt), (59, .int 0), (60, .int 0)], [(0, .bx [.nil, .nil]), (1, .bx [.int q]), (2, .bx [.nil, .nil]), (3, .t1 (rowF y (sG st q 0)))]⟩ := ⟨_, rfl⟩
    obtain ⟨z12, ez12⟩ : ∃ z : St, z = ⟨[(0, .int (k : Int)), (2, .int (st : Int)), (6, .bptr 0 0), (8, .int zt), (10, .fn 59 [.bptr 1 0]), (11, .bptr 2 0), (12, .int 0), (53, .ref 3 []), (56, .bptr 2 1), (58, .int zt), (59, .int 0), (61, .int 2)], [(0, .bx [.nil, .nil]), (1, .bx [.int q]), (2, .bx [.nil, .nil]), (3, .t1 (rowF y (sG st q 0)))]⟩ := ⟨_, rfl⟩
    obtain ⟨z13, ez13⟩ : ∃ z : St, z = ⟨[(0, .int (k : Int)), (2, .int (st : Int)), (6, .bptr 0 0), (8, .int zt), (10, .fn 59 [.bptr 1 0]), (11, .bptr 2 0), (12, .int 0), (53, .ref 3 []), (58, .int zt), (62, .int 0)], [(0, .bx [.nil, .nil]), (1, .bx [.int q]), (2, .bx [.nil, .nil]), (3, .t1 (rowF y (sG st q 0)))]⟩ := ⟨_, rfl⟩
    obtain ⟨z14, ez14⟩ : ∃ z : St, z = ⟨[(0, .int (k : Int)), (2, .int (st : Int)), (6, .bptr 0 0), (8, .int zt), (10, .fn 59 [.bptr 1 0]), (11, .bptr 2 0), (12, .int 0), (52, .nil), (54, .ref 4 []), (58, .int zt), (59, .int 0), (60, .int 0)], [(0, .bx [.nil, .nil]), (1, .bx [.int q]), (2, .bx [.nil, .nil]), (4, .t2 [rowF y (sG st q 0)])]⟩ := ⟨_, rfl⟩
    obtain ⟨z15, ez15⟩ : ∃ z : St, z = ⟨[(0, .int (k : Int)), (2, .int (st : Int)), (6, .bptr 0 0), (8, .int zt), (10, .fn 59 [.bptr 1 0]), (11, .bptr 2 0), (12, .int 0), (52, .nil), (53, .ref 3 []), (56, .bptr 2 1), (58, .int zt), (59, .int 0), (60, .int 0)], [(0, .bx [.nil, .nil]), (1, .bx [.int q]), (2, .bx [.nil, .nil]), (3, .t1 (rowF y (sG st q 0)))]⟩ := ⟨_, rfl⟩
    obtain ⟨z16, ez16⟩ : ∃ z : St, z = ⟨[(0, .int (k : Int)), (2, .int (st : Int)), (6, .bptr 0 0), (8, .int zt), (10, .fn 59 [.bptr 1 0]), (11, .bptr 2 0), (12, .int 0), (52, .nil), (53, .ref 3 []), (58, .int zt), (59, .int 0), (61, .int 2)], [(0, .bx [.nil, .nil]), (1, .bx [.int q]), (2, .bx [.nil, .nil]), (3, .t1 (rowF y (sG st q 0)))]⟩ := ⟨_, rfl⟩
    obtain ⟨z17, ez17⟩ : ∃ z : St, z = ⟨[(0, .int (k : Int)), (2, .int (st : Int)), (6, .bptr 0 0), (8, .int zt), (10, .fn 59 [.bptr 1 0]), (11, .bptr 2 0), (12, .int 0), (51, .bptr 2 0), (54, .ref 4 []), (56, .bptr 2 1), (58, .int zt), (59, .int 0), (60, .int 0)], [(0, .bx [.nil, .nil]), (1, .bx [.int q]), (2, .bx [.nil, .nil]), (4, .t2 [rowF y (sG st q 0)])]⟩ := ⟨_, rfl⟩
    obtain ⟨z18, ez18⟩ : ∃ z : St, z = ⟨[(0, .int (k : Int)), (2, .int (st : Int)), (6, .bptr 0 0), (8, .int zt), (10, .fn 59 [.bptr 1 0]), (11, .bptr 2 0), (12, .int 0), (51, .bptr 2 0), (54, .ref 4 []), (58, .int zt), (59, .int 0), (61, .int 2)], [(0, .bx [.nil, .nil]), (1, .bx [.int q]), (2, .bx [.nil, .nil]), (4, .t2 [rowF y (sG st q 0)])]⟩ := ⟨_, rfl⟩
    obtain ⟨z19, ez19⟩ : ∃ z : St, z = ⟨[(0, .int (k : Int)), (2, .int (st : Int)), (6, .bptr 0 0), (8, .int zt), (10, .fn 59 [.bptr 1 0]), (11, .bptr 2 0), (12, .int 0), (51, .bptr 2 0), (53, .ref 3 []), (57, .nil), (58, .int zt), (59, .int 0), (60, .int 0)], [(0, .bx [.nil, .nil]), (1, .bx [.int q]), (2, .bx [.nil, .nil]), (3, .t1 (rowF y (sG st q 0)))]⟩ := ⟨_, rfl⟩
    obtain ⟨z20, ez20⟩ : ∃ z : St, z = ⟨[(0, .int (k : Int)), (2, .int (st : Int)), (6, .bptr 0 0), (8, .int zt), (10, .fn 59 [.bptr 1 0]), (11, .bptr 2 0), (12, .int 0), (51, .bptr 2 0), (53, .ref 3 []), (56, .bptr 2 1), (58, .int zt), (59, .int 0), (61, .int 2)], [(0, .bx [.nil, .nil]), (1, .bx [.int q]), (2, .bx [.nil, .nil]), (3, .t1 (rowF y (sG st q 0)))]⟩ := ⟨_, rfl⟩
    obtain ⟨z21, ez21⟩ : ∃ z : St, z = ⟨[(0, .int (k : Int)), (2, .int (st : Int)), (6, .bptr 0 0), (8, .int zt), (10, .fn 59 [.bptr 1 0]), (11, .bptr 2 0), (12, .int 0), (51, .bptr 2 0), (53, .ref 3 []), (58, .int zt), (62, .int 0)], [(0, .bx [.nil, .nil]), (1, .bx [.int q]), (2, .bx [.nil, .nil]), (3, .t1 (rowF y (sG st q 0)))]⟩ := ⟨_, rfl⟩
    obtain ⟨z22, ez22⟩ : ∃ z : St, z = ⟨[(0, .int (k : Int)), (2, .int (st : Int)), (6, .bptr 0 0), (8, .int zt), (10, .fn 59 [.bptr 1 0]), (11, .bptr 2 0), (12, .int 0), (54, .ref 4 []), (57, .nil), (58, .int zt), (59, .int 0), (60, .int 0)], [(0, .bx [.nil, .nil]), (1, .bx [.int q]), (2, .bx [.nil, .nil]), (4, .t2 [rowF y (sG st q 0)])]⟩ := ⟨_, rfl⟩
    obtain ⟨z23, ez23⟩ : ∃ z : St, z = ⟨[(0, .int (k : Int)), (2, .int (st : Int)), (6, .bptr 0 0), (8, .int zt), (10, .fn 59 [.bptr 1 0]), (11, .bptr 2 0), (12, .int 0), (54, .ref 4 []), (56, .bptr 2 1), (58, .int zt), (59, .int 0), (61, .int 2)], [(0, .bx [.nil, .nil]), (1, .bx [.int q]), (2, .bx [.nil, .nil]), (4, .t2 [rowF y (sG st q 0)])]⟩ := ⟨_, rfl⟩
    obtain ⟨z24, ez24⟩ : ∃ z : St, z = ⟨[(0, .int (k : Int)), (2, .int (st : Int)), (6, .bptr 0 0), (8, .int zt), (10, .fn 59 [.bptr 1 0]), (11, .bptr 2 0), (12, .int 0), (54, .ref 4 []), (58, .int zt), (62, .int 0)], [(0, .bx [.nil, .nil]), (1, .bx [.int q]), (2, .bx [.nil, .nil]), (4, .t2 [rowF y (sG st q 0)])]⟩ := ⟨_, rfl⟩
    obtain ⟨z25, ez25⟩ : ∃ z : St, z = ⟨[(0, .int (k : Int)), (2, .int (st : Int)), (6, .bptr 0 0), (8, .int zt), (10, .fn 59 [.bptr 1 0]), (11, .bptr 2 0), (12, .int 0), (53, .ref 3 []), (57, .nil), (58, .int zt), (59, .int 0), (61, .int 2)], [(0, .bx [.nil, .nil]), (1, .bx [.int q]), (2, .bx [.nil, .nil]), (3, .t1 (rowF y (sG st q 0)))]⟩ := ⟨_, rfl⟩
    obtain ⟨z26, ez26⟩ : ∃ z : St, z = ⟨[(0, .int (k : Int)), (2, .int (st : Int)), (6, .bptr 0 0), (8, .int zt), (10, .fn 59 [.bptr 1 0]), (11, .bptr 2 0), (12, .int 0), (53, .ref 3 []), (56, .bptr 2 1), (58, .int zt), (62, .int 0)], [(0, .bx [.nil, .nil]), (1, .bx [.int q]), (2, .bx [.nil, .nil]), (3, .t1 (rowF y (sG st q 0)))]⟩ := ⟨_, rfl⟩
    obtain ⟨z27, ez27⟩ : ∃ z : St, z = ⟨[(0, .int (k : Int)), (2, .int (st : Int)), (6, .bptr 0 0), (8, .int zt), (10, .fn 59 [.bptr 1 0]), (11, .bptr 2 0), (12, .int 0), (55, .ref 5 []), (58, .int zt), (59, .int 0), (60, .int 0)], [(0, .bx [.nil, .nil]), (1, .bx [.int q]), (2, .bx [.nil, .nil]), (5, .t2 [rowF y (sG st q 0)])]⟩ := ⟨_, rfl⟩
    obtain ⟨z28, ez28⟩ : ∃ z : St, z = ⟨[(0, .int (k : Int)), (2, .int (st : Int)), (6, .bptr 0 0), (8, .int zt), (10, .fn 59 [.bptr 1 0]), (11, .bptr 2 0), (12, .int 0), (52, .nil), (54, .ref 4 []), (56, .bptr 2 1), (58, .int zt), (59, .int 0), (60, .int 0)], [(0, .bx [.nil, .nil]), (1, .bx [.int q]), (2, .bx [.nil, .nil]), (4, .t2 [rowF y (sG st q 0)])]⟩ := ⟨_, rfl⟩
    obtain ⟨z29, ez29⟩ : ∃ z : St, z = ⟨[(0, .int (k : Int)), (2, .int (st : Int)), (6, .bptr 0 0), (8, .int zt), (10, .fn 59 [.bptr 1 0]), (11, .bptr 2 0), (12, .int 0), (52, .nil), (54, .ref 4 []), (58, .int zt), (59, .int 0), (61, .int 2)], [(0, .bx [.nil, .nil]), (1, .bx [.int q]), (2, .bx [.nil, .nil]), (4, .t2 [rowF y (sG st q 0)])]⟩ := ⟨_, rfl⟩
    obtain ⟨z30, ez30⟩ : ∃ z : St, z = ⟨[(0, .int (k : Int)), (2, .int (st : Int)), (6, .bptr 0 0), (8, .int zt), (10, .fn 59 [.bptr 1 0]), (11, .bptr 2 0), (12, .int 0), (52, .nil), (53, .ref 3 []), (57, .nil), (58, .int zt), (59, .int 0), (60, .int 0)], [(0, .bx [.nil, .nil]), (1, .bx [.int q]), (2, .bx [.nil, .nil]), (3, .t1 (rowF y (sG st q 0)))]⟩ := ⟨_, rfl⟩
    obtain ⟨z31, ez31⟩ : ∃ z : St, z = ⟨[(0, .int (k : Int)), (2, .int (st : Int)), (6, .bptr 0 0), (8, .int zt), (10, .fn 59 [.bptr 1 0]), (11, .bptr 2 0), (12, .int 0), (52, .nil), (53, .ref 3 []), (56, .bptr 2 1), (58, .int zt), (59, .int 0), (61, .int 2)], [(0, .bx [.nil, .nil]), (1, .bx [.int q]), (2, .bx [.nil, .nil]), (3, .t1 (rowF y (sG st q 0)))]⟩ := ⟨_, rfl⟩
    obtain ⟨z32, ez32⟩ : ∃ z : St, z = ⟨[(0, .int (k : Int)), (2, .int (st : Int)), (6, .bptr 0 0), (8, .int zt), (10, .fn 59 [.bptr 1 0]), (11, .bptr 2 0), (12, .int 0), (52, .nil), (53, .ref 3 []), (58, .int zt), (62, .int 0)], [(0, .bx [.nil, .nil]), (1, .bx [.int q]), (2, .bx [.nil, .nil]), (3, .t1 (rowF y (sG st q 0)))]⟩ := ⟨_, rfl⟩
    obtain ⟨z33, ez33⟩ : ∃ z : St, z = ⟨[(0, .int (k : Int)), (2, .int (st : Int)), (6, .bptr 0 0), (8, .int zt), (10, .fn 59 [.bptr 1 0]), (11, .bptr 2 0), (12, .int 0), (51, .bptr 2 0), (54, .ref 4 []), (57, .nil), (58, .int zt), (59, .int 0), (60, .int 0)], [(0, .bx [.nil, .nil]), (1, .bx [.int q]), (2, .bx [.nil, .nil]), (4, .t2 [rowF y (sG st q 0)])]⟩ := ⟨_, rfl⟩
    obtain ⟨z34, ez34⟩ : ∃ z : St, z = ⟨[(0, .int (k : Int)), (2, .int (st : Int)), (6, .bptr 0 0), (8, .int zt), (10, .fn 59 [.bptr 1 0]), (11, .bptr 2 0), (12, .int 0), (51, .bptr 2 0), (54, .ref 4 []), (56, .bptr 2 1), (58, .int zt), (59, .int 0), (61, .int 2)], [(0, .bx [.nil, .nil]), (1, .bx [.int q]), (2, .bx [.nil, .nil]), (4, .t2 [rowF y (sG st q 0)])]⟩ := ⟨_, rfl⟩
    obtain ⟨z35, ez35⟩ : ∃ z : St, z = ⟨[(0, .int (k : Int)), (2, .int (st : Int)), (6, .bptr 0 0), (8, .int zt), (10, .fn 59 [.bptr 1 0]), (11, .bptr 2 0), (12, .int 0), (51, .bptr 2 0), (54, .ref 4 []), (58, .int zt), (62, .int 0)], [(0, .bx [.nil, .nil]), (1, .bx [.int q]), (2, .bx [.nil, .nil]), (4, .t2 [rowF y (sG st q 0)])]⟩ := ⟨_, rfl⟩
    obtain ⟨z36, ez36⟩ : ∃ z : St, z = ⟨[(0, .int (k : Int)), (2, .int (st : Int)), (6, .bptr 0 0), (8, .int zt), (10, .fn 59 [.bptr 1 0]), (11, .bptr 2 0), (12, .int 0), (51, .bptr 2 0), (53, .ref 3 []), (57, .nil), (58, .int zt), (59, .int 0), (61, .int 2)], [(0, .bx [.nil, .nil]), (1, .bx [.int q]), (2, .bx [.nil, .nil]), (3, .t1 (rowF y (sG st q 0)))]⟩ := ⟨_, rfl⟩
    obtain ⟨z37, ez37⟩ : ∃ z : St, z = ⟨[(0, .int (k : Int)), (2, .int (st : Int)), (6, .bptr 0 0), (8, .int zt), (10, .fn 59 [.bptr 1 0]), (11, .bptr 2 0), (12, .int 0), (51, .bptr 2 0), (53, .ref 3 []), (56, .bptr 2 1), (58, .int zt), (62, .int 0)], [(0, .bx [.nil, .nil]), (1, .bx [.int q]), (2, .bx [.nil, .nil]), (3, .t1 (rowF y (sG st q 0)))]⟩ := ⟨_, rfl⟩
    obtain ⟨z38, ez38⟩ : ∃ z : St, z = ⟨[(0, .int (k : Int)), (2, .int (st : Int)), (6, .bptr 0 0), (8, .int zt), (10, .fn 59 [.bptr 1 0]), (11, .bptr 2 0), (12, .int 0), (54, .ref 4 []), (57, .nil), (58, .int zt), (59, .int 0), (61, .int 2)], [(0, .bx [.nil, .nil]), (1, .bx [.int q]), (2, .bx [.nil, .nil]), (4, .t2 [rowF y (sG st q 0)])]⟩ := ⟨_, rfl⟩
    obtain ⟨z39, ez39⟩ : ∃ z : St, z = ⟨[(0, .int (k : Int)), (2, .int (st : Int)), (6, .bptr 0 0), (8, .int zt), (10, .fn 59 [.bptr 1 0]), (11, .bptr 2 0), (12, .int 0), (54, .ref 4 []), (56, .bptr 2 1), (58, .int zt), (62, .int 0)], [(0, .bx [.nil, .nil]), (1, .bx [.int q]), (2, .bx [.nil, .nil]), (4, .t2 [rowF y (sG st q 0)])]⟩ := ⟨_, rfl⟩
    obtain ⟨z40, ez40⟩ : ∃ z : St, z = ⟨[(0, .int (k : Int)), (2, .int (st : Int)), (6, .bptr 0 0), (8, .int zt), (10, .fn 59 [.bptr 1 0]), (11, .bptr 2 0), (12, .int 0), (53, .ref 3 []), (57, .nil), (58, .int zt), (62, .int 0)], [(0, .bx [.nil, .nil]), (1, .bx [.int q]), (2, .bx [.nil, .nil]), (3, .t1 (rowF y (sG st q 0)))]⟩ := ⟨_, rfl⟩
    obtain ⟨z41, ez41⟩ : ∃ z : St, z = ⟨[(0, .int (k : Int)), (2, .int (st : Int)), (6, .bptr 0 0), (8, .int zt), (10, .fn 59 [.bptr 1 0]), (11, .bptr 2 0), (12, .int 0), (55, .ref 5 []), (56, .bptr 2 1), (58, .int zt), (59, .int 0), (60, .int 0)], [(0, .bx [.nil, .nil]), (1, .bx [.int q]), (2, .bx [.nil, .nil]), (5, .t2 [rowF y (sG st q 0)])]⟩ := ⟨_, rfl⟩
    obtain ⟨z42, ez42⟩ : ∃ z : St, z = ⟨[(0, .int (k : Int)), (2, .int (st : Int)), (6, .bptr 0 0), (8, .int zt), (10, .fn 59 [.bptr 1 0]), (11, .bptr 2 0), (12, .int 0), (55, .ref 5 []), (58, .int zt), (59, .int 0), (61, .int 2)], [(0, .bx [.nil, .nil]), (1, .bx [.int q]), (2, .bx [.nil, .nil]), (5, .t2 [rowF y (sG st q 0)])]⟩ := ⟨_, rfl⟩
    obtain ⟨z43, ez43⟩ : ∃ z : St, z = ⟨[(0, .int (k : Int)), (2, .int (st : Int)), (6, .bptr 0 0), (8, .int zt), (10, .fn 59 [.bptr 1 0]), (11, .bptr 2 0), (12, .int 0), (52, .nil), (54, .ref 4 []), (57, .nil), (58, .int zt), (59, .int 0), (60, .int 0)], [(0, .bx [.nil, .nil]), (1, .bx [.int q]), (2, .bx [.nil, .nil]), (4, .t2 [rowF y (sG st q 0)])]⟩ := ⟨_, rfl⟩
    obtain ⟨z44, ez44⟩ : ∃ z : St, z = ⟨[(0, .int (k : Int)), (2, .int (st : Int)), (6, .bptr 0 0), (8, .int zt), (10, .fn 59 [.bptr 1 0]), (11, .bptr 2 0), (12, .int 0), (52, .nil), (54, .ref 4 []), (56, .bptr 2 1), (58, .int zt), (59, .int 0), (61, .int 2)], [(0, .bx [.nil, .nil]), (1, .bx [.int q]), (2, .bx [.nil, .nil]), (4, .t2 [rowF y (sG st q 0)])]⟩ := ⟨_, rfl⟩
    obtain ⟨z45, ez45⟩ : ∃ z : St, z = ⟨[(0, .int (k : Int)), (2, .int (st : Int)), (6, .bptr 0 0), (8, .int zt), (10, .fn 59 [.bptr 1 0]), (11, .bptr 2 0), (12, .int 0), (52, .nil), (54, .ref 4 []), (58, .int zt), (62, .int 0)], [(0, .bx [.nil, .nil]), (1, .bx [.int q]), (2, .bx [.nil, .nil]), (4, .t2 [rowF y (sG st q 0)])]⟩ := ⟨_, rfl⟩
    obtain ⟨z46, ez46⟩ : ∃ z : St, z = ⟨[(0, .int (k : Int)), (2, .int (st : Int)), (6, .bptr 0 0), (8, .int zt), (10, .fn 59 [.bptr 1 0]), (11, .bptr 2 0), (12, .int 0), (52, .nil), (53, .ref 3 []), (57, .nil), (58, .int zt), (59, .int 0), (61, .int 2)], [(0, .bx [.nil, .nil]), (1, .bx [.int q]), (2, .bx [.nil, .nil]), (3, .t1 (rowF y (sG st q 0)))]⟩ := ⟨_, rfl⟩
    obtain ⟨z47, ez47⟩ : ∃ z : St, z = ⟨[(0, .int (k : Int)), (2, .int (st : Int)), (6, .bptr 0 0), (8, .int zt), (10, .fn 59 [.bptr 1 0]), (11, .bptr 2 0), (12, .int 0), (52, .nil), (53, .ref 3 []), (56, .bptr 2 1), (58, .int zt), (62, .int 0)], [(0, .bx [.nil, .nil]), (1, .bx [.int q]), (2, .bx [.nil, .nil]), (3, .t1 (rowF y (sG st q 0)))]⟩ := ⟨_, rfl⟩
    obtain ⟨z48, ez48⟩ : ∃ z : St, z = ⟨[(0, .int (k : Int)), (2, .int (st : Int)), (6, .bptr 0 0), (8, .int zt), (10, .fn 59 [.bptr 1 0]), (11, .bptr 2 0), (12, .int 0), (51, .bptr 2 0), (54, .ref 4 []), (57, .nil), (58, .int zt), (59, .int 0), (61, .int 2)], [(0, .bx [.nil, .nil]), (1, .bx [.int q]), (2, .bx [.nil, .nil]), (4, .t2 [rowF y (sG st q 0)])]⟩ := ⟨_, rfl⟩
    obtain ⟨z49, ez49⟩ : ∃ z : St, z = ⟨[(0, .int (k : Int)), (2, .int (st : Int)), (6, .bptr 0 0), (8, .int zt), (10, .fn 59 [.bptr 1 0]), (11, .bptr 2 0), (12, .int 0), (51, .bptr 2 0), (54, .ref 4 []), (56, .bptr 2 1), (58, .int zt), (62, .int 0)], [(0, .bx [.nil, .nil]), (1, .bx [.int q]), (2, .bx [.nil, .nil]), (4, .t2 [rowF y (sG st q 0)])]⟩ := ⟨_, rfl⟩
    obtain ⟨z50, ez50⟩ : ∃ z : St, z = ⟨[(0, .int (k : Int)), (2, .int (st : Int)), (6, .bptr 0 0), (8, .int zt), (10, .fn 59 [.bptr 1 0]), (11, .bptr 2 0), (12, .int 0), (51, .bptr 2 0), (53, .ref 3 []), (57, .nil), (58, .int zt), (62, .int 0)], [(0, .bx [.nil, .nil]), (1, .bx [.int q]), (2, .bx [.nil, .nil]), (3, .t1 (rowF y (sG st q 0)))]⟩ := ⟨_, rfl⟩
    obtain ⟨z51, ez51⟩ : ∃ z : St, z = ⟨[(0, .int (k : Int)), (2, .int (st : Int)), (6, .bptr 0 0), (8, .int zt), (10, .fn 59 [.bptr 1 0]), (11, .bptr 2 0), (12, .int 0), (54, .ref 4 []), (57, .nil), (58, .int zt), (62, .int 0)], [(0, .bx [.nil, .nil]), (1, .bx [.int q]), (2, .bx [.nil, .nil]), (4, .t2 [rowF y (sG st q 0)])]⟩ := ⟨_, rfl⟩
    obtain ⟨z52, ez52⟩ : ∃ z : St, z = ⟨[(0, .int (k : Int)), (2, .int (st : Int)), (6, .bptr 0 0), (8, .int zt), (10, .fn 59 [.bptr 1 0]), (11, .bptr 2 0), (12, .int 0), (55, .ref 5 []), (57, .nil), (58, .int zt), (59, .int 0), (60, .int 0)], [(0, .bx [.nil, .nil]), (1, .bx [.int q]), (2, .bx [.nil, .nil]), (5, .t2 [rowF y (sG st q 0)])]⟩ := ⟨_, rfl⟩
    obtain ⟨z53, ez53⟩ : ∃ z : St, z = ⟨[(0, .int (k : Int)), (2, .int (st : Int)), (6, .bptr 0 0), (8, .int zt), (10, .fn 59 [.bptr 1 0]), (11, .bptr 2 0), (12, .int 0), (55, .ref 5 []), (56, .bptr 2 1), (58, .int zt), (59, .int 0), (61, .int 2)], [(0, .bx [.nil, .nil]), (1, .bx [.int q]), (2, .bx [.nil, .nil]), (5, .t2 [rowF y (sG st q 0)])]⟩ := ⟨_, rfl⟩
    obtain ⟨z54, ez54⟩ : ∃ z : St, z = ⟨[(0, .int (k : Int)), (2, .int (st : Int)), (6, .bptr 0 0), (8, .int zt), (10, .fn 59 [.bptr 1 0]), (11, .bptr 2 0), (12, .int 0), (55, .ref 5 []), (58, .int zt), (62, .int 0)], [(0, .bx [.nil, .nil]), (1, .bx [.int q]), (2, .bx [.nil, .nil]), (5, .t2 [rowF y (sG st q 0)])]⟩ := ⟨_, rfl⟩
    obtain ⟨z55, ez55⟩ : ∃ z : St, z = ⟨[(0, .int (k : Int)), (2, .int (st : Int)), (6, .bptr 0 0), (8, .int zt), (10, .fn 59 [.bptr 1 0]), (11, .bptr 2 0), (12, .int 0), (52, .nil), (54, .ref 4 []), (57, .nil), (58, .int zt), (59, .int 0), (61, .int 2)], [(0, .bx [.nil, .nil]), (1, .bx [.int q]), (2, .bx [.nil, .nil]), (4, .t2 [rowF y (sG st q 0)])]⟩ := ⟨_, rfl⟩
    obtain ⟨z56, ez56⟩ : ∃ z : St, z = ⟨[(0, .int (k : Int)), (2, .int (st : Int)), (6, .bptr 0 0), (8, .int zt), (10, .fn 59 [.bptr 1 0]), (11, .bptr 2 0), (12, .int 0), (52, .nil), (54, .ref 4 []), (56, .bptr 2 1), (58, .int zt), (62, .int 0)], [(0, .bx [.nil, .nil]), (1, .bx [.int q]), (2, .bx [.nil, .nil]), (4, .t2 [rowF y (sG st q 0)])]⟩ := ⟨_, rfl⟩
    obtain ⟨z57, ez57⟩ : ∃ z : St, z = ⟨[(0, .int (k : Int)), (2, .int (st : Int)), (6, .bptr 0 0), (8, .int zt), (10, .fn 59 [.bptr 1 0]), (11, .bptr 2 0), (12, .int 0), (52, .nil), (53, .ref 3 []), (57, .nil), (58, .int zt), (62, .int 0)], [(0, .bx [.nil, .nil]), (1, .bx [.int q]), (2, .bx [.nil, .nil]), (3, .t1 (rowF y (sG st q 0)))]⟩ := ⟨_, rfl⟩
    obtain ⟨z58, ez58⟩ : ∃ z : St, z = ⟨[(0, .int (k : Int)), (2, .int (st : Int)), (6, .bptr 0 0), (8, .int zt), (10, .fn 59 [.bptr 1 0]), (11, .bptr 2 0), (12, .int 0), (51, .bptr 2 0), (54, .ref 4 []), (57, .nil), (58, .int zt), (62, .int 0)], [(0, .bx [.nil, .nil]), (1, .bx [.int q]), (2, .bx [.nil, .nil]), (4, .t2 [rowF y (sG st q 0)])]⟩ := ⟨_, rfl⟩
    obtain ⟨z59, ez59⟩ : ∃ z : St, z = ⟨[(0, .int (k : Int)), (2, .int (st : Int)), (6, .bptr 0 0), (8, .int zt), (10, .fn 59 [.bptr 1 0]), (11, .bptr 2 0), (12, .int 0), (55, .ref 5 []), (57, .nil), (58, .int zt), (59, .int 0), (61, .int 2)], [(0, .bx [.nil, .nil]), (1, .bx [.int q]), (2, .bx [.nil, .nil]), (5, .t2 [rowF y (sG st q 0)])]⟩ := ⟨_, rfl⟩
    obtain ⟨z60, ez60⟩ : ∃ z : St, z = ⟨[(0, .int (k : Int)), (2, .int (st : Int)), (6, .bptr 0 0), (8, .int zt), (10, .fn 59 [.bptr 1 0]), (11, .bptr 2 0), (12, .int 0), (55, .ref 5 []), (57, .nil), (58, .int zt), (59, .int 0), (60, .int 0), (66, .bptr 2 0)], [(0, .bx [.nil, .nil]), (1, .bx [.int q]), (2, .bx [.nil, .nil]), (5, .t2 [rowF y (sG st q 0)])]⟩ := ⟨_, rfl⟩
    obtain ⟨z61, ez61⟩ : ∃ z : St, z = ⟨[(0, .int (k : Int)), (2, .int (st : Int)), (6, .bptr 0 0), (8, .int zt), (10, .fn 59 [.bptr 1 0]), (11, .bptr 2 0), (12, .int 0), (55, .ref 5 []), (56, .bptr 2 1), (58, .int zt), (62, .int 0)], [(0, .bx [.nil, .nil]), (1, .bx [.int q]), (2, .bx [.nil, .nil]), (5, .t2 [rowF y (sG st q 0)])]⟩ := ⟨_, rfl⟩
    obtain ⟨z62, ez62⟩ : ∃ z : St, z = ⟨[(0, .int (k : Int)), (2, .int (st : Int)), (6, .bptr 0 0), (8, .int zt), (10, .fn 59 [.bptr 1 0]), (11, .bptr 2 0), (12, .int 0), (55, .ref 5 []), (63, .int (tG st zt 0))], [(0, .bx [.nil, .nil]), (1, .bx [.int q]), (2, .bx [.nil, .nil]), (5, .t2 [rowF y (sG st q 0)])]⟩ := ⟨_, rfl⟩
    obtain ⟨z63, ez63⟩ : ∃ z : St, z = ⟨[(0, .int (k : Int)), (2, .int (st : Int)), (6, .bptr 0 0), (8, .int zt), (10, .fn 59 [.bptr 1 0]), (11, .bptr 2 0), (12, .int 0), (52, .nil), (54, .ref 4 []), (57, .nil), (58, .int zt), (62, .int 0)], [(0, .bx [.nil, .nil]), (1, .bx [.int q]), (2, .bx [.nil, .nil]), (4, .t2 [rowF y (sG st q 0)])]⟩ := ⟨_, rfl⟩
    obtain ⟨z64, ez64⟩ : ∃ z : St, z = ⟨[(0, .int (k : Int)), (2, .int (st : Int)), (6, .bptr 0 0), (8, .int zt), (10, .fn 59 [.bptr 1 0]), (11, .bptr 2 0), (12, .int 0), (55, .ref 5 []), (57, .nil), (58, .int zt), (62, .int 0)], [(0, .bx [.nil, .nil]), (1, .bx [.int q]), (2, .bx [.nil, .nil]), (5, .t2 [rowF y (sG st q 0)])]⟩ := ⟨_, rfl⟩
    obtain ⟨z65, ez65⟩ : ∃ z : St, z = ⟨[(0, .int (k : Int)), (2, .int (st : Int)), (6, .bptr 0 0), (8, .int zt), (10, .fn 59 [.bptr 1 0]), (11, .bptr 2 0), (12, .int 0), (55, .ref 5 []), (57, .nil), (58, .int zt), (59, .int 0), (61, .int 2), (66, .bptr 2 0)], [(0, .bx [.nil, .nil]), (1, .bx [.int q]), (2, .bx [.nil, .nil]), (5, .t2 [rowF y (sG st q 0)])]⟩ := ⟨_, rfl⟩
    obtain ⟨z66, ez66⟩ : ∃ z : St, z = ⟨[(0, .int (k : Int)), (2, .int (st : Int)), (6, .bptr 0 0), (8, .int zt), (10, .fn 59 [.bptr 1 0]), (11, .bptr 2 0), (12, .int 0), (55, .ref 5 []), (56, .bptr 2 1), (63, .int (tG st zt 0))], [(0, .bx [.nil, .nil]), (1, .bx [.int q]), (2, .bx [.nil, .nil]), (5, .t2 [rowF y (sG st q 0)])]⟩ := ⟨_, rfl⟩
    obtain ⟨z67, ez67⟩ : ∃ z : St, z = ⟨[(0, .int (k : Int)), (2, .int (st : Int)), (6, .bptr 0 0), (8, .int zt), (10, .fn 59 [.bptr 1 0]), (11, .bptr 2 0), (12, .int 0), (55, .ref 5 []), (64, .ref 6 [])], [(0, .bx [.nil, .nil]), (1, .bx [.int q]), (2, .bx [.nil, .nil]), (5, .t2 [rowF y (sG st q 0)]), (6, .t1 [tG st zt 0])]⟩ := ⟨_, rfl⟩
    obtain ⟨z68, ez68⟩ : ∃ z : St, z = ⟨[(0, .int (k : Int)), (2, .int (st : Int)), (6, .bptr 0 0), (8, .int zt), (10, .fn 59 [.bptr 1 0]), (11, .bptr 2 0), (12, .int 0), (55, .ref 5 []), (57, .nil), (63, .int (tG st zt 0))], [(0, .bx [.nil, .nil]), (1, .bx [.int q]), (2, .bx [.nil, .nil]), (5, .t2 [rowF y (sG st q 0)])]⟩ := ⟨_, rfl⟩
    obtain ⟨z69, ez69⟩ : ∃ z : St, z = ⟨[(0, .int (k : Int)), (2, .int (st : Int)), (6, .bptr 0 0), (8, .int zt), (10, .fn 59 [.bptr 1 0]), (11, .bptr 2 0), (12, .int 0), (55, .ref 5 []), (57, .nil), (58, .int zt), (62, .int 0), (66, .bptr 2 0)], [(0, .bx [.nil, .nil]), (1, .bx [.int q]), (2, .bx [.nil, .nil]), (5, .t2 [rowF y (sG st q 0)])]⟩ := ⟨_, rfl⟩
    obtain ⟨z70, ez70⟩ : ∃ z : St, z = ⟨[(0, .int (k : Int)), (2, .int (st : Int)), (6, .bptr 0 0), (8, .int zt), (10, .fn 59 [.bptr 1 0]), (11, .bptr 2 0), (12, .int 0), (55, .ref 5 []), (56, .bptr 2 1), (64, .ref 6 [])], [(0, .bx [.nil, .nil]), (1, .bx [.int q]), (2, .bx [.nil, .nil]), (5, .t2 [rowF y (sG st q 0)]), (6, .t1 [tG st zt 0])]⟩ := ⟨_, rfl⟩
    obtain ⟨z71, ez71⟩ : ∃ z : St, z = ⟨[(0, .int (k : Int)), (2, .int (st : Int)), (6, .bptr 0 0), (8, .int zt), (10, .fn 59 [.bptr 1 0]), (11, .bptr 2 0), (12, .int 0), (55, .ref 5 []), (57, .nil), (64, .ref 6 [])], [(0, .bx [.nil, .nil]), (1, .bx [.int q]), (2, .bx [.nil, .nil]), (5, .t2 [rowF y (sG st q 0)]), (6, .t1 [tG st zt 0])]⟩ := ⟨_, rfl⟩
    obtain ⟨z72, ez72⟩ : ∃ z : St, z = ⟨[(0, .int (k : Int)), (2, .int (st : Int)), (6, .bptr 0 0), (8, .int zt), (10, .fn 59 [.bptr 1 0]), (11, .bptr 2 0), (12, .int 0), (55, .ref 5 []), (57, .nil), (63, .int (tG st zt 0)), (66, .bptr 2 0)], [(0, .bx [.nil, .nil]), (1, .bx [.int q]), (2, .bx [.nil, .nil]), (5, .t2 [rowF y (sG st q 0)])]⟩ := ⟨_, rfl⟩
    obtain ⟨z73, ez73⟩ : ∃ z : St, z = ⟨[(0, .int (k : Int)), (2, .int (st : Int)), (6, .bptr 0 0), (8, .int zt), (10, .fn 59 [.bptr 1 0]), (11, .bptr 2 0), (12, .int 0), (55, .ref 5 []), (65, .ref 7 [])], [(0, .bx [.nil, .nil]), (1, .bx [.int q]), (2, .bx [.nil, .nil]), (5, .t2 [rowF y (sG st q 0)]), (6, .t1 [tG st zt 0]), (7, .t1 [tG st zt 0])]⟩ := ⟨_, rfl⟩
    obtain ⟨z74, ez74⟩ : ∃ z : St, z = ⟨[(0, .int (k : Int)), (2, .int (st : Int)), (6, .bptr 0 0), (8, .int zt), (10, .fn 59 [.bptr 1 0]), (11, .bptr 2 0), (12, .int 0), (55, .ref 5 []), (57, .nil), (64, .ref 6 []), (66, .bptr 2 0)], [(0, .bx [.nil, .nil]), (1, .bx [.int q]), (2, .bx [.nil, .nil]), (5, .t2 [rowF y (sG st q 0)]), (6, .t1 [tG st zt 0])]⟩ := ⟨_, rfl⟩
    obtain ⟨z75, ez75⟩ : ∃ z : St, z = ⟨[(0, .int (k : Int)), (2, .int (st : Int)), (6, .bptr 0 0), (8, .int zt), (10, .fn 59 [.bptr 1 0]), (11, .bptr 2 0), (12, .int 0), (55, .ref 5 []), (65, .ref 7 []), (66, .bptr 2 0)], [(0, .bx [.nil, .nil]), (1, .bx [.int q]), (2, .bx [.nil, .nil]), (5, .t2 [rowF y (sG st q 0)]), (6, .t1 [tG st zt 0]), (7, .t1 [tG st zt 0])]⟩ := ⟨_, rfl⟩
    obtain ⟨z76, ez76⟩ : ∃ z : St, z = ⟨[(0, .int (k : Int)), (2, .int (st : Int)), (6, .bptr 0 0), (8, .int zt), (10, .fn 59 [.bptr 1 0]), (11, .bptr 2 0), (12, .int 0), (65, .ref 7 [])], [(0, .bx [.nil, .nil]), (1, .bx [.int q]), (2, .bx [.ref 5 [], .nil]), (5, .t2 [rowF y (sG st q 0)]), (6, .t1 [tG st zt 0]), (7, .t1 [tG st zt 0])]⟩ := ⟨_, rfl⟩
    obtain ⟨z77, ez77⟩ : ∃ z : St, z = ⟨[(0, .int (k : Int)), (2, .int (st : Int)), (6, .bptr 0 0), (8, .int zt), (10, .fn 59 [.bptr 1 0]), (11, .bptr 2 0), (12, .int 0), (65, .ref 7 []), (67, .bptr 2 1)], [(0, .bx [.nil, .nil]), (1, .bx [.int q]), (2, .bx [.ref 5 [], .nil]), (5, .t2 [rowF y (sG st q 0)]), (6, .t1 [tG st zt 0]), (7, .t1 [tG st zt 0])]⟩ := ⟨_, rfl⟩
    obtain ⟨z78, ez78⟩ : ∃ z : St, z = ⟨[(0, .int (k : Int)), (2, .int (st : Int)), (6, .bptr 0 0), (8, .int zt), (10, .fn 59 [.bptr 1 0]), (11, .bptr 2 0), (12, .int 0)], [(0, .bx [.nil, .nil]), (1, .bx [.int q]), (2, .bx [.ref 5 [], .ref 7 []]), (5, .t2 [rowF y (sG st q 0)]), (6, .t1 [tG st zt 0]), (7, .t1 [tG st zt 0])]⟩ := ⟨_, rfl⟩
    refine ats_table [] [2, 7, 8, 9] [[2, 7, 8, 9], [0, 2, 7, 8, 9], [2, 3, 7, 8, 9], [2, 5, 7, 8, 9], [2, 7, 8, 9, 10], [0, 1, 2, 7, 8, 9], [0, 2, 3, 7, 8, 9], [0, 2, 5, 7, 8, 9], [0, 2, 7, 8, 9, 10], [2, 3, 5, 7, 8, 9], [2, 3, 7, 8, 9, 10], [2, 5, 6, 7, 8, 9], [2, 5, 7, 8, 9, 10], [2, 7, 8, 9, 10, 11], [0, 1, 2, 3, 7, 8, 9], [0, 1, 2, 5, 7, 8, 9], [0, 1, 2, 7, 8, 9, 10], [0, 2, 3, 5, 7, 8, 9], [0, 2, 3, 7, 8, 9, 10], [0, 2, 5, 6, 7, 8, 9], [0, 2, 5, 7, 8, 9, 10], [0, 2, 7, 8, 9, 10, 11], [2, 3, 5, 6, 7, 8, 9], [2, 3, 5, 7, 8, 9, 10], [2, 3, 7, 8, 9, 10, 11], [2, 5, 6, 7, 8, 9, 10], [2, 5, 7, 8, 9, 10, 11], [0, 1, 2, 3, 4, 7, 8, 9], [0, 1, 2, 3, 5, 7, 8, 9], [0, 1, 2, 3, 7, 8, 9, 10], [0, 1, 2, 5, 6, 7, 8, 9], [0, 1, 2, 5, 7, 8, 9, 10], [0, 1, 2, 7, 8, 9, 10, 11], [0, 2, 3, 5, 6, 7, 8, 9], [0, 2, 3, 5, 7, 8, 9, 10], [0, 2, 3, 7, 8, 9, 10, 11], [0, 2, 5, 6, 7, 8, 9, 10], [0, 2, 5, 7, 8, 9, 10, 11], [2, 3, 5, 6, 7, 8, 9, 10], [2, 3, 5, 7, 8, 9, 10, 11], [2, 5, 6, 7, 8, 9, 10, 11], [0, 1, 2, 3, 4, 5, 7, 8, 9], [0, 1, 2, 3, 4, 7, 8, 9, 10], [0, 1, 2, 3, 5, 6, 7, 8, 9], [0, 1, 2, 3, 5, 7, 8, 9, 10], [0, 1, 2, 3, 7, 8, 9, 10, 11], [0, 1, 2, 5, 6, 7, 8, 9, 10], [0, 1, 2, 5, 7, 8, 9, 10, 11], [0, 2, 3, 5, 6, 7, 8, 9, 10], [0, 2, 3, 5, 7, 8, 9, 10, 11], [0, 2, 5, 6, 7, 8, 9, 10, 11], [2, 3, 5, 6, 7, 8, 9, 10, 11], [0, 1, 2, 3, 4, 5, 6, 7, 8, 9], [0, 1, 2, 3, 4, 5, 7, 8, 9, 10], [0, 1, 2, 3, 4, 7, 8, 9, 10, 11], [0, 1, 2, 3, 5, 6, 7, 8, 9, 10], [0, 1, 2, 3, 5, 7, 8, 9, 10, 11], [0, 1, 2, 5, 6, 7, 8, 9, 10, 11], [0, 2, 3, 5, 6, 7, 8, 9, 10, 11], [0, 1, 2, 3, 4, 5, 6, 7, 8, 9, 10], [0, 1, 2, 3, 4, 5, 6, 7, 8, 9, 15], [0, 1, 2, 3, 4, 5, 7, 8, 9, 10, 11], [0, 1, 2, 3, 4, 7, 8, 9, 10, 11, 12], [0, 1, 2, 3, 5, 6, 7, 8, 9, 10, 11], [0, 1, 2, 3, 4, 5, 6, 7, 8, 9, 10, 11], [0, 1, 2, 3, 4, 5, 6, 7, 8, 9, 10, 15], [0, 1, 2, 3, 4, 5, 7, 8, 9, 10, 11, 12], [0, 1, 2, 3, 4, 7, 8, 9, 10, 11, 12, 13], [0, 1, 2, 3, 4, 5, 6, 7, 8, 9, 10, 11, 12], [0, 1, 2, 3, 4, 5, 6, 7, 8, 9, 10, 11, 15], [0, 1, 2, 3, 4, 5, 7, 8, 9, 10, 11, 12, 13], [0, 1, 2, 3, 4, 5, 6, 7, 8, 9, 10, 11, 12, 13], [0, 1, 2, 3, 4, 5, 6, 7, 8, 9, 10, 11, 12, 15], [0, 1, 2, 3, 4, 5, 6, 7, 8, 9, 10, 11, 12, 13, 14], [0, 1, 2, 3, 4, 5, 6, 7, 8, 9, 10, 11, 12, 13, 15], [0, 1, 2, 3, 4, 5, 6, 7, 8, 9, 10, 11, 12, 13, 14, 15], [0, 1, 2, 3, 4, 5, 6, 7, 8, 9, 10, 11, 12, 13, 14, 15, 16], [0, 1, 2, 3, 4, 5, 6, 7, 8, 9, 10, 11, 12, 13, 14, 15, 16, 17], [0, 1, 2, 3, 4, 5, 6, 7, 8, 9, 10, 11, 12, 13, 14, 15, 16, 17, 18]] [(0, 0, 1), (0, 3, 2), (0, 5, 3), (0, 10, 4), (1, 1, 5), (1, 3, 6), (1, 5, 7), (1, 10, 8), (2, 0, 6), (2, 5, 9), (2, 10, 10), (3, 0, 7), (3, 3, 9), (3, 6, 11), (3, 10, 12), (4, 0, 8), (4, 3, 10), (4, 5, 12), (4, 11, 13), (5, 3, 14), (5, 5, 15), (5, 10, 16), (6, 1, 14), (6, 5, 17), (6, 10, 18), (7, 1, 15), (7, 3, 17), (7, 6, 19), (7, 10, 20), (8, 1, 16), (8, 3, 18), (8, 5, 20), (8, 11, 21), (9, 0, 17), (9, 6, 22), (9, 10, 23), (10, 0, 18), (10, 5, 23), (10, 11, 24), (11, 0, 19), (11, 3, 22), (11, 10, 25), (12, 0, 20), (12, 3, 23), (12, 6, 25), (12, 11, 26), (13, 0, 21), (13, 3, 24), (13, 5, 26), (14, 4, 27), (14, 5, 28), (14, 10, 29), (15, 3, 28), (15, 6, 30), (15, 10, 31), (16, 3, 29), (16, 5, 31), (16, 11, 32), (17, 1, 28), (17, 6, 33), (17, 10, 34), (18, 1, 29), (18, 5, 34), (18, 11, 35), (19, 1, 30), (19, 3, 33), (19, 10, 36), (20, 1, 31), (20, 3, 34), (20, 6, 36), (20, 11, 37), (21, 1, 32), (21, 3, 35), (21, 5, 37), (22, 0, 33), (22, 10, 38), (23, 0, 34), (23, 6, 38), (23, 11, 39), (24, 0, 35), (24, 5, 39), (25, 0, 36), (25, 3, 38), (25, 11, 40), (26, 0, 37), (26, 3, 39), (26, 6, 40), (27, 5, 41), (27, 10, 42), (28, 4, 41), (28, 6, 43), (28, 10, 44), (29, 4, 42), (29, 5, 44), (29, 11, 45), (30, 3, 43), (30, 10, 46), (31, 3, 44), (31, 6, 46), (31, 11, 47), (32, 3, 45), (32, 5, 47), (33, 1, 43), (33, 10, 48), (34, 1, 44), (34, 6, 48), (34, 11, 49), (35, 1, 45), (35, 5, 49), (36, 1, 46), (36, 3, 48), (36, 11, 50), (37, 1, 47), (37, 3, 49), (37, 6, 50), (38, 0, 48), (38, 11, 51), (39, 0, 49), (39, 6, 51), (40, 0, 50), (40, 3, 51), (41, 6, 52), (41, 10, 53), (42, 5, 53), (42, 11, 54), (43, 4, 52), (43, 10, 55), (44, 4, 53), (44, 6, 55), (44, 11, 56), (45, 4, 54), (45, 5, 56), (46, 3, 55), (46, 11, 57), (47, 3, 56), (47, 6, 57), (48, 1, 55), (48, 11, 58), (49, 1, 56), (49, 6, 58), (50, 1, 57), (50, 3, 58), (51, 0, 58), (52, 10, 59), (52, 15, 60), (53, 6, 59), (53, 11, 61), (54, 5, 61), (54, 12, 62), (55, 4, 59), (55, 11, 63), (56, 4, 61), (56, 6, 63), (57, 3, 63), (58, 1, 63), (59, 11, 64), (59, 15, 65), (60, 10, 65), (61, 6, 64), (61, 12, 66), (62, 5, 66), (62, 13, 67), (63, 4, 64), (64, 12, 68), (64, 15, 69), (65, 11, 69), (66, 6, 68), (66, 13, 70), (67, 5, 70), (68, 13, 71), (68, 15, 72), (69, 12, 72), (70, 6, 71), (71, 14, 73), (71, 15, 74), (72, 13, 74), (73, 15, 75), (74, 14, 75), (75, 16, 76), (76, 17, 77), (77, 18, 78)] [z0, z1, z2, z3, z4, z5, z6, z7, z8, z9, z10, z11, z12, z13, z14, z15, z16, z17, z18, z19, z20, z21, z22, z23, z24, z25, z26, z27, z28, z29, z30, z31, z32, z33, z34, z35, z36, z37, z38, z39, z40, z41, z42, z43, z44, z45, z46, z47, z48, z49, z50, z51, z52, z53, z54, z55, z56, z57, z58, z59, z60, z61, z62, z63, z64, z65, z66, z67, z68, z69, z70, z71, z72, z73, z74, z75, z76, z77, z78] hrd (by first | exact fix0 hcx | exact fix1 hcx rfl | exact fixN hcx rfl) mixed (by kernel_rfl) ?_ ?_ ?_
    ·show mvTRun _ _ _ _ _ _ (fun s => Ghost _ _ s z0)
     rw [ez0]; simp only [go_sem, seval]; exact gD11
    ·refine ⟨?_, ?_, ?_, ?_, ?_, ?_, ?_, ?_, ?_, ?_, ?_, ?_, ?_, ?_, ?_, ?_, ?_, ?_, ?_, ?_, ?_, ?_, ?_, ?_, ?_, ?_, ?_, ?_, ?_, ?_, ?_, ?_, ?_, ?_, ?_, ?_, ?_, ?_, ?_, ?_, ?_, ?_, ?_, ?_, ?_, ?_, ?_, ?_, ?_, ?_, ?_, ?_, ?_, ?_, ?_, ?_, ?_, ?_, ?_, ?_, ?_, ?_, ?_, ?_, ?_, ?_, ?_, ?_, ?_, ?_, ?_, ?_, ?_, ?_, ?_, ?_, ?_, ?_, ?_, ?_, ?_, ?_, ?_, ?_, ?_, ?_, ?_, ?_, ?_, ?_, ?_, ?_, ?_, ?_, ?_, ?_, ?_, ?_, ?_, ?_, ?_, ?_, ?_, ?_, ?_, ?_, ?_, ?_, ?_, ?_, ?_, ?_, ?_, ?_, ?_, ?_, ?_, ?_, ?_, ?_, ?_, ?_, ?_, ?_, ?_, ?_, ?_, ?_, ?_, ?_, ?_, ?_, ?_, ?_, ?_, ?_, ?_, ?_, ?_, ?_, ?_, ?_, ?_, ?_, ?_, ?_, ?_, ?_, ?_, ?_, ?_, ?_, ?_, ?_, ?_, ?_, ?_, ?_, ?_, ?_, ?_, ?_, ?_, ?_, ?_, ?_, ?_, ?_, ?_, ?_, ?_, ?_, ?_, ?_, ?_, ?_, ?_, ?_, ?_, ?_, ?_, trivial⟩
     ·show gRun _ _ _ _ _ z0 (fun st' => Ghost _ _ st' z1)
      rw [ez0, ez1]; simp only [go_sem, seval]; exact dt_can ⟨rfl, rfl, rfl, rfl, rfl, rfl, rfl, rfl, rfl, rfl, rfl, rfl, trivial⟩ rfl
     ·show gRun _ _ _ _ _ z0 (fun st' => Ghost _ _ st' z2)
      rw [ez0, ez2]; simp only [go_sem, seval]; exact gD11
     ·show gRun _ _ _ _ _ z0 (fun st' => Ghost _ _ st' z3)
      rw [ez0, ez3]; simp only [go_sem, seval]; exact dt_can ⟨rfl, rfl, rfl, rfl, rfl, rfl, rfl, rfl, rfl, rfl, rfl, rfl, trivial⟩ rfl
     ·show gRun _ _ _ _ _ z0 (fun st' => Ghost _ _ st' z4)
      rw [ez0, ez4]; simp only [go_sem, seval]; exact gD11
     ·show gRun _ _ _ _ _ z1 (fun st' => Ghost _ _ st' z5)
      rw [ez1, ez5]; simp only [go_sem, seval]; exact gD12
     ·show gRun _ _ _ _ _ z1 (fun st' => Ghost _ _ st' z6)
      rw [ez1, ez6]; simp only [go_sem, seval]; exact gD12
     ·show gRun _ _ _ _ _ z1 (fun st' => Ghost _ _ st' z7)
      rw [ez1, ez7]; simp only [go_sem, seval]; exact dt_can ⟨rfl, rfl, rfl, rfl, rfl, rfl, rfl, rfl, rfl, rfl, rfl, rfl, rfl, trivial⟩ rfl
     ·show gRun _ _ _ _ _ z1 (fun st' => Ghost _ _ st' z8)
      rw [ez1, ez8]; simp only [go_sem, seval]; exact gD12
     ·show gRun _ _ _ _ _ z2 (fun st' => Ghost _ _ st' z6)
      rw [ez2, ez6]; simp only [go_sem, seval]; exact dt_can ⟨rfl, rfl, rfl, rfl, rfl, rfl, rfl, rfl, rfl, rfl, rfl, rfl, trivial⟩ rfl
     ·show gRun _ _ _ _ _ z2 (fun st' => Ghost _ _ st' z9)
      rw [ez2, ez9]; simp only [go_sem, seval]; exact dt_can ⟨rfl, rfl, rfl, rfl, rfl, rfl, rfl, rfl, rfl, rfl, rfl, rfl, trivial⟩ rfl
     ·show gRun _ _ _ _ _ z2 (fun st' => Ghost _ _ st' z10)
      rw [ez2, ez10]; simp only [go_sem, seval]; exact gD11
     ·show gRun _ _ _ _ _ z3 (fun st' => Ghost _ _ st' z7)
      rw [ez3, ez7]; simp only [go_sem, seval]; exact dt_can ⟨rfl, rfl, rfl, rfl, rfl, rfl, rfl, rfl, rfl, rfl, rfl, rfl, rfl, trivial⟩ rfl
     ·show gRun _ _ _ _ _ z3 (fun st' => Ghost _ _ st' z9)
      rw [ez3, ez9]; simp only [go_sem, seval]; exact gD12
     ·show gRun _ _ _ _ _ z3 (fun st' => Ghost _ _ st' z11)
      rw [ez3, ez11]; simp only [go_sem, seval]; exact gD12
     ·show gRun _ _ _ _ _ z3 (fun st' => Ghost _ _ st' z12)
      rw [ez3, ez12]; simp only [go_sem, seval]; exact gD12
     ·show gRun _ _ _ _ _ z4 (fun st' => Ghost _ _ st' z8)
      rw [ez4, ez8]; simp only [go_sem, seval]; exact dt_can ⟨rfl, rfl, rfl, rfl, rfl, rfl, rfl, rfl, rfl, rfl, rfl, rfl, trivial⟩ rfl
     ·show gRun _ _ _ _ _ z4 (fun st' => Ghost _ _ st' z10)
      rw [ez4, ez10]; simp only [go_sem, seval]; exact gD11
     ·show gRun _ _ _ _ _ z4 (fun st' => Ghost _ _ st' z12)
      rw [ez4, ez12]; simp only [go_sem, seval]; exact dt_can ⟨rfl, rfl, rfl, rfl, rfl, rfl, rfl, rfl, rfl, rfl, rfl, rfl, trivial⟩ rfl
     ·show gRun _ _ _ _ _ z4 (fun st' => Ghost _ _ st' z13)
      rw [ez4, ez13]; simp only [go_sem, seval]; exact gD10
     ·show gRun _ _ _ _ _ z5 (fun st' => Ghost _ _ st' z14)
      rw [ez5, ez14]; simp only [go_sem, seval]; exact gD12
     ·show gRun _ _ _ _ _ z5 (fun st' => Ghost _ _ st' z15)
      rw [ez5, ez15]; simp only [go_sem, seval]; exact dt_can ⟨rfl, rfl, rfl, rfl, rfl, rfl, rfl, rfl, rfl, rfl, rfl, rfl, rfl, trivial⟩ rfl
     ·show gRun _ _ _ _ _ z5 (fun st' => Ghost _ _ st' z16)
      rw [ez5, ez16]; simp only [go_sem, seval]; exact gD12
     ·show gRun _ _ _ _ _ z6 (fun st' => Ghost _ _ st' z14)
      rw [ez6, ez14]; simp only [go_sem, seval]; exact gD12
     ·show gRun _ _ _ _ _ z6 (fun st' => Ghost _ _ st' z17)
      rw [ez6, ez17]; simp only [go_sem, seval]; exact dt_can ⟨rfl, rfl, rfl, rfl, rfl, rfl, rfl, rfl, rfl, rfl, rfl, rfl, rfl, trivial⟩ rfl
     ·show gRun _ _ _ _ _ z6 (fun st' => Ghost _ _ st' z18)
      rw [ez6, ez18]; simp only [go_sem, seval]; exact gD12
     ·show gRun _ _ _ _ _ z7 (fun st' => Ghost _ _ st' z15)
      rw [ez7, ez15]; simp only [go_sem, seval]; exact gD13
     ·show gRun _ _ _ _ _ z7 (fun st' => Ghost _ _ st' z17)
      rw [ez7, ez17]; simp only [go_sem, seval]; exact gD13
     ·show gRun _ _ _ _ _ z7 (fun st' => Ghost _ _ st' z19)
      rw [ez7, ez19]; simp only [go_sem, seval]; exact gD13
     ·show gRun _ _ _ _ _ z7 (fun st' => Ghost _ _ st' z20)
      rw [ez7, ez20]; simp only [go_sem, seval]; exact gD13
     ·show gRun _ _ _ _ _ z8 (fun st' => Ghost _ _ st' z16)
      rw [ez8, ez16]; simp only [go_sem, seval]; exact gD12
     ·show gRun _ _ _ _ _ z8 (fun st' => Ghost _ _ st' z18)
      rw [ez8, ez18]; simp only [go_sem, seval]; exact gD12
     ·show gRun _ _ _ _ _ z8 (fun st' => Ghost _ _ st' z20)
      rw [ez8, ez20]; simp only [go_sem, seval]; exact dt_can ⟨rfl, rfl, rfl, rfl, rfl, rfl, rfl, rfl, rfl, rfl, rfl, rfl, rfl, trivial⟩ rfl
     ·show gRun _ _ _ _ _ z8 (fun st' => Ghost _ _ st' z21)
      rw [ez8, ez21]; simp only [go_sem, seval]; exact gD11
     ·show gRun _ _ _ _ _ z9 (fun st' => Ghost _ _ st' z17)
      rw [ez9, ez17]; simp only [go_sem, seval]; exact dt_can ⟨rfl, rfl, rfl, rfl, rfl, rfl, rfl, rfl, rfl, rfl, rfl, rfl, rfl, trivial⟩ rfl
     ·show gRun _ _ _ _ _ z9 (fun st' => Ghost _ _ st' z22)
      rw [ez9, ez22]; simp only [go_sem, seval]; exact gD12
     ·show gRun _ _ _ _ _ z9 (fun st' => Ghost _ _ st' z23)
      rw [ez9, ez23]; simp only [go_sem, seval]; exact gD12
     ·show gRun _ _ _ _ _ z10 (fun st' => Ghost _ _ st' z18)
      rw [ez10, ez18]; simp only [go_sem, seval]; exact dt_can ⟨rfl, rfl, rfl, rfl, rfl, rfl, rfl, rfl, rfl, rfl, rfl, rfl, trivial⟩ rfl
     ·show gRun _ _ _ _ _ z10 (fun st' => Ghost _ _ st' z23)
      rw [ez10, ez23]; simp only [go_sem, seval]; exact dt_can ⟨rfl, rfl, rfl, rfl, rfl, rfl, rfl, rfl, rfl, rfl, rfl, rfl, trivial⟩ rfl
     ·show gRun _ _ _ _ _ z10 (fun st' => Ghost _ _ st' z24)
      rw [ez10, ez24]; simp only [go_sem, seval]; exact gD10
     ·show gRun _ _ _ _ _ z11 (fun st' => Ghost _ _ st' z19)
      rw [ez11, ez19]; simp only [go_sem, seval]; exact dt_can ⟨rfl, rfl, rfl, rfl, rfl, rfl, rfl, rfl, rfl, rfl, rfl, rfl, rfl, trivial⟩ rfl
     ·show gRun _ _ _ _ _ z11 (fun st' => Ghost _ _ st' z22)
      rw [ez11, ez22]; simp only [go_sem, seval]; exact gD12
     ·show gRun _ _ _ _ _ z11 (fun st' => Ghost _ _ st' z25)
      rw [ez11, ez25]; simp only [go_sem, seval]; exact gD12
     ·show gRun _ _ _ _ _ z12 (fun st' => Ghost _ _ st' z20)
      rw [ez12, ez20]; simp only [go_sem, seval]; exact dt_can ⟨rfl, rfl, rfl, rfl, rfl, rfl, rfl, rfl, rfl, rfl, rfl, rfl, rfl, trivial⟩ rfl
     ·show gRun _ _ _ _ _ z12 (fun st' => Ghost _ _ st' z23)
      rw [ez12, ez23]; simp only [go_sem, seval]; exact gD12
     ·show gRun _ _ _ _ _ z12 (fun st' => Ghost _ _ st' z25)
      rw [ez12, ez25]; simp only [go_sem, seval]; exact gD12
     ·show gRun _ _ _ _ _ z12 (fun st' => Ghost _ _ st' z26)
      rw [ez12, ez26]; simp only [go_sem, seval]; exact gD11
     ·show gRun _ _ _ _ _ z13 (fun st' => Ghost _ _ st' z21)
      rw [ez13, ez21]; simp only [go_sem, seval]; exact dt_can ⟨rfl, rfl, rfl, rfl, rfl, rfl, rfl, rfl, rfl, rfl, rfl, trivial⟩ rfl
     ·show gRun _ _ _ _ _ z13 (fun st' => Ghost _ _ st' z24)
      rw [ez13, ez24]; simp only [go_sem, seval]; exact gD10
     ·show gRun _ _ _ _ _ z13 (fun st' => Ghost _ _ st' z26)
      rw [ez13, ez26]; simp only [go_sem, seval]; exact dt_can ⟨rfl, rfl, rfl, rfl, rfl, rfl, rfl, rfl, rfl, rfl, rfl, trivial⟩ rfl
     ·show gRun _ _ _ _ _ z14 (fun st' => Ghost _ _ st' z27)
      rw [ez14, ez27]; simp only [go_sem, seval]; exact gD11
     ·show gRun _ _ _ _ _ z14 (fun st' => Ghost _ _ st' z28)
      rw [ez14, ez28]; simp only [go_sem, seval]; exact dt_can ⟨rfl, rfl, rfl, rfl, rfl, rfl, rfl, rfl, rfl, rfl, rfl, rfl, rfl, trivial⟩ rfl
     ·show gRun _ _ _ _ _ z14 (fun st' => Ghost _ _ st' z29)
      rw [ez14, ez29]; simp only [go_sem, seval]; exact gD12
     ·show gRun _ _ _ _ _ z15 (fun st' => Ghost _ _ st' z28)
      rw [ez15, ez28]; simp only [go_sem, seval]; exact gD13
     ·show gRun _ _ _ _ _ z15 (fun st' => Ghost _ _ st' z30)
      rw [ez15, ez30]; simp only [go_sem, seval]; exact gD13
     ·show gRun _ _ _ _ _ z15 (fun st' => Ghost _ _ st' z31)
      rw [ez15, ez31]; simp only [go_sem, seval]; exact gD13
     ·show gRun _ _ _ _ _ z16 (fun st' => Ghost _ _ st' z29)
      rw [ez16, ez29]; simp only [go_sem, seval]; exact gD12
     ·show gRun _ _ _ _ _ z16 (fun st' => Ghost _ _ st' z31)
      rw [ez16, ez31]; simp only [go_sem, seval]; exact dt_can ⟨rfl, rfl, rfl, rfl, rfl, rfl, rfl, rfl, rfl, rfl, rfl, rfl, rfl, trivial⟩ rfl
     ·show gRun _ _ _ _ _ z16 (fun st' => Ghost _ _ st' z32)
      rw [ez16, ez32]; simp only [go_sem, seval]; exact gD11
     ·show gRun _ _ _ _ _ z17 (fun st' => Ghost _ _ st' z28)
      rw [ez17, ez28]; simp only [go_sem, seval]; exact gD13
     ·show gRun _ _ _ _ _ z17 (fun st' => Ghost _ _ st' z33)
      rw [ez17, ez33]; simp only [go_sem, seval]; exact gD13
     ·show gRun _ _ _ _ _ z17 (fun st' => Ghost _ _ st' z34)
      rw [ez17, ez34]; simp only [go_sem, seval]; exact gD13
     ·show gRun _ _ _ _ _ z18 (fun st' => Ghost _ _ st' z29)
      rw [ez18, ez29]; simp only [go_sem, seval]; exact gD12
     ·show gRun _ _ _ _ _ z18 (fun st' => Ghost _ _ st' z34)
      rw [ez18, ez34]; simp only [go_sem, seval]; exact dt_can ⟨rfl, rfl, rfl, rfl, rfl, rfl, rfl, rfl, rfl, rfl, rfl, rfl, rfl, trivial⟩ rfl
     ·show gRun _ _ _ _ _ z18 (fun st' => Ghost _ _ st' z35)
      rw [ez18, ez35]; simp only [go_sem, seval]; exact gD11
     ·show gRun _ _ _ _ _ z19 (fun st' => Ghost _ _ st' z30)
      rw [ez19, ez30]; simp only [go_sem, seval]; exact gD13
     ·show gRun _ _ _ _ _ z19 (fun st' => Ghost _ _ st' z33)
      rw [ez19, ez33]; simp only [go_sem, seval]; exact gD13
     ·show gRun _ _ _ _ _ z19 (fun st' => Ghost _ _ st' z36)
      rw [ez19, ez36]; simp only [go_sem, seval]; exact gD13
     ·show gRun _ _ _ _ _ z20 (fun st' => Ghost _ _ st' z31)
      rw [ez20, ez31]; simp only [go_sem, seval]; exact gD13
     ·show gRun _ _ _ _ _ z20 (fun st' => Ghost _ _ st' z34)
      rw [ez20, ez34]; simp only [go_sem, seval]; exact gD13
     ·show gRun _ _ _ _ _ z20 (fun st' => Ghost _ _ st' z36)
      rw [ez20, ez36]; simp only [go_sem, seval]; exact gD13
     ·show gRun _ _ _ _ _ z20 (fun st' => Ghost _ _ st' z37)
      rw [ez20, ez37]; simp only [go_sem, seval]; exact gD12
     ·show gRun _ _ _ _ _ z21 (fun st' => Ghost _ _ st' z32)
      rw [ez21, ez32]; simp only [go_sem, seval]; exact gD11
     ·show gRun _ _ _ _ _ z21 (fun st' => Ghost _ _ st' z35)
      rw [ez21, ez35]; simp only [go_sem, seval]; exact gD11
     ·show gRun _ _ _ _ _ z21 (fun st' => Ghost _ _ st' z37)
      rw [ez21, ez37]; simp only [go_sem, seval]; exact dt_can ⟨rfl, rfl, rfl, rfl, rfl, rfl, rfl, rfl, rfl, rfl, rfl, rfl, trivial⟩ rfl
     ·show gRun _ _ _ _ _ z22 (fun st' => Ghost _ _ st' z33)
      rw [ez22, ez33]; simp only [go_sem, seval]; exact dt_can ⟨rfl, rfl, rfl, rfl, rfl, rfl, rfl, rfl, rfl, rfl, rfl, rfl, rfl, trivial⟩ rfl
     ·show gRun _ _ _ _ _ z22 (fun st' => Ghost _ _ st' z38)
      rw [ez22, ez38]; simp only [go_sem, seval]; exact gD12
     ·show gRun _ _ _ _ _ z23 (fun st' => Ghost _ _ st' z34)
      rw [ez23, ez34]; simp only [go_sem, seval]; exact dt_can ⟨rfl, rfl, rfl, rfl, rfl, rfl, rfl, rfl, rfl, rfl, rfl, rfl, rfl, trivial⟩ rfl
     ·show gRun _ _ _ _ _ z23 (fun st' => Ghost _ _ st' z38)
      rw [ez23, ez38]; simp only [go_sem, seval]; exact gD12
     ·show gRun _ _ _ _ _ z23 (fun st' => Ghost _ _ st' z39)
      rw [ez23, ez39]; simp only [go_sem, seval]; exact gD11
     ·show gRun _ _ _ _ _ z24 (fun st' => Ghost _ _ st' z35)
      rw [ez24, ez35]; simp only [go_sem, seval]; exact dt_can ⟨rfl, rfl, rfl, rfl, rfl, rfl, rfl, rfl, rfl, rfl, rfl, trivial⟩ rfl
     ·show gRun _ _ _ _ _ z24 (fun st' => Ghost _ _ st' z39)
      rw [ez24, ez39]; simp only [go_sem, seval]; exact dt_can ⟨rfl, rfl, rfl, rfl, rfl, rfl, rfl, rfl, rfl, rfl, rfl, trivial⟩ rfl
     ·show gRun _ _ _ _ _ z25 (fun st' => Ghost _ _ st' z36)
      rw [ez25, ez36]; simp only [go_sem, seval]; exact dt_can ⟨rfl, rfl, rfl, rfl, rfl, rfl, rfl, rfl, rfl, rfl, rfl, rfl, rfl, trivial⟩ rfl
     ·show gRun _ _ _ _ _ z25 (fun st' => Ghost _ _ st' z38)
      rw [ez25, ez38]; simp only [go_sem, seval]; exact gD12
     ·show gRun _ _ _ _ _ z25 (fun st' => Ghost _ _ st' z40)
      rw [ez25, ez40]; simp only [go_sem, seval]; exact gD11
     ·show gRun _ _ _ _ _ z26 (fun st' => Ghost _ _ st' z37)
      rw [ez26, ez37]; simp only [go_sem, seval]; exact dt_can ⟨rfl, rfl, rfl, rfl, rfl, rfl, rfl, rfl, rfl, rfl, rfl, rfl, trivial⟩ rfl
     ·show gRun _ _ _ _ _ z26 (fun st' => Ghost _ _ st' z39)
      rw [ez26, ez39]; simp only [go_sem, seval]; exact gD11
     ·show gRun _ _ _ _ _ z26 (fun st' => Ghost _ _ st' z40)
      rw [ez26, ez40]; simp only [go_sem, seval]; exact gD11
     ·show gRun _ _ _ _ _ z27 (fun st' => Ghost _ _ st' z41)
      rw [ez27, ez41]; simp only [go_sem, seval]; exact dt_can ⟨rfl, rfl, rfl, rfl, rfl, rfl, rfl, rfl, rfl, rfl, rfl, rfl, trivial⟩ rfl
     ·show gRun _ _ _ _ _ z27 (fun st' => Ghost _ _ st' z42)
      rw [ez27, ez42]; simp only [go_sem, seval]; exact gD11
     ·show gRun _ _ _ _ _ z28 (fun st' => Ghost _ _ st' z41)
      rw [ez28, ez41]; simp only [go_sem, seval]; exact gD12
     ·show gRun _ _ _ _ _ z28 (fun st' => Ghost _ _ st' z43)
      rw [ez28, ez43]; simp only [go_sem, seval]; exact gD13
     ·show gRun _ _ _ _ _ z28 (fun st' => Ghost _ _ st' z44)
      rw [ez28, ez44]; simp only [go_sem, seval]; exact gD13
     ·show gRun _ _ _ _ _ z29 (fun st' => Ghost _ _ st' z42)
      rw [ez29, ez42]; simp only [go_sem, seval]; exact gD11
     ·show gRun _ _ _ _ _ z29 (fun st' => Ghost _ _ st' z44)
      rw [ez29, ez44]; simp only [go_sem, seval]; exact dt_can ⟨rfl, rfl, rfl, rfl, rfl, rfl, rfl, rfl, rfl, rfl, rfl, rfl, rfl, trivial⟩ rfl
     ·show gRun _ _ _ _ _ z29 (fun st' => Ghost _ _ st' z45)
      rw [ez29, ez45]; simp only [go_sem, seval]; exact gD11
     ·show gRun _ _ _ _ _ z30 (fun st' => Ghost _ _ st' z43)
      rw [ez30, ez43]; simp only [go_sem, seval]; exact gD13
     ·show gRun _ _ _ _ _ z30 (fun st' => Ghost _ _ st' z46)
      rw [ez30, ez46]; simp only [go_sem, seval]; exact gD13
     ·show gRun _ _ _ _ _ z31 (fun st' => Ghost _ _ st' z44)
      rw [ez31, ez44]; simp only [go_sem, seval]; exact gD13
     ·show gRun _ _ _ _ _ z31 (fun st' => Ghost _ _ st' z46)
      rw [ez31, ez46]; simp only [go_sem, seval]; exact gD13
     ·show gRun _ _ _ _ _ z31 (fun st' => Ghost _ _ st' z47)
      rw [ez31, ez47]; simp only [go_sem, seval]; exact gD12
     ·show gRun _ _ _ _ _ z32 (fun st' => Ghost _ _ st' z45)
      rw [ez32, ez45]; simp only [go_sem, seval]; exact gD11
     ·show gRun _ _ _ _ _ z32 (fun st' => Ghost _ _ st' z47)
      rw [ez32, ez47]; simp only [go_sem, seval]; exact dt_can ⟨rfl, rfl, rfl, rfl, rfl, rfl, rfl, rfl, rfl, rfl, rfl, rfl, trivial⟩ rfl
     ·show gRun _ _ _ _ _ z33 (fun st' => Ghost _ _ st' z43)
      rw [ez33, ez43]; simp only [go_sem, seval]; exact gD13
     ·show gRun _ _ _ _ _ z33 (fun st' => Ghost _ _ st' z48)
      rw [ez33, ez48]; simp only [go_sem, seval]; exact gD13
     ·show gRun _ _ _ _ _ z34 (fun st' => Ghost _ _ st' z44)
      rw [ez34, ez44]; simp only [go_sem, seval]; exact gD13
     ·show gRun _ _ _ _ _ z34 (fun st' => Ghost _ _ st' z48)
      rw [ez34, ez48]; simp only [go_sem, seval]; exact gD13
     ·show gRun _ _ _ _ _ z34 (fun st' => Ghost _ _ st' z49)
      rw [ez34, ez49]; simp only [go_sem, seval]; exact gD12
     ·show gRun _ _ _ _ _ z35 (fun st' => Ghost _ _ st' z45)
      rw [ez35, ez45]; simp only [go_sem, seval]; exact gD11
     ·show gRun _ _ _ _ _ z35 (fun st' => Ghost _ _ st' z49)
      rw [ez35, ez49]; simp only [go_sem, seval]; exact dt_can ⟨rfl, rfl, rfl, rfl, rfl, rfl, rfl, rfl, rfl, rfl, rfl, rfl, trivial⟩ rfl
     ·show gRun _ _ _ _ _ z36 (fun st' => Ghost _ _ st' z46)
      rw [ez36, ez46]; simp only [go_sem, seval]; exact gD13
     ·show gRun _ _ _ _ _ z36 (fun st' => Ghost _ _ st' z48)
      rw [ez36, ez48]; simp only [go_sem, seval]; exact gD13
     ·show gRun _ _ _ _ _ z36 (fun st' => Ghost _ _ st' z50)
      rw [ez36, ez50]; simp only [go_sem, seval]; exact gD12
     ·show gRun _ _ _ _ _ z37 (fun st' => Ghost _ _ st' z47)
      rw [ez37, ez47]; simp only [go_sem, seval]; exact gD12
     ·show gRun _ _ _ _ _ z37 (fun st' => Ghost _ _ st' z49)
      rw [ez37, ez49]; simp only [go_sem, seval]; exact gD12
     ·show gRun _ _ _ _ _ z37 (fun st' => Ghost _ _ st' z50)
      rw [ez37, ez50]; simp only [go_sem, seval]; exact gD12
     ·show gRun _ _ _ _ _ z38 (fun st' => Ghost _ _ st' z48)
      rw [ez38, ez48]; simp only [go_sem, seval]; exact dt_can ⟨rfl, rfl, rfl, rfl, rfl, rfl, rfl, rfl, rfl, rfl, rfl, rfl, rfl, trivial⟩ rfl
     ·show gRun _ _ _ _ _ z38 (fun st' => Ghost _ _ st' z51)
      rw [ez38, ez51]; simp only [go_sem, seval]; exact gD11
     ·show gRun _ _ _ _ _ z39 (fun st' => Ghost _ _ st' z49)
      rw [ez39, ez49]; simp only [go_sem, seval]; exact dt_can ⟨rfl, rfl, rfl, rfl, rfl, rfl, rfl, rfl, rfl, rfl, rfl, rfl, trivial⟩ rfl
     ·show gRun _ _ _ _ _ z39 (fun st' => Ghost _ _ st' z51)
      rw [ez39, ez51]; simp only [go_sem, seval]; exact gD11
     ·show gRun _ _ _ _ _ z40 (fun st' => Ghost _ _ st' z50)
      rw [ez40, ez50]; simp only [go_sem, seval]; exact dt_can ⟨rfl, rfl, rfl, rfl, rfl, rfl, rfl, rfl, rfl, rfl, rfl, rfl, trivial⟩ rfl
     ·show gRun _ _ _ _ _ z40 (fun st' => Ghost _ _ st' z51)
      rw [ez40, ez51]; simp only [go_sem, seval]; exact gD11
     ·show gRun _ _ _ _ _ z41 (fun st' => Ghost _ _ st' z52)
      rw [ez41, ez52]; simp only [go_sem, seval]; exact gD12
     ·show gRun _ _ _ _ _ z41 (fun st' => Ghost _ _ st' z53)
      rw [ez41, ez53]; simp only [go_sem, seval]; exact gD12
     ·show gRun _ _ _ _ _ z42 (fun st' => Ghost _ _ st' z53)
      rw [ez42, ez53]; simp only [go_sem, seval]; exact dt_can ⟨rfl, rfl, rfl, rfl, rfl, rfl, rfl, rfl, rfl, rfl, rfl, rfl, trivial⟩ rfl
     ·show gRun _ _ _ _ _ z42 (fun st' => Ghost _ _ st' z54)
      rw [ez42, ez54]; simp only [go_sem, seval]; exact gD10
     ·show gRun _ _ _ _ _ z43 (fun st' => Ghost _ _ st' z52)
      rw [ez43, ez52]; simp only [go_sem, seval]; exact gD12
     ·show gRun _ _ _ _ _ z43 (fun st' => Ghost _ _ st' z55)
      rw [ez43, ez55]; simp only [go_sem, seval]; exact gD13
     ·show gRun _ _ _ _ _ z44 (fun st' => Ghost _ _ st' z53)
      rw [ez44, ez53]; simp only [go_sem, seval]; exact gD12
     ·show gRun _ _ _ _ _ z44 (fun st' => Ghost _ _ st' z55)
      rw [ez44, ez55]; simp only [go_sem, seval]; exact gD13
     ·show gRun _ _ _ _ _ z44 (fun st' => Ghost _ _ st' z56)
      rw [ez44, ez56]; simp only [go_sem, seval]; exact gD12
     ·show gRun _ _ _ _ _ z45 (fun st' => Ghost _ _ st' z54)
      rw [ez45, ez54]; simp only [go_sem, seval]; exact gD10
     ·show gRun _ _ _ _ _ z45 (fun st' => Ghost _ _ st' z56)
      rw [ez45, ez56]; simp only [go_sem, seval]; exact dt_can ⟨rfl, rfl, rfl, rfl, rfl, rfl, rfl, rfl, rfl, rfl, rfl, rfl, trivial⟩ rfl
     ·show gRun _ _ _ _ _ z46 (fun st' => Ghost _ _ st' z55)
      rw [ez46, ez55]; simp only [go_sem, seval]; exact gD13
     ·show gRun _ _ _ _ _ z46 (fun st' => Ghost _ _ st' z57)
      rw [ez46, ez57]; simp only [go_sem, seval]; exact gD12
     ·show gRun _ _ _ _ _ z47 (fun st' => Ghost _ _ st' z56)
      rw [ez47, ez56]; simp only [go_sem, seval]; exact gD12
     ·show gRun _ _ _ _ _ z47 (fun st' => Ghost _ _ st' z57)
      rw [ez47, ez57]; simp only [go_sem, seval]; exact gD12
     ·show gRun _ _ _ _ _ z48 (fun st' => Ghost _ _ st' z55)
      rw [ez48, ez55]; simp only [go_sem, seval]; exact gD13
     ·show gRun _ _ _ _ _ z48 (fun st' => Ghost _ _ st' z58)
      rw [ez48, ez58]; simp only [go_sem, seval]; exact gD12
     ·show gRun _ _ _ _ _ z49 (fun st' => Ghost _ _ st' z56)
      rw [ez49, ez56]; simp only [go_sem, seval]; exact gD12
     ·show gRun _ _ _ _ _ z49 (fun st' => Ghost _ _ st' z58)
      rw [ez49, ez58]; simp only [go_sem, seval]; exact gD12
     ·show gRun _ _ _ _ _ z50 (fun st' => Ghost _ _ st' z57)
      rw [ez50, ez57]; simp only [go_sem, seval]; exact gD12
     ·show gRun _ _ _ _ _ z50 (fun st' => Ghost _ _ st' z58)
      rw [ez50, ez58]; simp only [go_sem, seval]; exact gD12
     ·show gRun _ _ _ _ _ z51 (fun st' => Ghost _ _ st' z58)
      rw [ez51, ez58]; simp only [go_sem, seval]; exact dt_can ⟨rfl, rfl, rfl, rfl, rfl, rfl, rfl, rfl, rfl, rfl, rfl, rfl, trivial⟩ rfl
     ·show gRun _ _ _ _ _ z52 (fun st' => Ghost _ _ st' z59)
      rw [ez52, ez59]; simp only [go_sem, seval]; exact gD12
     ·show gRun _ _ _ _ _ z52 (fun st' => Ghost _ _ st' z60)
      rw [ez52, ez60]; simp only [go_sem, seval]; exact dt_can ⟨rfl, rfl, rfl, rfl, rfl, rfl, rfl, rfl, rfl, rfl, rfl, rfl, rfl, trivial⟩ rfl
     ·show gRun _ _ _ _ _ z53 (fun st' => Ghost _ _ st' z59)
      rw [ez53, ez59]; simp only [go_sem, seval]; exact gD12
     ·show gRun _ _ _ _ _ z53 (fun st' => Ghost _ _ st' z61)
      rw [ez53, ez61]; simp only [go_sem, seval]; exact gD11
     ·show gRun _ _ _ _ _ z54 (fun st' => Ghost _ _ st' z61)
      rw [ez54, ez61]; simp only [go_sem, seval]; exact dt_can ⟨rfl, rfl, rfl, rfl, rfl, rfl, rfl, rfl, rfl, rfl, rfl, trivial⟩ rfl
     ·show gRun _ _ _ _ _ z54 (fun st' => Ghost _ _ st' z62)
      rw [ez54, ez62]; simp only [go_sem, seval]; repeat' (first | exact dt_can ⟨rfl, rfl, rfl, rfl, rfl, rfl, rfl, rfl, rfl, trivial⟩ rfl | with_reducible refine And.intro ?_ ?_ | omega | ((first | refine fcall_data (hp0) rfl ?_ | refine YR_intro (acall_data (hp0) rfl) ?_); simp only [go_sem, seval]))
     ·show gRun _ _ _ _ _ z55 (fun st' => Ghost _ _ st' z59)
      rw [ez55, ez59]; simp only [go_sem, seval]; exact gD12
     ·show gRun _ _ _ _ _ z55 (fun st' => Ghost _ _ st' z63)
      rw [ez55, ez63]; simp only [go_sem, seval]; exact gD12
     ·show gRun _ _ _ _ _ z56 (fun st' => Ghost _ _ st' z61)
      rw [ez56, ez61]; simp only [go_sem, seval]; exact gD11
     ·show gRun _ _ _ _ _ z56 (fun st' => Ghost _ _ st' z63)
      rw [ez56, ez63]; simp only [go_sem, seval]; exact gD12
     ·show gRun _ _ _ _ _ z57 (fun st' => Ghost _ _ st' z63)
      rw [ez57, ez63]; simp only [go_sem, seval]; exact gD12
     ·show gRun _ _ _ _ _ z58 (fun st' => Ghost _ _ st' z63)
      rw [ez58, ez63]; simp only [go_sem, seval]; exact gD12
     ·show gRun _ _ _ _ _ z59 (fun st' => Ghost _ _ st' z64)
      rw [ez59, ez64]; simp only [go_sem, seval]; exact gD11
     ·show gRun _ _ _ _ _ z59 (fun st' => Ghost _ _ st' z65)
      rw [ez59, ez65]; simp only [go_sem, seval]; exact dt_can ⟨rfl, rfl, rfl, rfl, rfl, rfl, rfl, rfl, rfl, rfl, rfl, rfl, rfl, trivial⟩ rfl
     ·show gRun _ _ _ _ _ z60 (fun st' => Ghost _ _ st' z65)
      rw [ez60, ez65]; simp only [go_sem, seval]; exact gD13
     ·show gRun _ _ _ _ _ z61 (fun st' => Ghost _ _ st' z64)
      rw [ez61, ez64]; simp only [go_sem, seval]; exact gD11
     ·show gRun _ _ _ _ _ z61 (fun st' => Ghost _ _ st' z66)
      rw [ez61, ez66]; simp only [go_sem, seval]; repeat' (first | exact dt_can ⟨rfl, rfl, rfl, rfl, rfl, rfl, rfl, rfl, rfl, rfl, trivial⟩ rfl | with_reducible refine And.intro ?_ ?_ | omega | ((first | refine fcall_data (hp0) rfl ?_ | refine YR_intro (acall_data (hp0) rfl) ?_); simp only [go_sem, seval]))
     ·show gRun _ _ _ _ _ z62 (fun st' => Ghost _ _ st' z66)
      rw [ez62, ez66]; simp only [go_sem, seval]; exact dt_can ⟨rfl, rfl, rfl, rfl, rfl, rfl, rfl, rfl, rfl, rfl, trivial⟩ rfl
     ·show gRun _ _ _ _ _ z62 (fun st' => Ghost _ _ st' z67)
      rw [ez62, ez67]; simp only [go_sem, seval]; exact gD9
     ·show gRun _ _ _ _ _ z63 (fun st' => Ghost _ _ st' z64)
      rw [ez63, ez64]; simp only [go_sem, seval]; exact gD11
     ·show gRun _ _ _ _ _ z64 (fun st' => Ghost _ _ st' z68)
      rw [ez64, ez68]; simp only [go_sem, seval]; repeat' (first | exact dt_can ⟨rfl, rfl, rfl, rfl, rfl, rfl, rfl, rfl, rfl, rfl, trivial⟩ rfl | with_reducible refine And.intro ?_ ?_ | omega | ((first | refine fcall_data (hp0) rfl ?_ | refine YR_intro (acall_data (hp0) rfl) ?_); simp only [go_sem, seval]))
     ·show gRun _ _ _ _ _ z64 (fun st' => Ghost _ _ st' z69)
      rw [ez64, ez69]; simp only [go_sem, seval]; exact dt_can ⟨rfl, rfl, rfl, rfl, rfl, rfl, rfl, rfl, rfl, rfl, rfl, rfl, trivial⟩ rfl
     ·show gRun _ _ _ _ _ z65 (fun st' => Ghost _ _ st' z69)
      rw [ez65, ez69]; simp only [go_sem, seval]; exact gD12
     ·show gRun _ _ _ _ _ z66 (fun st' => Ghost _ _ st' z68)
      rw [ez66, ez68]; simp only [go_sem, seval]; exact gD10
     ·show gRun _ _ _ _ _ z66 (fun st' => Ghost _ _ st' z70)
      rw [ez66, ez70]; simp only [go_sem, seval]; exact gD10
     ·show gRun _ _ _ _ _ z67 (fun st' => Ghost _ _ st' z70)
      rw [ez67, ez70]; simp only [go_sem, seval]; exact dt_can ⟨rfl, rfl, rfl, rfl, rfl, rfl, rfl, rfl, rfl, rfl, trivial⟩ rfl
     ·show gRun _ _ _ _ _ z68 (fun st' => Ghost _ _ st' z71)
      rw [ez68, ez71]; simp only [go_sem, seval]; exact gD10
     ·show gRun _ _ _ _ _ z68 (fun st' => Ghost _ _ st' z72)
      rw [ez68, ez72]; simp only [go_sem, seval]; exact dt_can ⟨rfl, rfl, rfl, rfl, rfl, rfl, rfl, rfl, rfl, rfl, rfl, trivial⟩ rfl
     ·show gRun _ _ _ _ _ z69 (fun st' => Ghost _ _ st' z72)
      rw [ez69, ez72]; simp only [go_sem, seval]; repeat' (first | exact dt_can ⟨rfl, rfl, rfl, rfl, rfl, rfl, rfl, rfl, rfl, rfl, rfl, trivial⟩ rfl | with_reducible refine And.intro ?_ ?_ | omega | ((first | refine fcall_data (hp0) rfl ?_ | refine YR_intro (acall_data (hp0) rfl) ?_); simp only [go_sem, seval]))
     ·show gRun _ _ _ _ _ z70 (fun st' => Ghost _ _ st' z71)
      rw [ez70, ez71]; simp only [go_sem, seval]; exact gD10
     ·show gRun _ _ _ _ _ z71 (fun st' => Ghost _ _ st' z73)
      rw [ez71, ez73]; simp only [go_sem, seval]; exact gD9
     ·show gRun _ _ _ _ _ z71 (fun st' => Ghost _ _ st' z74)
      rw [ez71, ez74]; simp only [go_sem, seval]; exact dt_can ⟨rfl, rfl, rfl, rfl, rfl, rfl, rfl, rfl, rfl, rfl, rfl, trivial⟩ rfl
     ·show gRun _ _ _ _ _ z72 (fun st' => Ghost _ _ st' z74)
      rw [ez72, ez74]; simp only [go_sem, seval]; exact gD11
     ·show gRun _ _ _ _ _ z73 (fun st' => Ghost _ _ st' z75)
      rw [ez73, ez75]; simp only [go_sem, seval]; exact dt_can ⟨rfl, rfl, rfl, rfl, rfl, rfl, rfl, rfl, rfl, rfl, trivial⟩ rfl
     ·show gRun _ _ _ _ _ z74 (fun st' => Ghost _ _ st' z75)
      rw [ez74, ez75]; simp only [go_sem, seval]; exact gD10
     ·show gRun _ _ _ _ _ z75 (fun st' => Ghost _ _ st' z76)
      rw [ez75, ez76]; simp only [go_sem, seval]; exact gD8
     ·show gRun _ _ _ _ _ z76 (fun st' => Ghost _ _ st' z77)
      rw [ez76, ez77]; simp only [go_sem, seval]; exact dt_can ⟨rfl, rfl, rfl, rfl, rfl, rfl, rfl, rfl, rfl, trivial⟩ rfl
     ·show gRun _ _ _ _ _ z77 (fun st' => Ghost _ _ st' z78)
      rw [ez77, ez78]; simp only [go_sem, seval]; exact gD7
    show ATs _ _ _ _ _ z78
    rw [ez78]
    clear ez0 ez1 ez2 ez3 ez4 ez5 ez6 ez7 ez8 ez9 ez10 ez11 ez12 ez13 ez14 ez15 ez16 ez17 ez18 ez19 ez20 ez21 ez22 ez23 ez24 ez25 ez26 ez27 ez28 ez29 ez30 ez31 ez32 ez33 ez34 ez35 ez36 ez37 ez38 ez39 ez40 ez41 ez42 ez43 ez44 ez45 ez46 ez47 ez48 ez49 ez50 ez51 ez52 ez53 ez54 ez55 ez56 ez57 ez58 ez59 ez60 ez61 ez62 ez63 ez64 ez65 ez66 ez67 ez68 ez69 ez70 ez71 ez72 ez73 ez74 ez75 ez76 ez77 ez78 z0 z1 z2 z3 z4 z5 z6 z7 z8 z9 z10 z11 z12 z13 z14 z15 z16 z17 z18 z19 z20 z21 z22 z23 z24 z25 z26 z27 z28 z29 z30 z31 z32 z33 z34 z35 z36 z37 z38 z39 z40 z41 z42 z43 z44 z45 z46 z47 z48 z49 z50 z51 z52 z53 z54 z55 z56 z57 z58 z59 z60 z61 z62 z63 z64 z65 z66 z67 z68 z69 z70 z71 z72 z73 z74 z75 z76 z77 z78
    refine gB ?_
    refine ⟨some 1, ⟨Nat.le_refl _, by omega⟩, by show y - 1 < y + 1; omega, .inr ⟨[6], by simp only [killL, List.map_cons, List.map_nil, killA, killAs, qOf, rmT, killH, killT, List.filter_cons, List.filter_nil, List.contains_cons, List.contains_nil, SlotsLe, St.get, slotGet, Nat.reduceEqDiff, Nat.reduceBEq, Bool.or_false, Bool.or_true, Bool.false_and, Bool.not_true, Bool.not_false, Bool.false_eq_true, ↓reduceIte, if_true, if_false, AV.int.injEq, AV.bool.injEq, AV.l1.injEq, AV.l2.injEq, AV.l3.injEq, true_and, and_true]; (rw [Nat.one_mul]; omega), by simp only [killL, List.map_cons, List.map_nil, killA, killAs, qOf, rmT, killH, killT, List.filter_cons, List.filter_nil, List.contains_cons, List.contains_nil, SlotsLe, St.get, slotGet, Nat.reduceEqDiff, Nat.reduceBEq, Bool.or_false, Bool.or_true, Bool.false_and, Bool.not_true, Bool.not_false, Bool.false_eq_true, ↓reduceIte, if_true, if_false, AV.int.injEq, AV.bool.injEq, AV.l1.injEq, AV.l2.injEq, AV.l3.injEq, true_and, and_true]; rfl⟩⟩
  ·omega
 | some x =>
  dsimp only at ho ⊢
  have hlm := matF_length x n (sG st q)
  have hlr := rowF_length x (tG st zt)
  have hlx := hlt x
  refine gB ?_
  refine gI (fun hc2 => ?_) fun hc2 => ?_
  ·have hx : x < n := by omega
   refine ats_skip ?_
   (repeat refine ats_seq ?_); refine ats_block ?_
   refine gB ?_
   refine gB ?_
   (repeat refine ats_seq ?_); refine ats_loop (fun y : Nat => ⟨[(0, .int (k : Int)), (2, .int (st : Int)), (6, .bptr 0 0), (8, .int zt), (10, .fn 59 [.bptr 1 0]), (11, .bptr 2 0), (12, .int ((x * st : Nat) : Int)), (13, .ref 8 []), (14, .int ((y * st : Nat) : Int))], [(0, .bx [.nil, .nil]), (1, .bx [.int q]), (2, .bx [.ref 5 [], .ref 7 []]), (5, .t2 (matF x n (sG st q))), (7, .t1 (rowF x (tG st zt))), (8, .t1 (rowF y (sG st q x)))]⟩) (fun y => y ≤ n) (fun y => n - y) 0 (Nat.zero_le _) (by refine And.intro ?_ rfl; simp only [leS, Nat.reduceEqDiff, ↓reduceIte, true_and, and_true]; repeat' (first | rfl | with_reducible refine And.intro ?_ ?_ | omega)) (fun y hy => ?_)
   have hl := rowF_length y (sG st q x)
   have hly := hlt y
   refine gB ?_
   refine gI (fun hc3 => ?_) fun hc3 => ?_
   ·have hy : y < n := by omega
    have ea := cast_mul1 (x * st) (y * st)
    have hab : (x * st + 1) * (y * st + 1) ≤ 10000 := Nat.le_trans (Nat.mul_le_mul (show x * st + 1 ≤ 32 by omega) (show y * st + 1 ≤ 32 by omega)) (by omega)
    have hqa : PureCall Try.prog 59 [.int (((x * st + 1) * (y * st + 1) : Nat) : Int), .cptr [.int q] 0] (.int (sG st q x y)) := hQ _ hab
    have u3 : InP (sG st q x y) := inP_md _
    generalize (x * st + 1) * (y * st + 1) = a at ea hab hqa
    unfold InP at u3
    refine ats_skip ?_
    (repeat refine ats_seq ?_); refine ats_block ?_
    (repeat refine ats_seq ?_); refine ats_go (fix0 hcx) fun K hK => ?_; simp only [go_sem, seval, ea]
    (repeat refine aI (hb := ?_))
    first | refine fcall_free rfl rfl (hqa) ?_ | refine YR_intro (acall_free rfl rfl (hqa)) ?_
    simp only [go_sem, seval]
    simp only [hl]
    (repeat refine aI (hb := ?_))
    refine hK _ ?_; clear hK K
    refine gB ?_
    refine ⟨y + 1, by omega, by omega, .inr ⟨[9], by simp only [killL, List.map_cons, List.map_nil, killA, killAs, qOf, rmT, killH, killT, List.filter_cons, List.filter_nil, List.contains_cons, List.contains_nil, SlotsLe, St.get, slotGet, Nat.reduceEqDiff, Nat.reduceBEq, Bool.or_false, Bool.or_true, Bool.false_and, Bool.not_true, Bool.not_false, Bool.false_eq_true, ↓reduceIte, if_true, if_false, AV.int.injEq, AV.bool.injEq, AV.l1.injEq, AV.l2.injEq, AV.l3.injEq, true_and, and_true]; (first | (have := hsu y; omega) | omega), by simp only [killL, List.map_cons, List.map_nil, killA, killAs, qOf, rmT, killH, killT, List.filter_cons, List.filter_nil, List.contains_cons, List.contains_nil, SlotsLe, St.get, slotGet, Nat.reduceEqDiff, Nat.reduceBEq, Bool.or_false, Bool.or_true, Bool.false_and, Bool.not_true, Bool.not_false, Bool.false_eq_true, ↓reduceIte, if_true, if_false, AV.int.injEq, AV.bool.injEq, AV.l1.injEq, AV.l2.injEq, AV.l3.injEq, true_and, and_true]; rw [rowF_succ]⟩⟩
   ·obtain rfl : y = n := by omega
    have hxb : x * st * (x * st + 2) ≤ 10000 := Nat.le_trans (Nat.mul_le_mul (show x * st ≤ 31 by omega) (show x * st + 2 ≤ 33 by omega)) (by omega)
    have hpx : PureCall Try.prog 28 [.int zt, .int ((x * st * (x * st + 2) : Nat) : Int)] (.int (tG st zt x)) := hpw3 _ hxb
    have ecm := cast_mul2 (x * st)
    refine ats_exit (lq_x ?_)
    generalize x * st * (x * st + 2) = w at hxb hpx ecm
    (repeat refine ats_seq ?_)
    obtain ⟨z0, ez0⟩ : ∃ z : St, z = ⟨[(0, .int (k : Int)), (2, .int (st : Int)), (6, .bptr 0 0), (8, .int zt), (10, .fn 59 [.bptr 1 0]), (11, .bptr 2 0), (12, .int ((x * st : Nat) : Int)), (53, .ref 8 []), (58, .int zt), (59, .int ((x * st : Nat) : Int)), (60, .int ((x * st : Nat) : Int))], [(0, .bx [.nil, .nil]), (1, .bx [.int q]), (2, .bx [.ref 5 [], .ref 7 []]), (5, .t2 (matF x y (sG st q))), (7, .t1 (rowF x (tG st zt))), (8, .t1 (rowF y (sG st q x)))]⟩ := ⟨_, rfl⟩
    obtain ⟨z1, ez1⟩ : ∃ z : St, z = ⟨[(0, .int (k : Int)), (2, .int (st : Int)), (6, .bptr 0 0), (8, .int zt), (10, .fn 59 [.bptr 1 0]), (11, .bptr 2 0), (12, .int ((x * st : Nat) : Int)), (51, .bptr 2 0), (53, .ref 8 []), (58, .int zt), (59, .int ((x * st : Nat) : Int)), (60, .int ((x * st : Nat) : Int))], [(0, .bx [.nil, .nil]), (1, .bx [.int q]), (2, .bx [.ref 5 [], .ref 7 []]), (5, .t2 (matF x y (sG st q))), (7, .t1 (rowF x (tG st zt))), (8, .t1 (rowF y (sG st q x)))]⟩ := ⟨_, rfl⟩
    obtain ⟨z2, ez2⟩ : ∃ z : St, z = ⟨[(0, .int (k : Int)), (2, .int (st : Int)), (6, .bptr 0 0), (8, .int zt), (10, .fn 59 [.bptr 1 0]), (11, .bptr 2 0), (12, .int ((x * st : Nat) : Int)), (54, .ref 9 []), (58, .int zt), (59, .int ((x * st : Nat) : Int)), (60, .int ((x * st : Nat) : Int))], [(0, .bx [.nil, .nil]), (1, .bx [.int q]), (2, .bx [.ref 5 [], .ref 7 []]), (5, .t2 (matF x y (sG st q))), (7, .t1 (rowF x (tG st zt))), (9, .t2 [rowF y (sG st q x)])]⟩ := ⟨_, rfl⟩
    obtain ⟨z3, ez3⟩ : ∃ z : St, z = ⟨[(0, .int (k : Int)), (2, .int (st : Int)), (6, .bptr 0 0), (8, .int zt), (10, .fn 59 [.bptr 1 0]), (11, .bptr 2 0), (12, .int ((x * st : Nat) : Int)), (53, .ref 8 []), (56, .bptr 2 1), (58, .int zt), (59, .int ((x * st : Nat) : Int)), (60, .int ((x * st : Nat) : Int))], [(0, .bx [.nil, .nil]), (1, .bx [.int q]), (2, .bx [.ref 5 [], .ref 7 []]), (5, .t2 (matF x y (sG st q))), (7, .t1 (rowF x (tG st zt))), (8, .t1 (rowF y (sG st q x)))]⟩ := ⟨_, rfl⟩
    obtain ⟨z4, ez4⟩ : ∃ z : St, z = ⟨[(0, .int (k : Int)), (2, .int (st : Int)), (6, .bptr 0 0), (8, .int zt), (10, .fn 59 [.bptr 1 0]), (11, .bptr 2 0), (12, .int ((x * st : Nat) : Int)), (53, .ref 8 []), (58, .int zt), (59, .int ((x * st : Nat) : Int)), (61, .int (((x * st : Nat) : Int) + 2))], [(0, .bx [.nil, .nil]), (1, .bx [.int q]), (2, .bx [.ref 5 [], .ref 7 []]), (5, .t2 (matF x y (sG st q))), (7, .t1 (rowF x (tG st zt))), (8, .t1 (rowF y (sG st q x)))]⟩ := ⟨_, rfl⟩
    obtain ⟨z5, ez5⟩ : ∃ z : St, z = ⟨[(0, .int (k : Int)), (2, .int (st : Int)), (6, .bptr 0 0), (8, .int zt), (10, .fn 59 [.bptr 1 0]), (11, .bptr 2 0), (12, .int ((x * st : Nat) : Int)), (52, .ref 5 []), (53, .ref 8 []), (58, .int zt), (59, .int ((x * st : Nat) : Int)), (60, .int ((x * st : Nat) : Int))], [(0, .bx [.nil, .nil]), (1, .bx [.int q]), (2, .bx [.ref 5 [], .ref 7 []]), (5, .t2 (matF x y (sG st q))), (7, .t1 (rowF x (tG st zt))), (8, .t1 (rowF y (sG st q x)))]⟩ := ⟨_, rfl⟩
    obtain ⟨z6, ez6⟩ : ∃ z : St, z = ⟨[(0, .int (k : Int)), (2, .int (st : Int)), (6, .bptr 0 0), (8, .int zt), (10, .fn 59 [.bptr 1 0]), (11, .bptr 2 0), (12, .int ((x * st : Nat) : Int)), (51, .bptr 2 0), (54, .ref 9 []), (58, .int zt), (59, .int ((x * st : Nat) : Int)), (60, .int ((x * st : Nat) : Int))], [(0, .bx [.nil, .nil]), (1, .bx [.int q]), (2, .bx [.ref 5 [], .ref 7 []]), (5, .t2 (matF x y (sG st q))), (7, .t1 (rowF x (tG st zt))), (9, .t2 [rowF y (sG st q x)])]⟩ := ⟨_, rfl⟩
    obtain ⟨z7, ez7⟩ : ∃ z : St, z = ⟨[(0, .int (k : Int)), (2, .int (st : Int)), (6, .bptr 0 0), (8, .int zt), (10, .fn 59 [.bptr 1 0]), (11, .bptr 2 0), (12, .int ((x * st : Nat) : Int)), (51, .bptr 2 0), (53, .ref 8 []), (56, .bptr 2 1), (58, .int zt), (59, .int ((x * st : Nat) : Int)), (60, .int ((x * st : Nat) : Int))], [(0, .bx [.nil, .nil]), (1, .bx [.int q]), (2, .bx [.ref 5 [], .ref 7 []]), (5, .t2 (matF x y (sG st q))), (7, .t1 (rowF x (tG st zt))), (8, .t1 (rowF y (sG st q x)))]⟩ := ⟨_, rfl⟩
    obtain ⟨z8, ez8⟩ : ∃ z : St, z = ⟨[(0, .int (k : Int)), (2, .int (st : Int)), (6, .bptr 0 0), (8, .int zt), (10, .fn 59 [.bptr 1 0]), (11, .bptr 2 0), (12, .int ((x * st : Nat) : Int)), (51, .bptr 2 0), (53, .ref 8 []), (58, .int zt), (59, .int ((x * st : Nat) : Int)), (61, .int (((x * st : Nat) : Int) + 2))], [(0, .bx [.nil, .nil]), (1, .bx [.int q]), (2, .bx [.ref 5 [], .ref 7 []]), (5, .t2 (matF x y (sG st q))), (7, .t1 (rowF x (tG st zt))), (8, .t1 (rowF y (sG st q x)))]⟩ := ⟨_, rfl⟩
    obtain ⟨z9, ez9⟩ : ∃ z : St, z = ⟨[(0, .int (k : Int)), (2, .int (st : Int)), (6, .bptr 0 0), (8, .int zt), (10, .fn 59 [.bptr 1 0]), (11, .bptr 2 0), (12, .int ((x * st : Nat) : Int)), (54, .ref 9 []), (56, .bptr 2 1), (58, .int zt), (59, .int ((x * st : Nat) : Int)), (60, .int ((x * st : Nat) : Int))], [(0, .bx [.nil, .nil]), (1, .bx [.int q]), (2, .bx [.ref 5 [], .ref 7 []]), (5, .t2 (matF x y (sG st q))), (7, .t1 (rowF x (tG st zt))), (9, .t2 [rowF y (sG st q x)])]⟩ := ⟨_, rfl⟩
    obtain ⟨z10, ez10⟩ : ∃ z : St, z = ⟨[(0, .int (k : Int)), (2, .int (st : Int)), (6, .bptr 0 0), (8, .int zt), (10, .fn 59 [.bptr 1 0]), (11, .bptr 2 0), (12, .int ((x * st : Nat) : Int)), (54, .ref 9 []), (58, .int zt), (59, .int ((x * st : Nat) : Int)), (61, .int (((x * st : Nat) : Int) + 2))], [(0, .bx [.nil, .nil]), (1, .bx [.int q]), (2, .bx [.ref 5 [], .ref 7 []]), (5, .t2 (matF x y (sG st q))), (7, .t1 (rowF x (tG st zt))), (9, .t2 [rowF y (sG st q x)])]⟩ := ⟨_, rfl⟩
    obtain ⟨z11, ez11⟩ : ∃ z : St, z = ⟨[(0, .int (k : Int)), (2, .int (st : Int)), (6, .bptr 0 0), (8, .int zt), (10, .fn 59 [.bptr 1 0]), (11, .bptr 2 0), (12, .int ((x * st : Nat) : Int)), (53, .ref 8 []), (57, .ref 7 []), (58, .int zt), (59, .int ((x * st : Nat) : Int)), (60, .int ((x * st : Nat) : Int))], [(0, .bx [.nil, .nil]), (1, .bx [.int q]), (2, .bx [.ref 5 [], .ref 7 []]), (5, .t2 (matF x y (sG st q))), (7, .t1 (rowF x (tG st zt))), (8, .t1 (rowF y (sG st q x)))]⟩ := ⟨_, rfl⟩
    obtain ⟨z12, ez12⟩ : ∃ z : St, z = ⟨[(0, .int (k : Int)), (2, .int (st : Int)), (6, .bptr 0 0), (8, .int zt), (10, .fn 59 [.bptr 1 0]), (11, .bptr 2 0), (12, .int ((x * st : Nat) : Int)), (53, .ref 8 []), (56, .bptr 2 1), (58, .int zt), (59, .int ((x * st : Nat) : Int)), (61, .int (((x * st : Nat) : Int) + 2))], [(0, .bx [.nil, .nil]), (1, .bx [.int q]), (2, .bx [.ref 5 [], .ref 7 []]), (5, .t2 (matF x y (sG st q))), (7, .t1 (rowF x (tG st zt))), (8, .t1 (rowF y (sG st q x)))]⟩ := ⟨_, rfl⟩
    obtain ⟨z13, ez13⟩ : ∃ z : St, z = ⟨[(0, .int (k : Int)), (2, .int (st : Int)), (6, .bptr 0 0), (8, .int zt), (10, .fn 59 [.bptr 1 0]), (11, .bptr 2 0), (12, .int ((x * st : Nat) : Int)), (53, .ref 8 []), (58, .int zt), (62, .int ((w : Nat) : Int))], [(0, .bx [.nil, .nil]), (1, .bx [.int q]), (2, .bx [.ref 5 [], .ref 7 []]), (5, .t2 (matF x y (sG st q))), (7, .t1 (rowF x (tG st zt))), (8, .t1 (rowF y (sG st q x)))]⟩ := ⟨_, rfl⟩
    obtain ⟨z14, ez14⟩ : ∃ z : St, z = ⟨[(0, .int (k : Int)), (2, .int (st : Int)), (6, .bptr 0 0), (8, .int zt), (10, .fn 59 [.bptr 1 0]), (11, .bptr 2 0), (12, .int ((x * st : Nat) : Int)), (52, .ref 5 []), (54, .ref 9 []), (58, .int zt), (59, .int ((x * st : Nat) : Int)), (60, .int ((x * st : Nat) : Int))], [(0, .bx [.nil, .nil]), (1, .bx [.int q]), (2, .bx [.ref 5 [], .ref 7 []]), (5, .t2 (matF x y (sG st q))), (7, .t1 (rowF x (tG st zt))), (9, .t2 [rowF y (sG st q x)])]⟩ := ⟨_, rfl⟩
    obtain ⟨z15, ez15⟩ : ∃ z : St, z = ⟨[(0, .int (k : Int)), (2, .int (st : Int)), (6, .bptr 0 0), (8, .int zt), (10, .fn 59 [.bptr 1 0]), (11, .bptr 2 0), (12, .int ((x * st : Nat) : Int)), (52, .ref 5 []), (53, .ref 8 []), (56, .bptr 2 1), (58, .int zt), (59, .int ((x * st : Nat) : Int)), (60, .int ((x * st : Nat) : Int))], [(0, .bx [.nil, .nil]), (1, .bx [.int q]), (2, .bx [.ref 5 [], .ref 7 []]), (5, .t2 (matF x y (sG st q))), (7, .t1 (rowF x (tG st zt))), (8, .t1 (rowF y (sG st q x)))]⟩ := ⟨_, rfl⟩
    obtain ⟨z16, ez16⟩ : ∃ z : St, z = ⟨[(0, .int (k : Int)), (2, .int (st : Int)), (6, .bptr 0 0), (8, .int zt), (10, .fn 59 [.bptr 1 0]), (11, .bptr 2 0), (12, .int ((x * st : Nat) : Int)), (52, .ref 5 []), (53, .ref 8 []), (58, .int zt), (59, .int ((x * st : Nat) : Int)), (61, .int (((x * st : Nat) : Int) + 2))], [(0, .bx [.nil, .nil]), (1, .bx [.int q]), (2, .bx [.ref 5 [], .ref 7 []]), (5, .t2 (matF x y (sG st q))), (7, .t1 (rowF x (tG st zt))), (8, .t1 (rowF y (sG st q x)))]⟩ := ⟨_, rfl⟩
    obtain ⟨z17, ez17⟩ : ∃ z : St, z = ⟨[(0, .int (k : Int)), (2, .int (st : Int)), (6, .bptr 0 0), (8, .int zt), (10, .fn 59 [.bptr 1 0]), (11, .bptr 2 0), (12, .int ((x * st : Nat) : Int)), (51, .bptr 2 0), (54, .ref 9 []), (56, .bptr 2 1), (58, .int zt), (59, .int ((x * st : Nat) : Int)), (60, .int ((x * st : Nat) : Int))], [(0, .bx [.nil, .nil]), (1, .bx [.int q]), (2, .bx [.ref 5 [], .ref 7 []]), (5, .t2 (matF x y (sG st q))), (7, .t1 (rowF x (tG st zt))), (9, .t2 [rowF y (sG st q x)])]⟩ := ⟨_, rfl⟩
    obtain ⟨z18, ez18⟩ : ∃ z : St, z = ⟨[(0, .int (k : Int)), (2, .int (st : Int)), (6, .bptr 0 0), (8, .int zt), (10, .fn 59 [.bptr 1 0]), (11, .bptr 2 0), (12, .int ((x * st : Nat) : Int)), (51, .bptr 2 0), (54, .ref 9 []), (58, .int zt), (59, .int ((x * st : Nat) : Int)), (61, .int (((x * st : Nat) : Int) + 2))], [(0, .bx [.nil, .nil]), (1, .bx [.int q]), (2, .bx [.ref 5 [], .ref 7 []]), (5, .t2 (matF x y (sG st q))), (7, .t1 (rowF x (tG st zt))), (9, .t2 [rowF y (sG st q x)])]⟩ := ⟨_, rfl⟩
    obtain ⟨z19, ez19⟩ : ∃ z : St, z = ⟨[(0, .int (k : Int)), (2, .int (st : Int)), (6, .bptr 0 0), (8, .int zt), (10, .fn 59 [.bptr 1 0]), (11, .bptr 2 0), (12, .int ((x * st : Nat) : Int)), (51, .bptr 2 0), (53, .ref 8 []), (57, .ref 7 []), (58, .int zt), (59, .int ((x * st : Nat) : Int)), (60, .int ((x * st : Nat) : Int))], [(0, .bx [.nil, .nil]), (1, .bx [.int q]), (2, .bx [.ref 5 [], .ref 7 []]), (5, .t2 (matF x y (sG st q))), (7, .t1 (rowF x (tG st zt))), (8, .t1 (rowF y (sG st q x)))]⟩ := ⟨_, rfl⟩
    obtain ⟨z20, ez20⟩ : ∃ z : St, z = ⟨[(0, .int (k : Int)), (2, .int (st : Int)), (6, .bptr 0 0), (8, .int zt), (10, .fn 59 [.bptr 1 0]), (11, .bptr 2 0), (12, .int ((x * st : Nat) : Int)), (51, .bptr 2 0), (53, .ref 8 []), (56, .bptr 2 1), (58, .int zt), (59, .int ((x * st : Nat) : Int)), (61, .int (((x * st : Nat) : Int) + 2))], [(0, .bx [.nil, .nil]), (1, .bx [.int q]), (2, .bx [.ref 5 [], .ref 7 []]), (5, .t2 (matF x y (sG st q))), (7, .t1 (rowF x (tG st zt))), (8, .t1 (rowF y (sG st q x)))]⟩ := ⟨_, rfl⟩
    obtain ⟨z21, ez21⟩ : ∃ z : St, z = ⟨[(0, .int (k : Int)), (2, .int (st : Int)), (6, .bptr 0 0), (8, .int zt), (10, .fn 59 [.bptr 1 0]), (11, .bptr 2 0), (12, .int ((x * st : Nat) : Int)), (51, .bptr 2 0), (53, .ref 8 []), (58, .int zt), (62, .int ((w : Nat) : Int))], [(0, .bx [.nil, .nil]), (1, .bx [.int q]), (2, .bx [.ref 5 [], .ref 7 []]), (5, .t2 (matF x y (sG st q))), (7, .t1 (rowF x (tG st zt))), (8, .t1 (rowF y (sG st q x)))]⟩ := ⟨_, rfl⟩
    obtain ⟨z22, ez22⟩ : ∃ z : St, z = ⟨[(0, .int (k : Int)), (2, .int (st : Int)), (6, .bptr 0 0), (8, .int zt), (10, .fn 59 [.bptr 1 0]), (11, .bptr 2 0), (12, .int ((x * st : Nat) : Int)), (54, .ref 9 []), (57, .ref 7 []), (58, .int zt), (59, .int ((x * st : Nat) : Int)), (60, .int ((x * st : Nat) : Int))], [(0, .bx [.nil, .nil]), (1, .bx [.int q]), (2, .bx [.ref 5 [], .ref 7 []]), (5, .t2 (matF x y (sG st q))), (7, .t1 (rowF x (tG st zt))), (9, .t2 [rowF y (sG st q x)])]⟩ := ⟨_, rfl⟩
    obtain ⟨z23, ez23⟩ : ∃ z : St, z = ⟨[(0, .int (k : Int)), (2, .int (st : Int)), (6, .bptr 0 0), (8, .int zt), (10, .fn 59 [.bptr 1 0]), (11, .bptr 2 0), (12, .int ((x * st : Nat) : Int)), (54, .ref 9 []), (56, .bptr 2 1), (58, .int zt), (59, .int ((x * st : Nat) : Int)), (61, .int (((x * st : Nat) : Int) + 2))], [(0, .bx [.nil, .nil]), (1, .bx [.int q]), (2, .bx [.ref 5 [], .ref 7 []]), (5, .t2 (matF x y (sG st q))), (7, .t1 (rowF x (tG st zt))), (9, .t2 [rowF y (sG st q x)])]⟩ := ⟨_, rfl⟩
    obtain ⟨z24, ez24⟩ : ∃ z : St, z = ⟨[(0, .int (k : Int)), (2, .int (st : Int)), (6, .bptr 0 0), (8, .int zt), (10, .fn 59 [.bptr 1 0]), (11, .bptr 2 0), (12, .int ((x * st : Nat) : Int)), (54, .ref 9 []), (58, .int zt), (62, .int ((w : Nat) : Int))], [(0, .bx [.nil, .nil]), (1, .bx [.int q]), (2, .bx [.ref 5 [], .ref 7 []]), (5, .t2 (matF x y (sG st q))), (7, .t1 (rowF x (tG st zt))), (9, .t2 [rowF y (sG st q x)])]⟩ := ⟨_, rfl⟩
    obtain ⟨z25, ez25⟩ : ∃ z : St, z = ⟨[(0, .int (k : Int)), (2, .int (st : Int)), (6, .bptr 0 0), (8, .int zt), (10, .fn 59 [.bptr 1 0]), (11, .bptr 2 0), (12, .int ((x * st : Nat) : Int)), (53, .ref 8 []), (57, .ref 7 []), (58, .int zt), (59, .int ((x * st : Nat) : Int)), (61, .int (((x * st : Nat) : Int) + 2))], [(0, .bx [.nil, .nil]), (1, .bx [.int q]), (2, .bx [.ref 5 [], .ref 7 []]), (5, .t2 (matF x y (sG st q))), (7, .t1 (rowF x (tG st zt))), (8, .t1 (rowF y (sG st q x)))]⟩ := ⟨_, rfl⟩
    obtain ⟨z26, ez26⟩ : ∃ z : St, z = ⟨[(0, .int (k : Int)), (2, .int (st : Int)), (6, .bptr 0 0), (8, .int zt), (10, .fn 59 [.bptr 1 0]), (11, .bptr 2 0), (12, .int ((x * st : Nat) : Int)), (53, .ref 8 []), (56, .bptr 2 1), (58, .int zt), (62, .int ((w : Nat) : Int))], [(0, .bx [.nil, .nil]), (1, .bx [.int q]), (2, .bx [.ref 5 [], .ref 7 []]), (5, .t2 (matF x y (sG st q))), (7, .t1 (rowF x (tG st zt))), (8, .t1 (rowF y (sG st q x)))]⟩ := ⟨_, rfl⟩
    obtain ⟨z27, ez27⟩ : ∃ z : St, z = ⟨[(0, .int (k : Int)), (2, .int (st : Int)), (6, .bptr 0 0), (8, .int zt), (10, .fn 59 [.bptr 1 0]), (11, .bptr 2 0), (12, .int ((x * st : Nat) : Int)), (55, .ref 5 []), (58, .int zt), (59, .int ((x * st : Nat) : Int)), (60, .int ((x * st : Nat) : Int))], [(0, .bx [.nil, .nil]), (1, .bx [.int q]), (2, .bx [.junk, .ref 7 []]), (5, .t2 (matF x y (sG st q) ++ [rowF y (sG st q x)])), (7, .t1 (rowF x (tG st zt)))]⟩ := ⟨_, rfl⟩
    obtain ⟨z28, ez28⟩ : ∃ z : St, z = ⟨[(0, .int (k : Int)), (2, .int (st : Int)), (6, .bptr 0 0), (8, .int zt), (10, .fn 59 [.bptr 1 0]), (11, .bptr 2 0), (12, .int ((x * st : Nat) : Int)), (52, .ref 5 []), (54, .ref 9 []), (56, .bptr 2 1), (58, .int zt), (59, .int ((x * st : Nat) : Int)), (60, .int ((x * st : Nat) : Int))], [(0, .bx [.nil, .nil]), (1, .bx [.int q]), (2, .bx [.ref 5 [], .ref 7 []]), (5, .t2 (matF x y (sG st q))), (7, .t1 (rowF x (tG st zt))), (9, .t2 [rowF y (sG st q x)])]⟩ := ⟨_, rfl⟩
    obtain ⟨z29, ez29⟩ : ∃ z : St, z = ⟨[(0, .int (k : Int)), (2, .int (st : Int)), (6, .bptr 0 0), (8, .int zt), (10, .fn 59 [.bptr 1 0]), (11, .bptr 2 0), (12, .int ((x * st : Nat) : Int)), (52, .ref 5 []), (54, .ref 9 []), (58, .int zt), (59, .int ((x * st : Nat) : Int)), (61, .int (((x * st : Nat) : Int) + 2))], [(0, .bx [.nil, .nil]), (1, .bx [.int q]), (2, .bx [.ref 5 [], .ref 7 []]), (5, .t2 (matF x y (sG st q))), (7, .t1 (rowF x (tG st zt))), (9, .t2 [rowF y (sG st q x)])]⟩ := ⟨_, rfl⟩
    obtain ⟨z30, ez30⟩ : ∃ z : St, z = ⟨[(0, .int (k : Int)), (2, .int (st : Int)), (6, .bptr 0 0), (8, .int zt), (10, .fn 59 [.bptr 1 0]), (11, .bptr 2 0), (12, .int ((x * st : Nat) : Int)), (52, .ref 5 []), (53, .ref 8 []), (57, .ref 7 []), (58, .int zt), (59, .int ((x * st : Nat) : Int)), (60, .int ((x * st : Nat) : Int))], [(0, .bx [.nil, .nil]), (1, .bx [.int q]), (2, .bx [.ref 5 [], .ref 7 []]), (5, .t2 (matF x y (sG st q))), (7, .t1 (rowF x (tG st zt))), (8, .t1 (rowF y (sG st q x)))]⟩ := ⟨_, rfl⟩
    obtain ⟨z31, ez31⟩ : ∃ z : St, z = ⟨[(0, .int (k : Int)), (2, .int (st : Int)), (6, .bptr 0 0), (8, .int zt), (10, .fn 59 [.bptr 1 0]), (11, .bptr 2 0), (12, .int ((x * st : Nat) : Int)), (52, .ref 5 []), (53, .ref 8 []), (56, .bptr 2 1), (58, .int zt), (59, .int ((x * st : Nat) : Int)), (61, .int (((x * st : Nat) : Int) + 2))], [(0, .bx [.nil, .nil]), (1, .bx [.int q]), (2, .bx [.ref 5 [], .ref 7 []]), (5, .t2 (matF x y (sG st q))), (7, .t1 (rowF x (tG st zt))), (8, .t1 (rowF y (sG st q x)))]⟩ := ⟨_, rfl⟩
    obtain ⟨z32, ez32⟩ : ∃ z : St, z = ⟨[(0, .int (k : Int)), (2, .int (st : Int)), (6, .bptr 0 0), (8, .int zt), (10, .fn 59 [.bptr 1 0]), (11, .bptr 2 0), (12, .int ((x * st : Nat) : Int)), (52, .ref 5 []), (53, .ref 8 []), (58, .int zt), (62, .int ((w : Nat) : Int))], [(0, .bx [.nil, .nil]), (1, .bx [.int q]), (2, .bx [.ref 5 [], .ref 7 []]), (5, .t2 (matF x y (sG st q))), (7, .t1 (rowF x (tG st zt))), (8, .t1 (rowF y (sG st q x)))]⟩ := ⟨_, rfl⟩
    obtain ⟨z33, ez33⟩ : ∃ z : St, z = ⟨[(0, .int (k : Int)), (2, .int (st : Int)), (6, .bptr 0 0), (8, .int zt), (10, .fn 59 [.bptr 1 0]), (11, .bptr 2 0), (12, .int ((x * st : Nat) : Int)), (51, .bptr 2 0), (54, .ref 9 []), (57, .ref 7 []), (58, .int zt), (59, .int ((x * st : Nat) : Int)), (60, .int ((x * st : Nat) : Int))], [(0, .bx [.nil, .nil]), (1, .bx [.int q]), (2, .bx [.ref 5 [], .ref 7 []]), (5, .t2 (matF x y (sG st q))), (7, .t1 (rowF x (tG st zt))), (9, .t2 [rowF y (sG st q x)])]⟩ := ⟨_, rfl⟩
    obtain ⟨z34, ez34⟩ : ∃ z : St, z = ⟨[(0, .int (k : Int)), (2, .int (st : Int)), (6, .bptr 0 0), (8, .int zt), (10, .fn 59 [.bptr 1 0]), (11, .bptr 2 0), (12, .int ((x * st : Nat) : Int)), (51, .bptr 2 0), (54, .ref 9 []), (56, .bptr 2 1), (58, .int zt), (59, .int ((x * st : Nat) : Int)), (61, .int (((x * st : Nat) : Int) + 2))], [(0, .bx [.nil, .nil]), (1, .bx [.int q]), (2, .bx [.ref 5 [], .ref 7 []]), (5, .t2 (matF x y (sG st q))), (7, .t1 (rowF x (tG st zt))), (9, .t2 [rowF y (sG st q x)])]⟩ := ⟨_, rfl⟩
    obtain ⟨z35, ez35⟩ : ∃ z : St, z = ⟨[(0, .int (k : Int)), (2, .int (st : Int)), (6, .bptr 0 0), (8, .int zt), (10, .fn 59 [.bptr 1 0]), (11, .bptr 2 0), (12, .int ((x * st : Nat) : Int)), (51, .bptr 2 0), (54, .ref 9 []), (58, .int zt), (62, .int ((w : Nat) : Int))], [(0, .bx [.nil, .nil]), (1, .bx [.int q]), (2, .bx [.ref 5 [], .ref 7 []]), (5, .t2 (matF x y (sG st q))), (7, .t1 (rowF x (tG st zt))), (9, .t2 [rowF y (sG st q x)])]⟩ := ⟨_, rfl⟩
    obtain ⟨z36, ez36⟩ : ∃ z : St, z = ⟨[(0, .int (k : Int)), (2, .int (st : Int)), (6, .bptr 0 0), (8, .int zt), (10, .fn 59 [.bptr 1 0]), (11, .bptr 2 0), (12, .int ((x * st : Nat) : Int)), (51, .bptr 2 0), (53, .ref 8 []), (57, .ref 7 []), (58, .int zt), (59, .int ((x * st : Nat) : Int)), (61, .int (((x * st : Nat) : Int) + 2))], [(0, .bx [.nil, .nil]), (1, .bx [.int q]), (2, .bx [.ref 5 [], .ref 7 []]), (5, .t2 (matF x y (sG st q))), (7, .t1 (rowF x (tG st zt))), (8, .t1 (rowF y (sG st q x)))]⟩ := ⟨_, rfl⟩
    obtain ⟨z37, ez37⟩ : ∃ z : St, z = ⟨[(0, .int (k : Int)), (2, .int (st : Int)), (6, .bptr 0 0), (8, .int zt), (10, .fn 59 [.bptr 1 0]), (11, .bptr 2 0), (12, .int ((x * st : Nat) : Int)), (51, .bptr 2 0), (53, .ref 8 []), (56, .bptr 2 1), (58, .int zt), (62, .int ((w : Nat) : Int))], [(0, .bx [.nil, .nil]), (1, .bx [.int q]), (2, .bx [.ref 5 [], .ref 7 []]), (5, .t2 (matF x y (sG st q))), (7, .t1 (rowF x (tG st zt))), (8, .t1 (rowF y (sG st q x)))]⟩ := ⟨_, rfl⟩
    obtain ⟨z38, ez38⟩ : ∃ z : St, z = ⟨[(0, .int (k : Int)), (2, .int (st : Int)), (6, .bptr 0 0), (8, .int zt), (10, .fn 59 [.bptr 1 0]), (11, .bptr 2 0), (12, .int ((x * st : Nat) : Int)), (54, .ref 9 []), (57, .ref 7 []), (58, .int zt), (59, .int ((x * st : Nat) : Int)), (61, .int (((x * st : Nat) : Int) + 2))], [(0, .bx [.nil, .nil]), (1, .bx [.int q]), (2, .bx [.ref 5 [], .ref 7 []]), (5, .t2 (matF x y (sG st q))), (7, .t1 (rowF x (tG st zt))), (9, .t2 [rowF y (sG st q x)])]⟩ := ⟨_, rfl⟩
    obtain ⟨z39, ez39⟩ : ∃ z : St, z = ⟨[(0, .int (k : Int)), (2, .int (st : Int)), (6, .bptr 0 0), (8, .int zt), (10, .fn 59 [.bptr 1 0]), (11, .bptr 2 0), (12, .int ((x * st : Nat) : Int)), (54, .ref 9 []), (56, .bptr 2 1), (58, .int zt), (62, .int ((w : Nat) : Int))], [(0, .bx [.nil, .nil]), (1, .bx [.int q]), (2, .bx [.ref 5 [], .ref 7 []]), (5, .t2 (matF x y (sG st q))), (7, .t1 (rowF x (tG st zt))), (9, .t2 [rowF y (sG st q x)])]⟩ := ⟨_, rfl⟩
    obtain ⟨z40, ez40⟩ : ∃ z : St, z = ⟨[(0, .int (k : Int)), (2, .int (st : Int)), (6, .bptr 0 0), (8, .int zt), (10, .fn 59 [.bptr 1 0]), (11, .bptr 2 0), (12, .int ((x * st : Nat) : Int)), (53, .ref 8 []), (57, .ref 7 []), (58, .int zt), (62, .int ((w : Nat) : Int))], [(0, .bx [.nil, .nil]), (1, .bx [.int q]), (2, .bx [.ref 5 [], .ref 7 []]), (5, .t2 (matF x y (sG st q))), (7, .t1 (rowF x (tG st zt))), (8, .t1 (rowF y (sG st q x)))]⟩ := ⟨_, rfl⟩
    obtain ⟨z41, ez41⟩ : ∃ z : St, z = ⟨[(0, .int (k : Int)), (2, .int (st : Int)), (6, .bptr 0 0), (8, .int zt), (10, .fn 59 [.bptr 1 0]), (11, .bptr 2 0), (12, .int ((x * st : Nat) : Int)), (55, .ref 5 []), (56, .bptr 2 1), (58, .int zt), (59, .int ((x * st : Nat) : Int)), (60, .int ((x * st : Nat) : Int))], [(0, .bx [.nil, .nil]), (1, .bx [.int q]), (2, .bx [.junk, .ref 7 []]), (5, .t2 (matF x y (sG st q) ++ [rowF y (sG st q x)])), (7, .t1 (rowF x (tG st zt)))]⟩ := ⟨_, rfl⟩
    obtain ⟨z42, ez42⟩ : ∃ z : St, z = ⟨[(0, .int (k : Int)), (2, .int (st : Int)), (6, .bptr 0 0), (8, .int zt), (10, .fn 59 [.bptr 1 0]), (11, .bptr 2 0), (12, .int ((x * st : Nat) : Int)), (55, .ref 5 []), (58, .int zt), (59, .int ((x * st : Nat) : Int)), (61, .int (((x * st : Nat) : Int) + 2))], [(0, .bx [.nil, .nil]), (1, .bx [.int q]), (2, .bx [.junk, .ref 7 []]), (5, .t2 (matF x y (sG st q) ++ [rowF y (sG st q x)])), (7, .t1 (rowF x (tG st zt)))]⟩ := ⟨_, rfl⟩
    obtain ⟨z43, ez43⟩ : ∃ z : St, z = ⟨[(0, .int (k : Int)), (2, .int (st : Int)), (6, .bptr 0 0), (8, .int zt), (10, .fn 59 [.bptr 1 0]), (11, .bptr 2 0), (12, .int ((x * st : Nat) : Int)), (52, .ref 5 []), (54, .ref 9 []), (57, .ref 7 []), (58, .int zt), (59, .int ((x * st : Nat) : Int)), (60, .int ((x * st : Nat) : Int))], [(0, .bx [.nil, .nil]), (1, .bx [.int q]), (2, .bx [.ref 5 [], .ref 7 []]), (5, .t2 (matF x y (sG st q))), (7, .t1 (rowF x (tG st zt))), (9, .t2 [rowF y (sG st q x)])]⟩ := ⟨_, rfl⟩
    obtain ⟨z44, ez44⟩ : ∃ z : St, z = ⟨[(0, .int (k : Int)), (2, .int (st : Int)), (6, .bptr 0 0), (8, .int zt), (10, .fn 59 [.bptr 1 0]), (11, .bptr 2 0), (12, .int ((x * st : Nat) : Int)), (52, .ref 5 []), (54, .ref 9 []), (56, .bptr 2 1), (58, .int zt), (59, .int ((x * st : Nat) : Int)), (61, .int (((x * st : Nat) : Int) + 2))], [(0, .bx [.nil, .nil]), (1, .bx [.int q]), (2, .bx [.ref 5 [], .ref 7 []]), (5, .t2 (matF x y (sG st q))), (7, .t1 (rowF x (tG st zt))), (9, .t2 [rowF y (sG st q x)])]⟩ := ⟨_, rfl⟩
    obtain ⟨z45, ez45⟩ : ∃ z : St, z = ⟨[(0, .int (k : Int)), (2, .int (st : Int)), (6, .bptr 0 0), (8, .int zt), (10, .fn 59 [.bptr 1 0]), (11, .bptr 2 0), (12, .int ((x * st : Nat) : Int)), (52, .ref 5 []), (54, .ref 9 []), (58, .int zt), (62, .int ((w : Nat) : Int))], [(0, .bx [.nil, .nil]), (1, .bx [.int q]), (2, .bx [.ref 5 [], .ref 7 []]), (5, .t2 (matF x y (sG st q))), (7, .t1 (rowF x (tG st zt))), (9, .t2 [rowF y (sG st q x)])]⟩ := ⟨_, rfl⟩
    obtain ⟨z46, ez46⟩ : ∃ z : St, z = ⟨[(0, .int (k : Int)), (2, .int (st : Int)), (6, .bptr 0 0), (8, .int zt), (10, .fn 59 [.bptr 1 0]), (11, .bptr 2 0), (12, .int ((x * st : Nat) : Int)), (52, .ref 5 []), (53, .ref 8 []), (57, .ref 7 []), (58, .int zt), (59, .int ((x * st : Nat) : Int)), (61, .int (((x * st : Nat) : Int) + 2))], [(0, .bx [.nil, .nil]), (1, .bx [.int q]), (2, .bx [.ref 5 [], .ref 7 []]), (5, .t2 (matF x y (sG st q))), (7, .t1 (rowF x (tG st zt))), (8, .t1 (rowF y (sG st q x)))]⟩ := ⟨_, rfl⟩
    obtain ⟨z47, ez47⟩ : ∃ z : St, z = ⟨[(0, .int (k : Int)), (2, .int (st : Int)), (6, .bptr 0 0), (8, .int zt), (10, .fn 59 [.bptr 1 0]), (11, .bptr 2 0), (12, .int ((x * st : Nat) : Int)), (52, .ref 5 []), (53, .ref 8 []), (56, .bptr 2 1), (58, .int zt), (62, .int ((w : Nat) : Int))], [(0, .bx [.nil, .nil]), (1, .bx [.int q]), (2, .bx [.ref 5 [], .ref 7 []]), (5, .t2 (matF x y (sG st q))), (7, .t1 (rowF x (tG st zt))), (8, .t1 (rowF y (sG st q x)))]⟩ := ⟨_, rfl⟩
    obtain ⟨z48, ez48⟩ : ∃ z : St, z = ⟨[(0, .int (k : Int)), (2, .int (st : Int)), (6, .bptr 0 0), (8, .int zt), (10, .fn 59 [.bptr 1 0]), (11, .bptr 2 0), (12, .int ((x * st : Nat) : Int)), (51, .bptr 2 0), (54, .ref 9 []), (57, .ref 7 []), (58, .int zt), (59, .int ((x * st : Nat) : Int)), (61, .int (((x * st : Nat) : Int) + 2))], [(0, .bx [.nil, .nil]), (1, .bx [.int q]), (2, .bx [.ref 5 [], .ref 7 []]), (5, .t2 (matF x y (sG st q))), (7, .t1 (rowF x (tG st zt))), (9, .t2 [rowF y (sG st q x)])]⟩ := ⟨_, rfl⟩
    obtain ⟨z49, ez49⟩ : ∃ z : St, z = ⟨[(0, .int (k : Int)), (2, .int (st : Int)), (6, .bptr 0 0), (8, .int zt), (10, .fn 59 [.bptr 1 0]), (11, .bptr 2 0), (12, .int ((x * st : Nat) : Int)), (51, .bptr 2 0), (54, .ref 9 []), (56, .bptr 2 1), (58, .int zt), (62, .int ((w : Nat) : Int))], [(0, .bx [.nil, .nil]), (1, .bx [.int q]), (2, .bx [.ref 5 [], .ref 7 []]), (5, .t2 (matF x y (sG st q))), (7, .t1 (rowF x (tG st zt))), (9, .t2 [rowF y (sG st q x)])]⟩ := ⟨_, rfl⟩
    obtain ⟨z50, ez50⟩ : ∃ z : St, z = ⟨[(0, .int (k : Int)), (2, .int (st : Int)), (6, .bptr 0 0), (8, .int zt), (10, .fn 59 [.bptr 1 0]), (11, .bptr 2 0), (12, .int ((x * st : Nat) : Int)), (51, .bptr 2 0), (53, .ref 8 []), (57, .ref 7 []), (58, .int zt), (62, .int ((w : Nat) : Int))], [(0, .bx [.nil, .nil]), (1, .bx [.int q]), (2, .bx [.ref 5 [], .ref 7 []]), (5, .t2 (matF x y (sG st q))), (7, .t1 (rowF x (tG st zt))), (8, .t1 (rowF y (sG st q x)))]⟩ := ⟨_, rfl⟩
    obtain ⟨z51, ez51⟩ : ∃ z : St, z = ⟨[(0, .int (k : Int)), (2, .int (st : Int)), (6, .bptr 0 0), (8, .int zt), (10, .fn 59 [.bptr 1 0]), (11, .bptr 2 0), (12, .int ((x * st : Nat) : Int)), (54, .ref 9 []), (57, .ref 7 []), (58, .int zt), (62, .int ((w : Nat) : Int))], [(0, .bx [.nil, .nil]), (1, .bx [.int q]), (2, .bx [.ref 5 [], .ref 7 []]), (5, .t2 (matF x y (sG st q))), (7, .t1 (rowF x (tG st zt))), (9, .t2 [rowF y (sG st q x)])]⟩ := ⟨_, rfl⟩
    obtain ⟨z52, ez52⟩ : ∃ z : St, z = ⟨[(0, .int (k : Int)), (2, .int (st : Int)), (6, .bptr 0 0), (8, .int zt), (10, .fn 59 [.bptr 1 0]), (11, .bptr 2 0), (12, .int ((x * st : Nat) : Int)), (55, .ref 5 []), (57, .ref 7 []), (58, .int zt), (59, .int ((x * st : Nat) : Int)), (60, .int ((x * st : Nat) : Int))], [(0, .bx [.nil, .nil]), (1, .bx [.int q]), (2, .bx [.junk, .ref 7 []]), (5, .t2 (matF x y (sG st q) ++ [rowF y (sG st q x)])), (7, .t1 (rowF x (tG st zt)))]⟩ := ⟨_, rfl⟩
    obtain ⟨z53, ez53⟩ : ∃ z : St, z = ⟨[(0, .int (k : Int)), (2, .int (st : Int)), (6, .bptr 0 0), (8, .int zt), (10, .fn 59 [.bptr 1 0]), (11, .bptr 2 0), (12, .int ((x * st : Nat) : Int)), (55, .ref 5 []), (56, .bptr 2 1), (58, .int zt), (59, .int ((x * st : Nat) : Int)), (61, .int (((x * st : Nat) : Int) + 2))], [(0, .bx [.nil, .nil]), (1, .bx [.int q]), (2, .bx [.junk, .ref 7 []]), (5, .t2 (matF x y (sG st q) ++ [rowF y (sG st q x)])), (7, .t1 (rowF x (tG st zt)))]⟩ := ⟨_, rfl⟩
    obtain ⟨z54, ez54⟩ : ∃ z : St, z = ⟨[(0, .int (k : Int)), (2, .int (st : Int)), (6, .bptr 0 0), (8, .int zt), (10, .fn 59 [.bptr 1 0]), (11, .bptr 2 0), (12, .int ((x * st : Nat) : Int)), (55, .ref 5 []), (58, .int zt), (62, .int ((w : Nat) : Int))], [(0, .bx [.nil, .nil]), (1, .bx [.int q]), (2, .bx [.junk, .ref 7 []]), (5, .t2 (matF x y (sG st q) ++ [rowF y (sG st q x)])), (7, .t1 (rowF x (tG st zt)))]⟩ := ⟨_, rfl⟩
    obtain ⟨z55, ez55⟩ : ∃ z : St, z = ⟨[(0, .int (k : Int)), (2, .int (st : Int)), (6, .bptr 0 0), (8, .int zt), (10, .fn 59 [.bptr 1 0]), (11, .bptr 2 0), (12, .int ((x * st : Nat) : Int)), (52, .ref 5 []), (54, .ref 9 []), (57, .ref 7 []), (58, .int zt), (59, .int ((x * st : Nat) : Int)), (61, .int (((x * st : Nat) : Int) + 2))], [(0, .bx [.nil, .nil]), (1, .bx [.int q]), (2, .bx [.ref 5 [], .ref 7 []]), (5, .t2 (matF x y (sG st q))), (7, .t1 (rowF x (tG st zt))), (9, .t2 [rowF y (sG st q x)])]⟩ := ⟨_, rfl⟩
    obtain ⟨z56, ez56⟩ : ∃ z : St, z = ⟨[(0, .int (k : Int)), (2, .int (st : Int)), (6, .bptr 0 0), (8, .int zt), (10, .fn 59 [.bptr 1 0]), (11, .bptr 2 0), (12, .int ((x * st : Nat) : Int)), (52, .ref 5 []), (54, .ref 9 []), (56, .bptr 2 1), (58, .int zt), (62, .int ((w : Nat) : Int))], [(0, .bx [.nil, .nil]), (1, .bx [.int q]), (2, .bx [.ref 5 [], .ref 7 []]), (5, .t2 (matF x y (sG st q))), (7, .t1 (rowF x (tG st zt))), (9, .t2 [rowF y (sG st q x)])]⟩ := ⟨_, rfl⟩
    obtain ⟨z57, ez57⟩ : ∃ z : St, z = ⟨[(0, .int (k : Int)), (2, .int (st : Int)), (6, .bptr 0 0), (8, .int zt), (10, .fn 59 [.bptr 1 0]), (11, .bptr 2 0), (12, .int ((x * st : Nat) : Int)), (52, .ref 5 []), (53, .ref 8 []), (57, .ref 7 []), (58, .int zt), (62, .int ((w : Nat) : Int))], [(0, .bx [.nil, .nil]), (1, .bx [.int q]), (2, .bx [.ref 5 [], .ref 7 []]), (5, .t2 (matF x y (sG st q))), (7, .t1 (rowF x (tG st zt))), (8, .t1 (rowF y (sG st q x)))]⟩ := ⟨_, rfl⟩
    obtain ⟨z58, ez58⟩ : ∃ z : St, z = ⟨[(0, .int (k : Int)), (2, .int (st : Int)), (6, .bptr 0 0), (8, .int zt), (10, .fn 59 [.bptr 1 0]), (11, .bptr 2 0), (12, .int ((x * st : Nat) : Int)), (51, .bptr 2 0), (54, .ref 9 []), (57, .ref 7 []), (58, .int zt), (62, .int ((w : Nat) : Int))], [(0, .bx [.nil, .nil]), (1, .bx [.int q]), (2, .bx [.ref 5 [], .ref 7 []]), (5, .t2 (matF x y (sG st q))), (7, .t1 (rowF x (tG st zt))), (9, .t2 [rowF y (sG st q x)])]⟩ := ⟨_, rfl⟩
    obtain ⟨z59, ez59⟩ : ∃ z : St, z = ⟨[(0, .int (k : Int)), (2, .int (st : Int)), (6, .bptr 0 0), (8, .int zt), (10, .fn 59 [.bptr 1 0]), (11, .bptr 2 0), (12, .int ((x * st : Nat) : Int)), (55, .ref 5 []), (57, .ref 7 []), (58, .int zt), (59, .int ((x * st : Nat) : Int)), (61, .int (((x * st : Nat) : Int) + 2))], [(0, .bx [.nil, .nil]), (1, .bx [.int q]), (2, .bx [.junk, .ref 7 []]), (5, .t2 (matF x y (sG st q) ++ [rowF y (sG st q x)])), (7, .t1 (rowF x (tG st zt)))]⟩ := ⟨_, rfl⟩
    obtain ⟨z60, ez60⟩ : ∃ z : St, z = ⟨[(0, .int (k : Int)), (2, .int (st : Int)), (6, .bptr 0 0), (8, .int zt), (10, .fn 59 [.bptr 1 0]), (11, .bptr 2 0), (12, .int ((x * st : Nat) : Int)), (55, .ref 5 []), (57, .ref 7 []), (58, .int zt), (59, .int ((x * st : Nat) : Int)), (60, .int ((x * st : Nat) : Int)), (66, .bptr 2 0)], [(0, .bx [.nil, .nil]), (1, .bx [.int q]), (2, .bx [.junk, .ref 7 []]), (5, .t2 (matF x y (sG st q) ++ [rowF y (sG st q x)])), (7, .t1 (rowF x (tG st zt)))]⟩ := ⟨_, rfl⟩
    obtain ⟨z61, ez61⟩ : ∃ z : St, z = ⟨[(0, .int (k : Int)), (2, .int (st : Int)), (6, .bptr 0 0), (8, .int zt), (10, .fn 59 [.bptr 1 0]), (11, .bptr 2 0), (12, .int ((x * st : Nat) : Int)), (55, .ref 5 []), (56, .bptr 2 1), (58, .int zt), (62, .int ((w : Nat) : Int))], [(0, .bx [.nil, .nil]), (1, .bx [.int q]), (2, .bx [.junk, .ref 7 []]), (5, .t2 (matF x y (sG st q) ++ [rowF y (sG st q x)])), (7, .t1 (rowF x (tG st zt)))]⟩ := ⟨_, rfl⟩
    obtain ⟨z62, ez62⟩ : ∃ z : St, z = ⟨[(0, .int (k : Int)), (2, .int (st : Int)), (6, .bptr 0 0), (8, .int zt), (10, .fn 59 [.bptr 1 0]), (11, .bptr 2 0), (12, .int ((x * st : Nat) : Int)), (55, .ref 5 []), (63, .int (tG st zt x))], [(0, .bx [.nil, .nil]), (1, .bx [.int q]), (2, .bx [.junk, .ref 7 []]), (5, .t2 (matF x y (sG st q) ++ [rowF y (sG st q x)])), (7, .t1 (rowF x (tG st zt)))]⟩ := ⟨_, rfl⟩
    obtain ⟨z63, ez63⟩ : ∃ z : St, z = ⟨[(0, .int (k : Int)), (2, .int (st : Int)), (6, .bptr 0 0), (8, .int zt), (10, .fn 59 [.bptr 1 0]), (11, .bptr 2 0), (12, .int ((x * st : Nat) : Int)), (52, .ref 5 []), (54, .ref 9 []), (57, .ref 7 []), (58, .int zt), (62, .int ((w : Nat) : Int))], [(0, .bx [.nil, .nil]), (1, .bx [.int q]), (2, .bx [.ref 5 [], .ref 7 []]), (5, .t2 (matF x y (sG st q))), (7, .t1 (rowF x (tG st zt))), (9, .t2 [rowF y (sG st q x)])]⟩ := ⟨_, rfl⟩
    obtain ⟨z64, ez64⟩ : ∃ z : St, z = ⟨[(0, .int (k : Int)), (2, .int (st : Int)), (6, .bptr 0 0), (8, .int zt), (10, .fn 59 [.bptr 1 0]), (11, .bptr 2 0), (12, .int ((x * st : Nat) : Int)), (55, .ref 5 []), (57, .ref 7 []), (58, .int zt), (62, .int ((w : Nat) : Int))], [(0, .bx [.nil, .nil]), (1, .bx [.int q]), (2, .bx [.junk, .ref 7 []]), (5, .t2 (matF x y (sG st q) ++ [rowF y (sG st q x)])), (7, .t1 (rowF x (tG st zt)))]⟩ := ⟨_, rfl⟩
    obtain ⟨z65, ez65⟩ : ∃ z : St, z = ⟨[(0, .int (k : Int)), (2, .int (st : Int)), (6, .bptr 0 0), (8, .int zt), (10, .fn 59 [.bptr 1 0]), (11, .bptr 2 0), (12, .int ((x * st : Nat) : Int)), (55, .ref 5 []), (57, .ref 7 []), (58, .int zt), (59, .int ((x * st : Nat) : Int)), (61, .int (((x * st : Nat) : Int) + 2)), (66, .bptr 2 0)], [(0, .bx [.nil, .nil]), (1, .bx [.int q]), (2, .bx [.junk, .ref 7 []]), (5, .t2 (matF x y (sG st q) ++ [rowF y (sG st q x)])), (7, .t1 (rowF x (tG st zt)))]⟩ := ⟨_, rfl⟩
    obtain ⟨z66, ez66⟩ : ∃ z : St, z = ⟨[(0, .int (k : Int)), (2, .int (st : Int)), (6, .bptr 0 0), (8, .int zt), (10, .fn 59 [.bptr 1 0]), (11, .bptr 2 0), (12, .int ((x * st : Nat) : Int)), (55, .ref 5 []), (56, .bptr 2 1), (63, .int (tG st zt x))], [(0, .bx [.nil, .nil]), (1, .bx [.int q]), (2, .bx [.junk, .ref 7 []]), (5, .t2 (matF x y (sG st q) ++ [rowF y (sG st q x)])), (7, .t1 (rowF x (tG st zt)))]⟩ := ⟨_, rfl⟩
    obtain ⟨z67, ez67⟩ : ∃ z : St, z = ⟨[(0, .int (k : Int)), (2, .int (st : Int)), (6, .bptr 0 0), (8, .int zt), (10, .fn 59 [.bptr 1 0]), (11, .bptr 2 0), (12, .int ((x * st : Nat) : Int)), (55, .ref 5 []), (64, .ref 8 [])], [(0, .bx [.nil, .nil]), (1, .bx [.int q]), (2, .bx [.junk, .ref 7 []]), (5, .t2 (matF x y (sG st q) ++ [rowF y (sG st q x)])), (7, .t1 (rowF x (tG st zt))), (8, .t1 [tG st zt x])]⟩ := ⟨_, rfl⟩
    obtain ⟨z68, ez68⟩ : ∃ z : St, z = ⟨[(0, .int (k : Int)), (2, .int (st : Int)), (6, .bptr 0 0), (8, .int zt), (10, .fn 59 [.bptr 1 0]), (11, .bptr 2 0), (12, .int ((x * st : Nat) : Int)), (55, .ref 5 []), (57, .ref 7 []), (63, .int (tG st zt x))], [(0, .bx [.nil, .nil]), (1, .bx [.int q]), (2, .bx [.junk, .ref 7 []]), (5, .t2 (matF x y (sG st q) ++ [rowF y (sG st q x)])), (7, .t1 (rowF x (tG st zt)))]⟩ := ⟨_, rfl⟩
    obtain ⟨z69, ez69⟩ : ∃ z : St, z = ⟨[(0, .int (k : Int)), (2, .int (st : Int)), (6, .bptr 0 0), (8, .int zt), (10, .fn 59 [.bptr 1 0]), (11, .bptr 2 0), (12, .int ((x * st : Nat) : Int)), (55, .ref 5 []), (57, .ref 7 []), (58, .int zt), (62, .int ((w : Nat) : Int)), (66, .bptr 2 0)], [(0, .bx [.nil, .nil]), (1, .bx [.int q]), (2, .bx [.junk, .ref 7 []]), (5, .t2 (matF x y (sG st q) ++ [rowF y (sG st q x)])), (7, .t1 (rowF x (tG st zt)))]⟩ := ⟨_, rfl⟩
    obtain ⟨z70, ez70⟩ : ∃ z : St, z = ⟨[(0, .int (k : Int)), (2, .int (st : Int)), (6, .bptr 0 0), (8, .int zt), (10, .fn 59 [.bptr 1 0]), (11, .bptr 2 0), (12, .int ((x * st : Nat) : Int)), (55, .ref 5 []), (56, .bptr 2 1), (64, .ref 8 [])], [(0, .bx [.nil, .nil]), (1, .bx [.int q]), (2, .bx [.junk, .ref 7 []]), (5, .t2 (matF x y (sG st q) ++ [rowF y (sG st q x)])), (7, .t1 (rowF x (tG st zt))), (8, .t1 [tG st zt x])]⟩ := ⟨_, rfl⟩
    obtain ⟨z71, ez71⟩ : ∃ z : St, z = ⟨[(0, .int (k : Int)), (2, .int (st : Int)), (6, .bptr 0 0), (8, .int zt), (10, .fn 59 [.bptr 1 0]), (11, .bptr 2 0), (12, .int ((x * st : Nat) : Int)), (55, .ref 5 []), (57, .ref 7 []), (64, .ref 8 [])], [(0, .bx [.nil, .nil]), (1, .bx [.int q]), (2, .bx [.junk, .ref 7 []]), (5, .t2 (matF x y (sG st q) ++ [rowF y (sG st q x)])), (7, .t1 (rowF x (tG st zt))), (8, .t1 [tG st zt x])]⟩ := ⟨_, rfl⟩
    obtain ⟨z72, ez72⟩ : ∃ z : St, z = ⟨[(0, .int (k : Int)), (2, .int (st : Int)), (6, .bptr 0 0), (8, .int zt), (10, .fn 59 [.bptr 1 0]), (11, .bptr 2 0), (12, .int ((x * st : Nat) : Int)), (55, .ref 5 []), (57, .ref 7 []), (63, .int (tG st zt x)), (66, .bptr 2 0)], [(0, .bx [.nil, .nil]), (1, .bx [.int q]), (2, .bx [.junk, .ref 7 []]), (5, .t2 (matF x y (sG st q) ++ [rowF y (sG st q x)])), (7, .t1 (rowF x (tG st zt)))]⟩ := ⟨_, rfl⟩
    obtain ⟨z73, ez73⟩ : ∃ z : St, z = ⟨[(0, .int (k : Int)), (2, .int (st : Int)), (6, .bptr 0 0), (8, .int zt), (10, .fn 59 [.bptr 1 0]), (11, .bptr 2 0), (12, .int ((x * st : Nat) : Int)), (55, .ref 5 []), (65, .ref 7 [])], [(0, .bx [.nil, .nil]), (1, .bx [.int q]), (2, .bx [.junk, .junk]), (5, .t2 (matF x y (sG st q) ++ [rowF y (sG st q x)])), (7, .t1 (rowF x (tG st zt) ++ [tG st zt x])), (8, .t1 [tG st zt x])]⟩ := ⟨_, rfl⟩
    obtain ⟨z74, ez74⟩ : ∃ z : St, z = ⟨[(0, .int (k : Int)), (2, .int (st : Int)), (6, .bptr 0 0), (8, .int zt), (10, .fn 59 [.bptr 1 0]), (11, .bptr 2 0), (12, .int ((x * st : Nat) : Int)), (55, .ref 5 []), (57, .ref 7 []), (64, .ref 8 []), (66, .bptr 2 0)], [(0, .bx [.nil, .nil]), (1, .bx [.int q]), (2, .bx [.junk, .ref 7 []]), (5, .t2 (matF x y (sG st q) ++ [rowF y (sG st q x)])), (7, .t1 (rowF x (tG st zt))), (8, .t1 [tG st zt x])]⟩ := ⟨_, rfl⟩
    obtain ⟨z75, ez75⟩ : ∃ z : St, z = ⟨[(0, .int (k : Int)), (2, .int (st : Int)), (6, .bptr 0 0), (8, .int zt), (10, .fn 59 [.bptr 1 0]), (11, .bptr 2 0), (12, .int ((x * st : Nat) : Int)), (55, .ref 5 []), (65, .ref 7 []), (66, .bptr 2 0)], [(0, .bx [.nil, .nil]), (1, .bx [.int q]), (2, .bx [.junk, .junk]), (5, .t2 (matF x y (sG st q) ++ [rowF y (sG st q x)])), (7, .t1 (rowF x (tG st zt) ++ [tG st zt x])), (8, .t1 [tG st zt x])]⟩ := ⟨_, rfl⟩
    obtain ⟨z76, ez76⟩ : ∃ z : St, z = ⟨[(0, .int (k : Int)), (2, .int (st : Int)), (6, .bptr 0 0), (8, .int zt), (10, .fn 59 [.bptr 1 0]), (11, .bptr 2 0), (12, .int ((x * st : Nat) : Int)), (65, .ref 7 [])], [(0, .bx [.nil, .nil]), (1, .bx [.int q]), (2, .bx [.ref 5 [], .junk]), (5, .t2 (matF x y (sG st q) ++ [rowF y (sG st q x)])), (7, .t1 (rowF x (tG st zt) ++ [tG st zt x])), (8, .t1 [tG st zt x])]⟩ := ⟨_, rfl⟩
    obtain ⟨z77, ez77⟩ : ∃ z : St, z = ⟨[(0, .int (k : Int)), (2, .int (st : Int)), (6, .bptr 0 0), (8, .int zt), (10, .fn 59 [.bptr 1 0]), (11, .bptr 2 0), (12, .int ((x * st : Nat) : Int)), (65, .ref 7 []), (67, .bptr 2 1)], [(0, .bx [.nil, .nil]), (1, .bx [.int q]), (2, .bx [.ref 5 [], .junk]), (5, .t2 (matF x y (sG st q) ++ [rowF y (sG st q x)])), (7, .t1 (rowF x (tG st zt) ++ [tG st zt x])), (8, .t1 [tG st zt x])]⟩ := ⟨_, rfl⟩
    obtain ⟨z78, ez78⟩ : ∃ z : St, z = ⟨[(0, .int (k : Int)), (2, .int (st : Int)), (6, .bptr 0 0), (8, .int zt), (10, .fn 59 [.bptr 1 0]), (11, .bptr 2 0), (12, .int ((x * st : Nat) : Int))], [(0, .bx [.nil, .nil]), (1, .bx [.int q]), (2, .bx [.ref 5 [], .ref 7 []]), (5, .t2 (matF x y (sG st q) ++ [rowF y (sG st q x)])), (7, .t1 (rowF x (tG st zt) ++ [tG st zt x])), (8, .t1 [tG st zt x])]⟩ := ⟨_, rfl⟩
    refine ats_table [] [2, 7, 8, 9] [[2, 7, 8, 9], [0, 2, 7, 8, 9], [2, 3, 7, 8, 9], [2, 5, 7, 8, 9], [2, 7, 8, 9, 10], [0, 1, 2, 7, 8, 9], [0, 2, 3, 7, 8, 9], [0, 2, 5, 7, 8, 9], [0, 2, 7, 8, 9, 10], [2, 3, 5, 7, 8, 9], [2, 3, 7, 8, 9, 10], [2, 5, 6, 7, 8, 9], [2, 5, 7, 8, 9, 10], [2, 7, 8, 9, 10, 11], [0, 1, 2, 3, 7, 8, 9], [0, 1, 2, 5, 7, 8, 9], [0, 1, 2, 7, 8, 9, 10], [0, 2, 3, 5, 7, 8, 9], [0, 2, 3, 7, 8, 9, 10], [0, 2, 5, 6, 7, 8, 9], [0, 2, 5, 7, 8, 9, 10], [0, 2, 7, 8, 9, 10, 11], [2, 3, 5, 6, 7, 8, 9], [2, 3, 5, 7, 8, 9, 10], [2, 3, 7, 8, 9, 10, 11], [2, 5, 6, 7, 8, 9, 10], [2, 5, 7, 8, 9, 10, 11], [0, 1, 2, 3, 4, 7, 8, 9], [0, 1, 2, 3, 5, 7, 8, 9], [0, 1, 2, 3, 7, 8, 9, 10], [0, 1, 2, 5, 6, 7, 8, 9], [0, 1, 2, 5, 7, 8, 9, 10], [0, 1, 2, 7, 8, 9, 10, 11], [0, 2, 3, 5, 6, 7, 8, 9], [0, 2, 3, 5, 7, 8, 9, 10], [0, 2, 3, 7, 8, 9, 10, 11], [0, 2, 5, 6, 7, 8, 9, 10], [0, 2, 5, 7, 8, 9, 10, 11], [2, 3, 5, 6, 7, 8, 9, 10], [2, 3, 5, 7, 8, 9, 10, 11], [2, 5, 6, 7, 8, 9, 10, 11], [0, 1, 2, 3, 4, 5, 7, 8, 9], [0, 1, 2, 3, 4, 7, 8, 9, 10], [0, 1, 2, 3, 5, 6, 7, 8, 9], [0, 1, 2, 3, 5, 7, 8, 9, 10], [0, 1, 2, 3, 7, 8, 9, 10, 11], [0, 1, 2, 5, 6, 7, 8, 9, 10], [0, 1, 2, 5, 7, 8, 9, 10, 11], [0, 2, 3, 5, 6, 7, 8, 9, 10], [0, 2, 3, 5, 7, 8, 9, 10, 11], [0, 2, 5, 6, 7, 8, 9, 10, 11], [2, 3, 5, 6, 7, 8, 9, 10, 11], [0, 1, 2, 3, 4, 5, 6, 7, 8, 9], [0, 1, 2, 3, 4, 5, 7, 8, 9, 10], [0, 1, 2, 3, 4, 7, 8, 9, 10, 11], [0, 1, 2, 3, 5, 6, 7, 8, 9, 10], [0, 1, 2, 3, 5, 7, 8, 9, 10, 11], [0, 1, 2, 5, 6, 7, 8, 9, 10, 11], [0, 2, 3, 5, 6, 7, 8, 9, 10, 11], [0, 1, 2, 3, 4, 5, 6, 7, 8, 9, 10], [0, 1, 2, 3, 4, 5, 6, 7, 8, 9, 15], [0, 1, 2, 3, 4, 5, 7, 8, 9, 10, 11], [0, 1, 2, 3, 4, 7, 8, 9, 10, 11, 12], [0, 1, 2, 3, 5, 6, 7, 8, 9, 10, 11], [0, 1, 2, 3, 4, 5, 6, 7, 8, 9, 10, 11], [0, 1, 2, 3, 4, 5, 6, 7, 8, 9, 10, 15], [0, 1, 2, 3, 4, 5, 7, 8, 9, 10, 11, 12], [0, 1, 2, 3, 4, 7, 8, 9, 10, 11, 12, 13], [0, 1, 2, 3, 4, 5, 6, 7, 8, 9, 10, 11, 12], [0, 1, 2, 3, 4, 5, 6, 7, 8, 9, 10, 11, 15], [0, 1, 2, 3, 4, 5, 7, 8, 9, 10, 11, 12, 13], [0, 1, 2, 3, 4, 5, 6, 7, 8, 9, 10, 11, 12, 13], [0, 1, 2, 3, 4, 5, 6, 7, 8, 9, 10, 11, 12, 15], [0, 1, 2, 3, 4, 5, 6, 7, 8, 9, 10, 11, 12, 13, 14], [0, 1, 2, 3, 4, 5, 6, 7, 8, 9, 10, 11, 12, 13, 15], [0, 1, 2, 3, 4, 5, 6, 7, 8, 9, 10, 11, 12, 13, 14, 15], [0, 1, 2, 3, 4, 5, 6, 7, 8, 9, 10, 11, 12, 13, 14, 15, 16], [0, 1, 2, 3, 4, 5, 6, 7, 8, 9, 10, 11, 12, 13, 14, 15, 16, 17], [0, 1, 2, 3, 4, 5, 6, 7, 8, 9, 10, 11, 12, 13, 14, 15, 16, 17, 18]] [(0, 0, 1), (0, 3, 2), (0, 5, 3), (0, 10, 4), (1, 1, 5), (1, 3, 6), (1, 5, 7), (1, 10, 8), (2, 0, 6), (2, 5, 9), (2, 10, 10), (3, 0, 7), (3, 3, 9), (3, 6, 11), (3, 10, 12), (4, 0, 8), (4, 3, 10), (4, 5, 12), (4, 11, 13), (5, 3, 14), (5, 5, 15), (5, 10, 16), (6, 1, 14), (6, 5, 17), (6, 10, 18), (7, 1, 15), (7, 3, 17), (7, 6, 19), (7, 10, 20), (8, 1, 16), (8, 3, 18), (8, 5, 20), (8, 11, 21), (9, 0, 17), (9, 6, 22), (9, 10, 23), (10, 0, 18), (10, 5, 23), (10, 11, 24), (11, 0, 19), (11, 3, 22), (11, 10, 25), (12, 0, 20), (12, 3, 23), (12, 6, 25), (12, 11, 26), (13, 0, 21), (13, 3, 24), (13, 5, 26), (14, 4, 27), (14, 5, 28), (14, 10, 29), (15, 3, 28), (15, 6, 30), (15, 10, 31), (16, 3, 29), (16, 5, 31), (16, 11, 32), (17, 1, 28), (17, 6, 33), (17, 10, 34), (18, 1, 29), (18, 5, 34), (18, 11, 35), (19, 1, 30), (19, 3, 33), (19, 10, 36), (20, 1, 31), (20, 3, 34), (20, 6, 36), (20, 11, 37), (21, 1, 32), (21, 3, 35), (21, 5, 37), (22, 0, 33), (22, 10, 38), (23, 0, 34), (23, 6, 38), (23, 11, 39), (24, 0, 35), (24, 5, 39), (25, 0, 36), (25, 3, 38), (25, 11, 40), (26, 0, 37), (26, 3, 39), (26, 6, 40), (27, 5, 41), (27, 10, 42), (28, 4, 41), (28, 6, 43), (28, 10, 44), (29, 4, 42), (29, 5, 44), (29, 11, 45), (30, 3, 43), (30, 10, 46), (31, 3, 44), (31, 6, 46), (31, 11, 47), (32, 3, 45), (32, 5, 47), (33, 1, 43), (33, 10, 48), (34, 1, 44), (34, 6, 48), (34, 11, 49), (35, 1, 45), (35, 5, 49), (36, 1, 46), (36, 3, 48), (36, 11, 50), (37, 1, 47), (37, 3, 49), (37, 6, 50), (38, 0, 48), (38, 11, 51), (39, 0, 49), (39, 6, 51), (40, 0, 50), (40, 3, 51), (41, 6, 52), (41, 10, 53), (42, 5, 53), (42, 11, 54), (43, 4, 52), (43, 10, 55), (44, 4, 53), (44, 6, 55), (44, 11, 56), (45, 4, 54), (45, 5, 56), (46, 3, 55), (46, 11, 57), (47, 3, 56), (47, 6, 57), (48, 1, 55), (48, 11, 58), (49, 1, 56), (49, 6, 58), (50, 1, 57), (50, 3, 58), (51, 0, 58), (52, 10, 59), (52, 15, 60), (53, 6, 59), (53, 11, 61), (54, 5, 61), (54, 12, 62), (55, 4, 59), (55, 11, 63), (56, 4, 61), (56, 6, 63), (57, 3, 63), (58, 1, 63), (59, 11, 64), (59, 15, 65), (60, 10, 65), (61, 6, 64), (61, 12, 66), (62, 5, 66), (62, 13, 67), (63, 4, 64), (64, 12, 68), (64, 15, 69), (65, 11, 69), (66, 6, 68), (66, 13, 70), (67, 5, 70), (68, 13, 71), (68, 15, 72), (69, 12, 72), (70, 6, 71), (71, 14, 73), (71, 15, 74), (72, 13, 74), (73, 15, 75), (74, 14, 75), (75, 16, 76), (76, 17, 77), (77, 18, 78)] [z0, z1, z2, z3, z4, z5, z6, z7, z8, z9, z10, z11, z12, z13, z14, z15, z16, z17, z18, z19, z20, z21, z22, z23, z24, z25, z26, z27, z28, z29, z30, z31, z32, z33, z34, z35, z36, z37, z38, z39, z40, z41, z42, z43, z44, z45, z46, z47, z48, z49, z50, z51, z52, z53, z54, z55, z56, z57, z58, z59, z60, z61, z62, z63, z64, z65, z66, z67, z68, z69, z70, z71, z72, z73, z74, z75, z76, z77, z78] hrd (by first | exact fix0 hcx | exact fix1 hcx rfl | exact fixN hcx rfl) mixed (by kernel_rfl) ?_ ?_ ?_
    ·show mvTRun _ _ _ _ _ _ (fun s => Ghost _ _ s z0)
     rw [ez0]; simp only [go_sem, seval]; exact gD11
    ·refine ⟨?_, ?_, ?_, ?_, ?_, ?_, ?_, ?_, ?_, ?_, ?_, ?_, ?_, ?_, ?_, ?_, ?_, ?_, ?_, ?_, ?_, ?_, ?_, ?_, ?_, ?_, ?_, ?_, ?_, ?_, ?_, ?_, ?_, ?_, ?_, ?_, ?_, ?_, ?_, ?_, ?_, ?_, ?_, ?_, ?_, ?_, ?_, ?_, ?_, ?_, ?_, ?_, ?_, ?_, ?_, ?_, ?_, ?_, ?_, ?_, ?_, ?_, ?_, ?_, ?_, ?_, ?_, ?_, ?_, ?_, ?_, ?_, ?_, ?_, ?_, ?_, ?_, ?_, ?_, ?_, ?_, ?_, ?_, ?_, ?_, ?_, ?_, ?_, ?_, ?_, ?_, ?_, ?_, ?_, ?_, ?_, ?_, ?_, ?_, ?_, ?_, ?_, ?_, ?_, ?_, ?_, ?_, ?_, ?_, ?_, ?_, ?_, ?_, ?_, ?_, ?_, ?_, ?_, ?_, ?_, ?_, ?_, ?_, ?_, ?_, ?_, ?_, ?_, ?_, ?_, ?_, ?_, ?_, ?_, ?_, ?_, ?_, ?_, ?_, ?_, ?_, ?_, ?_, ?_, ?_, ?_, ?_, ?_, ?_, ?_, ?_, ?_, ?_, ?_, ?_, ?_, ?_, ?_, ?_, ?_, ?_, ?_, ?_, ?_, ?_, ?_, ?_, ?_, ?_, ?_, ?_, ?_, ?_, ?_, ?_, ?_, ?_, ?_, ?_, ?_, ?_, trivial⟩
     ·show gRun _ _ _ _ _ z0 (fun st' => Ghost _ _ st' z1)
      rw [ez0, ez1]; simp only [go_sem, seval]; exact dt_can ⟨rfl, rfl, rfl, rfl, rfl, rfl, rfl, rfl, rfl, rfl, rfl, rfl, trivial⟩ rfl
     ·show gRun _ _ _ _ _ z0 (fun st' => Ghost _ _ st' z2)
      rw [ez0, ez2]; simp only [go_sem, seval]; exact gD11
     ·show gRun _ _ _ _ _ z0 (fun st' => Ghost _ _ st' z3)
      rw [ez0, ez3]; simp only [go_sem, seval]; exact dt_can ⟨rfl, rfl, rfl, rfl, rfl, rfl, rfl, rfl, rfl, rfl, rfl, rfl, trivial⟩ rfl
     ·show gRun _ _ _ _ _ z0 (fun st' => Ghost _ _ st' z4)
      rw [ez0, ez4]; simp only [go_sem, seval]; exact gD11
     ·show gRun _ _ _ _ _ z1 (fun st' => Ghost _ _ st' z5)
      rw [ez1, ez5]; simp only [go_sem, seval]; exact gD12
     ·show gRun _ _ _ _ _ z1 (fun st' => Ghost _ _ st' z6)
      rw [ez1, ez6]; simp only [go_sem, seval]; exact gD12
     ·show gRun _ _ _ _ _ z1 (fun st' => Ghost _ _ st' z7)
      rw [ez1, ez7]; simp only [go_sem, seval]; exact dt_can ⟨rfl, rfl, rfl, rfl, rfl, rfl, rfl, rfl, rfl, rfl, rfl, rfl, rfl, trivial⟩ rfl
     ·show gRun _ _ _ _ _ z1 (fun st' => Ghost _ _ st' z8)
      rw [ez1, ez8]; simp only [go_sem, seval]; exact gD12
     ·show gRun _ _ _ _ _ z2 (fun st' => Ghost _ _ st' z6)
      rw [ez2, ez6]; simp only [go_sem, seval]; exact dt_can ⟨rfl, rfl, rfl, rfl, rfl, rfl, rfl, rfl, rfl, rfl, rfl, rfl, trivial⟩ rfl
     ·show gRun _ _ _ _ _ z2 (fun st' => Ghost _ _ st' z9)
      rw [ez2, ez9]; simp only [go_sem, seval]; exact dt_can ⟨rfl, rfl, rfl, rfl, rfl, rfl, rfl, rfl, rfl, rfl, rfl, rfl, trivial⟩ rfl
     ·show gRun _ _ _ _ _ z2 (fun st' => Ghost _ _ st' z10)
      rw [ez2, ez10]; simp only [go_sem, seval]; exact gD11
     ·show gRun _ _ _ _ _ z3 (fun st' => Ghost _ _ st' z7)
      rw [ez3, ez7]; simp only [go_sem, seval]; exact dt_can ⟨rfl, rfl, rfl, rfl, rfl, rfl, rfl, rfl, rfl, rfl, rfl, rfl, rfl, trivial⟩ rfl
     ·show gRun _ _ _ _ _ z3 (fun st' => Ghost _ _ st' z9)
      rw [ez3, ez9]; simp only [go_sem, seval]; exact gD12
     ·show gRun _ _ _ _ _ z3 (fun st' => Ghost _ _ st' z11)
      rw [ez3, ez11]; simp only [go_sem, seval]; exact gD12
     ·show gRun _ _ _ _ _ z3 (fun st' => Ghost _ _ st' z12)
      rw [ez3, ez12]; simp only [go_sem, seval]; exact gD12
     ·show gRun _ _ _ _ _ z4 (fun st' => Ghost _ _ st' z8)
      rw [ez4, ez8]; simp only [go_sem, seval]; exact dt_can ⟨rfl, rfl, rfl, rfl, rfl, rfl, rfl, rfl, rfl, rfl, rfl, rfl, trivial⟩ rfl
     ·show gRun _ _ _ _ _ z4 (fun st' => Ghost _ _ st' z10)
      rw [ez4, ez10]; simp only [go_sem, seval]; exact gD11
     ·show gRun _ _ _ _ _ z4 (fun st' => Ghost _ _ st' z12)
      rw [ez4, ez12]; simp only [go_sem, seval]; exact dt_can ⟨rfl, rfl, rfl, rfl, rfl, rfl, rfl, rfl, rfl, rfl, rfl, rfl, trivial⟩ rfl
     ·show gRun _ _ _ _ _ z4 (fun st' => Ghost _ _ st' z13)
      rw [ez4, ez13]; simp only [go_sem, seval]; (try rw [ecm]); exact gD10
     ·show gRun _ _ _ _ _ z5 (fun st' => Ghost _ _ st' z14)
      rw [ez5, ez14]; simp only [go_sem, seval]; exact gD12
     ·show gRun _ _ _ _ _ z5 (fun st' => Ghost _ _ st' z15)
      rw [ez5, ez15]; simp only [go_sem, seval]; exact dt_can ⟨rfl, rfl, rfl, rfl, rfl, rfl, rfl, rfl, rfl, rfl, rfl, rfl, rfl, trivial⟩ rfl
     ·show gRun _ _ _ _ _ z5 (fun st' => Ghost _ _ st' z16)
      rw [ez5, ez16]; simp only [go_sem, seval]; exact gD12
     ·show gRun _ _ _ _ _ z6 (fun st' => Ghost _ _ st' z14)
      rw [ez6, ez14]; simp only [go_sem, seval]; exact gD12
     ·show gRun _ _ _ _ _ z6 (fun st' => Ghost _ _ st' z17)
      rw [ez6, ez17]; simp only [go_sem, seval]; exact dt_can ⟨rfl, rfl, rfl, rfl, rfl, rfl, rfl, rfl, rfl, rfl, rfl, rfl, rfl, trivial⟩ rfl
     ·show gRun _ _ _ _ _ z6 (fun st' => Ghost _ _ st' z18)
      rw [ez6, ez18]; simp only [go_sem, seval]; exact gD12
     ·show gRun _ _ _ _ _ z7 (fun st' => Ghost _ _ st' z15)
      rw [ez7, ez15]; simp only [go_sem, seval]; exact gD13
     ·show gRun _ _ _ _ _ z7 (fun st' => Ghost _ _ st' z17)
      rw [ez7, ez17]; simp only [go_sem, seval]; exact gD13
     ·show gRun _ _ _ _ _ z7 (fun st' => Ghost _ _ st' z19)
      rw [ez7, ez19]; simp only [go_sem, seval]; exact gD13
     ·show gRun _ _ _ _ _ z7 (fun st' => Ghost _ _ st' z20)
      rw [ez7, ez20]; simp only [go_sem, seval]; exact gD13
     ·show gRun _ _ _ _ _ z8 (fun st' => Ghost _ _ st' z16)
      rw [ez8, ez16]; simp only [go_sem, seval]; exact gD12
     ·show gRun _ _ _ _ _ z8 (fun st' => Ghost _ _ st' z18)
      rw [ez8, ez18]; simp only [go_sem, seval]; exact gD12
     ·show gRun _ _ _ _ _ z8 (fun st' => Ghost _ _ st' z20)
      rw [ez8, ez20]; simp only [go_sem, seval]; exact dt_can ⟨rfl, rfl, rfl, rfl, rfl, rfl, rfl, rfl, rfl, rfl, rfl, rfl, rfl, trivial⟩ rfl
     ·show gRun _ _ _ _ _ z8 (fun st' => Ghost _ _ st' z21)
      rw [ez8, ez21]; simp only [go_sem, seval]; (try rw [ecm]); exact gD11
     ·show gRun _ _ _ _ _ z9 (fun st' => Ghost _ _ st' z17)
      rw [ez9, ez17]; simp only [go_sem, seval]; exact dt_can ⟨rfl, rfl, rfl, rfl, rfl, rfl, rfl, rfl, rfl, rfl, rfl, rfl, rfl, trivial⟩ rfl
     ·show gRun _ _ _ _ _ z9 (fun st' => Ghost _ _ st' z22)
      rw [ez9, ez22]; simp only [go_sem, seval]; exact gD12
     ·show gRun _ _ _ _ _ z9 (fun st' => Ghost _ _ st' z23)
      rw [ez9, ez23]; simp only [go_sem, seval]; exact gD12
     ·show gRun _ _ _ _ _ z10 (fun st' => Ghost _ _ st' z18)
      rw [ez10, ez18]; simp only [go_sem, seval]; exact dt_can ⟨rfl, rfl, rfl, rfl, rfl, rfl, rfl, rfl, rfl, rfl, rfl, rfl, trivial⟩ rfl
     ·show gRun _ _ _ _ _ z10 (fun st' => Ghost _ _ st' z23)
      rw [ez10, ez23]; simp only [go_sem, seval]; exact dt_can ⟨rfl, rfl, rfl, rfl, rfl, rfl, rfl, rfl, rfl, rfl, rfl, rfl, trivial⟩ rfl
     ·show gRun _ _ _ _ _ z10 (fun st' => Ghost _ _ st' z24)
      rw [ez10, ez24]; simp only [go_sem, seval]; (try rw [ecm]); exact gD10
     ·show gRun _ _ _ _ _ z11 (fun st' => Ghost _ _ st' z19)
      rw [ez11, ez19]; simp only [go_sem, seval]; exact dt_can ⟨rfl, rfl, rfl, rfl, rfl, rfl, rfl, rfl, rfl, rfl, rfl, rfl, rfl, trivial⟩ rfl
     ·show gRun _ _ _ _ _ z11 (fun st' => Ghost _ _ st' z22)
      rw [ez11, ez22]; simp only [go_sem, seval]; exact gD12
     ·show gRun _ _ _ _ _ z11 (fun st' => Ghost _ _ st' z25)
      rw [ez11, ez25]; simp only [go_sem, seval]; exact gD12
     ·show gRun _ _ _ _ _ z12 (fun st' => Ghost _ _ st' z20)
      rw [ez12, ez20]; simp only [go_sem, seval]; exact dt_can ⟨rfl, rfl, rfl, rfl, rfl, rfl, rfl, rfl, rfl, rfl, rfl, rfl, rfl, trivial⟩ rfl
     ·show gRun _ _ _ _ _ z12 (fun st' => Ghost _ _ st' z23)
      rw [ez12, ez23]; simp only [go_sem, seval]; exact gD12
     ·show gRun _ _ _ _ _ z12 (fun st' => Ghost _ _ st' z25)
      rw [ez12, ez25]; simp only [go_sem, seval]; exact gD12
     ·show gRun _ _ _ _ _ z12 (fun st' => Ghost _ _ st' z26)
      rw [ez12, ez26]; simp only [go_sem, seval]; (try rw [ecm]); exact gD11
     ·show gRun _ _ _ _ _ z13 (fun st' => Ghost _ _ st' z21)
      rw [ez13, ez21]; simp only [go_sem, seval]; exact dt_can ⟨rfl, rfl, rfl, rfl, rfl, rfl, rfl, rfl, rfl, rfl, rfl, trivial⟩ rfl
     ·show gRun _ _ _ _ _ z13 (fun st' => Ghost _ _ st' z24)
      rw [ez13, ez24]; simp only [go_sem, seval]; exact gD10
     ·show gRun _ _ _ _ _ z13 (fun st' => Ghost _ _ st' z26)
      rw [ez13, ez26]; simp only [go_sem, seval]; exact dt_can ⟨rfl, rfl, rfl, rfl, rfl, rfl, rfl, rfl, rfl, rfl, rfl, trivial⟩ rfl
     ·show gRun _ _ _ _ _ z14 (fun st' => Ghost _ _ st' z27)
      rw [ez14, ez27]; simp only [go_sem, seval]; (try simp only [hlm]); exact gD11
     ·show gRun _ _ _ _ _ z14 (fun st' => Ghost _ _ st' z28)
      rw [ez14, ez28]; simp only [go_sem, seval]; exact dt_can ⟨rfl, rfl, rfl, rfl, rfl, rfl, rfl, rfl, rfl, rfl, rfl, rfl, rfl, trivial⟩ rfl
     ·show gRun _ _ _ _ _ z14 (fun st' => Ghost _ _ st' z29)
      rw [ez14, ez29]; simp only [go_sem, seval]; exact gD12
     ·show gRun _ _ _ _ _ z15 (fun st' => Ghost _ _ st' z28)
      rw [ez15, ez28]; simp only [go_sem, seval]; exact gD13
     ·show gRun _ _ _ _ _ z15 (fun st' => Ghost _ _ st' z30)
      rw [ez15, ez30]; simp only [go_sem, seval]; exact gD13
     ·show gRun _ _ _ _ _ z15 (fun st' => Ghost _ _ st' z31)
      rw [ez15, ez31]; simp only [go_sem, seval]; exact gD13
     ·show gRun _ _ _ _ _ z16 (fun st' => Ghost _ _ st' z29)
      rw [ez16, ez29]; simp only [go_sem, seval]; exact gD12
     ·show gRun _ _ _ _ _ z16 (fun st' => Ghost _ _ st' z31)
      rw [ez16, ez31]; simp only [go_sem, seval]; exact dt_can ⟨rfl, rfl, rfl, rfl, rfl, rfl, rfl, rfl, rfl, rfl, rfl, rfl, rfl, trivial⟩ rfl
     ·show gRun _ _ _ _ _ z16 (fun st' => Ghost _ _ st' z32)
      rw [ez16, ez32]; simp only [go_sem, seval]; (try rw [ecm]); exact gD11
     ·show gRun _ _ _ _ _ z17 (fun st' => Ghost _ _ st' z28)
      rw [ez17, ez28]; simp only [go_sem, seval]; exact gD13
     ·show gRun _ _ _ _ _ z17 (fun st' => Ghost _ _ st' z33)
      rw [ez17, ez33]; simp only [go_sem, seval]; exact gD13
     ·show gRun _ _ _ _ _ z17 (fun st' => Ghost _ _ st' z34)
      rw [ez17, ez34]; simp only [go_sem, seval]; exact gD13
     ·show gRun _ _ _ _ _ z18 (fun st' => Ghost _ _ st' z29)
      rw [ez18, ez29]; simp only [go_sem, seval]; exact gD12
     ·show gRun _ _ _ _ _ z18 (fun st' => Ghost _ _ st' z34)
      rw [ez18, ez34]; simp only [go_sem, seval]; exact dt_can ⟨rfl, rfl, rfl, rfl, rfl, rfl, rfl, rfl, rfl, rfl, rfl, rfl, rfl, trivial⟩ rfl
     ·show gRun _ _ _ _ _ z18 (fun st' => Ghost _ _ st' z35)
      rw [ez18, ez35]; simp only [go_sem, seval]; (try rw [ecm]); exact gD11
     ·show gRun _ _ _ _ _ z19 (fun st' => Ghost _ _ st' z30)
      rw [ez19, ez30]; simp only [go_sem, seval]; exact gD13
     ·show gRun _ _ _ _ _ z19 (fun st' => Ghost _ _ st' z33)
      rw [ez19, ez33]; simp only [go_sem, seval]; exact gD13
     ·show gRun _ _ _ _ _ z19 (fun st' => Ghost _ _ st' z36)
      rw [ez19, ez36]; simp only [go_sem, seval]; exact gD13
     ·show gRun _ _ _ _ _ z20 (fun st' => Ghost _ _ st' z31)
      rw [ez20, ez31]; simp only [go_sem, seval]; exact gD13
     ·show gRun _ _ _ _ _ z20 (fun st' => Ghost _ _ st' z34)
      rw [ez20, ez34]; simp only [go_sem, seval]; exact gD13
     ·show gRun _ _ _ _ _ z20 (fun st' => Ghost _ _ st' z36)
      rw [ez20, ez36]; simp only [go_sem, seval]; exact gD13
     ·show gRun _ _ _ _ _ z20 (fun st' => Ghost _ _ st' z37)
      rw [ez20, ez37]; simp only [go_sem, seval]; (try rw [ecm]); exact gD12
     ·show gRun _ _ _ _ _ z21 (fun st' => Ghost _ _ st' z32)
      rw [ez21, ez32]; simp only [go_sem, seval]; exact gD11
     ·show gRun _ _ _ _ _ z21 (fun st' => Ghost _ _ st' z35)
      rw [ez21, ez35]; simp only [go_sem, seval]; exact gD11
     ·show gRun _ _ _ _ _ z21 (fun st' => Ghost _ _ st' z37)
      rw [ez21, ez37]; simp only [go_sem, seval]; exact dt_can ⟨rfl, rfl, rfl, rfl, rfl, rfl, rfl, rfl, rfl, rfl, rfl, rfl, trivial⟩ rfl
     ·show gRun _ _ _ _ _ z22 (fun st' => Ghost _ _ st' z33)
      rw [ez22, ez33]; simp only [go_sem, seval]; exact dt_can ⟨rfl, rfl, rfl, rfl, rfl, rfl, rfl, rfl, rfl, rfl, rfl, rfl, rfl, trivial⟩ rfl
     ·show gRun _ _ _ _ _ z22 (fun st' => Ghost _ _ st' z38)
      rw [ez22, ez38]; simp only [go_sem, seval]; exact gD12
     ·show gRun _ _ _ _ _ z23 (fun st' => Ghost _ _ st' z34)
      rw [ez23, ez34]; simp only [go_sem, seval]; exact dt_can ⟨rfl, rfl, rfl, rfl, rfl, rfl, rfl, rfl, rfl, rfl, rfl, rfl, rfl, trivial⟩ rfl
     ·show gRun _ _ _ _ _ z23 (fun st' => Ghost _ _ st' z38)
      rw [ez23, ez38]; simp only [go_sem, seval]; exact gD12
     ·show gRun _ _ _ _ _ z23 (fun st' => Ghost _ _ st' z39)
      rw [ez23, ez39]; simp only [go_sem, seval]; (try rw [ecm]); exact gD11
     ·show gRun _ _ _ _ _ z24 (fun st' => Ghost _ _ st' z35)
      rw [ez24, ez35]; simp only [go_sem, seval]; exact dt_can ⟨rfl, rfl, rfl, rfl, rfl, rfl, rfl, rfl, rfl, rfl, rfl, trivial⟩ rfl
     ·show gRun _ _ _ _ _ z24 (fun st' => Ghost _ _ st' z39)
      rw [ez24, ez39]; simp only [go_sem, seval]; exact dt_can ⟨rfl, rfl, rfl, rfl, rfl, rfl, rfl, rfl, rfl, rfl, rfl, trivial⟩ rfl
     ·show gRun _ _ _ _ _ z25 (fun st' => Ghost _ _ st' z36)
      rw [ez25, ez36]; simp only [go_sem, seval]; exact dt_can ⟨rfl, rfl, rfl, rfl, rfl, rfl, rfl, rfl, rfl, rfl, rfl, rfl, rfl, trivial⟩ rfl
     ·show gRun _ _ _ _ _ z25 (fun st' => Ghost _ _ st' z38)
      rw [ez25, ez38]; simp only [go_sem, seval]; exact gD12
     ·show gRun _ _ _ _ _ z25 (fun st' => Ghost _ _ st' z40)
      rw [ez25, ez40]; simp only [go_sem, seval]; (try rw [ecm]); exact gD11
     ·show gRun _ _ _ _ _ z26 (fun st' => Ghost _ _ st' z37)
      rw [ez26, ez37]; simp only [go_sem, seval]; exact dt_can ⟨rfl, rfl, rfl, rfl, rfl, rfl, rfl, rfl, rfl, rfl, rfl, rfl, trivial⟩ rfl
     ·show gRun _ _ _ _ _ z26 (fun st' => Ghost _ _ st' z39)
      rw [ez26, ez39]; simp only [go_sem, seval]; exact gD11
     ·show gRun _ _ _ _ _ z26 (fun st' => Ghost _ _ st' z40)
      rw [ez26, ez40]; simp only [go_sem, seval]; exact gD11
     ·show gRun _ _ _ _ _ z27 (fun st' => Ghost _ _ st' z41)
      rw [ez27, ez41]; simp only [go_sem, seval]; exact dt_can ⟨rfl, rfl, rfl, rfl, rfl, rfl, rfl, rfl, rfl, rfl, rfl, rfl, trivial⟩ rfl
     ·show gRun _ _ _ _ _ z27 (fun st' => Ghost _ _ st' z42)
      rw [ez27, ez42]; simp only [go_sem, seval]; exact gD11
     ·show gRun _ _ _ _ _ z28 (fun st' => Ghost _ _ st' z41)
      rw [ez28, ez41]; simp only [go_sem, seval]; (try simp only [hlm]); exact gD12
     ·show gRun _ _ _ _ _ z28 (fun st' => Ghost _ _ st' z43)
      rw [ez28, ez43]; simp only [go_sem, seval]; exact gD13
     ·show gRun _ _ _ _ _ z28 (fun st' => Ghost _ _ st' z44)
      rw [ez28, ez44]; simp only [go_sem, seval]; exact gD13
     ·show gRun _ _ _ _ _ z29 (fun st' => Ghost _ _ st' z42)
      rw [ez29, ez42]; simp only [go_sem, seval]; (try simp only [hlm]); exact gD11
     ·show gRun _ _ _ _ _ z29 (fun st' => Ghost _ _ st' z44)
      rw [ez29, ez44]; simp only [go_sem, seval]; exact dt_can ⟨rfl, rfl, rfl, rfl, rfl, rfl, rfl, rfl, rfl, rfl, rfl, rfl, rfl, trivial⟩ rfl
     ·show gRun _ _ _ _ _ z29 (fun st' => Ghost _ _ st' z45)
      rw [ez29, ez45]; simp only [go_sem, seval]; (try rw [ecm]); exact gD11
     ·show gRun _ _ _ _ _ z30 (fun st' => Ghost _ _ st' z43)
      rw [ez30, ez43]; simp only [go_sem, seval]; exact gD13
     ·show gRun _ _ _ _ _ z30 (fun st' => Ghost _ _ st' z46)
      rw [ez30, ez46]; simp only [go_sem, seval]; exact gD13
     ·show gRun _ _ _ _ _ z31 (fun st' => Ghost _ _ st' z44)
      rw [ez31, ez44]; simp only [go_sem, seval]; exact gD13
     ·show gRun _ _ _ _ _ z31 (fun st' => Ghost _ _ st' z46)
      rw [ez31, ez46]; simp only [go_sem, seval]; exact gD13
     ·show gRun _ _ _ _ _ z31 (fun st' => Ghost _ _ st' z47)
      rw [ez31, ez47]; simp only [go_sem, seval]; (try rw [ecm]); exact gD12
     ·show gRun _ _ _ _ _ z32 (fun st' => Ghost _ _ st' z45)
      rw [ez32, ez45]; simp only [go_sem, seval]; exact gD11
     ·show gRun _ _ _ _ _ z32 (fun st' => Ghost _ _ st' z47)
      rw [ez32, ez47]; simp only [go_sem, seval]; exact dt_can ⟨rfl, rfl, rfl, rfl, rfl, rfl, rfl, rfl, rfl, rfl, rfl, rfl, trivial⟩ rfl
     ·show gRun _ _ _ _ _ z33 (fun st' => Ghost _ _ st' z43)
      rw [ez33, ez43]; simp only [go_sem, seval]; exact gD13
     ·show gRun _ _ _ _ _ z33 (fun st' => Ghost _ _ st' z48)
      rw [ez33, ez48]; simp only [go_sem, seval]; exact gD13
     ·show gRun _ _ _ _ _ z34 (fun st' => Ghost _ _ st' z44)
      rw [ez34, ez44]; simp only [go_sem, seval]; exact gD13
     ·show gRun _ _ _ _ _ z34 (fun st' => Ghost _ _ st' z48)
      rw [ez34, ez48]; simp only [go_sem, seval]; exact gD13
     ·show gRun _ _ _ _ _ z34 (fun st' => Ghost _ _ st' z49)
      rw [ez34, ez49]; simp only [go_sem, seval]; (try rw [ecm]); exact gD12
     ·show gRun _ _ _ _ _ z35 (fun st' => Ghost _ _ st' z45)
      rw [ez35, ez45]; simp only [go_sem, seval]; exact gD11
     ·show gRun _ _ _ _ _ z35 (fun st' => Ghost _ _ st' z49)
      rw [ez35, ez49]; simp only [go_sem, seval]; exact dt_can ⟨rfl, rfl, rfl, rfl, rfl, rfl, rfl, rfl, rfl, rfl, rfl, rfl, trivial⟩ rfl
     ·show gRun _ _ _ _ _ z36 (fun st' => Ghost _ _ st' z46)
      rw [ez36, ez46]; simp only [go_sem, seval]; exact gD13
     ·show gRun _ _ _ _ _ z36 (fun st' => Ghost _ _ st' z48)
      rw [ez36, ez48]; simp only [go_sem, seval]; exact gD13
     ·show gRun _ _ _ _ _ z36 (fun st' => Ghost _ _ st' z50)
      rw [ez36, ez50]; simp only [go_sem, seval]; (try rw [ecm]); exact gD12
     ·show gRun _ _ _ _ _ z37 (fun st' => Ghost _ _ st' z47)
      rw [ez37, ez47]; simp only [go_sem, seval]; exact gD12
     ·show gRun _ _ _ _ _ z37 (fun st' => Ghost _ _ st' z49)
      rw [ez37, ez49]; simp only [go_sem, seval]; exact gD12
     ·show gRun _ _ _ _ _ z37 (fun st' => Ghost _ _ st' z50)
      rw [ez37, ez50]; simp only [go_sem, seval]; exact gD12
     ·show gRun _ _ _ _ _ z38 (fun st' => Ghost _ _ st' z48)
      rw [ez38, ez48]; simp only [go_sem, seval]; exact dt_can ⟨rfl, rfl, rfl, rfl, rfl, rfl, rfl, rfl, rfl, rfl, rfl, rfl, rfl, trivial⟩ rfl
     ·show gRun _ _ _ _ _ z38 (fun st' => Ghost _ _ st' z51)
      rw [ez38, ez51]; simp only [go_sem, seval]; (try rw [ecm]); exact gD11
     ·show gRun _ _ _ _ _ z39 (fun st' => Ghost _ _ st' z49)
      rw [ez39, ez49]; simp only [go_sem, seval]; exact dt_can ⟨rfl, rfl, rfl, rfl, rfl, rfl, rfl, rfl, rfl, rfl, rfl, rfl, trivial⟩ rfl
     ·show gRun _ _ _ _ _ z39 (fun st' => Ghost _ _ st' z51)
      rw [ez39, ez51]; simp only [go_sem, seval]; exact gD11
     ·show gRun _ _ _ _ _ z40 (fun st' => Ghost _ _ st' z50)
      rw [ez40, ez50]; simp only [go_sem, seval]; exact dt_can ⟨rfl, rfl, rfl, rfl, rfl, rfl, rfl, rfl, rfl, rfl, rfl, rfl, trivial⟩ rfl
     ·show gRun _ _ _ _ _ z40 (fun st' => Ghost _ _ st' z51)
      rw [ez40, ez51]; simp only [go_sem, seval]; exact gD11
     ·show gRun _ _ _ _ _ z41 (fun st' => Ghost _ _ st' z52)
      rw [ez41, ez52]; simp only [go_sem, seval]; exact gD12
     ·show gRun _ _ _ _ _ z41 (fun st' => Ghost _ _ st' z53)
      rw [ez41, ez53]; simp only [go_sem, seval]; exact gD12
     ·show gRun _ _ _ _ _ z42 (fun st' => Ghost _ _ st' z53)
      rw [ez42, ez53]; simp only [go_sem, seval]; exact dt_can ⟨rfl, rfl, rfl, rfl, rfl, rfl, rfl, rfl, rfl, rfl, rfl, rfl, trivial⟩ rfl
     ·show gRun _ _ _ _ _ z42 (fun st' => Ghost _ _ st' z54)
      rw [ez42, ez54]; simp only [go_sem, seval]; (try rw [ecm]); exact gD10
     ·show gRun _ _ _ _ _ z43 (fun st' => Ghost _ _ st' z52)
      rw [ez43, ez52]; simp only [go_sem, seval]; (try simp only [hlm]); exact gD12
     ·show gRun _ _ _ _ _ z43 (fun st' => Ghost _ _ st' z55)
      rw [ez43, ez55]; simp only [go_sem, seval]; exact gD13
     ·show gRun _ _ _ _ _ z44 (fun st' => Ghost _ _ st' z53)
      rw [ez44, ez53]; simp only [go_sem, seval]; (try simp only [hlm]); exact gD12
     ·show gRun _ _ _ _ _ z44 (fun st' => Ghost _ _ st' z55)
      rw [ez44, ez55]; simp only [go_sem, seval]; exact gD13
     ·show gRun _ _ _ _ _ z44 (fun st' => Ghost _ _ st' z56)
      rw [ez44, ez56]; simp only [go_sem, seval]; (try rw [ecm]); exact gD12
     ·show gRun _ _ _ _ _ z45 (fun st' => Ghost _ _ st' z54)
      rw [ez45, ez54]; simp only [go_sem, seval]; (try simp only [hlm]); exact gD10
     ·show gRun _ _ _ _ _ z45 (fun st' => Ghost _ _ st' z56)
      rw [ez45, ez56]; simp only [go_sem, seval]; exact dt_can ⟨rfl, rfl, rfl, rfl, rfl, rfl, rfl, rfl, rfl, rfl, rfl, rfl, trivial⟩ rfl
     ·show gRun _ _ _ _ _ z46 (fun st' => Ghost _ _ st' z55)
      rw [ez46, ez55]; simp only [go_sem, seval]; exact gD13
     ·show gRun _ _ _ _ _ z46 (fun st' => Ghost _ _ st' z57)
      rw [ez46, ez57]; simp only [go_sem, seval]; (try rw [ecm]); exact gD12
     ·show gRun _ _ _ _ _ z47 (fun st' => Ghost _ _ st' z56)
      rw [ez47, ez56]; simp only [go_sem, seval]; exact gD12
     ·show gRun _ _ _ _ _ z47 (fun st' => Ghost _ _ st' z57)
      rw [ez47, ez57]; simp only [go_sem, seval]; exact gD12
     ·show gRun _ _ _ _ _ z48 (fun st' => Ghost _ _ st' z55)
      rw [ez48, ez55]; simp only [go_sem, seval]; exact gD13
     ·show gRun _ _ _ _ _ z48 (fun st' => Ghost _ _ st' z58)
      rw [ez48, ez58]; simp only [go_sem, seval]; (try rw [ecm]); exact gD12
     ·show gRun _ _ _ _ _ z49 (fun st' => Ghost _ _ st' z56)
      rw [ez49, ez56]; simp only [go_sem, seval]; exact gD12
     ·show gRun _ _ _ _ _ z49 (fun st' => Ghost _ _ st' z58)
      rw [ez49, ez58]; simp only [go_sem, seval]; exact gD12
     ·show gRun _ _ _ _ _ z50 (fun st' => Ghost _ _ st' z57)
      rw [ez50, ez57]; simp only [go_sem, seval]; exact gD12
     ·show gRun _ _ _ _ _ z50 (fun st' => Ghost _ _ st' z58)
      rw [ez50, ez58]; simp only [go_sem, seval]; exact gD12
     ·show gRun _ _ _ _ _ z51 (fun st' => Ghost _ _ st' z58)
      rw [ez51, ez58]; simp only [go_sem, seval]; exact dt_can ⟨rfl, rfl, rfl, rfl, rfl, rfl, rfl, rfl, rfl, rfl, rfl, rfl, trivial⟩ rfl
     ·show gRun _ _ _ _ _ z52 (fun st' => Ghost _ _ st' z59)
      rw [ez52, ez59]; simp only [go_sem, seval]; exact gD12
     ·show gRun _ _ _ _ _ z52 (fun st' => Ghost _ _ st' z60)
      rw [ez52, ez60]; simp only [go_sem, seval]; exact dt_can ⟨rfl, rfl, rfl, rfl, rfl, rfl, rfl, rfl, rfl, rfl, rfl, rfl, rfl, trivial⟩ rfl
     ·show gRun _ _ _ _ _ z53 (fun st' => Ghost _ _ st' z59)
      rw [ez53, ez59]; simp only [go_sem, seval]; exact gD12
     ·show gRun _ _ _ _ _ z53 (fun st' => Ghost _ _ st' z61)
      rw [ez53, ez61]; simp only [go_sem, seval]; (try rw [ecm]); exact gD11
     ·show gRun _ _ _ _ _ z54 (fun st' => Ghost _ _ st' z61)
      rw [ez54, ez61]; simp only [go_sem, seval]; exact dt_can ⟨rfl, rfl, rfl, rfl, rfl, rfl, rfl, rfl, rfl, rfl, rfl, trivial⟩ rfl
     ·show gRun _ _ _ _ _ z54 (fun st' => Ghost _ _ st' z62)
      rw [ez54, ez62]; simp only [go_sem, seval]; repeat' (first | exact dt_can ⟨rfl, rfl, rfl, rfl, rfl, rfl, rfl, rfl, rfl, trivial⟩ rfl | with_reducible refine And.intro ?_ ?_ | omega | ((first | refine fcall_data (hpx) rfl ?_ | refine YR_intro (acall_data (hpx) rfl) ?_); simp only [go_sem, seval]))
     ·show gRun _ _ _ _ _ z55 (fun st' => Ghost _ _ st' z59)
      rw [ez55, ez59]; simp only [go_sem, seval]; (try simp only [hlm]); exact gD12
     ·show gRun _ _ _ _ _ z55 (fun st' => Ghost _ _ st' z63)
      rw [ez55, ez63]; simp only [go_sem, seval]; (try rw [ecm]); exact gD12
     ·show gRun _ _ _ _ _ z56 (fun st' => Ghost _ _ st' z61)
      rw [ez56, ez61]; simp only [go_sem, seval]; (try simp only [hlm]); exact gD11
     ·show gRun _ _ _ _ _ z56 (fun st' => Ghost _ _ st' z63)
      rw [ez56, ez63]; simp only [go_sem, seval]; exact gD12
     ·show gRun _ _ _ _ _ z57 (fun st' => Ghost _ _ st' z63)
      rw [ez57, ez63]; simp only [go_sem, seval]; exact gD12
     ·show gRun _ _ _ _ _ z58 (fun st' => Ghost _ _ st' z63)
      rw [ez58, ez63]; simp only [go_sem, seval]; exact gD12
     ·show gRun _ _ _ _ _ z59 (fun st' => Ghost _ _ st' z64)
      rw [ez59, ez64]; simp only [go_sem, seval]; (try rw [ecm]); exact gD11
     ·show gRun _ _ _ _ _ z59 (fun st' => Ghost _ _ st' z65)
      rw [ez59, ez65]; simp only [go_sem, seval]; exact dt_can ⟨rfl, rfl, rfl, rfl, rfl, rfl, rfl, rfl, rfl, rfl, rfl, rfl, rfl, trivial⟩ rfl
     ·show gRun _ _ _ _ _ z60 (fun st' => Ghost _ _ st' z65)
      rw [ez60, ez65]; simp only [go_sem, seval]; exact gD13
     ·show gRun _ _ _ _ _ z61 (fun st' => Ghost _ _ st' z64)
      rw [ez61, ez64]; simp only [go_sem, seval]; exact gD11
     ·show gRun _ _ _ _ _ z61 (fun st' => Ghost _ _ st' z66)
      rw [ez61, ez66]; simp only [go_sem, seval]; repeat' (first | exact dt_can ⟨rfl, rfl, rfl, rfl, rfl, rfl, rfl, rfl, rfl, rfl, trivial⟩ rfl | with_reducible refine And.intro ?_ ?_ | omega | ((first | refine fcall_data (hpx) rfl ?_ | refine YR_intro (acall_data (hpx) rfl) ?_); simp only [go_sem, seval]))
     ·show gRun _ _ _ _ _ z62 (fun st' => Ghost _ _ st' z66)
      rw [ez62, ez66]; simp only [go_sem, seval]; exact dt_can ⟨rfl, rfl, rfl, rfl, rfl, rfl, rfl, rfl, rfl, rfl, trivial⟩ rfl
     ·show gRun _ _ _ _ _ z62 (fun st' => Ghost _ _ st' z67)
      rw [ez62, ez67]; simp only [go_sem, seval]; exact gD9
     ·show gRun _ _ _ _ _ z63 (fun st' => Ghost _ _ st' z64)
      rw [ez63, ez64]; simp only [go_sem, seval]; (try simp only [hlm]); exact gD11
     ·show gRun _ _ _ _ _ z64 (fun st' => Ghost _ _ st' z68)
      rw [ez64, ez68]; simp only [go_sem, seval]; repeat' (first | exact dt_can ⟨rfl, rfl, rfl, rfl, rfl, rfl, rfl, rfl, rfl, rfl, trivial⟩ rfl | with_reducible refine And.intro ?_ ?_ | omega | ((first | refine fcall_data (hpx) rfl ?_ | refine YR_intro (acall_data (hpx) rfl) ?_); simp only [go_sem, seval]))
     ·show gRun _ _ _ _ _ z64 (fun st' => Ghost _ _ st' z69)
      rw [ez64, ez69]; simp only [go_sem, seval]; exact dt_can ⟨rfl, rfl, rfl, rfl, rfl, rfl, rfl, rfl, rfl, rfl, rfl, rfl, trivial⟩ rfl
     ·show gRun _ _ _ _ _ z65 (fun st' => Ghost _ _ st' z69)
      rw [ez65, ez69]; simp only [go_sem, seval]; (try rw [ecm]); exact gD12
     ·show gRun _ _ _ _ _ z66 (fun st' => Ghost _ _ st' z68)
      rw [ez66, ez68]; simp only [go_sem, seval]; exact gD10
     ·show gRun _ _ _ _ _ z66 (fun st' => Ghost _ _ st' z70)
      rw [ez66, ez70]; simp only [go_sem, seval]; exact gD10
     ·show gRun _ _ _ _ _ z67 (fun st' => Ghost _ _ st' z70)
      rw [ez67, ez70]; simp only [go_sem, seval]; exact dt_can ⟨rfl, rfl, rfl, rfl, rfl, rfl, rfl, rfl, rfl, rfl, trivial⟩ rfl
     ·show gRun _ _ _ _ _ z68 (fun st' => Ghost _ _ st' z71)
      rw [ez68, ez71]; simp only [go_sem, seval]; exact gD10
     ·show gRun _ _ _ _ _ z68 (fun st' => Ghost _ _ st' z72)
      rw [ez68, ez72]; simp only [go_sem, seval]; exact dt_can ⟨rfl, rfl, rfl, rfl, rfl, rfl, rfl, rfl, rfl, rfl, rfl, trivial⟩ rfl
     ·show gRun _ _ _ _ _ z69 (fun st' => Ghost _ _ st' z72)
      rw [ez69, ez72]; simp only [go_sem, seval]; repeat' (first | exact dt_can ⟨rfl, rfl, rfl, rfl, rfl, rfl, rfl, rfl, rfl, rfl, rfl, trivial⟩ rfl | with_reducible refine And.intro ?_ ?_ | omega | ((first | refine fcall_data (hpx) rfl ?_ | refine YR_intro (acall_data (hpx) rfl) ?_); simp only [go_sem, seval]))
     ·show gRun _ _ _ _ _ z70 (fun st' => Ghost _ _ st' z71)
      rw [ez70, ez71]; simp only [go_sem, seval]; exact gD10
     ·show gRun _ _ _ _ _ z71 (fun st' => Ghost _ _ st' z73)
      rw [ez71, ez73]; simp only [go_sem, seval]; (try simp only [hlr]); exact gD9
     ·show gRun _ _ _ _ _ z71 (fun st' => Ghost _ _ st' z74)
      rw [ez71, ez74]; simp only [go_sem, seval]; exact dt_can ⟨rfl, rfl, rfl, rfl, rfl, rfl, rfl, rfl, rfl, rfl, rfl, trivial⟩ rfl
     ·show gRun _ _ _ _ _ z72 (fun st' => Ghost _ _ st' z74)
      rw [ez72, ez74]; simp only [go_sem, seval]; exact gD11
     ·show gRun _ _ _ _ _ z73 (fun st' => Ghost _ _ st' z75)
      rw [ez73, ez75]; simp only [go_sem, seval]; exact dt_can ⟨rfl, rfl, rfl, rfl, rfl, rfl, rfl, rfl, rfl, rfl, trivial⟩ rfl
     ·show gRun _ _ _ _ _ z74 (fun st' => Ghost _ _ st' z75)
      rw [ez74, ez75]; simp only [go_sem, seval]; (try simp only [hlr]); exact gD10
     ·show gRun _ _ _ _ _ z75 (fun st' => Ghost _ _ st' z76)
      rw [ez75, ez76]; simp only [go_sem, seval]; exact gD8
     ·show gRun _ _ _ _ _ z76 (fun st' => Ghost _ _ st' z77)
      rw [ez76, ez77]; simp only [go_sem, seval]; exact dt_can ⟨rfl, rfl, rfl, rfl, rfl, rfl, rfl, rfl, rfl, trivial⟩ rfl
     ·show gRun _ _ _ _ _ z77 (fun st' => Ghost _ _ st' z78)
      rw [ez77, ez78]; simp only [go_sem, seval]; exact gD7
    show ATs _ _ _ _ _ z78
    rw [ez78]
    clear ez0 ez1 ez2 ez3 ez4 ez5 ez6 ez7 ez8 ez9 ez10 ez11 ez12 ez13 ez14 ez15 ez16 ez17 ez18 ez19 ez20 ez21 ez22 ez23 ez24 ez25 ez26 ez27 ez28 ez29 ez30 ez31 ez32 ez33 ez34 ez35 ez36 ez37 ez38 ez39 ez40 ez41 ez42 ez43 ez44 ez45 ez46 ez47 ez48 ez49 ez50 ez51 ez52 ez53 ez54 ez55 ez56 ez57 ez58 ez59 ez60 ez61 ez62 ez63 ez64 ez65 ez66 ez67 ez68 ez69 ez70 ez71 ez72 ez73 ez74 ez75 ez76 ez77 ez78 z0 z1 z2 z3 z4 z5 z6 z7 z8 z9 z10 z11 z12 z13 z14 z15 z16 z17 z18 z19 z20 z21 z22 z23 z24 z25 z26 z27 z28 z29 z30 z31 z32 z33 z34 z35 z36 z37 z38 z39 z40 z41 z42 z43 z44 z45 z46 z47 z48 z49 z50 z51 z52 z53 z54 z55 z56 z57 z58 z59 z60 z61 z62 z63 z64 z65 z66 z67 z68 z69 z70 z71 z72 z73 z74 z75 z76 z77 z78
    refine gB ?_
    refine ⟨some (x + 1), ⟨by omega, by omega⟩, by show y - (x + 1) < y - x; omega, .inr ⟨[8], by simp only [killL, List.map_cons, List.map_nil, killA, killAs, qOf, rmT, killH, killT, List.filter_cons, List.filter_nil, List.contains_cons, List.contains_nil, SlotsLe, St.get, slotGet, Nat.reduceEqDiff, Nat.reduceBEq, Bool.or_false, Bool.or_true, Bool.false_and, Bool.not_true, Bool.not_false, Bool.false_eq_true, ↓reduceIte, if_true, if_false, AV.int.injEq, AV.bool.injEq, AV.l1.injEq, AV.l2.injEq, AV.l3.injEq, true_and, and_true]; (have := hsu x; omega), by simp only [killL, List.map_cons, List.map_nil, killA, killAs, qOf, rmT, killH, killT, List.filter_cons, List.filter_nil, List.contains_cons, List.contains_nil, SlotsLe, St.get, slotGet, Nat.reduceEqDiff, Nat.reduceBEq, Bool.or_false, Bool.or_true, Bool.false_and, Bool.not_true, Bool.not_false, Bool.false_eq_true, ↓reduceIte, if_true, if_false, AV.int.injEq, AV.bool.injEq, AV.l1.injEq, AV.l2.injEq, AV.l3.injEq, true_and, and_true]; rw [matF_succ, rowF_succ]⟩⟩
  ·obtain rfl : x = n := by omega
   refine ats_exit (lq_x ?_)
   refine gB ?_
   exact ats_ret (finC (v := .agg [.ref 5 [], .ref 7 []]) (by simp only [go_sem, seval]) rfl)
end Go.Proofs.Ytkdadpdmnmjikaa
namespace Go.Proofs.Ytkdadpdmnmjikaa
open Go Go.Aw Go.Pl
def sdA (st k m : Nat) : AV := if spOk k m then .tup [.agg [.l2 (spSI (k / st + 1) st (zI k m * zI k m % 55441)), .l1 (spTI (k / st + 1) st (zI k m))], .int 0] else .tup [.agg [.nil, .nil], .int 5]
def sp1B (k m : Int) : Bool := (decide (0 ≤ k) && decide (k ≤ 15)) && (decide (1 ≤ m) && decide (m ≤ 1000))
def sp1A (k m : Int) : AV := if sp1B k m then sdA 1 k.toNat m.toNat else .tup [.agg [.nil, .nil], .int 2]
theorem specSsd_ok (k m : Int) : PureCall Try.prog 15 [.int k, .int m] (sp1A k m) := by
 have h1 := l01In_ok k 0 15
 have h2 := l01In_ok m 1 1000
 unfold sp1A
 cases hv : sp1B k m with
 | false =>
  rw [if_neg (by simp)]
  refine PureCall.intro (n := 25) (rs := [.cell 4 28, .tmp 5]) Try.call15 Try.func15 rfl rfl rfl (by simp only [List.length_cons, List.length_nil]; omega) (fun cx hcx => ats_of ?_); simp only [argSlots, Nat.zero_add, Nat.reduceAdd]
  refine gB ?_
  refine gC fun K hK => ?_
  first | refine fcall_data (h1) rfl ?_ | refine YR_intro (acall_data (h1) rfl) ?_
  simp only [go_sem, seval]
  first | refine YR_intro (fun _ => acall_data (h2) rfl) ?_ | refine YR_intro (acall_data (h2) rfl) ?_
  simp only [go_sem, seval]
  refine hK _ ?_; clear hK K
  refine gI (fun hc => ?_) fun hc => ?_
  ·refine gB ?_
   exact ats_ret (fin2C (v := .agg [.nil, .nil]) (by simp only [go_sem, seval]) trivial rfl)
  ·exfalso
   unfold sp1B at hv
   simp only [Bool.or_eq_false_iff, Bool.not_eq_false'] at hc
   rw [hc.1, hc.2] at hv
   cases hv
 | true =>
  rw [if_pos rfl]
  have hb : (decide (0 ≤ k) && decide (k ≤ 15)) = true ∧ (decide (1 ≤ m) && decide (m ≤ 1000)) = true := by
   unfold sp1B at hv
   exact Bool.and_eq_true_iff.1 hv
  have hb' := hb
  simp only [Bool.and_eq_true, decide_eq_true_eq] at hb'
  obtain ⟨kn, rfl⟩ : ∃ a : Nat, k = a := ⟨k.toNat, by omega⟩
  obtain ⟨mn, rfl⟩ : ∃ a : Nat, m = a := ⟨m.toNat, by omega⟩
  rw [hb.1] at h1
  rw [hb.2] at h2
  have h3 : PureCall Try.prog 44 [.int (kn : Int), .int (mn : Int), .int 1] (sdA 1 kn mn) := l13Spin_ok kn 1 mn (by omega) (.inl rfl) (by rw [Nat.div_one]; omega) (by omega)
  rw [Int.toNat_natCast, Int.toNat_natCast]
  unfold sdA at h3 ⊢
  cases ho : spOk kn mn with
  | false =>
   rw [ho, if_neg (by simp)] at h3
   rw [if_neg (by simp)]
   refine PureCall.intro (n := 25) (rs := [.cell 4 28, .tmp 5]) Try.call15 Try.func15 rfl rfl rfl (by simp only [List.length_cons, List.length_nil]; omega) (fun cx hcx => ats_of ?_); simp only [argSlots, Nat.zero_add, Nat.reduceAdd]
   refine gB ?_
   refine gC fun K hK => ?_
   first | refine fcall_data (h1) rfl ?_ | refine YR_intro (acall_data (h1) rfl) ?_
   simp only [go_sem, seval]
   first | refine YR_intro (fun _ => acall_data (h2) rfl) ?_ | refine YR_intro (acall_data (h2) rfl) ?_
   simp only [go_sem, seval]
   refine hK _ ?_; clear hK K
   refine gI (fun hc => ?_) fun hc => ?_
   ·simp at hc
   ·refine ats_skip ?_
    refine gC fun K hK => ?_
    first | refine fcall_data (h3) rfl ?_ | refine YR_intro (acall_data (h3) rfl) ?_
    simp only [go_sem, seval]
    refine hK _ ?_; clear hK K
    refine gB ?_
    exact ats_ret (fin2C (v := .agg [.nil, .nil]) (by simp only [go_sem, seval]) trivial rfl)
  | true =>
   rw [ho, if_pos rfl] at h3
   rw [if_pos rfl]
   generalize spSI (kn / 1 + 1) 1 (zI kn mn * zI kn mn % 55441) = S at h3 ⊢
   generalize spTI (kn / 1 + 1) 1 (zI kn mn) = T at h3 ⊢
   refine PureCall.intro (n := 25) (rs := [.cell 4 28, .tmp 5]) Try.call15 Try.func15 rfl rfl rfl (by simp only [List.length_cons, List.length_nil]; omega) (fun cx hcx => ats_of ?_); simp only [argSlots, Nat.zero_add, Nat.reduceAdd]
   refine gB ?_
   refine gC fun K hK => ?_
   first | refine fcall_data (h1) rfl ?_ | refine YR_intro (acall_data (h1) rfl) ?_
   simp only [go_sem, seval]
   first | refine YR_intro (fun _ => acall_data (h2) rfl) ?_ | refine YR_intro (acall_data (h2) rfl) ?_
   simp only [go_sem, seval]
   refine hK _ ?_; clear hK K
   refine gI (fun hc => ?_) fun hc => ?_
   ·simp at hc
   ·refine ats_skip ?_
    refine gC fun K hK => ?_
    first | refine fcall_data (h3) rfl ?_ | refine YR_intro (acall_data (h3) rfl) ?_
    simp only [go_sem, seval]
    refine hK _ ?_; clear hK K
    refine gB ?_
    exact ats_ret (fin2C (v := .agg [.l2 S, .l1 T]) (by simp only [go_sem, seval]) trivial rfl)
theorem implSsd_ok (k m : Int) : PureCall Try.prog 14 [.int k, .int m] (sp1A k m) := by
 have h1 := within_ok k 0 15
 have h2 := within_ok m 1 1000
 unfold sp1A
 cases hv : sp1B k m with
 | false =>
  rw [if_neg (by simp)]
  refine PureCall.intro (n := 23) (rs := [.cell 4 28, .tmp 5]) Try.call14 Try.func14 rfl rfl rfl (by simp only [List.length_cons, List.length_nil]; omega) (fun cx hcx => ats_of ?_); simp only [argSlots, Nat.zero_add, Nat.reduceAdd]
  refine gB ?_
  refine gC fun K hK => ?_
  first | refine fcall_data (h1) rfl ?_ | refine YR_intro (acall_data (h1) rfl) ?_
  simp only [go_sem, seval]
  first | refine YR_intro (fun _ => acall_data (h2) rfl) ?_ | refine YR_intro (acall_data (h2) rfl) ?_
  simp only [go_sem, seval]
  refine hK _ ?_; clear hK K
  refine gI (fun hc => ?_) fun hc => ?_
  ·refine gB ?_
   exact ats_ret (fin2C (v := .agg [.nil, .nil]) (by simp only [go_sem, seval]) trivial rfl)
  ·exfalso
   unfold sp1B at hv
   simp only [Bool.or_eq_false_iff, Bool.not_eq_false'] at hc
   rw [hc.1, hc.2] at hv
   cases hv
 | true =>
  rw [if_pos rfl]
  have hb : (decide (0 ≤ k) && decide (k ≤ 15)) = true ∧ (decide (1 ≤ m) && decide (m ≤ 1000)) = true := by
   unfold sp1B at hv
   exact Bool.and_eq_true_iff.1 hv
  have hb' := hb
  simp only [Bool.and_eq_true, decide_eq_true_eq] at hb'
  obtain ⟨kn, rfl⟩ : ∃ a : Nat, k = a := ⟨k.toNat, by omega⟩
  obtain ⟨mn, rfl⟩ : ∃ a : Nat, m = a := ⟨m.toNat, by omega⟩
  rw [hb.1] at h1
  rw [hb.2] at h2
  have h3 := spinData_ok kn 1 mn (by omega) (.inl rfl) (by rw [Nat.div_one]; omega) (by omega)
  have hs := isSpin_ok kn mn (by omega) (by omega)
  rw [Int.toNat_natCast, Int.toNat_natCast]
  unfold sdA
  cases ho : spOk kn mn with
  | false =>
   rw [ho] at hs
   rw [if_neg (by simp)]
   refine PureCall.intro (n := 23) (rs := [.cell 4 28, .tmp 5]) Try.call14 Try.func14 rfl rfl rfl (by simp only [List.length_cons, List.length_nil]; omega) (fun cx hcx => ats_of ?_); simp only [argSlots, Nat.zero_add, Nat.reduceAdd]
   refine gB ?_
   refine gC fun K hK => ?_
   first | refine fcall_data (h1) rfl ?_ | refine YR_intro (acall_data (h1) rfl) ?_
   simp only [go_sem, seval]
   first | refine YR_intro (fun _ => acall_data (h2) rfl) ?_ | refine YR_intro (acall_data (h2) rfl) ?_
   simp only [go_sem, seval]
   refine hK _ ?_; clear hK K
   refine gI (fun hc => ?_) fun hc => ?_
   ·simp at hc
   ·refine ats_skip ?_
    refine gC fun K hK => ?_
    first | refine fcall_data (hs) rfl ?_ | refine YR_intro (acall_data (hs) rfl) ?_
    simp only [go_sem, seval]
    refine hK _ ?_; clear hK K
    (repeat refine ats_seq ?_); refine ats_yes rfl trivial ?_
    refine gB ?_
    exact ats_ret (fin2C (v := .agg [.nil, .nil]) (by simp only [go_sem, seval]) trivial rfl)
  | true =>
   rw [ho] at hs
   rw [if_pos rfl]
   generalize spSI (kn / 1 + 1) 1 (zI kn mn * zI kn mn % 55441) = S at h3 ⊢
   generalize spTI (kn / 1 + 1) 1 (zI kn mn) = T at h3 ⊢
   refine PureCall.intro (n := 23) (rs := [.cell 4 28, .tmp 5]) Try.call14 Try.func14 rfl rfl rfl (by simp only [List.length_cons, List.length_nil]; omega) (fun cx hcx => ats_of ?_); simp only [argSlots, Nat.zero_add, Nat.reduceAdd]
   refine gB ?_
   refine gC fun K hK => ?_
   first | refine fcall_data (h1) rfl ?_ | refine YR_intro (acall_data (h1) rfl) ?_
   simp only [go_sem, seval]
   first | refine YR_intro (fun _ => acall_data (h2) rfl) ?_ | refine YR_intro (acall_data (h2) rfl) ?_
   simp only [go_sem, seval]
   refine hK _ ?_; clear hK K
   refine gI (fun hc => ?_) fun hc => ?_
   ·simp at hc
   ·refine ats_skip ?_
    refine gC fun K hK => ?_
    first | refine fcall_data (hs) rfl ?_ | refine YR_intro (acall_data (hs) rfl) ?_
    simp only [go_sem, seval]
    refine hK _ ?_; clear hK K
    (repeat refine ats_seq ?_); refine ats_no rfl trivial ?_
    refine ats_skip ?_
    refine gC fun K hK => ?_
    first | refine fcall_data (h3) rfl ?_ | refine YR_intro (acall_data (h3) rfl) ?_
    simp only [go_sem, seval]
    refine hK _ ?_; clear hK K
    exact ats_ret (fin2C (v := .agg [.l2 S, .l1 T]) (by simp only [go_sem, seval]) trivial rfl)
end Go.Proofs.Ytkdadpdmnmjikaa
namespace Go.Proofs.Ytkdadpdmnmjikaa
open Go Go.Aw Go.Pl
def sp2B (k m : Int) : Bool := ((decide (1 ≤ k) && decide (k ≤ 31)) && !decide (k.tmod 2 = 0)) && (decide (1 ≤ m) && decide (m ≤ 1000))
def sp2A (k m : Int) : AV := if sp2B k m then sdA 2 k.toNat m.toNat else .tup [.agg [.nil, .nil], .int 2]
theorem specEsd_ok (k m : Int) : PureCall Try.prog 21 [.int k, .int m] (sp2A k m) := by
 have h1 := l01In_ok k 1 31
 have h2 := l01In_ok m 1 1000
 have t1 := Int.tmod_lt_of_pos k (show (0 : Int) < 2 by omega)
 have t2 := Int.lt_tmod_of_pos k (show (0 : Int) < 2 by omega)
 unfold sp2A
 cases hv : sp2B k m with
 | false =>
  rw [if_neg (by simp)]
  refine PureCall.intro (n := 30) (rs := [.cell 4 28, .tmp 5]) Try.call21 Try.func21 rfl rfl rfl (by simp only [List.length_cons, List.length_nil]; omega) (fun cx hcx => ats_of ?_); simp only [argSlots, Nat.zero_add, Nat.reduceAdd]
  refine gB ?_
  refine gC fun K hK => ?_
  first | refine fcall_data (h1) rfl ?_ | refine YR_intro (acall_data (h1) rfl) ?_
  simp only [go_sem, seval]
  (repeat refine aI (hb := ?_))
  first | refine YR_intro (fun _ => acall_data (h2) rfl) ?_ | refine YR_intro (acall_data (h2) rfl) ?_
  simp only [go_sem, seval]
  (repeat refine aI (hb := ?_))
  refine hK _ ?_; clear hK K
  refine gI (fun hc => ?_) fun hc => ?_
  ·refine gB ?_
   exact ats_ret (fin2C (v := .agg [.nil, .nil]) (by simp only [go_sem, seval]) trivial rfl)
  ·exfalso
   unfold sp2B at hv
   generalize (decide (1 ≤ k) && decide (k ≤ 31)) = A at hv hc
   generalize decide (k.tmod 2 = 0) = B at hv hc
   generalize (decide (1 ≤ m) && decide (m ≤ 1000)) = C at hv hc
   cases A <;> cases B <;> cases C <;> simp_all
 | true =>
  rw [if_pos rfl]
  have hb : ((decide (1 ≤ k) && decide (k ≤ 31)) = true ∧ decide (k.tmod 2 = 0) = false) ∧ (decide (1 ≤ m) && decide (m ≤ 1000)) = true := by
   unfold sp2B at hv
   simpa only [Bool.and_eq_true, Bool.not_eq_true'] using hv
  have hb' := hb
  simp only [Bool.and_eq_true, decide_eq_true_eq] at hb'
  obtain ⟨kn, rfl⟩ : ∃ a : Nat, k = a := ⟨k.toNat, by omega⟩
  obtain ⟨mn, rfl⟩ : ∃ a : Nat, m = a := ⟨m.toNat, by omega⟩
  rw [hb.1.1] at h1
  rw [hb.2] at h2
  have hp := hb.1.2
  have hkn : kn ≤ 31 := by omega
  have h3 : PureCall Try.prog 44 [.int (kn : Int), .int (mn : Int), .int 2] (sdA 2 kn mn) := l13Spin_ok kn 2 mn hkn (.inr rfl) (by omega) (by omega)
  rw [Int.toNat_natCast, Int.toNat_natCast]
  unfold sdA at h3 ⊢
  cases ho : spOk kn mn with
  | false =>
   rw [ho, if_neg (by simp)] at h3
   rw [if_neg (by simp)]
   refine PureCall.intro (n := 30) (rs := [.cell 4 28, .tmp 5]) Try.call21 Try.func21 rfl rfl rfl (by simp only [List.length_cons, List.length_nil]; omega) (fun cx hcx => ats_of ?_); simp only [argSlots, Nat.zero_add, Nat.reduceAdd]
   refine gB ?_
   refine gC fun K hK => ?_
   first | refine fcall_data (h1) rfl ?_ | refine YR_intro (acall_data (h1) rfl) ?_
   simp only [go_sem, seval]
   (repeat refine aI (hb := ?_))
   first | refine YR_intro (fun _ => acall_data (h2) rfl) ?_ | refine YR_intro (acall_data (h2) rfl) ?_
   simp only [go_sem, seval]
   (repeat refine aI (hb := ?_))
   refine hK _ ?_; clear hK K
   refine gI (fun hc => ?_) fun hc => ?_
   ·exact absurd (show decide ((kn : Int).tmod 2 = 0) = true by first | exact hc | simpa using hc) (by rw [hp]; simp)
   ·refine ats_skip ?_
    refine gC fun K hK => ?_
    first | refine fcall_data (h3) rfl ?_ | refine YR_intro (acall_data (h3) rfl) ?_
    simp only [go_sem, seval]
    refine hK _ ?_; clear hK K
    refine gB ?_
    exact ats_ret (fin2C (v := .agg [.nil, .nil]) (by simp only [go_sem, seval]) trivial rfl)
  | true =>
   rw [ho, if_pos rfl] at h3
   rw [if_pos rfl]
   generalize spSI (kn / 2 + 1) 2 (zI kn mn * zI kn mn % 55441) = S at h3 ⊢
   generalize spTI (kn / 2 + 1) 2 (zI kn mn) = T at h3 ⊢
   refine PureCall.intro (n := 30) (rs := [.cell 4 28, .tmp 5]) Try.call21 Try.func21 rfl rfl rfl (by simp only [List.length_cons, List.length_nil]; omega) (fun cx hcx => ats_of ?_); simp only [argSlots, Nat.zero_add, Nat.reduceAdd]
   refine gB ?_
   refine gC fun K hK => ?_
   first | refine fcall_data (h1) rfl ?_ | refine YR_intro (acall_data (h1) rfl) ?_
   simp only [go_sem, seval]
   (repeat refine aI (hb := ?_))
   first | refine YR_intro (fun _ => acall_data (h2) rfl) ?_ | refine YR_intro (acall_data (h2) rfl) ?_
   simp only [go_sem, seval]
   (repeat refine aI (hb := ?_))
   refine hK _ ?_; clear hK K
   refine gI (fun hc => ?_) fun hc => ?_
   ·exact absurd (show decide ((kn : Int).tmod 2 = 0) = true by first | exact hc | simpa using hc) (by rw [hp]; simp)
   ·refine ats_skip ?_
    refine gC fun K hK => ?_
    first | refine fcall_data (h3) rfl ?_ | refine YR_intro (acall_data (h3) rfl) ?_
    simp only [go_sem, seval]
    refine hK _ ?_; clear hK K
    refine gB ?_
    exact ats_ret (fin2C (v := .agg [.l2 S, .l1 T]) (by simp only [go_sem, seval]) trivial rfl)
theorem implEsd_ok (k m : Int) : PureCall Try.prog 20 [.int k, .int m] (sp2A k m) := by
 have h1 := within_ok k 1 31
 have h2 := within_ok m 1 1000
 have t1 := Int.tmod_lt_of_pos k (show (0 : Int) < 2 by omega)
 have t2 := Int.lt_tmod_of_pos k (show (0 : Int) < 2 by omega)
 unfold sp2A
 cases hv : sp2B k m with
 | false =>
  rw [if_neg (by simp)]
  refine PureCall.intro (n := 28) (rs := [.cell 4 28, .tmp 5]) Try.call20 Try.func20 rfl rfl rfl (by simp only [List.length_cons, List.length_nil]; omega) (fun cx hcx => ats_of ?_); simp only [argSlots, Nat.zero_add, Nat.reduceAdd]
  refine gB ?_
  refine gC fun K hK => ?_
  first | refine fcall_data (h1) rfl ?_ | refine YR_intro (acall_data (h1) rfl) ?_
  simp only [go_sem, seval]
  (repeat refine aI (hb := ?_))
  first | refine YR_intro (fun _ => acall_data (h2) rfl) ?_ | refine YR_intro (acall_data (h2) rfl) ?_
  simp only [go_sem, seval]
  (repeat refine aI (hb := ?_))
  refine hK _ ?_; clear hK K
  refine gI (fun hc => ?_) fun hc => ?_
  ·refine gB ?_
   exact ats_ret (fin2C (v := .agg [.nil, .nil]) (by simp only [go_sem, seval]) trivial rfl)
  ·exfalso
   unfold sp2B at hv
   generalize (decide (1 ≤ k) && decide (k ≤ 31)) = A at hv hc
   generalize decide (k.tmod 2 = 0) = B at hv hc
   generalize (decide (1 ≤ m) && decide (m ≤ 1000)) = C at hv hc
   cases A <;> cases B <;> cases C <;> simp_all
 | true =>
  rw [if_pos rfl]
  have hb : ((decide (1 ≤ k) && decide (k ≤ 31)) = true ∧ decide (k.tmod 2 = 0) = false) ∧ (decide (1 ≤ m) && decide (m ≤ 1000)) = true := by
   unfold sp2B at hv
   simpa only [Bool.and_eq_true, Bool.not_eq_true'] using hv
  have hb' := hb
  simp only [Bool.and_eq_true, decide_eq_true_eq] at hb'
  obtain ⟨kn, rfl⟩ : ∃ a : Nat, k = a := ⟨k.toNat, by omega⟩
  obtain ⟨mn, rfl⟩ : ∃ a : Nat, m = a := ⟨m.toNat, by omega⟩
  rw [hb.1.1] at h1
  rw [hb.2] at h2
  have hp := hb.1.2
  have hkn : kn ≤ 31 := by omega
  have h3 := spinData_ok kn 2 mn hkn (.inr rfl) (by omega) (by omega)
  have hs := isSpin_ok kn mn hkn (by omega)
  rw [Int.toNat_natCast, Int.toNat_natCast]
  unfold sdA
  cases ho : spOk kn mn with
  | false =>
   rw [ho] at hs
   rw [if_neg (by simp)]
   refine PureCall.intro (n := 28) (rs := [.cell 4 28, .tmp 5]) Try.call20 Try.func20 rfl rfl rfl (by simp only [List.length_cons, List.length_nil]; omega) (fun cx hcx => ats_of ?_); simp only [argSlots, Nat.zero_add, Nat.reduceAdd]
   refine gB ?_
   refine gC fun K hK => ?_
   first | refine fcall_data (h1) rfl ?_ | refine YR_intro (acall_data (h1) rfl) ?_
   simp only [go_sem, seval]
   (repeat refine aI (hb := ?_))
   first | refine YR_intro (fun _ => acall_data (h2) rfl) ?_ | refine YR_intro (acall_data (h2) rfl) ?_
   simp only [go_sem, seval]
   (repeat refine aI (hb := ?_))
   refine hK _ ?_; clear hK K
   refine gI (fun hc => ?_) fun hc => ?_
   ·exact absurd (show decide ((kn : Int).tmod 2 = 0) = true by first | exact hc | simpa using hc) (by rw [hp]; simp)
   ·refine ats_skip ?_
    refine gC fun K hK => ?_
    first | refine fcall_data (hs) rfl ?_ | refine YR_intro (acall_data (hs) rfl) ?_
    simp only [go_sem, seval]
    refine hK _ ?_; clear hK K
    (repeat refine ats_seq ?_); refine ats_yes rfl trivial ?_
    refine gB ?_
    exact ats_ret (fin2C (v := .agg [.nil, .nil]) (by simp only [go_sem, seval]) trivial rfl)
  | true =>
   rw [ho] at hs
   rw [if_pos rfl]
   generalize spSI (kn / 2 + 1) 2 (zI kn mn * zI kn mn % 55441) = S at h3 ⊢
   generalize spTI (kn / 2 + 1) 2 (zI kn mn) = T at h3 ⊢
   refine PureCall.intro (n := 28) (rs := [.cell 4 28, .tmp 5]) Try.call20 Try.func20 rfl rfl rfl (by simp only [List.length_cons, List.length_nil]; omega) (fun cx hcx => ats_of ?_); simp only [argSlots, Nat.zero_add, Nat.reduceAdd]
   refine gB ?_
   refine gC fun K hK => ?_
   first | refine fcall_data (h1) rfl ?_ | refine YR_intro (acall_data (h1) rfl) ?_
   simp only [go_sem, seval]
   (repeat refine aI (hb := ?_))
   first | refine YR_intro (fun _ => acall_data (h2) rfl) ?_ | refine YR_intro (acall_data (h2) rfl) ?_
   simp only [go_sem, seval]
   (repeat refine aI (hb := ?_))
   refine hK _ ?_; clear hK K
   refine gI (fun hc => ?_) fun hc => ?_
   ·exact absurd (show decide ((kn : Int).tmod 2 = 0) = true by first | exact hc | simpa using hc) (by rw [hp]; simp)
   ·refine ats_skip ?_
    refine gC fun K hK => ?_
    first | refine fcall_data (hs) rfl ?_ | refine YR_intro (acall_data (hs) rfl) ?_
    simp only [go_sem, seval]
    refine hK _ ?_; clear hK K
    (repeat refine ats_seq ?_); refine ats_no rfl trivial ?_
    refine ats_skip ?_
    refine gC fun K hK => ?_
    first | refine fcall_data (h3) rfl ?_ | refine YR_intro (acall_data (h3) rfl) ?_
    simp only [go_sem, seval]
    refine hK _ ?_; clear hK K
    exact ats_ret (fin2C (v := .agg [.l2 S, .l1 T]) (by simp only [go_sem, seval]) trivial rfl)
end Go.Proofs.Ytkdadpdmnmjikaa
namespace Go.Proofs.Ytkdadpdmnmjikaa
open Go Go.Aw Go.Pl
theorem pure_rep {P : Program} {f : FuncId} {ds : List AV} {a b : AV} (h : PureCall P f ds a) (l : ∀ m v, rep m a v → rep m b v) : PureCall P f ds b :=
 ⟨h.enter, fun vs w S hS hd => (h.runs vs w S hS hd).mono fun e w' ⟨v, h1, h2, h3⟩ => ⟨v, h1, h2, by
  unfold Rd at h3 ⊢
  exact l _ _ h3⟩⟩
theorem reps_l1 {m : Mem} : ∀ (xs : List (List Int)) (us : List Value), reps m (xs.map .l1) us → All2 (L1 m.w m.S) xs us := by
 intro xs
 induction xs with
 | nil => intro us h; simp only [List.map_nil, reps] at h; subst h; trivial
 | cons x xs ih =>
  intro us h
  simp only [List.map_cons, reps] at h
  obtain ⟨u, us', rfl, h1, h2⟩ := h
  simp only [rep] at h1
  exact ⟨h1, ih us' h2⟩
theorem dat_lv {m : Mem} {rows : List (List Int)} {x y : AV} {v : Value} (h : rep m (.tup [.agg [.lv (rows.map .l1), x], y]) v) : rep m (.tup [.agg [.l2 rows, x], y]) v := by
 simp only [rep, reps] at h ⊢
 obtain ⟨us, rfl, u, us', rfl, ⟨us1, rfl, u1, us1', rfl, ⟨cs, c1, c2⟩, h3⟩, h4⟩ := h
 exact ⟨_, rfl, _, _, rfl, ⟨_, rfl, _, _, rfl, ⟨cs, c1, reps_l1 _ _ c2⟩, h3⟩, h4⟩
def fdA (k : Int) : AV := if 1 ≤ k ∧ k ≤ 4 then .tup [.agg [.l2 (cL2 (fbS (fbZ k.toNat))), .l1 (cL1 (fbT (fbZ k.toNat)))], .int 0] else .tup [.agg [.nil, .nil], .int 2]
theorem fbS_cl (z : Nat) (d : Int) (h : d = ((fbD z : Nat) : Int)) : cL2 (fbS z) = [[1, d], [d, 55440]] := by
 rw [h]; rfl
theorem fbT_cl (z : Nat) (e : Int) (h : e = ((z * z % 55441 : Nat) : Int)) : cL1 (fbT z) = [1, e] := by
 rw [h]; rfl
theorem fbz_cl (k : Nat) : pw (rtI 5) k = ((fbZ k : Nat) : Int) := by
 rw [rt_nat, pw_nat (rtN_lt 5)]; rfl
theorem fb_facts (k : Nat) : fbZ k < 55441 ∧ inv ((fbZ k : Nat) : Int) = ((invN (fbZ k) : Nat) : Int) ∧ invN (fbZ k) < 55441 :=
 ⟨Nat.mod_lt _ (by omega), inv_nat (Nat.mod_lt _ (by omega)), invN_lt _⟩
theorem specFbd_ok (k : Int) : PureCall Try.prog 7 [.int k] (fdA k) := by
 have h1 := l01In_ok k 1 4
 unfold fdA
 by_cases hv : 1 ≤ k ∧ k ≤ 4
 ·rw [if_pos hv]
  obtain ⟨kn, rfl⟩ : ∃ a : Nat, k = a := ⟨k.toNat, by omega⟩
  rw [Int.toNat_natCast]
  have h2 := l01Unity_ok 5 (by omega) (by omega)
  have h3 := l01Pow_ok (rtI 5) kn (pw_InP ⟨by omega, by omega⟩) (by omega)
  rw [fbz_cl] at h3
  obtain ⟨b1, b2, b3⟩ := fb_facts kn
  have h4 := l01Inv_ok ((fbZ kn : Nat) : Int) ⟨by omega, by omega⟩
  rw [b2] at h4
  have e1 := fbS_cl (fbZ kn)
  have e2 := fbT_cl (fbZ kn)
  have e3 : fbD (fbZ kn) = (1 + fbZ kn + invN (fbZ kn)) % 55441 := rfl
  generalize fbD (fbZ kn) = dd at *
  generalize cL2 (fbS (fbZ kn)) = SS at *
  generalize cL1 (fbT (fbZ kn)) = TT at *
  generalize fbZ kn = z at *
  generalize invN z = iz at *
  have e4 : (1 + (z : Int) + iz).tmod 55441 = ((dd : Nat) : Int) := by rw [tmP (by omega), e3]; omega
  have e5 : ((z : Int) * z).tmod 55441 = ((z * z % 55441 : Nat) : Int) := by
   rw [← Int.natCast_mul]; exact (Int.ofNat_tmod _ _)
  have e6 : 0 ≤ (z : Int) * z ∧ (z : Int) * z ≤ 3073593600 := mulP ⟨by omega, by omega⟩ ⟨by omega, by omega⟩
  have e1 := e1 _ rfl
  have e2 := e2 _ rfl
  have e7 : dd < 55441 := by omega
  have e8 : z * z % 55441 < 55441 := Nat.mod_lt _ (by omega)
  generalize z * z % 55441 = zz at *
  generalize rtI 5 = rr at *
  clear b2 e3
  subst e1 e2
  refine pure_rep (a := .tup [.agg [.lv ([[1, (dd : Int)], [(dd : Int), 55440]].map .l1), .l1 [1, (zz : Int)]], .int 0]) ?_ fun _ _ h => dat_lv h
  refine PureCall.intro (n := 30) (rs := [.cell 2 28, .tmp 3]) Try.call7 Try.func7 rfl rfl rfl (by simp only [List.length_cons, List.length_nil]; omega) (fun cx hcx => ats_of ?_); simp only [argSlots, Nat.zero_add, Nat.reduceAdd]
  refine gB ?_
  refine gC fun K hK => ?_
  first | refine fcall_data (h1) rfl ?_ | refine YR_intro (acall_data (h1) rfl) ?_
  simp only [go_sem, seval]
  refine hK _ ?_; clear hK K
  refine gI (fun hc => ?_) fun hc => ?_
  ·simp at hc; omega
  ·refine ats_skip ?_
   refine gC fun K hK => ?_
   first | refine fcall_data (h2) rfl ?_ | refine YR_intro (acall_data (h2) rfl) ?_
   simp only [go_sem, seval]
   first | refine fcall_data (h3) rfl ?_ | refine YR_intro (acall_data (h3) rfl) ?_
   simp only [go_sem, seval]
   refine hK _ ?_; clear hK K
   refine gC fun K hK => ?_
   (repeat refine aI (hb := ?_))
   first | refine fcall_data (h4) rfl ?_ | refine YR_intro (acall_data (h4) rfl) ?_
   simp only [go_sem, seval]
   simp only [go_sem, seval, e4]
   (repeat refine aI (hb := ?_))
   refine hK _ ?_; clear hK K
   (repeat refine ats_seq ?_); refine ats_go (fix0 hcx) fun K hK => ?_; simp only [go_sem, seval, e5]
   (repeat refine aI (hb := ?_))
   refine hK _ ?_; clear hK K
   (repeat refine ats_seq ?_); refine AT.ghost (ghost_frzB [1, 2]) ?_; simp only [frzH, frzT, frzW, frzV, cutData, Option.getD_some, Option.getD_none, find, killA, killAs, qOf, rmT, killH, killT, List.map_cons, List.map_nil, List.filter_cons, List.filter_nil, List.contains_cons, List.contains_nil, Bool.or_false, Bool.or_true, Bool.false_and, Bool.not_true, Bool.not_false, Bool.false_eq_true, if_true, if_false, seval]
   (repeat refine ats_seq ?_); refine AT.ghost (ghost_frzB [3, 4]) ?_; simp only [frzH, frzT, frzW, frzV, cutData, Option.getD_some, Option.getD_none, find, killA, killAs, qOf, rmT, killH, killT, List.map_cons, List.map_nil, List.filter_cons, List.filter_nil, List.contains_cons, List.contains_nil, Bool.or_false, Bool.or_true, Bool.false_and, Bool.not_true, Bool.not_false, Bool.false_eq_true, if_true, if_false, seval]
   exact ats_ret (fin2C (v := .agg [.lv [.l1 [1, (dd : Int)], .l1 [(dd : Int), 55440]], .l1 [1, (zz : Int)]]) (by simp only [go_sem, seval]) trivial rfl)
 ·rw [if_neg hv]
  refine PureCall.intro (n := 30) (rs := [.cell 2 28, .tmp 3]) Try.call7 Try.func7 rfl rfl rfl (by simp only [List.length_cons, List.length_nil]; omega) (fun cx hcx => ats_of ?_); simp only [argSlots, Nat.zero_add, Nat.reduceAdd]
  refine gB ?_
  refine gC fun K hK => ?_
  first | refine fcall_data (h1) rfl ?_ | refine YR_intro (acall_data (h1) rfl) ?_
  simp only [go_sem, seval]
  refine hK _ ?_; clear hK K
  refine gI (fun hc => ?_) fun hc => ?_
  ·refine gB ?_
   exact ats_ret (fin2C (v := .agg [.nil, .nil]) (by simp only [go_sem, seval]) trivial rfl)
  ·simp at hc; omega
theorem implFbd_ok (k : Int) : PureCall Try.prog 6 [.int k] (fdA k) := by
 have h1 := within_ok k 1 4
 unfold fdA
 by_cases hv : 1 ≤ k ∧ k ≤ 4
 ·rw [if_pos hv]
  obtain ⟨kn, rfl⟩ : ∃ a : Nat, k = a := ⟨k.toNat, by omega⟩
  rw [Int.toNat_natCast]
  have h2 := root_ok 5 (by omega) (by omega)
  have h3 := power_ok (rtI 5) kn (pw_InP ⟨by omega, by omega⟩) (by omega)
  rw [fbz_cl] at h3
  obtain ⟨b1, b2, b3⟩ := fb_facts kn
  have h4 := divide_ok 1 ((fbZ kn : Nat) : Int) ⟨by omega, by omega⟩ ⟨by omega, by omega⟩
  rw [b2, Int.one_mul, Int.emod_eq_of_lt (by omega) (by omega)] at h4
  have m2 := mod_ok (-1) (by omega) (by omega)
  rw [show (-1 : Int) % 55441 = 55440 from rfl] at m2
  have e1 := fbS_cl (fbZ kn)
  have e2 := fbT_cl (fbZ kn)
  have e3 : fbD (fbZ kn) = (1 + fbZ kn + invN (fbZ kn)) % 55441 := rfl
  generalize fbD (fbZ kn) = dd at *
  generalize cL2 (fbS (fbZ kn)) = SS at *
  generalize cL1 (fbT (fbZ kn)) = TT at *
  generalize fbZ kn = z at *
  generalize invN z = iz at *
  have m1 := mod_ok (1 + (z : Int) + iz) (by omega) (by omega)
  rw [show (1 + (z : Int) + iz) % 55441 = ((dd : Nat) : Int) by rw [e3]; omega] at m1
  have e5 : ((z : Int) * z).tmod 55441 = ((z * z % 55441 : Nat) : Int) := by
   rw [← Int.natCast_mul]; exact (Int.ofNat_tmod _ _)
  have e6 : 0 ≤ (z : Int) * z ∧ (z : Int) * z ≤ 3073593600 := mulP ⟨by omega, by omega⟩ ⟨by omega, by omega⟩
  have e1 := e1 _ rfl
  have e2 := e2 _ rfl
  have e7 : dd < 55441 := by omega
  have e8 : z * z % 55441 < 55441 := Nat.mod_lt _ (by omega)
  generalize z * z % 55441 = zz at *
  generalize rtI 5 = rr at *
  clear b2 e3
  subst e1 e2
  refine pure_rep (a := .tup [.agg [.lv ([[1, (dd : Int)], [(dd : Int), 55440]].map .l1), .l1 [1, (zz : Int)]], .int 0]) ?_ fun _ _ h => dat_lv h
  refine PureCall.intro (n := 31) (rs := [.cell 2 28, .tmp 3]) Try.call6 Try.func6 rfl rfl rfl (by simp only [List.length_cons, List.length_nil]; omega) (fun cx hcx => ats_of ?_); simp only [argSlots, Nat.zero_add, Nat.reduceAdd]
  refine gB ?_
  refine gC fun K hK => ?_
  first | refine fcall_data (h1) rfl ?_ | refine YR_intro (acall_data (h1) rfl) ?_
  simp only [go_sem, seval]
  refine hK _ ?_; clear hK K
  refine gI (fun hc => ?_) fun hc => ?_
  ·simp at hc; omega
  ·refine ats_skip ?_
   refine gC fun K hK => ?_
   first | refine fcall_data (h2) rfl ?_ | refine YR_intro (acall_data (h2) rfl) ?_
   simp only [go_sem, seval]
   first | refine fcall_data (h3) rfl ?_ | refine YR_intro (acall_data (h3) rfl) ?_
   simp only [go_sem, seval]
   refine hK _ ?_; clear hK K
   refine gC fun K hK => ?_
   (repeat refine aI (hb := ?_))
   first | refine fcall_data (h4) rfl ?_ | refine YR_intro (acall_data (h4) rfl) ?_
   simp only [go_sem, seval]
   (repeat refine aI (hb := ?_))
   first | refine fcall_data (m1) rfl ?_ | refine YR_intro (acall_data (m1) rfl) ?_
   simp only [go_sem, seval]
   refine hK _ ?_; clear hK K
   (repeat refine ats_seq ?_); refine ats_go (fix0 hcx) fun K hK => ?_; simp only [go_sem, seval, e5]
   first | refine fcall_data (m2) rfl ?_ | refine YR_intro (acall_data (m2) rfl) ?_
   simp only [go_sem, seval]
   simp only [go_sem, seval, e5]
   (repeat refine aI (hb := ?_))
   refine hK _ ?_; clear hK K
   (repeat refine ats_seq ?_); refine AT.ghost (ghost_frzB [1, 2]) ?_; simp only [frzH, frzT, frzW, frzV, cutData, Option.getD_some, Option.getD_none, find, killA, killAs, qOf, rmT, killH, killT, List.map_cons, List.map_nil, List.filter_cons, List.filter_nil, List.contains_cons, List.contains_nil, Bool.or_false, Bool.or_true, Bool.false_and, Bool.not_true, Bool.not_false, Bool.false_eq_true, if_true, if_false, seval]
   (repeat refine ats_seq ?_); refine AT.ghost (ghost_frzB [3, 4]) ?_; simp only [frzH, frzT, frzW, frzV, cutData, Option.getD_some, Option.getD_none, find, killA, killAs, qOf, rmT, killH, killT, List.map_cons, List.map_nil, List.filter_cons, List.filter_nil, List.contains_cons, List.contains_nil, Bool.or_false, Bool.or_true, Bool.false_and, Bool.not_true, Bool.not_false, Bool.false_eq_true, if_true, if_false, seval]
   exact ats_ret (fin2C (v := .agg [.lv [.l1 [1, (dd : Int)], .l1 [(dd : Int), 55440]], .l1 [1, (zz : Int)]]) (by simp only [go_sem, seval]) trivial rfl)
 ·rw [if_neg hv]
  refine PureCall.intro (n := 31) (rs := [.cell 2 28, .tmp 3]) Try.call6 Try.func6 rfl rfl rfl (by simp only [List.length_cons, List.length_nil]; omega) (fun cx hcx => ats_of ?_); simp only [argSlots, Nat.zero_add, Nat.reduceAdd]
  refine gB ?_
  refine gC fun K hK => ?_
  first | refine fcall_data (h1) rfl ?_ | refine YR_intro (acall_data (h1) rfl) ?_
  simp only [go_sem, seval]
  refine hK _ ?_; clear hK K
  refine gI (fun hc => ?_) fun hc => ?_
  ·refine gB ?_
   exact ats_ret (fin2C (v := .agg [.nil, .nil]) (by simp only [go_sem, seval]) trivial rfl)
  ·simp at hc; omega
end Go.Proofs.Ytkdadpdmnmjikaa
namespace Go.Proofs.Ytkdadpdmnmjikaa
open Go Go.Aw Go.Pl
def igB (v s : Int) : Bool := ((decide (1 ≤ v) && decide (v ≤ 15)) && !decide (v.tmod 2 = 0)) && (decide (s = 1) || decide (s = -1))
noncomputable def igN (s : Int) : Nat := if s = 1 then igD 0 else igD 1
noncomputable def igA (v s : Int) : AV := if igB v s then .tup [.agg [.l2 (cL2 (igS (igN s))), .l1 (cL1 (igT v.toNat))], .int 0] else .tup [.agg [.nil, .nil], .int 2]
theorem igS_cl (z : Nat) (e : Int) (h : e = (((55441 - z) % 55441 : Nat) : Int)) : cL2 (igS z) = [[1, (z : Int), 1], [(z : Int), 0, e], [1, e, 1]] := by
 rw [h]; rfl
theorem igT_cl (v : Nat) (e : Int) (h : e = ((rtN 16 ^ v % 55441 : Nat) : Int)) : cL1 (igT v) = [1, e, 55440] := by
 rw [h]; rfl
theorem igD_0 : igD 0 = (rtN 8 + invN (rtN 8)) % 55441 := by decide +kernel
theorem igD_1 : igD 1 = (55441 - igD 0) % 55441 := by decide +kernel
theorem ig_facts (s : Int) (h : s = 1 ∨ s = -1) : igN s < 55441 ∧ (s * (rtI 8 + inv (rtI 8))) % 55441 = ((igN s : Nat) : Int) := by
 have e1 := rt_nat 8
 have e2 := inv_nat (rtN_lt 8)
 rw [← e1] at e2
 rw [e1, ← e1, e2, e1]
 unfold igN
 have b1 := rtN_lt 8
 have b2 := invN_lt (rtN 8)
 have e3 := igD_0
 have e4 := igD_1
 generalize rtN 8 = a at *
 generalize invN a = b at *
 generalize igD 0 = c at *
 generalize igD 1 = d at *
 rcases h with rfl | rfl
 ·rw [if_pos rfl]
  omega
 ·rw [if_neg (by decide)]
  omega
theorem specIg_ok (v s : Int) : PureCall Try.prog 12 [.int v, .int s] (igA v s) := by
 have h1 := l01In_ok v 1 15
 have t1 := Int.tmod_lt_of_pos v (show (0 : Int) < 2 by omega)
 have t2 := Int.lt_tmod_of_pos v (show (0 : Int) < 2 by omega)
 unfold igA
 cases hv : igB v s with
 | false =>
  rw [if_neg (by simp)]
  refine PureCall.intro (n := 50) (rs := [.cell 4 28, .tmp 5]) Try.call12 Try.func12 rfl rfl rfl (by simp only [List.length_cons, List.length_nil]; omega) (fun cx hcx => ats_of ?_); simp only [argSlots, Nat.zero_add, Nat.reduceAdd]
  refine gB ?_
  refine gC fun K hK => ?_
  first | refine fcall_data (h1) rfl ?_ | refine YR_intro (acall_data (h1) rfl) ?_
  simp only [go_sem, seval]
  (repeat refine aI (hb := ?_))
  refine hK _ ?_; clear hK K
  refine gI (fun hc => ?_) fun hc => ?_
  ·refine gB ?_
   exact ats_ret (fin2C (v := .agg [.nil, .nil]) (by simp only [go_sem, seval]) trivial rfl)
  ·exfalso
   unfold igB at hv
   generalize (decide (1 ≤ v) && decide (v ≤ 15)) = A at hv hc
   generalize decide (v.tmod 2 = 0) = B at hv hc
   by_cases s1 : s = 1 <;> by_cases s2 : s = -1 <;> cases A <;> cases B <;> simp_all
 | true =>
  rw [if_pos rfl]
  have hb : ((decide (1 ≤ v) && decide (v ≤ 15)) = true ∧ decide (v.tmod 2 = 0) = false) ∧ (s = 1 ∨ s = -1) := by
   unfold igB at hv
   simpa only [Bool.and_eq_true, Bool.or_eq_true, Bool.not_eq_true', decide_eq_true_eq (p := s = 1), decide_eq_true_eq (p := s = -1)] using hv
  obtain ⟨⟨hb1, hb2⟩, hb3⟩ := hb
  have hb1' := hb1
  simp only [Bool.and_eq_true, decide_eq_true_eq] at hb1'
  rw [hb1] at h1
  obtain ⟨vn, rfl⟩ : ∃ a : Nat, v = a := ⟨v.toNat, by omega⟩
  rw [Int.toNat_natCast]
  have h2 := l01Unity_ok 8 (by omega) (by omega)
  have h5 := l01Unity_ok 16 (by omega) (by omega)
  have h6 := l01Pow_ok (rtI 16) vn (pw_InP ⟨by omega, by omega⟩) (by omega)
  obtain ⟨f1, f2⟩ := ig_facts s hb3
  have b1 : InP (rtI 8) := pw_InP ⟨by omega, by omega⟩
  have b2 := inv_InP b1
  have h4 := l01Inv_ok (rtI 8) b1
  have e1 := igS_cl (igN s)
  have e2 := igT_cl vn
  have e3 : pw (rtI 16) vn = ((rtN 16 ^ vn % 55441 : Nat) : Int) := by rw [rt_nat, pw_nat (rtN_lt 16)]
  have b3 : rtN 16 ^ vn % 55441 < 55441 := Nat.mod_lt _ (by omega)
  rw [e3] at h6
  generalize igN s = dd at *
  generalize cL2 (igS dd) = SS at *
  generalize cL1 (igT vn) = TT at *
  generalize rtN 16 ^ vn % 55441 = tt at *
  generalize rtI 16 = r16 at *
  generalize inv (rtI 8) = iz at *
  generalize rtI 8 = z at *
  have e1 := e1 _ rfl
  have e2 := e2 _ rfl
  have e4 : (0 - (dd : Int)) % 55441 = (((55441 - dd) % 55441 : Nat) : Int) := by omega
  have b4 : (55441 - dd) % 55441 < 55441 := Nat.mod_lt _ (by omega)
  generalize (55441 - dd) % 55441 = le at *
  clear e3
  subst e1 e2
  unfold InP at b1 b2
  have b5 : -200000 ≤ s * (z + iz) ∧ s * (z + iz) ≤ 200000 := by
   rcases hb3 with rfl | rfl <;> omega
  have m1 := l01Mod_ok (s * (z + iz)) (by omega) (by omega)
  rw [f2] at m1
  have m2 := l01Mod_ok (0 - (dd : Int)) (by omega) (by omega)
  rw [e4] at m2
  refine pure_rep (a := .tup [.agg [.lv ([[1, (dd : Int), 1], [(dd : Int), 0, (le : Int)], [1, (le : Int), 1]].map .l1), .l1 [1, (tt : Int), 55440]], .int 0]) ?_ fun _ _ h => dat_lv h
  refine PureCall.intro (n := 50) (rs := [.cell 4 28, .tmp 5]) Try.call12 Try.func12 rfl rfl rfl (by simp only [List.length_cons, List.length_nil]; omega) (fun cx hcx => ats_of ?_); simp only [argSlots, Nat.zero_add, Nat.reduceAdd]
  refine gB ?_
  refine gC fun K hK => ?_
  first | refine fcall_data (h1) rfl ?_ | refine YR_intro (acall_data (h1) rfl) ?_
  simp only [go_sem, seval]
  (repeat refine aI (hb := ?_))
  refine hK _ ?_; clear hK K
  refine gI (fun hc => ?_) fun hc => ?_
  ·exfalso
   rw [hb2] at hc
   rcases hb3 with rfl | rfl <;> simp at hc
  ·refine ats_skip ?_
   refine gC fun K hK => ?_
   first | refine fcall_data (h2) rfl ?_ | refine YR_intro (acall_data (h2) rfl) ?_
   simp only [go_sem, seval]
   refine hK _ ?_; clear hK K
   refine gC fun K hK => ?_
   first | refine fcall_data (h4) rfl ?_ | refine YR_intro (acall_data (h4) rfl) ?_
   simp only [go_sem, seval]
   (repeat refine aI (hb := ?_))
   first | refine fcall_data (m1) rfl ?_ | refine YR_intro (acall_data (m1) rfl) ?_
   simp only [go_sem, seval]
   (repeat refine aI (hb := ?_))
   refine hK _ ?_; clear hK K
   refine gC fun K hK => ?_
   (repeat refine aI (hb := ?_))
   first | refine fcall_data (m2) rfl ?_ | refine YR_intro (acall_data (m2) rfl) ?_
   simp only [go_sem, seval]
   (repeat refine aI (hb := ?_))
   refine hK _ ?_; clear hK K
   refine gC fun K hK => ?_
   first | refine fcall_data (h5) rfl ?_ | refine YR_intro (acall_data (h5) rfl) ?_
   simp only [go_sem, seval]
   first | refine fcall_data (h6) rfl ?_ | refine YR_intro (acall_data (h6) rfl) ?_
   simp only [go_sem, seval]
   refine hK _ ?_; clear hK K
   (repeat refine ats_seq ?_); refine AT.ghost (ghost_frzB [1, 2, 3]) ?_; simp only [frzH, frzT, frzW, frzV, cutData, Option.getD_some, Option.getD_none, find, killA, killAs, qOf, rmT, killH, killT, List.map_cons, List.map_nil, List.filter_cons, List.filter_nil, List.contains_cons, List.contains_nil, Bool.or_false, Bool.or_true, Bool.false_and, Bool.not_true, Bool.not_false, Bool.false_eq_true, if_true, if_false, seval]
   (repeat refine ats_seq ?_); refine AT.ghost (ghost_frzB [4, 5]) ?_; simp only [frzH, frzT, frzW, frzV, cutData, Option.getD_some, Option.getD_none, find, killA, killAs, qOf, rmT, killH, killT, List.map_cons, List.map_nil, List.filter_cons, List.filter_nil, List.contains_cons, List.contains_nil, Bool.or_false, Bool.or_true, Bool.false_and, Bool.not_true, Bool.not_false, Bool.false_eq_true, if_true, if_false, seval]
   exact ats_ret (fin2C (v := .agg [.lv [.l1 [1, (dd : Int), 1], .l1 [(dd : Int), 0, (le : Int)], .l1 [1, (le : Int), 1]], .l1 [1, (tt : Int), 55440]]) (by simp only [go_sem, seval]) trivial rfl)
theorem implIg_ok (v s : Int) : PureCall Try.prog 11 [.int v, .int s] (igA v s) := by
 have h1 := within_ok v 1 15
 have t1 := Int.tmod_lt_of_pos v (show (0 : Int) < 2 by omega)
 have t2 := Int.lt_tmod_of_pos v (show (0 : Int) < 2 by omega)
 unfold igA
 cases hv : igB v s with
 | false =>
  rw [if_neg (by simp)]
  refine PureCall.intro (n := 51) (rs := [.cell 4 28, .tmp 5]) Try.call11 Try.func11 rfl rfl rfl (by simp only [List.length_cons, List.length_nil]; omega) (fun cx hcx => ats_of ?_); simp only [argSlots, Nat.zero_add, Nat.reduceAdd]
  refine gB ?_
  refine gC fun K hK => ?_
  first | refine fcall_data (h1) rfl ?_ | refine YR_intro (acall_data (h1) rfl) ?_
  simp only [go_sem, seval]
  (repeat refine aI (hb := ?_))
  refine hK _ ?_; clear hK K
  refine gI (fun hc => ?_) fun hc => ?_
  ·refine gB ?_
   exact ats_ret (fin2C (v := .agg [.nil, .nil]) (by simp only [go_sem, seval]) trivial rfl)
  ·exfalso
   unfold igB at hv
   generalize (decide (1 ≤ v) && decide (v ≤ 15)) = A at hv hc
   generalize decide (v.tmod 2 = 0) = B at hv hc
   by_cases s1 : s = 1 <;> by_cases s2 : s = -1 <;> cases A <;> cases B <;> simp_all
 | true =>
  rw [if_pos rfl]
  have hb : ((decide (1 ≤ v) && decide (v ≤ 15)) = true ∧ decide (v.tmod 2 = 0) = false) ∧ (s = 1 ∨ s = -1) := by
   unfold igB at hv
   simpa only [Bool.and_eq_true, Bool.or_eq_true, Bool.not_eq_true', decide_eq_true_eq (p := s = 1), decide_eq_true_eq (p := s = -1)] using hv
  obtain ⟨⟨hb1, hb2⟩, hb3⟩ := hb
  have hb1' := hb1
  simp only [Bool.and_eq_true, decide_eq_true_eq] at hb1'
  rw [hb1] at h1
  obtain ⟨vn, rfl⟩ : ∃ a : Nat, v = a := ⟨v.toNat, by omega⟩
  rw [Int.toNat_natCast]
  have h2 := root_ok 8 (by omega) (by omega)
  have h5 := root_ok 16 (by omega) (by omega)
  have h6 := power_ok (rtI 16) vn (pw_InP ⟨by omega, by omega⟩) (by omega)
  obtain ⟨f1, f2⟩ := ig_facts s hb3
  have b1 : InP (rtI 8) := pw_InP ⟨by omega, by omega⟩
  have b2 := inv_InP b1
  have h4 := divide_ok 1 (rtI 8) ⟨by omega, by omega⟩ b1
  rw [Int.one_mul, md_InP b2] at h4
  have m3 := mod_ok (-1) (by omega) (by omega)
  rw [show (-1 : Int) % 55441 = 55440 from rfl] at m3
  have e1 := igS_cl (igN s)
  have e2 := igT_cl vn
  have e3 : pw (rtI 16) vn = ((rtN 16 ^ vn % 55441 : Nat) : Int) := by rw [rt_nat, pw_nat (rtN_lt 16)]
  have b3 : rtN 16 ^ vn % 55441 < 55441 := Nat.mod_lt _ (by omega)
  rw [e3] at h6
  generalize igN s = dd at *
  generalize cL2 (igS dd) = SS at *
  generalize cL1 (igT vn) = TT at *
  generalize rtN 16 ^ vn % 55441 = tt at *
  generalize rtI 16 = r16 at *
  generalize inv (rtI 8) = iz at *
  generalize rtI 8 = z at *
  have e1 := e1 _ rfl
  have e2 := e2 _ rfl
  have e4 : (0 - (dd : Int)) % 55441 = (((55441 - dd) % 55441 : Nat) : Int) := by omega
  have b4 : (55441 - dd) % 55441 < 55441 := Nat.mod_lt _ (by omega)
  generalize (55441 - dd) % 55441 = le at *
  clear e3
  subst e1 e2
  unfold InP at b1 b2
  have b5 : -200000 ≤ s * (z + iz) ∧ s * (z + iz) ≤ 200000 := by
   rcases hb3 with rfl | rfl <;> omega
  have m1 := mod_ok (s * (z + iz)) (by omega) (by omega)
  rw [f2] at m1
  have m2 := mod_ok (0 - (dd : Int)) (by omega) (by omega)
  rw [e4] at m2
  refine pure_rep (a := .tup [.agg [.lv ([[1, (dd : Int), 1], [(dd : Int), 0, (le : Int)], [1, (le : Int), 1]].map .l1), .l1 [1, (tt : Int), 55440]], .int 0]) ?_ fun _ _ h => dat_lv h
  refine PureCall.intro (n := 51) (rs := [.cell 4 28, .tmp 5]) Try.call11 Try.func11 rfl rfl rfl (by simp only [List.length_cons, List.length_nil]; omega) (fun cx hcx => ats_of ?_); simp only [argSlots, Nat.zero_add, Nat.reduceAdd]
  refine gB ?_
  refine gC fun K hK => ?_
  first | refine fcall_data (h1) rfl ?_ | refine YR_intro (acall_data (h1) rfl) ?_
  simp only [go_sem, seval]
  (repeat refine aI (hb := ?_))
  refine hK _ ?_; clear hK K
  refine gI (fun hc => ?_) fun hc => ?_
  ·exfalso
   rw [hb2] at hc
   rcases hb3 with rfl | rfl <;> simp at hc
  ·refine ats_skip ?_
   refine gC fun K hK => ?_
   first | refine fcall_data (h2) rfl ?_ | refine YR_intro (acall_data (h2) rfl) ?_
   simp only [go_sem, seval]
   refine hK _ ?_; clear hK K
   refine gC fun K hK => ?_
   first | refine fcall_data (h4) rfl ?_ | refine YR_intro (acall_data (h4) rfl) ?_
   simp only [go_sem, seval]
   (repeat refine aI (hb := ?_))
   first | refine fcall_data (m1) rfl ?_ | refine YR_intro (acall_data (m1) rfl) ?_
   simp only [go_sem, seval]
   (repeat refine aI (hb := ?_))
   refine hK _ ?_; clear hK K
   refine gC fun K hK => ?_
   (repeat refine aI (hb := ?_))
   first | refine fcall_data (m2) rfl ?_ | refine YR_intro (acall_data (m2) rfl) ?_
   simp only [go_sem, seval]
   (repeat refine aI (hb := ?_))
   first | refine fcall_data (m2) rfl ?_ | refine YR_intro (acall_data (m2) rfl) ?_
   simp only [go_sem, seval]
   (repeat refine aI (hb := ?_))
   first | refine fcall_data (h5) rfl ?_ | refine YR_intro (acall_data (h5) rfl) ?_
   simp only [go_sem, seval]
   first | refine fcall_data (h6) rfl ?_ | refine YR_intro (acall_data (h6) rfl) ?_
   simp only [go_sem, seval]
   first | refine fcall_data (m3) rfl ?_ | refine YR_intro (acall_data (m3) rfl) ?_
   simp only [go_sem, seval]
   refine hK _ ?_; clear hK K
   (repeat refine ats_seq ?_); refine AT.ghost (ghost_frzB [1, 2, 3]) ?_; simp only [frzH, frzT, frzW, frzV, cutData, Option.getD_some, Option.getD_none, find, killA, killAs, qOf, rmT, killH, killT, List.map_cons, List.map_nil, List.filter_cons, List.filter_nil, List.contains_cons, List.contains_nil, Bool.or_false, Bool.or_true, Bool.false_and, Bool.not_true, Bool.not_false, Bool.false_eq_true, if_true, if_false, seval]
   (repeat refine ats_seq ?_); refine AT.ghost (ghost_frzB [4, 5]) ?_; simp only [frzH, frzT, frzW, frzV, cutData, Option.getD_some, Option.getD_none, find, killA, killAs, qOf, rmT, killH, killT, List.map_cons, List.map_nil, List.filter_cons, List.filter_nil, List.contains_cons, List.contains_nil, Bool.or_false, Bool.or_true, Bool.false_and, Bool.not_true, Bool.not_false, Bool.false_eq_true, if_true, if_false, seval]
   exact ats_ret (fin2C (v := .agg [.lv [.l1 [1, (dd : Int), 1], .l1 [(dd : Int), 0, (le : Int)], .l1 [1, (le : Int), 1]], .l1 [1, (tt : Int), 55440]]) (by simp only [go_sem, seval]) trivial rfl)
end Go.Proofs.Ytkdadpdmnmjikaa
