import Derived.Test.YtjpdkdepbkmebaaGreatXa
import Derived.Test.YtjpdkdepbkmebaaGreatXc
import Derived.Test.YtjpdkdepbkmebaaGreatDz1
import Derived.Test.YtjpdkdepbkmebaaGreatHd
set_option linter.unusedSimpArgs false
set_option linter.unusedVariables false
namespace Go.Proofs.YtjpdkdepbkmebaaGreat
open Go Go.Aw Go.Pl
theorem isBnd_ok (x : Int) : PureCall Tryz.prog 22 [.int x] (.bool (decide (1 ≤ x) && decide (x ≤ 3))) := by
 have hw := within_ok x 1 3
 refine PureCall.intro (n := 5) (rs := [.tmp 2]) Tryz.call22 Tryz.func22 rfl rfl rfl (by simp only [List.length_cons, List.length_nil]; omega) (fun cx hcx => ats_of ?_); simp only [argSlots, Nat.zero_add, Nat.reduceAdd]
 refine gA ?_
 refine gC fun K hK => ?_
 first | refine fcall_data (hw) rfl ?_ | refine YR_intro (acall_data (hw) rfl) ?_
 simp only [go_sem, seval]
 refine hK _ ?_; clear hK K
 refine ats_ret (finB rfl ?_)
 rfl
theorem many_ok (b f : Nat) (hb : b ≤ 3) (hf : f ≤ 256) : PureCall Tryz.prog 17 [.int b, .int f] (.bool (decide (50000 < (b + 1) ^ f))) := by
 obtain ⟨pw, epw⟩ : ∃ pw : Nat → Nat, pw = fun j => (b + 1) ^ j := ⟨_, rfl⟩
 have p0 : pw 0 = 1 := by rw [epw]; rfl
 have ps : ∀ j, pw (j + 1) = pw j * (b + 1) := fun j => by rw [epw]; exact Nat.pow_succ ..
 have psI : ∀ j, ((pw j : Nat) : Int) * ((b : Int) + 1) = ((pw (j + 1) : Nat) : Int) := fun j => by rw [ps]; push_cast; rfl
 have pm : ∀ j, pw j ≤ pw (j + 1) := fun j => by rw [ps]; exact Nat.le_mul_of_pos_right _ (Nat.succ_pos _)
 have pm2 : ∀ i j, i ≤ j → pw i ≤ pw j := fun i j h => by
  induction j with
  | zero => rw [show i = 0 by omega]; exact Nat.le_refl _
  | succ j ih =>
   by_cases e : i = j + 1
   ·rw [e]; exact Nat.le_refl _
   ·exact Nat.le_trans (ih (by omega)) (pm j)
 have p4 : ∀ j, pw (j + 1) ≤ pw j * 4 := fun j => by rw [ps]; exact Nat.mul_le_mul_left _ (by omega)
 have ek : (b + 1) ^ f = pw f := by rw [epw]
 rw [ek]
 refine PureCall.intro (n := 16) (rs := [.tmp 4]) Tryz.call17 Tryz.func17 rfl rfl rfl (by simp only [List.length_cons, List.length_nil]; omega) (fun cx hcx => ats_of ?_); simp only [argSlots, Nat.zero_add, Nat.reduceAdd]
 refine gB ?_
 refine gB ?_
 (repeat refine ats_seq ?_); refine ats_loop (fun j : Nat => ⟨[(0, .int b), (1, .int ((f : Int) - j)), (5, .int (pw j))], []⟩) (fun j => j ≤ f ∧ pw j ≤ 50000) (fun j => f - j) 0 ⟨Nat.zero_le _, by omega⟩ (by
  rw [p0]
  refine And.intro ?_ rfl; simp only [leS, Nat.reduceEqDiff, ↓reduceIte, true_and, and_true]
  first | exact ⟨by omega, rfl⟩ | omega) (fun j hj => ?_)
 obtain ⟨hj, pj⟩ := hj
 have pj4 := p4 j
 refine gB ?_
 refine gI (fun hc2 => ?_) fun hc2 => ?_
 ·have pj1 := pm2 (j + 1) f (by omega)
  refine ats_skip ?_
  (repeat refine ats_seq ?_); refine ats_block ?_
  refine gC fun K hK => ?_
  simp only [psI]
  (repeat refine aI (hb := ?_))
  refine hK _ ?_; clear hK K
  refine gB ?_
  refine gI (fun hc3 => ?_) fun hc3 => ?_
  ·refine gB ?_
   refine ats_ret (finB rfl ?_)
   simp
   omega
  ·refine ats_skip ?_
   refine gB ?_
   refine ⟨j + 1,  ⟨by omega, by omega⟩, by omega, .inl ⟨by simp only [leS, Nat.reduceEqDiff, ↓reduceIte, true_and, and_true]; omega,  rfl⟩⟩
 ·obtain rfl : j = f := by omega
  refine ats_exit (lq_x ?_)
  refine gB ?_
  refine ats_ret (finB rfl ?_)
  simp
  omega
noncomputable def aliA (s : List (List Int)) (t : List Int) (x : Int) : AV := if isData s t then (if 1 ≤ x ∧ x ≤ 3 then (if (x.toNat + 1) ^ cb (tF t) (t.length * t.length) ≤ 50000 then .tup [.l3 (iaL s t (x.toNat + 1) ((x.toNat + 1) ^ cb (tF t) (t.length * t.length))), .int 0] else .tup [.nil, .int 3]) else .tup [.nil, .int 2]) else .tup [.nil, .int 1]
theorem frP {t : List Int} {i j : Nat} (hi : i < t.length) (hj : j < t.length) : fr (tF t) (i * t.length + j) = (decide (0 < i + j) && decide (t.getD i 0 = t.getD j 0)) := by
 have h2 := pl_dm (i := i) hj
 have h3 : i * t.length + j < t.length * t.length := by
  have : (i + 1) * t.length ≤ t.length * t.length := Nat.mul_le_mul_right _ hi
  rw [Nat.succ_mul] at this
  omega
 by_cases h0 : 0 < i + j
 ·have h1 : 1 ≤ i * t.length + j := by
   by_cases c : i = 0
   ·omega
   ·have : 1 * 1 ≤ i * t.length := Nat.mul_le_mul (by omega) (by omega)
    omega
  rw [fr_tF h3 h1, h2.1, h2.2, decide_eq_true h0, Bool.true_and]
 ·have hi0 : i = 0 := by omega
  have hj0 : j = 0 := by omega
  subst hi0; subst hj0
  simp [fr]
set_option maxHeartbeats 4000000 in
theorem implAllI_ok (s : List (List Int)) (t : List Int) (x : Int) : FreshCall Tryz.prog 7 [.agg [.l2 s, .l1 t], .int x] (aliA s t x) := by
 have hk := IsData_ok s t
 have hb := isBnd_ok x
 unfold aliA
 refine FreshCall.intro (n := 64) (rs := [.tmp 4, .tmp 5]) Tryz.call7 Tryz.func7 rfl rfl rfl (by simp only [List.length_cons, List.length_nil]; omega) (fun cx hcx => ats_of ?_); simp only [argSlots, Nat.zero_add, Nat.reduceAdd]
 refine gB ?_
 cases h : isData s t with
 | false =>
  rw [h] at hk
  refine gC fun K hK => ?_
  first | refine fcall_free rfl rfl (hk) ?_ | refine YR_intro (acall_free rfl rfl (hk)) ?_
  simp only [go_sem, seval]
  refine hK _ ?_; clear hK K
  (repeat refine ats_seq ?_); refine ats_yes rfl trivial ?_
  refine gA ?_
  exact ats_ret (own2 (is := []) trivial trivial rfl (by simp))
 | true =>
  have hs := (isData_some h).1
  have h16 := hs.2.1
  have h1 := hs.1
  have nn : t.length * t.length ≤ 256 := by
   have : t.length * t.length ≤ 16 * 16 := Nat.mul_le_mul (by omega) (by omega)
   omega
  rw [h] at hk
  refine gC fun K hK => ?_
  first | refine fcall_free rfl rfl (hk) ?_ | refine YR_intro (acall_free rfl rfl (hk)) ?_
  simp only [go_sem, seval]
  refine hK _ ?_; clear hK K
  (repeat refine ats_seq ?_); refine ats_no rfl trivial ?_
  refine ats_skip ?_
  refine gC fun K hK => ?_
  first | refine fcall_data (hb) rfl ?_ | refine YR_intro (acall_data (hb) rfl) ?_
  simp only [go_sem, seval]
  refine hK _ ?_; clear hK K
  by_cases h13 : 1 ≤ x ∧ x ≤ 3
  ·obtain ⟨b, rfl⟩ : ∃ b : Nat, x = b := ⟨x.toNat, by omega⟩
   have hV := fun c (hc : c < (b + 1) ^ cb (tF t) (t.length * t.length)) (hc2 : (b + 1) ^ cb (tF t) (t.length * t.length) ≤ 50000) => visitI_ok s t hs (b + 1) c (iaL s t (b + 1) c) (Nat.le_trans iaL_len (by omega))
   have he := eachI_ok 24 s t (plP t (t.length * t.length)) (cb (tF t) (t.length * t.length)) b (Nat.le_trans (cb_le2 _) nn) (by omega) (iaL s t (b + 1)) (fun h2 c hc => by rw [iaL_succ]; exact hV c hc h2)
   have lp := plP_length (t := t) (t.length * t.length)
   rw [if_pos h13, Int.toNat_natCast]
   refine gI (fun hc2 => ?_) fun hc2 => ?_
   ·simp at hc2
    omega
   ·refine ats_skip ?_
    refine gB ?_
    refine gB ?_
    (repeat refine ats_seq ?_); refine ats_loop (fun i : Nat => ⟨[(1, .int b), (2, .bptr 0 0), (6, .bptr 2 0), (20, .int t.length), (21, .int i)], [(0, .bx [.l2 s, .l1 t]), (1, .tp (plP t (i * t.length))), (2, .bx [.ref 1 []])]⟩) (fun i => i ≤ t.length) (fun i => t.length - i) 0 (Nat.zero_le _) (by
     rw [Nat.zero_mul]
     refine And.intro ?_ rfl; simp only [leS, Nat.reduceEqDiff, ↓reduceIte, true_and, and_true]
     all_goals first | exact ⟨rfl, rfl⟩ | rfl) (fun i hi => ?_)
    refine gB ?_
    refine gI (fun hc4 => ?_) fun hc4 => ?_
    ·refine ats_skip ?_
     (repeat refine ats_seq ?_); refine ats_block ?_
     refine gB ?_
     refine gB ?_
     (repeat refine ats_seq ?_); refine ats_loop (fun j : Nat => ⟨[(1, .int b), (2, .bptr 0 0), (6, .bptr 2 0), (7, .int i), (20, .int t.length), (21, .int i), (26, .int t.length), (27, .int j)], [(0, .bx [.l2 s, .l1 t]), (1, .tp (plP t (i * t.length + j))), (2, .bx [.ref 1 []])]⟩) (fun j => j ≤ t.length) (fun j => t.length - j) 0 (Nat.zero_le _) (by
      rw [Nat.add_zero]
      refine And.intro ?_ rfl; simp only [leS, Nat.reduceEqDiff, ↓reduceIte, true_and, and_true]
      all_goals first | exact ⟨rfl, rfl⟩ | rfl) (fun j hj => ?_)
     refine gB ?_
     refine gI (fun hc5 => ?_) fun hc5 => ?_
     ·have hp1 : plP t (i * t.length + (j + 1)) = _ := plP_succ (t := t) (p := i * t.length + j)
      have hpl := plP_length (t := t) (i * t.length + j)
      have hcb := cb_le2 (t := tF t) (i * t.length + j)
      have h3 : i * t.length + j < t.length * t.length := by
       have : (i + 1) * t.length ≤ t.length * t.length := Nat.mul_le_mul_right _ (by omega)
       rw [Nat.succ_mul] at this
       omega
      have h2 := pl_dm (i := i) (show j < t.length by omega)
      rw [frP (by omega) (by omega), h2.1, h2.2] at hp1
      refine ats_skip ?_
      (repeat refine ats_seq ?_); refine ats_block ?_
      refine gB ?_
      (repeat refine ats_seq ?_); refine ats_pick (fix0 hcx) mixed (by kernel_rfl) fun K hK => ?_; simp only [go_sem, seval]; (repeat refine aI (hb := ?_)); refine hK _ ?_; clear hK K
      refine gI (fun hc6 => ?_) fun hc6 => ?_
      ·have hc7 : (decide (0 < i + j) && decide (t.getD i 0 = t.getD j 0)) = true := by
        simp only [Bool.and_eq_true, decide_eq_true_eq] at hc6 ⊢
        exact ⟨by omega, hc6.2⟩
       rw [if_pos hc7] at hp1
       refine gB ?_
       refine gB ?_
       refine ⟨j + 1, by omega, by omega, .inr ⟨[3], by simp only [killL, List.map_cons, List.map_nil, killA, killAs, qOf, rmT, killH, killT, List.filter_cons, List.filter_nil, List.contains_cons, List.contains_nil, SlotsLe, St.get, slotGet, Nat.reduceEqDiff, Nat.reduceBEq, Bool.or_false, Bool.or_true, Bool.false_and, Bool.not_true, Bool.not_false, Bool.false_eq_true, ↓reduceIte, if_true, if_false, AV.int.injEq, AV.bool.injEq, AV.l1.injEq, AV.l2.injEq, AV.l3.injEq, true_and, and_true]; (try omega), by simp only [killL, List.map_cons, List.map_nil, killA, killAs, qOf, rmT, killH, killT, List.filter_cons, List.filter_nil, List.contains_cons, List.contains_nil, SlotsLe, St.get, slotGet, Nat.reduceEqDiff, Nat.reduceBEq, Bool.or_false, Bool.or_true, Bool.false_and, Bool.not_true, Bool.not_false, Bool.false_eq_true, ↓reduceIte, if_true, if_false, AV.int.injEq, AV.bool.injEq, AV.l1.injEq, AV.l2.injEq, AV.l3.injEq, true_and, and_true]; rw [hp1]⟩⟩
      ·have hc7 : ¬ (decide (0 < i + j) && decide (t.getD i 0 = t.getD j 0)) = true := fun hh => by
        simp only [Bool.and_eq_true, decide_eq_true_eq] at hh
        rw [decide_eq_true (show (0 : Int) < (i : Int) + j by omega), decide_eq_true hh.2] at hc6
        cases hc6
       rw [if_neg hc7] at hp1
       refine ats_skip ?_
       refine gB ?_
       refine ⟨j + 1,  by omega, by omega, .inl ⟨by simp only [leS, Nat.reduceEqDiff, ↓reduceIte, true_and, and_true]; omega,  by rw [hp1]⟩⟩
     ·obtain rfl : j = t.length := by omega
      refine ats_exit (lq_x ?_)
      refine gB ?_
      refine ⟨i + 1,  by omega, by omega, .inl ⟨by simp only [leS, Nat.reduceEqDiff, ↓reduceIte, true_and, and_true]; omega,  by rw [Nat.succ_mul]⟩⟩
    ·obtain rfl : i = t.length := by omega
     have e00 : iaL s t (b + 1) 0 = [] := rfl
     simp only [TX, e00] at he
     refine ats_exit (lq_x ?_)
     refine gB ?_
     (repeat refine ats_seq ?_); refine AT.ghost (ghost_frzB [1]) ?_; simp only [frzH, frzT, frzW, frzV, cutData, Option.getD_some, Option.getD_none, find, killA, killAs, qOf, rmT, killH, killT, List.map_cons, List.map_nil, List.filter_cons, List.filter_nil, List.contains_cons, List.contains_nil, Bool.or_false, Bool.or_true, Bool.false_and, Bool.not_true, Bool.not_false, Bool.false_eq_true, if_true, if_false, seval]
     (repeat refine ats_seq ?_); refine AT.ghost (st' := ⟨[(1, .int b), (2, .bptr 0 0), (6, .bptr 3 0), (9, .bptr 4 0)], [(0, .bx [.l2 s, .l1 t]), (2, .t3 []), (3, .bx [.lp (plP t (t.length * t.length)) none]), (4, .bx [.ref 2 []])]⟩) (ghost_trans (ghost_drop []) (ghost_can [(2, 3)] (by simp only [killL, killA, killAs, qOf, rmT, killH, killT, List.filter_cons, List.filter_nil, List.contains_cons, List.contains_nil, Bool.or_false, Bool.or_true, Bool.false_and, Bool.not_true, Bool.not_false, Bool.false_eq_true, if_true, if_false, rnLs, rnL, rn, rns, sw, SlotsLe, St.get, slotGet, List.map_cons, List.map_nil, seval, AV.int.injEq, AV.bool.injEq, AV.l1.injEq, AV.l2.injEq, AV.l3.injEq, true_and, and_true]) (by simp only [killL, killA, killAs, qOf, rmT, killH, killT, List.filter_cons, List.filter_nil, List.contains_cons, List.contains_nil, Bool.or_false, Bool.or_true, Bool.false_and, Bool.not_true, Bool.not_false, Bool.false_eq_true, if_true, if_false, sortH, insH, rnHs, rnH, rnT, rn, rns, sw, List.map_cons, List.map_nil, seval]))) ?_
     by_cases hsm : (b + 1) ^ cb (tF t) (t.length * t.length) ≤ 50000
     ·rw [if_pos hsm]
      simp only [if_pos hsm, decide_eq_true hsm] at he
      refine gC fun K hK => ?_
      simp only [lp]
      (repeat refine aI (hb := ?_))
      refine fcall_box (he) (by simp [Aw.ids]) (by simp [find]) (by simp [closedT, killT, killAs, killA, outQ, Aw.ids]) (by simp [killAs, killA, outQ, Aw.ids]) (by simp [Aw.ids]) ?_; simp only [Aw.ids, List.map_cons, List.map_nil, List.filter_cons, List.filter_nil, List.contains_cons, List.contains_nil, Bool.or_false, Bool.or_true, Bool.not_true, Bool.not_false, Nat.reduceBEq, Bool.false_eq_true, if_true, if_false, List.cons_append, List.nil_append]; simp only [go_sem, seval]
      (repeat refine aI (hb := ?_))
      refine hK _ ?_; clear hK K
      refine gB ?_
      (repeat refine ats_seq ?_); refine ats_no rfl trivial ?_
      refine ats_skip ?_
      refine gA ?_
      exact ats_ret (own2 (is := [2]) trivial trivial rfl (by simp))
     ·rw [if_neg hsm]
      simp only [if_neg hsm, decide_eq_false hsm] at he
      refine gC fun K hK => ?_
      simp only [lp]
      (repeat refine aI (hb := ?_))
      refine fcall_box (he) (by simp [Aw.ids]) (by simp [find]) (by simp [closedT, killT, killAs, killA, outQ, Aw.ids]) (by simp [killAs, killA, outQ, Aw.ids]) (by simp [Aw.ids]) ?_; simp only [Aw.ids, List.map_cons, List.map_nil, List.filter_cons, List.filter_nil, List.contains_cons, List.contains_nil, Bool.or_false, Bool.or_true, Bool.not_true, Bool.not_false, Nat.reduceBEq, Bool.false_eq_true, if_true, if_false, List.cons_append, List.nil_append]; simp only [go_sem, seval]
      (repeat refine aI (hb := ?_))
      refine hK _ ?_; clear hK K
      refine gB ?_
      (repeat refine ats_seq ?_); refine ats_yes rfl trivial ?_
      refine gA ?_
      exact ats_ret (own2 (is := []) trivial trivial rfl (by simp))
  ·rw [if_neg h13]
   refine gI (fun hc2 => ?_) fun hc2 => ?_
   ·refine gA ?_
    exact ats_ret (own2 (is := []) trivial trivial rfl (by simp))
   ·simp at hc2
    omega
def argT3 (st : Option (List (List (List Int)))) : AV := match st with
 | none => .nil
 | some L => .l3 L
theorem try_run {s : List (List Int)} {t : List Int} (h1 : 1 ≤ t.length) (b : Nat) : (runK s t (extV (tF t) (b + 1) (t.length * t.length - 1) [1]) none).getD [] = iaL s t (b + 1) ((b + 1) ^ cb (tF t) (t.length * t.length)) := by
 have h2 : 1 * 1 ≤ t.length * t.length := Nat.mul_le_mul h1 h1
 have h := all_eq (t := tF t) (B := b + 1) (by omega) (by rw [tF_length]; omega)
 rw [tF_length] at h
 rw [runK_filter, h]
 rfl
noncomputable def aliB (s : List (List Int)) (t : List Int) (x : Int) : AV := if isData s t then (if 1 ≤ x ∧ x ≤ 3 then (if (x.toNat + 1) ^ cb (tF t) (t.length * t.length) ≤ 50000 then .tup [argT3 (runK s t (extV (tF t) (x.toNat + 1) (t.length * t.length - 1) [1]) none), .int 0] else .tup [.nil, .int 3]) else .tup [.nil, .int 2]) else .tup [.nil, .int 1]
theorem aliB_le (s : List (List Int)) (t : List Int) (x : Int) : AvLe (aliB s t x) (aliA s t x) := by
 unfold aliB aliA
 cases h : isData s t with
 | false => exact avLe_rfl _
 | true =>
  have h1 := (isData_some h).1.1
  simp only [if_true]
  split
  ·split
   ·have e := try_run (s := s) h1 x.toNat
    rw [← e]
    cases hr : runK s t (extV (tF t) (x.toNat + 1) (t.length * t.length - 1) [1]) none with
    | none => exact avLe_tup (avsLe_cons avLe_nil3 (avsLe_rfl _))
    | some L => exact avLe_rfl _
   ·exact avLe_rfl _
  ·exact avLe_rfl _
def fq (t : List Int) (p : Nat) : Int := if p = 0 then -1 else cb (tF t) p
theorem fq_succ {t : List Int} {i j : Nat} (hi : i < t.length) (hj : j < t.length) : fq t (i * t.length + (j + 1)) = fq t (i * t.length + j) + (if t.getD i 0 = t.getD j 0 then 1 else 0) := by
 have h := cb_succ (t := tF t) (i := i * t.length + j)
 unfold fq
 rw [if_neg (show ¬ i * t.length + (j + 1) = 0 by omega), show i * t.length + (j + 1) = i * t.length + j + 1 by omega, h, frP hi hj]
 by_cases h0 : 0 < i + j
 ·have h1 : i * t.length + j ≠ 0 := by
   by_cases c : i = 0
   ·omega
   ·have : 1 * 1 ≤ i * t.length := Nat.mul_le_mul (by omega) (by omega)
    omega
  rw [if_neg h1, decide_eq_true h0, Bool.true_and]
  by_cases c : t.getD i 0 = t.getD j 0
  ·rw [if_pos (decide_eq_true c), if_pos c]; push_cast; rfl
  ·rw [if_neg (fun hh => c (of_decide_eq_true hh)), if_neg c]; push_cast; rfl
 ·have hi0 : i = 0 := by omega
  have hj0 : j = 0 := by omega
  subst hi0; subst hj0
  simp [cb, cntF]
theorem mx_one {t : List Int} (h1 : 1 ≤ t.length) : (List.replicate t.length (List.replicate t.length (0 : Int))).set 0 (((List.replicate t.length (List.replicate t.length (0 : Int))).getD 0 []).set 0 1) = mxF t.length [1] := by
 have e : List.replicate t.length (List.replicate t.length (0 : Int)) = mxF t.length ([] ++ [0]) := by
  rw [mxF_snoc0]
  unfold mxF
  simp [matF, rowF, List.map_const']
 have h := mxF_set (n := t.length) (v := []) (a := 0) (b := 1) (by have : 1 * 1 ≤ t.length * t.length := Nat.mul_le_mul h1 h1; simp only [List.length_nil]; omega)
 rw [e]
 simpa using h
set_option maxHeartbeats 4000000 in
theorem specAllB_ok (s : List (List Int)) (t : List Int) (x : Int) : PureCall Tryz.prog 5 [.agg [.l2 s, .l1 t], .int x] (aliB s t x) := by
 have hk := l12Is_ok s t
 have hb := l01In_ok x 1 3
 unfold aliB
 refine PureCall.intro (n := 64) (rs := [.tmp 4, .tmp 5]) Tryz.call5 Tryz.func5 rfl rfl rfl (by simp only [List.length_cons, List.length_nil]; omega) (fun cx hcx => ats_of ?_); simp only [argSlots, Nat.zero_add, Nat.reduceAdd]
 refine gB ?_
 (repeat refine ats_seq ?_); refine ats_block ?_
 cases h : isData s t with
 | false =>
  rw [h] at hk
  refine gC fun K hK => ?_
  first | refine fcall_free rfl rfl (hk) ?_ | refine YR_intro (acall_free rfl rfl (hk)) ?_
  simp only [go_sem, seval]
  refine hK _ ?_; clear hK K
  (repeat refine ats_seq ?_); refine ats_yes rfl trivial ?_
  refine gA ?_
  exact ats_ret (fin2 trivial trivial rfl)
 | true =>
  have hs := (isData_some h).1
  have h16 := hs.2.1
  have h1 := hs.1
  have nn : t.length * t.length ≤ 256 := by
   have : t.length * t.length ≤ 16 * 16 := Nat.mul_le_mul (by omega) (by omega)
   omega
  have n1 : 1 ≤ t.length * t.length := by
   have : 1 * 1 ≤ t.length * t.length := Nat.mul_le_mul h1 h1
   omega
  rw [h] at hk
  refine gC fun K hK => ?_
  first | refine fcall_free rfl rfl (hk) ?_ | refine YR_intro (acall_free rfl rfl (hk)) ?_
  simp only [go_sem, seval]
  refine hK _ ?_; clear hK K
  (repeat refine ats_seq ?_); refine ats_no rfl trivial ?_
  refine gC fun K hK => ?_
  first | refine fcall_data (hb) rfl ?_ | refine YR_intro (acall_data (hb) rfl) ?_
  simp only [go_sem, seval]
  refine hK _ ?_; clear hK K
  by_cases h13 : 1 ≤ x ∧ x ≤ 3
  ·obtain ⟨b, rfl⟩ : ∃ b : Nat, x = b := ⟨x.toNat, by omega⟩
   have hm := many_ok b (cb (tF t) (t.length * t.length)) (by omega) (Nat.le_trans (cb_le2 _) nn)
   rw [if_pos h13, Int.toNat_natCast]
   refine gI (fun hc2 => ?_) fun hc2 => ?_
   ·simp at hc2
    omega
   ·refine ats_skip ?_
    refine gB ?_
    refine gB ?_
    refine gB ?_
    (repeat refine ats_seq ?_); refine ats_loop (fun i : Nat => ⟨[(1, .int b), (2, .bptr 0 0), (6, .int t.length), (7, .int (fq t (i * t.length))), (8, .ref 1 []), (9, .int i)], [(0, .bx [.l2 s, .l1 t]), (1, .t2 (List.replicate i (List.replicate t.length 0)))]⟩) (fun i => i ≤ t.length) (fun i => t.length - i) 0 (Nat.zero_le _) (by
     rw [Nat.zero_mul]
     refine And.intro ?_ rfl; simp only [leS, Nat.reduceEqDiff, ↓reduceIte, true_and, and_true]
     all_goals first | exact ⟨rfl, rfl⟩ | rfl) (fun i hi => ?_)
    refine gB ?_
    refine gI (fun hc4 => ?_) fun hc4 => ?_
    ·refine ats_skip ?_
     (repeat refine ats_seq ?_); refine ats_block ?_
     refine gB ?_
     (repeat refine ats_seq ?_); refine ats_loop (fun j : Nat => ⟨[(1, .int b), (2, .bptr 0 0), (6, .int t.length), (7, .int (fq t (i * t.length + j))), (8, .ref 1 []), (9, .int i), (10, .int j)], [(0, .bx [.l2 s, .l1 t]), (1, .t2 (List.replicate i (List.replicate t.length 0)))]⟩) (fun j => j ≤ t.length) (fun j => t.length - j) 0 (Nat.zero_le _) (by
      rw [Nat.add_zero]
      refine And.intro ?_ rfl; simp only [leS, Nat.reduceEqDiff, ↓reduceIte, true_and, and_true]
      all_goals first | exact ⟨rfl, rfl⟩ | rfl) (fun j hj => ?_)
     refine gB ?_
     refine gI (fun hc5 => ?_) fun hc5 => ?_
     ·have hfs := fq_succ (t := t) (i := i) (j := j) (by omega) (by omega)
      have hcb := cb_le2 (t := tF t) (i * t.length + j)
      have h3 : i * t.length + j < t.length * t.length := by
       have : (i + 1) * t.length ≤ t.length * t.length := Nat.mul_le_mul_right _ (by omega)
       rw [Nat.succ_mul] at this
       omega
      have hq1 : -1 ≤ fq t (i * t.length + j) ∧ fq t (i * t.length + j) ≤ 256 := by
       unfold fq
       split <;> omega
      refine ats_skip ?_
      (repeat refine ats_seq ?_); refine ats_block ?_
      (repeat refine ats_seq ?_); refine ats_pick (fix0 hcx) mixed (by kernel_rfl) fun K hK => ?_; simp only [go_sem, seval]; (repeat refine aI (hb := ?_)); refine hK _ ?_; clear hK K
      refine gI (fun hc6 => ?_) fun hc6 => ?_
      ·rw [if_pos hc6] at hfs
       refine gB ?_
       refine gB ?_
       refine ⟨j + 1,  by omega, by omega, .inl ⟨by simp only [leS, Nat.reduceEqDiff, ↓reduceIte, true_and, and_true]; exact ⟨by omega, by omega⟩,  rfl⟩⟩
      ·rw [if_neg hc6] at hfs
       refine ats_skip ?_
       refine gB ?_
       refine ⟨j + 1,  by omega, by omega, .inl ⟨by simp only [leS, Nat.reduceEqDiff, ↓reduceIte, true_and, and_true]; exact ⟨by omega, by omega⟩,  rfl⟩⟩
     ·obtain rfl : j = t.length := by omega
      refine ats_exit (lq_x ?_)
      have lre : (List.replicate i (List.replicate t.length (0 : Int))).length = i := List.length_replicate
      refine gB ?_
      refine gB ?_
      refine ⟨i + 1, by omega, by omega, .inr ⟨[2], by simp only [killL, List.map_cons, List.map_nil, killA, killAs, qOf, rmT, killH, killT, List.filter_cons, List.filter_nil, List.contains_cons, List.contains_nil, SlotsLe, St.get, slotGet, Nat.reduceEqDiff, Nat.reduceBEq, Bool.or_false, Bool.or_true, Bool.false_and, Bool.not_true, Bool.not_false, Bool.false_eq_true, ↓reduceIte, if_true, if_false, AV.int.injEq, AV.bool.injEq, AV.l1.injEq, AV.l2.injEq, AV.l3.injEq, true_and, and_true]; exact ⟨by rw [Nat.succ_mul], by omega⟩, by simp only [killL, List.map_cons, List.map_nil, killA, killAs, qOf, rmT, killH, killT, List.filter_cons, List.filter_nil, List.contains_cons, List.contains_nil, SlotsLe, St.get, slotGet, Nat.reduceEqDiff, Nat.reduceBEq, Bool.or_false, Bool.or_true, Bool.false_and, Bool.not_true, Bool.not_false, Bool.false_eq_true, ↓reduceIte, if_true, if_false, AV.int.injEq, AV.bool.injEq, AV.l1.injEq, AV.l2.injEq, AV.l3.injEq, true_and, and_true]; (try rw [List.replicate_succ'])⟩⟩
    ·obtain rfl : i = t.length := by omega
     have hfN : fq t (t.length * t.length) = ((cb (tF t) (t.length * t.length) : Nat) : Int) := by unfold fq; rw [if_neg (by omega)]
     rw [hfN]
     refine ats_exit (lq_x ?_)
     refine gC fun K hK => ?_
     first | refine fcall_data (hm) rfl ?_ | refine YR_intro (acall_data (hm) rfl) ?_
     simp only [go_sem, seval]
     (repeat refine aI (hb := ?_))
     refine hK _ ?_; clear hK K
     by_cases hsm : (b + 1) ^ cb (tF t) (t.length * t.length) ≤ 50000
     ·have hv := try_ok s t hs b (by omega) (t.length * t.length - 1) [1] none [] (by simp; omega) (by simp) (by
       have h := all_eq (t := tF t) (B := b + 1) (by omega) (by rw [tF_length]; omega)
       rw [tF_length] at h
       rw [h, List.length_map, List.length_range]
       simp only [Option.getD_none, List.length_nil]
       omega)
      have e1 : ((([1] : List Int).length : Nat) : Int) = 1 := rfl
      rw [e1] at hv
      rw [if_pos hsm]
      have lz0 : (List.replicate t.length (List.replicate t.length (0 : Int))).length = t.length := List.length_replicate
      have lz1 : ((List.replicate t.length (List.replicate t.length (0 : Int))).getD 0 []).length = t.length := by
       rw [List.getD_eq_getElem?_getD, List.getElem?_replicate, if_pos (by omega), Option.getD_some, List.length_replicate]
      obtain ⟨S, eS⟩ : ∃ S, runK s t (extV (tF t) (b + 1) (t.length * t.length - 1) [1]) none = S := ⟨_, rfl⟩
      rw [eS] at hv ⊢
      refine gI (fun hc6 => ?_) fun hc6 => ?_
      ·first | omega | (simp at hc6; omega)
      ·refine ats_skip ?_
       (repeat refine ats_seq ?_); refine ats_go (fix0 hcx) fun K hK => ?_; simp only [go_sem, seval, lz0]
       (repeat refine aI (hb := ?_))
       refine hK _ ?_; clear hK K
       (repeat refine ats_seq ?_); refine ats_go (fix0 hcx) fun K hK => ?_; simp only [go_sem, seval, lz0, lz1]
       (repeat refine aI (hb := ?_))
       refine hK _ ?_; clear hK K
       rw [mx_one h1]
       (repeat refine ats_seq ?_); refine AT.ghost (st' := ⟨[(1, .int b), (2, .bptr 1 0), (8, .ref 0 [])], [(0, .t2 (mxF t.length [1])), (1, .bx [.l2 s, .l1 t])]⟩) (ghost_trans (ghost_drop []) (ghost_can [(0, 1)] (by simp only [killL, killA, killAs, qOf, rmT, killH, killT, List.filter_cons, List.filter_nil, List.contains_cons, List.contains_nil, Bool.or_false, Bool.or_true, Bool.false_and, Bool.not_true, Bool.not_false, Bool.false_eq_true, if_true, if_false, rnLs, rnL, rn, rns, sw, SlotsLe, St.get, slotGet, List.map_cons, List.map_nil, seval, AV.int.injEq, AV.bool.injEq, AV.l1.injEq, AV.l2.injEq, AV.l3.injEq, true_and, and_true]) (by simp only [killL, killA, killAs, qOf, rmT, killH, killT, List.filter_cons, List.filter_nil, List.contains_cons, List.contains_nil, Bool.or_false, Bool.or_true, Bool.false_and, Bool.not_true, Bool.not_false, Bool.false_eq_true, if_true, if_false, sortH, insH, rnHs, rnH, rnT, rn, rns, sw, List.map_cons, List.map_nil, seval]))) ?_
       (repeat refine ats_seq ?_); refine AT.ghost (ghost_t2q 0 rfl) ?_; simp only [putT, Nat.reduceEqDiff, if_true, if_false, ↓reduceIte]
       rcases S with _ | L
       ·simp only [TI, argI, argT3] at hv ⊢
        refine gC fun K hK => ?_
        refine fcall_box (hv) (by simp [Aw.ids]) (by simp [find]) (by simp [closedT, killT, killAs, killA, outQ, Aw.ids]) (by simp [killAs, killA, outQ, Aw.ids]) (by simp [Aw.ids]) ?_; simp only [Aw.ids, List.map_cons, List.map_nil, List.filter_cons, List.filter_nil, List.contains_cons, List.contains_nil, Bool.or_false, Bool.or_true, Bool.not_true, Bool.not_false, Nat.reduceBEq, Bool.false_eq_true, if_true, if_false, List.cons_append, List.nil_append]; simp only [go_sem, seval]
        (repeat refine aI (hb := ?_))
        refine hK _ ?_; clear hK K
        exact ats_ret (fin2 trivial trivial rfl)
       ·simp only [TI, argI, argT3] at hv ⊢
        refine gC fun K hK => ?_
        refine fcall_box (hv) (by simp [Aw.ids]) (by simp [find]) (by simp [closedT, killT, killAs, killA, outQ, Aw.ids]) (by simp [killAs, killA, outQ, Aw.ids]) (by simp [Aw.ids]) ?_; simp only [Aw.ids, List.map_cons, List.map_nil, List.filter_cons, List.filter_nil, List.contains_cons, List.contains_nil, Bool.or_false, Bool.or_true, Bool.not_true, Bool.not_false, Nat.reduceBEq, Bool.false_eq_true, if_true, if_false, List.cons_append, List.nil_append]; simp only [go_sem, seval]
        (repeat refine aI (hb := ?_))
        refine hK _ ?_; clear hK K
        exact ats_ret (fin2 trivial trivial rfl)
     ·rw [if_neg hsm]
      refine gI (fun hc6 => ?_) fun hc6 => ?_
      ·refine gA ?_
       exact ats_ret (fin2 trivial trivial rfl)
      ·first | omega | (simp at hc6; omega)
  ·rw [if_neg h13]
   refine gI (fun hc2 => ?_) fun hc2 => ?_
   ·refine gA ?_
    exact ats_ret (fin2 trivial trivial rfl)
   ·simp at hc2
    omega
theorem specAllI_ok (s : List (List Int)) (t : List Int) (x : Int) : PureCall Tryz.prog 5 [.agg [.l2 s, .l1 t], .int x] (aliA s t x) := pure_le (specAllB_ok s t x) (aliB_le s t x)
theorem totB {α : Type} {n : α → Nat} {B : Nat} : ∀ (xs : List α), (∀ x ∈ xs, n x ≤ B) → tot n xs ≤ xs.length * B
 | [], _ => by simp [tot]
 | x :: xs, h => by
  have h1 := h x (by simp)
  have h2 := totB xs (fun y hy => h y (by simp [hy]))
  simp only [tot, List.length_cons, Nat.succ_mul]
  omega
theorem iaL_tot {s : List (List Int)} {t : List Int} {B : Nat} (h16 : t.length ≤ 16) (m : Nat) (hm : m ≤ 50000) : tot3 (iaL s t B m) ≤ 1099511627776 := by
 have h1 := totB (n := tot2) (B := 256) (iaL s t B m) (fun x hx => by
  unfold iaL at hx
  obtain ⟨u, _, rfl⟩ := List.mem_map.1 hx
  have h3 := totB (n := List.length) (B := 16) (mxF t.length u) (fun y hy => by
   unfold mxF matF at hy
   obtain ⟨i, _, rfl⟩ := List.mem_map.1 hy
   rw [rowF_length]
   exact h16)
  have h4 : (mxF t.length u).length = t.length := matF_length ..
  show tot List.length _ ≤ _
  omega)
 have h2 := iaL_len (s := s) (t := t) (B := B) (m := m)
 show tot tot2 _ ≤ _
 omega
theorem aliA_shape (s : List (List Int)) (t : List Int) (x : Int) : ∃ (u : Option (List (List (List Int)))) (c : Int), aliA s t x = .tup [argT3 u, .int c] ∧ ∀ v, u = some v → tot3 v ≤ 1099511627776 := by
 unfold aliA
 cases h : isData s t with
 | false => exact ⟨none, 1, rfl, fun _ h => by cases h⟩
 | true =>
  have h16 := (isData_some h).1.2.1
  simp only [if_true]
  split
  ·split
   ·rename_i h2
    exact ⟨some _, 0, rfl, fun u hv => by cases hv; exact iaL_tot h16 _ h2⟩
   ·exact ⟨none, 3, rfl, fun _ h => by cases h⟩
  ·exact ⟨none, 2, rfl, fun _ h => by cases h⟩
theorem t3Res {P : Program} {f g : FuncId} {ds : List AV} {r : AV} (hs : PureCall P f ds r) (hi : FreshCall P g ds r) (h : ∃ (u : Option (List (List (List Int)))) (c : Int), r = .tup [argT3 u, .int c] ∧ ∀ v, u = some v → tot3 v ≤ 1099511627776) :
  ∃ u c, PureCall P f ds (.tup [.l3 u, .int c]) ∧ FreshCall P g ds (.tup [.l3 u, .int c]) ∧ tot3 u ≤ 1099511627776 := by
 obtain ⟨u, c, rfl, hu⟩ := h
 cases u with
 | none =>
  have l : AvLe (.tup [argT3 none, .int c]) (.tup [.l3 [], .int c]) := avLe_tup (avsLe_cons avLe_nil3 (avsLe_rfl _))
  exact ⟨[], c, pure_le hs l, fresh_le hi l, by simp [tot3, tot]⟩
 | some u => exact ⟨u, c, hs, hi, hu u rfl⟩
end Go.Proofs.YtjpdkdepbkmebaaGreat
