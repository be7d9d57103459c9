import Derived.Test.YtjpdkdepbkmebaaGreatWx2
set_option linter.unusedSimpArgs false
set_option linter.unusedVariables false
namespace Go.Proofs.YtjpdkdepbkmebaaGreat
open Go Go.Aw Go.Pl
theorem faultA {cx : Cx} (hcx : cx.fix = 0) (t : List (List (List Int))) (hc : Cube t) {c0 : Code} {cs : List Code} (hK0 : unitF t = none → ATs Tryz.prog cx 245 (c0 :: cs) (fun e st => Aw.Ends e ∧ ∃ v, resL Tryz.prog st [.tmp 2] v ∧ view1 st.H v = some (optA (faultF t))) ⟨[(0, .l3 t), (3, .int t.length)], []⟩) : ATs Tryz.prog cx 245 (nth 3 Tryz.f77.body :: c0 :: cs) (fun e st => Aw.Ends e ∧ ∃ v, resL Tryz.prog st [.tmp 2] v ∧ view1 st.H v = some (optA (faultF t))) ⟨[(0, .l3 t), (3, .int t.length), (4, .int 0)], []⟩ := by
 have h16 := hc.2.1
 have h1 := hc.1
 have hdl := ds_length t
 refine ats_code (by simp only [nth, Tryz.f77, flatC, List.cons_append, List.nil_append, List.getD_cons_zero, List.getD_cons_succ]; exact rfl) ?_
 (repeat refine ats_seq ?_); refine ats_loop (fun i : Nat => ⟨[(0, .l3 t), (3, .int t.length), (4, .int i)], []⟩) (fun i => i ≤ t.length ∧ ∀ b, b < i → first t.length (unitG t b) = none) (fun i => t.length - i) 0 ⟨Nat.zero_le _, fun a h => absurd h (Nat.not_lt_zero a)⟩ (by refine And.intro ?_ rfl; simp only [leS, Nat.reduceEqDiff, ↓reduceIte, true_and, and_true]; rfl) (fun i hi => ?_); obtain ⟨hi, Hi⟩ := hi
 refine gA ?_
 refine gI (fun hli => ?_) fun hli => ?_
 ·refine ats_skip ?_
  (repeat refine ats_seq ?_); refine ats_block ?_
  refine gA ?_
  (repeat refine ats_seq ?_); refine ats_loop (fun k : Nat => ⟨[(0, .l3 t), (3, .int t.length), (4, .int i), (5, .int k)], []⟩) (fun k => k ≤ t.length ∧ ∀ b, b < k → unitG t i b = none) (fun k => t.length - k) 0 ⟨Nat.zero_le _, fun a h => absurd h (Nat.not_lt_zero a)⟩ (by refine And.intro ?_ rfl; simp only [leS, Nat.reduceEqDiff, ↓reduceIte, true_and, and_true]; rfl) (fun k hk => ?_); obtain ⟨hk, Hk⟩ := hk
  refine gA ?_
  refine gI (fun hlk => ?_) fun hlk => ?_
  ·have r1 := hc.row (i := 0) (j := i) (by omega) (by omega)
   have r2 := hc.row (i := i) (j := 0) (by omega) (by omega)
   have m1 := hc.mat (i := 0) (by omega)
   have m2 := hc.mat (i := i) (by omega)
   refine ats_skip ?_
   (repeat refine ats_seq ?_); refine ats_block ?_
   refine gA ?_
   refine gA ?_
   repeat refine ats_seq ?_
   refine ats_cut (fun _ : Unit => ⟨[(0, .l3 t), (3, .int t.length), (4, .int i), (5, .int k), (6, .int (dl i k))], []⟩) (fun _ => True) ?_ (fun _ _ => ?_)
   ·refine gI (fun he => ?_) fun he => ?_
    ·refine gA ?_
     refine ⟨(), trivial, ?_, rfl⟩
     simp only [SlotsLe, St.get, slotGet, Nat.reduceEqDiff, ↓reduceIte, AV.int.injEq, true_and, and_true]
     simp only [dl, if_pos he]
    ·refine ats_skip ?_
     refine ⟨(), trivial, ?_, rfl⟩
     simp only [SlotsLe, St.get, slotGet, Nat.reduceEqDiff, ↓reduceIte, AV.int.injEq, true_and, and_true]
     simp only [dl, if_neg he]
   ·refine gC fun K hK => ?_
    (repeat refine aI (hb := ?_))
    refine hK _ ?_; clear hK K
    refine gI (fun h2 => ?_) fun h2 => ?_
    ·simp only [Bool.or_eq_true, Bool.not_eq_true', decide_eq_false_iff_not] at h2
     refine gA ?_
     have e : unitF t = some [0, (i : Int), (k : Int)] := first_some (by omega) Hi (first_some (by omega) Hk (if_pos h2))
     have e2 : faultF t = some [0, (i : Int), (k : Int)] := by simp only [faultF, orE, e]
     exact ats_ret (finV rfl ⟨rfl, trivial⟩ (by rw [e2]; rfl))
    ·simp only [Bool.or_eq_false_iff, Bool.not_eq_false', decide_eq_true_eq] at h2
     refine ats_skip ?_
     refine gB ?_
     refine ⟨k + 1, ⟨by omega, fun a ha => by rcases Nat.lt_succ_iff_lt_or_eq.1 ha with h | rfl; exact Hk a h; exact if_neg (fun h => h.elim (fun h => h h2.1) (fun h => h h2.2))⟩, by omega, .inl ⟨?_, rfl⟩⟩; simp only [leS, Nat.reduceEqDiff, ↓reduceIte, true_and, and_true]; omega
  ·refine ats_exit (lq_x (ats_nil (bq_n ?_)))
   refine gB ?_
   refine ⟨i + 1, ⟨by omega, fun a ha => by rcases Nat.lt_succ_iff_lt_or_eq.1 ha with h | rfl; exact Hi a h; exact first_none (fun k hk => Hk k (by omega))⟩, by omega, .inl ⟨?_, rfl⟩⟩; simp only [leS, Nat.reduceEqDiff, ↓reduceIte, true_and, and_true]; omega
 ·have hu : unitF t = none := first_none (fun i hi => Hi i (by omega))
  refine ats_exit (lq_x ?_)
  refine ats_le ?_ (hK0 hu)
  exact ⟨⟨rfl, rfl, trivial⟩, rfl⟩
theorem faultB {cx : Cx} (hcx : cx.fix = 0) (t : List (List (List Int))) (hc : Cube t) {c0 : Code} {cs : List Code} (hK0 : ATs Tryz.prog cx 245 (c0 :: cs) (fun e st => Aw.Ends e ∧ ∃ v, resL Tryz.prog st [.tmp 2] v ∧ view1 st.H v = some (optA (faultF t))) ⟨[(0, .l3 t), (3, .int t.length), (7, .ref 0 [])], [(0, .t1 (ds t))]⟩) : ATs Tryz.prog cx 245 (nth 6 Tryz.f77.body :: c0 :: cs) (fun e st => Aw.Ends e ∧ ∃ v, resL Tryz.prog st [.tmp 2] v ∧ view1 st.H v = some (optA (faultF t))) ⟨[(0, .l3 t), (3, .int t.length), (7, .ref 0 []), (8, .int 0)], [(0, .t1 [])]⟩ := by
 have h16 := hc.2.1
 have h1 := hc.1
 have hdl := ds_length t
 refine ats_code (by simp only [nth, Tryz.f77, flatC, List.cons_append, List.nil_append, List.getD_cons_zero, List.getD_cons_succ]; exact rfl) ?_
 (repeat refine ats_seq ?_); refine ats_loop (fun i : Nat => ⟨[(0, .l3 t), (3, .int t.length), (7, .ref 0 []), (8, .int i)], [(0, .t1 ((List.range i).map (dual t)))]⟩) (fun i => i ≤ t.length) (fun i => t.length - i) 0 (Nat.zero_le _) (by
  refine And.intro ?_ rfl
  simp only [SlotsLe, St.get, slotGet, Nat.reduceEqDiff, ↓reduceIte, true_and, and_true, AV.int.injEq]
  rfl) (fun i hi => ?_)
 refine gA ?_
 refine gI (fun hli => ?_) fun hli => ?_
 ·have hl : ((List.range i).map (dual t)).length = i := by simp
  refine ats_skip ?_
  (repeat refine ats_seq ?_); refine ats_block ?_
  refine gC fun K hK => ?_
  first | refine fcall_free rfl rfl (l03Dual_ok t hc i (by omega)) ?_ | refine YR_intro (acall_free rfl rfl (l03Dual_ok t hc i (by omega))) ?_
  simp only [go_sem, seval]
  (repeat refine And.intro (by (first | omega | (rw [hl]; omega))) ?_)
  refine hK _ ?_; clear hK K
  refine gB ?_
  refine ⟨i + 1, by omega, by omega, .inr ⟨[1], by simp only [killL, List.map_cons, List.map_nil, killA, killAs, qOf, rmT, killH, killT, List.filter_cons, List.filter_nil, List.contains_cons, List.contains_nil, SlotsLe, St.get, slotGet, Nat.reduceEqDiff, Nat.reduceBEq, Bool.or_false, Bool.or_true, Bool.false_and, Bool.not_true, Bool.not_false, Bool.false_eq_true, ↓reduceIte, if_true, if_false, AV.int.injEq, AV.bool.injEq, AV.l1.injEq, AV.l2.injEq, AV.l3.injEq, true_and, and_true]; omega, by simp only [killL, List.map_cons, List.map_nil, killA, killAs, qOf, rmT, killH, killT, List.filter_cons, List.filter_nil, List.contains_cons, List.contains_nil, SlotsLe, St.get, slotGet, Nat.reduceEqDiff, Nat.reduceBEq, Bool.or_false, Bool.or_true, Bool.false_and, Bool.not_true, Bool.not_false, Bool.false_eq_true, ↓reduceIte, if_true, if_false, AV.int.injEq, AV.bool.injEq, AV.l1.injEq, AV.l2.injEq, AV.l3.injEq, true_and, and_true]; simp only [List.range_succ, List.map_append, List.map_cons, List.map_nil]⟩⟩
 ·obtain rfl : i = t.length := by omega
  refine ats_exit (lq_x ?_)
  refine ats_le ?_ hK0
  exact ⟨⟨rfl, rfl, rfl, trivial⟩, rfl⟩
theorem faultC {cx : Cx} (hcx : cx.fix = 0) (t : List (List (List Int))) (hc : Cube t) (hu : unitF t = none) {c0 : Code} {cs : List Code} (hK0 : dualF t = none → ATs Tryz.prog cx 245 (c0 :: cs) (fun e st => Aw.Ends e ∧ ∃ v, resL Tryz.prog st [.tmp 2] v ∧ view1 st.H v = some (optA (faultF t))) ⟨[(0, .l3 t), (3, .int t.length), (7, .ref 0 [])], [(0, .t1 (ds t))]⟩) : ATs Tryz.prog cx 245 (nth 8 Tryz.f77.body :: c0 :: cs) (fun e st => Aw.Ends e ∧ ∃ v, resL Tryz.prog st [.tmp 2] v ∧ view1 st.H v = some (optA (faultF t))) ⟨[(0, .l3 t), (3, .int t.length), (7, .ref 0 []), (9, .int 0)], [(0, .t1 (ds t))]⟩ := by
 have h16 := hc.2.1
 have h1 := hc.1
 have hdl := ds_length t
 refine ats_code (by simp only [nth, Tryz.f77, flatC, List.cons_append, List.nil_append, List.getD_cons_zero, List.getD_cons_succ]; exact rfl) ?_
 (repeat refine ats_seq ?_); refine ats_loop (fun i : Nat => ⟨[(0, .l3 t), (3, .int t.length), (7, .ref 0 []), (9, .int i)], [(0, .t1 (ds t))]⟩) (fun i => i ≤ t.length ∧ ∀ b, b < i → dualH t b = none) (fun i => t.length - i) 0 ⟨Nat.zero_le _, fun a h => absurd h (Nat.not_lt_zero a)⟩ (by refine And.intro ?_ rfl; simp only [leS, Nat.reduceEqDiff, ↓reduceIte, true_and, and_true]; rfl) (fun i hi => ?_); obtain ⟨hi, Hi⟩ := hi
 refine gA ?_
 refine gI (fun hli => ?_) fun hli => ?_
 ·have gi := ds_get (show i < t.length by omega)
  have dr := dual_range t i
  refine ats_skip ?_
  (repeat refine ats_seq ?_); refine ats_block ?_
  refine gC fun K hK => ?_
  simp only [gi]
  (repeat refine aI (hb := ?_))
  refine hK _ ?_; clear hK K
  refine gI (fun h2 => ?_) fun h2 => ?_
  ·simp only [Bool.or_eq_true, decide_eq_true_eq, Bool.not_eq_true', decide_eq_false_iff_not] at h2
   refine gA ?_
   have e : dualF t = some [1, (i : Int)] := first_some (by omega) Hi (if_pos (by
    by_cases h0 : dual t i < 0
    ·exact .inl h0
    ·refine .inr ?_
     have := ds_get (show (dual t i).toNat < t.length by omega)
     rw [this] at h2
     exact h2.resolve_left h0))
   have e2 : faultF t = some [1, (i : Int)] := by simp only [faultF, orE, hu, e]
   exact ats_ret (finV rfl ⟨rfl, trivial⟩ (by rw [e2]; rfl))
  ·simp only [Bool.or_eq_false_iff, decide_eq_false_iff_not, Bool.not_eq_false', decide_eq_true_eq] at h2
   have hg := ds_get (show (dual t i).toNat < t.length by omega)
   rw [hg] at h2
   refine ats_skip ?_
   refine gB ?_
   refine ⟨i + 1, ⟨by omega, fun a ha => by rcases Nat.lt_succ_iff_lt_or_eq.1 ha with h | rfl; exact Hi a h; exact if_neg (fun h => h.elim (fun h => h2.1 h) (fun h => h h2.2))⟩, by omega, .inl ⟨?_, rfl⟩⟩; simp only [leS, Nat.reduceEqDiff, ↓reduceIte, true_and, and_true]; omega
 ·have hd : dualF t = none := first_none (fun i hi => Hi i (by omega))
  refine ats_exit (lq_x ?_)
  refine ats_le ?_ (hK0 hd)
  exact ⟨⟨rfl, rfl, rfl, trivial⟩, rfl⟩
theorem faultD {cx : Cx} (hcx : cx.fix = 0) (t : List (List (List Int))) (hc : Cube t) (hu : unitF t = none) (hd : dualF t = none) {c0 : Code} {cs : List Code} (hK0 : turnF t = none → ATs Tryz.prog cx 245 (c0 :: cs) (fun e st => Aw.Ends e ∧ ∃ v, resL Tryz.prog st [.tmp 2] v ∧ view1 st.H v = some (optA (faultF t))) ⟨[(0, .l3 t), (3, .int t.length)], [(0, .t1 (ds t))]⟩) : ATs Tryz.prog cx 245 (nth 10 Tryz.f77.body :: c0 :: cs) (fun e st => Aw.Ends e ∧ ∃ v, resL Tryz.prog st [.tmp 2] v ∧ view1 st.H v = some (optA (faultF t))) ⟨[(0, .l3 t), (3, .int t.length), (7, .ref 0 []), (10, .int 0)], [(0, .t1 (ds t))]⟩ := by
 have h16 := hc.2.1
 have h1 := hc.1
 have hdl := ds_length t
 refine ats_code (by simp only [nth, Tryz.f77, flatC, List.cons_append, List.nil_append, List.getD_cons_zero, List.getD_cons_succ]; exact rfl) ?_
 (repeat refine ats_seq ?_); refine ats_loop (fun i : Nat => ⟨[(0, .l3 t), (3, .int t.length), (7, .ref 0 []), (10, .int i)], [(0, .t1 (ds t))]⟩) (fun i => i ≤ t.length ∧ ∀ b, b < i → first t.length (fun j => first t.length (turnG t b j)) = none) (fun i => t.length - i) 0 ⟨Nat.zero_le _, fun a h => absurd h (Nat.not_lt_zero a)⟩ (by refine And.intro ?_ rfl; simp only [leS, Nat.reduceEqDiff, ↓reduceIte, true_and, and_true]; rfl) (fun i hi => ?_); obtain ⟨hi, Hi⟩ := hi
 refine gA ?_
 refine gI (fun hli => ?_) fun hli => ?_
 ·refine ats_skip ?_
  (repeat refine ats_seq ?_); refine ats_block ?_
  refine gA ?_
  (repeat refine ats_seq ?_); refine ats_loop (fun j : Nat => ⟨[(0, .l3 t), (3, .int t.length), (7, .ref 0 []), (10, .int i), (11, .int j)], [(0, .t1 (ds t))]⟩) (fun j => j ≤ t.length ∧ ∀ b, b < j → first t.length (turnG t i b) = none) (fun j => t.length - j) 0 ⟨Nat.zero_le _, fun a h => absurd h (Nat.not_lt_zero a)⟩ (by refine And.intro ?_ rfl; simp only [leS, Nat.reduceEqDiff, ↓reduceIte, true_and, and_true]; rfl) (fun j hj => ?_); obtain ⟨hj, Hj⟩ := hj
  refine gA ?_
  refine gI (fun hlj => ?_) fun hlj => ?_
  ·refine ats_skip ?_
   (repeat refine ats_seq ?_); refine ats_block ?_
   refine gA ?_
   (repeat refine ats_seq ?_); refine ats_loop (fun k : Nat => ⟨[(0, .l3 t), (3, .int t.length), (7, .ref 0 []), (10, .int i), (11, .int j), (12, .int k)], [(0, .t1 (ds t))]⟩) (fun k => k ≤ t.length ∧ ∀ b, b < k → turnG t i j b = none) (fun k => t.length - k) 0 ⟨Nat.zero_le _, fun a h => absurd h (Nat.not_lt_zero a)⟩ (by refine And.intro ?_ rfl; simp only [leS, Nat.reduceEqDiff, ↓reduceIte, true_and, and_true]; rfl) (fun k hk => ?_); obtain ⟨hk, Hk⟩ := hk
   refine gA ?_
   refine gI (fun hlk => ?_) fun hlk => ?_
   ·have di := dual_ok hd (show i < t.length by omega)
    have dj := dual_ok hd (show j < t.length by omega)
    have gi := ds_get (show i < t.length by omega)
    have gj := ds_get (show j < t.length by omega)
    have mi := hc.mat (show i < t.length by omega)
    have mk := hc.mat (show k < t.length by omega)
    have md := hc.mat di.2.1
    have r1 := hc.row (show i < t.length by omega) (show j < t.length by omega)
    have r2 := hc.row di.2.1 (show k < t.length by omega)
    have r3 := hc.row (show k < t.length by omega) dj.2.1
    refine ats_skip ?_
    (repeat refine ats_seq ?_); refine ats_block ?_
    (repeat refine ats_seq ?_); refine ats_pick (fix0 hcx) mixed (by kernel_rfl) fun K hK => ?_; simp only [go_sem, seval]
    simp only [gi, gj]
    (repeat refine aI (hb := ?_))
    refine hK _ ?_; clear hK K
    refine gI (fun h2 => ?_) fun h2 => ?_
    ·simp only [Bool.or_eq_true, Bool.not_eq_true', decide_eq_false_iff_not] at h2
     refine gA ?_
     have e : turnF t = some [2, (i : Int), (j : Int), (k : Int)] := first_some (by omega) Hi (first_some (by omega) Hj (first_some (by omega) Hk (if_pos h2)))
     have e2 : faultF t = some [2, (i : Int), (j : Int), (k : Int)] := by simp only [faultF, orE, hu, hd, e]
     exact ats_ret (finV rfl ⟨rfl, trivial⟩ (by rw [e2]; rfl))
    ·simp only [Bool.or_eq_false_iff, Bool.not_eq_false', decide_eq_true_eq] at h2
     refine ats_skip ?_
     refine gB ?_
     refine ⟨k + 1, ⟨by omega, fun a ha => by rcases Nat.lt_succ_iff_lt_or_eq.1 ha with h | rfl; exact Hk a h; exact if_neg (fun h => h.elim (fun h => h h2.1) (fun h => h h2.2))⟩, by omega, .inl ⟨?_, rfl⟩⟩; simp only [leS, Nat.reduceEqDiff, ↓reduceIte, true_and, and_true]; omega
   ·refine ats_exit (lq_x (ats_nil (bq_n ?_)))
    refine gB ?_
    refine ⟨j + 1, ⟨by omega, fun a ha => by rcases Nat.lt_succ_iff_lt_or_eq.1 ha with h | rfl; exact Hj a h; exact first_none (fun k hk => Hk k (by omega))⟩, by omega, .inl ⟨?_, rfl⟩⟩; simp only [leS, Nat.reduceEqDiff, ↓reduceIte, true_and, and_true]; omega
  ·refine ats_exit (lq_x (ats_nil (bq_n ?_)))
   refine gB ?_
   refine ⟨i + 1, ⟨by omega, fun a ha => by rcases Nat.lt_succ_iff_lt_or_eq.1 ha with h | rfl; exact Hi a h; exact first_none (fun k hk => Hj k (by omega))⟩, by omega, .inl ⟨?_, rfl⟩⟩; simp only [leS, Nat.reduceEqDiff, ↓reduceIte, true_and, and_true]; omega
 ·have ht : turnF t = none := first_none (fun i hi => Hi i (by omega))
  refine ats_exit (lq_x ?_)
  refine ats_le ?_ (hK0 ht)
  exact ⟨⟨rfl, rfl, trivial⟩, rfl⟩
theorem faultE {cx : Cx} (hcx : cx.fix = 0) (t : List (List (List Int))) (hc : Cube t) (e0 : faultF t = brackF t) {c0 : Code} {cs : List Code} (hK0 : faultF t = none → ATs Tryz.prog cx 245 (c0 :: cs) (fun e st => Aw.Ends e ∧ ∃ v, resL Tryz.prog st [.tmp 2] v ∧ view1 st.H v = some (optA (faultF t))) ⟨[], [(0, .t1 (ds t))]⟩) : ATs Tryz.prog cx 245 (nth 12 Tryz.f77.body :: c0 :: cs) (fun e st => Aw.Ends e ∧ ∃ v, resL Tryz.prog st [.tmp 2] v ∧ view1 st.H v = some (optA (faultF t))) ⟨[(0, .l3 t), (3, .int t.length), (13, .int 0)], [(0, .t1 (ds t))]⟩ := by
 have h16 := hc.2.1
 have h1 := hc.1
 have hdl := ds_length t
 refine ats_code (by simp only [nth, Tryz.f77, flatC, List.cons_append, List.nil_append, List.getD_cons_zero, List.getD_cons_succ]; exact rfl) ?_
 (repeat refine ats_seq ?_); refine ats_loop (fun i : Nat => ⟨[(0, .l3 t), (3, .int t.length), (13, .int i)], [(0, .t1 (ds t))]⟩) (fun i => i ≤ t.length ∧ ∀ b, b < i → first t.length (fun j => first t.length fun k => first t.length (brackG t b j k)) = none) (fun i => t.length - i) 0 ⟨Nat.zero_le _, fun a h => absurd h (Nat.not_lt_zero a)⟩ (by refine And.intro ?_ rfl; simp only [leS, Nat.reduceEqDiff, ↓reduceIte, true_and, and_true]; rfl) (fun i hi => ?_); obtain ⟨hi, Hi⟩ := hi
 refine gA ?_
 refine gI (fun hli => ?_) fun hli => ?_
 ·have mi := hc.mat (show i < t.length by omega)
  refine ats_skip ?_
  (repeat refine ats_seq ?_); refine ats_block ?_
  refine gA ?_
  (repeat refine ats_seq ?_); refine ats_loop (fun j : Nat => ⟨[(0, .l3 t), (3, .int t.length), (13, .int i), (14, .int j)], [(0, .t1 (ds t))]⟩) (fun j => j ≤ t.length ∧ ∀ b, b < j → first t.length (fun k => first t.length (brackG t i b k)) = none) (fun j => t.length - j) 0 ⟨Nat.zero_le _, fun a h => absurd h (Nat.not_lt_zero a)⟩ (by refine And.intro ?_ rfl; simp only [leS, Nat.reduceEqDiff, ↓reduceIte, true_and, and_true]; rfl) (fun j hj => ?_); obtain ⟨hj, Hj⟩ := hj
  refine gA ?_
  refine gI (fun hlj => ?_) fun hlj => ?_
  ·have mj := hc.mat (show j < t.length by omega)
   have rij := hc.row (show i < t.length by omega) (show j < t.length by omega)
   refine ats_skip ?_
   (repeat refine ats_seq ?_); refine ats_block ?_
   refine gA ?_
   (repeat refine ats_seq ?_); refine ats_loop (fun k : Nat => ⟨[(0, .l3 t), (3, .int t.length), (13, .int i), (14, .int j), (15, .int k)], [(0, .t1 (ds t))]⟩) (fun k => k ≤ t.length ∧ ∀ b, b < k → first t.length (brackG t i j b) = none) (fun k => t.length - k) 0 ⟨Nat.zero_le _, fun a h => absurd h (Nat.not_lt_zero a)⟩ (by refine And.intro ?_ rfl; simp only [leS, Nat.reduceEqDiff, ↓reduceIte, true_and, and_true]; rfl) (fun k hk => ?_); obtain ⟨hk, Hk⟩ := hk
   refine gA ?_
   refine gI (fun hlk => ?_) fun hlk => ?_
   ·have rjk := hc.row (show j < t.length by omega) (show k < t.length by omega)
    refine ats_skip ?_
    (repeat refine ats_seq ?_); refine ats_block ?_
    refine gA ?_
    (repeat refine ats_seq ?_); refine ats_loop (fun l : Nat => ⟨[(0, .l3 t), (3, .int t.length), (13, .int i), (14, .int j), (15, .int k), (16, .int l)], [(0, .t1 (ds t))]⟩) (fun l => l ≤ t.length ∧ ∀ b, b < l → brackG t i j k b = none) (fun l => t.length - l) 0 ⟨Nat.zero_le _, fun a h => absurd h (Nat.not_lt_zero a)⟩ (by refine And.intro ?_ rfl; simp only [leS, Nat.reduceEqDiff, ↓reduceIte, true_and, and_true]; rfl) (fun l hl => ?_); obtain ⟨hl, Hl⟩ := hl
    refine gA ?_
    refine gI (fun hll => ?_) fun hll => ?_
    ·refine ats_skip ?_
     (repeat refine ats_seq ?_); refine ats_block ?_
     refine gA ?_
     refine gA ?_
     (repeat refine ats_seq ?_); refine ats_loop (fun m : Nat => ⟨[(0, .l3 t), (3, .int t.length), (13, .int i), (14, .int j), (15, .int k), (16, .int l), (17, .int (sumTo (brL t i j k l) m)), (18, .int (sumTo (brR t i j k l) m)), (19, .int m)], [(0, .t1 (ds t))]⟩) (fun m => m ≤ t.length) (fun m => t.length - m) 0 (Nat.zero_le _) (by
      refine And.intro ?_ rfl; simp only [leS, Nat.reduceEqDiff, ↓reduceIte, true_and, and_true]
      exact ⟨rfl, rfl, rfl⟩) (fun m hm => ?_)
     refine gA ?_
     refine gI (fun hlm => ?_) fun hlm => ?_
     ·have mm := hc.mat (show m < t.length by omega)
      have rmk := hc.row (show m < t.length by omega) (show k < t.length by omega)
      have rim := hc.row (show i < t.length by omega) (show m < t.length by omega)
      have bL := brL_bd hc (i := i) (j := j) (k := k) (l := l) (by omega) (by omega) (by omega) (by omega)
      have bR := brR_bd hc (i := i) (j := j) (k := k) (l := l) (by omega) (by omega) (by omega) (by omega)
      have sL := sumTo_le (n := m) (fun x hx => bL x (by omega))
      have sR := sumTo_le (n := m) (fun x hx => bR x (by omega))
      have cL := bL m (by omega)
      have cR := bR m (by omega)
      simp only [brL, brR, e3] at cL cR
      refine ats_skip ?_
      (repeat refine ats_seq ?_); refine ats_block ?_
      (repeat refine ats_seq ?_); refine ats_pick (fix0 hcx) mixed (by kernel_rfl) fun K hK => ?_; simp only [go_sem, seval]; (repeat refine aI (hb := ?_)); refine hK _ ?_; clear hK K
      (repeat refine ats_seq ?_); refine ats_pick (fix0 hcx) mixed (by kernel_rfl) fun K hK => ?_; simp only [go_sem, seval]; (repeat refine aI (hb := ?_)); refine hK _ ?_; clear hK K
      refine gB ?_
      refine ⟨m + 1,  by omega, by omega, .inl ⟨?_, rfl⟩⟩; simp only [leS, Nat.reduceEqDiff, ↓reduceIte, true_and, and_true]
      exact ⟨rfl, rfl, by omega⟩
     ·obtain rfl : m = t.length := by omega
      refine ats_exit (lq_x ?_)
      refine gA ?_
      refine gI (fun hne => ?_) fun hne => ?_
      ·refine gA ?_
       have e : brackF t = some [3, (i : Int), (j : Int), (k : Int), (l : Int)] := first_some (by omega) Hi (first_some (by omega) Hj (first_some (by omega) Hk (first_some (by omega) Hl (if_pos hne))))
       rw [e] at e0
       exact ats_ret (finV rfl ⟨rfl, trivial⟩ (by rw [e0]; rfl))
      ·refine ats_skip ?_
       refine gB ?_
       refine ⟨l + 1, ⟨by omega, fun a ha => by rcases Nat.lt_succ_iff_lt_or_eq.1 ha with h | rfl; exact Hl a h; exact if_neg (fun h => h hne)⟩, by omega, .inl ⟨?_, rfl⟩⟩; simp only [leS, Nat.reduceEqDiff, ↓reduceIte, true_and, and_true]; omega
    ·refine ats_exit (lq_x (ats_nil (bq_n ?_)))
     refine gB ?_
     refine ⟨k + 1, ⟨by omega, fun a ha => by rcases Nat.lt_succ_iff_lt_or_eq.1 ha with h | rfl; exact Hk a h; exact first_none (fun k hk => Hl k (by omega))⟩, by omega, .inl ⟨?_, rfl⟩⟩; simp only [leS, Nat.reduceEqDiff, ↓reduceIte, true_and, and_true]; omega
   ·refine ats_exit (lq_x (ats_nil (bq_n ?_)))
    refine gB ?_
    refine ⟨j + 1, ⟨by omega, fun a ha => by rcases Nat.lt_succ_iff_lt_or_eq.1 ha with h | rfl; exact Hj a h; exact first_none (fun k' hk' => Hk k' (by omega))⟩, by omega, .inl ⟨?_, rfl⟩⟩; simp only [leS, Nat.reduceEqDiff, ↓reduceIte, true_and, and_true]; omega
  ·refine ats_exit (lq_x (ats_nil (bq_n ?_)))
   refine gB ?_
   refine ⟨i + 1, ⟨by omega, fun a ha => by rcases Nat.lt_succ_iff_lt_or_eq.1 ha with h | rfl; exact Hi a h; exact first_none (fun k hk => Hj k (by omega))⟩, by omega, .inl ⟨?_, rfl⟩⟩; simp only [leS, Nat.reduceEqDiff, ↓reduceIte, true_and, and_true]; omega
 ·have e : brackF t = none := first_none (fun i hi => Hi i (by omega))
  rw [e] at e0
  refine ats_exit (lq_x ?_)
  refine ats_le ?_ (hK0 e0)
  exact ⟨trivial, rfl⟩
theorem l03Fault_ok (t : List (List (List Int))) (hc : Cube t) : PureCall Tryz.prog 77 [.l3 t] (optA (faultF t)) := by
 refine PureCall.intro (n := 245) (rs := [.tmp 2]) Tryz.call77 Tryz.func77 rfl rfl rfl (by simp only [List.length_cons, List.length_nil]; omega) (fun cx hcx => ats_of ?_); simp only [argSlots, Nat.zero_add, Nat.reduceAdd]
 refine gA ?_
 refine gA ?_
 refine gA ?_
 repeat refine ats_seq ?_
 refine ats_le (st' := ⟨[(0, .l3 t), (3, .int t.length), (4, .int 0)], []⟩) ⟨⟨rfl, rfl, rfl, trivial⟩, rfl⟩ ?_
 refine faultA hcx t hc fun hu => ?_
 refine gA ?_
 refine gA ?_
 repeat refine ats_seq ?_
 refine ats_le (st' := ⟨[(0, .l3 t), (3, .int t.length), (7, .ref 0 []), (8, .int 0)], [(0, .t1 [])]⟩) ⟨⟨rfl, rfl, rfl, rfl, trivial⟩, rfl⟩ ?_
 refine faultB hcx t hc ?_
 refine gA ?_
 repeat refine ats_seq ?_
 refine ats_le (st' := ⟨[(0, .l3 t), (3, .int t.length), (7, .ref 0 []), (9, .int 0)], [(0, .t1 (ds t))]⟩) ⟨⟨rfl, rfl, rfl, rfl, trivial⟩, rfl⟩ ?_
 refine faultC hcx t hc hu fun hd => ?_
 refine gA ?_
 repeat refine ats_seq ?_
 refine ats_le (st' := ⟨[(0, .l3 t), (3, .int t.length), (7, .ref 0 []), (10, .int 0)], [(0, .t1 (ds t))]⟩) ⟨⟨rfl, rfl, rfl, rfl, trivial⟩, rfl⟩ ?_
 refine faultD hcx t hc hu hd fun ht => ?_
 have e0 : faultF t = brackF t := by simp only [faultF, orE, hu, hd, ht]
 refine gA ?_
 repeat refine ats_seq ?_
 refine ats_le (st' := ⟨[(0, .l3 t), (3, .int t.length), (13, .int 0)], [(0, .t1 (ds t))]⟩) ⟨⟨rfl, rfl, rfl, trivial⟩, rfl⟩ ?_
 refine faultE hcx t hc e0 fun e => ?_
 refine gA ?_
 exact ats_ret (finV rfl ⟨rfl, trivial⟩ (by rw [e]; rfl))
end Go.Proofs.YtjpdkdepbkmebaaGreat
namespace Go.Proofs.YtjpdkdepbkmebaaGreat
open Go Go.Aw Go.Pl
theorem l01Same_ok (xs ys : List Int) : PureCall Tryz.prog 81 [.l1 xs, .l1 ys] (.bool (decide (xs = ys))) := by
 refine PureCall.intro (n := 26) (rs := [.tmp 4]) Tryz.call81 Tryz.func81 rfl rfl rfl (by simp only [List.length_cons, List.length_nil]; omega) (fun cx hcx => ats_of ?_); simp only [argSlots, Nat.zero_add, Nat.reduceAdd]
 refine gA ?_
 refine ats_know 0 fun h0 => ?_; simp only [St.get, slotGet, Nat.reduceEqDiff, ↓reduceIte, if_true, fact, facts] at h0
 refine gA ?_
 refine gI (fun hc => ?_) fun hc => ?_
 ·refine gA ?_
  refine ats_ret (finB rfl ?_)
  simp only [Bool.false_eq, decide_eq_false_iff_not]
  exact fun e => hc (by rw [e])
 ·refine ats_skip ?_
  refine gA ?_
  (repeat refine ats_seq ?_); refine ats_loop (fun k : Nat => ⟨[(0, .l1 xs), (1, .l1 ys), (5, .int k)], []⟩) (fun k => k ≤ xs.length ∧ xs.take k = ys.take k) (fun k => xs.length - k) 0 ⟨Nat.zero_le _, rfl⟩ (by
   refine And.intro ?_ rfl; simp only [leS, Nat.reduceEqDiff, ↓reduceIte, true_and, and_true]
   rfl) (fun k hk => ?_)
  refine gA ?_
  refine gI (fun h1 => ?_) fun h1 => ?_
  ·refine ats_skip ?_
   (repeat refine ats_seq ?_); refine ats_block ?_
   (repeat refine ats_seq ?_); refine ats_pick (fix0 hcx) mixed (by kernel_rfl) fun K hK => ?_; simp only [go_sem, seval]; (repeat refine aI (hb := ?_)); refine hK _ ?_; clear hK K
   refine gI (fun h2 => ?_) fun h2 => ?_
   ·refine gA ?_
    refine ats_ret (finB rfl ?_)
    simp only [Bool.false_eq, decide_eq_false_iff_not]
    exact ne_of_getD h2
   ·refine ats_skip ?_
    have := h0.1
    refine gB ?_
    refine ⟨k + 1,  ⟨by omega, take_succ_eq (by omega) (by omega) hk.2 h2⟩, by omega, .inl ⟨?_, rfl⟩⟩; simp only [leS, Nat.reduceEqDiff, ↓reduceIte, true_and, and_true]
    omega
  ·refine ats_exit (lq_x ?_)
   refine gA ?_
   refine ats_ret (finB rfl ?_)
   have e : k = xs.length := by omega
   have h := hk.2
   rw [List.take_of_length_le (by omega), List.take_of_length_le (by omega)] at h
   simp only [h, decide_true]
theorem l01Same2_ok (xs ys : List (List Int)) : PureCall Tryz.prog 54 [.l2 xs, .l2 ys] (.bool (decide (xs = ys))) := by
 refine PureCall.intro (n := 27) (rs := [.tmp 4]) Tryz.call54 Tryz.func54 rfl rfl rfl (by simp only [List.length_cons, List.length_nil]; omega) (fun cx hcx => ats_of ?_); simp only [argSlots, Nat.zero_add, Nat.reduceAdd]
 refine gA ?_
 refine ats_know 0 fun h0 => ?_; simp only [St.get, slotGet, Nat.reduceEqDiff, ↓reduceIte, if_true, fact, facts] at h0
 refine gA ?_
 refine gI (fun hc => ?_) fun hc => ?_
 ·refine gA ?_
  refine ats_ret (finB rfl ?_)
  simp only [Bool.false_eq, decide_eq_false_iff_not]
  exact fun e => hc (by rw [e])
 ·refine ats_skip ?_
  refine gA ?_
  (repeat refine ats_seq ?_); refine ats_loop (fun k : Nat => ⟨[(0, .l2 xs), (1, .l2 ys), (5, .int k)], []⟩) (fun k => k ≤ xs.length ∧ xs.take k = ys.take k) (fun k => xs.length - k) 0 ⟨Nat.zero_le _, rfl⟩ (by
   refine And.intro ?_ rfl; simp only [leS, Nat.reduceEqDiff, ↓reduceIte, true_and, and_true]
   rfl) (fun k hk => ?_)
  refine gA ?_
  refine gI (fun h1 => ?_) fun h1 => ?_
  ·refine ats_skip ?_
   (repeat refine ats_seq ?_); refine ats_block ?_
   (repeat refine ats_seq ?_); refine ats_pick (fix0 hcx) mixed (by kernel_rfl) fun K hK => ?_; simp only [go_sem, seval]
   (repeat refine aI (hb := ?_))
   first | refine fcall_free rfl rfl (l01Same_ok _ _) ?_ | refine YR_intro (acall_free rfl rfl (l01Same_ok _ _)) ?_
   simp only [go_sem, seval]
   refine hK _ ?_; clear hK K
   refine gI (fun h2 => ?_) fun h2 => ?_
   ·refine gA ?_
    refine ats_ret (finB rfl ?_)
    simp only [Bool.false_eq, decide_eq_false_iff_not]
    exact ne_of_getD h2
   ·refine ats_skip ?_
    have := h0.1
    refine gB ?_
    refine ⟨k + 1,  ⟨by omega, take_succ_eq (by omega) (by omega) hk.2 h2⟩, by omega, .inl ⟨?_, rfl⟩⟩; simp only [leS, Nat.reduceEqDiff, ↓reduceIte, true_and, and_true]
    omega
  ·refine ats_exit (lq_x ?_)
   refine gA ?_
   refine ats_ret (finB rfl ?_)
   have e : k = xs.length := by omega
   have h := hk.2
   rw [List.take_of_length_le (by omega), List.take_of_length_le (by omega)] at h
   simp only [h, decide_true]
theorem l03Is_ok (t : List (List (List Int))) : PureCall Tryz.prog 51 [.agg [.l3 t]] (.bool (isRing t)) := by
 have hk := l03Cube_ok t
 refine PureCall.intro (n := 13) (rs := [.tmp 2]) Tryz.call51 Tryz.func51 rfl rfl rfl (by simp only [List.length_cons, List.length_nil]; omega) (fun cx hcx => ats_of ?_); simp only [argSlots, Nat.zero_add, Nat.reduceAdd]
 refine gA ?_
 by_cases hc : Cube t
 ·rw [bd_true hc] at hk
  have hf := l03Fault_ok t hc
  cases e : faultF t with
  | some u =>
   rw [e] at hf
   simp only [optA] at hf
   have hne := faultF_ne e
   refine gC fun K hK => ?_
   first | refine fcall_free rfl rfl (hk) ?_ | refine YR_intro (acall_free rfl rfl (hk)) ?_
   simp only [go_sem, seval]
   first | refine YR_intro (fun _ => acall_data (hf) rfl) ?_ | refine YR_intro (acall_data (hf) rfl) ?_
   simp only [go_sem, seval]
   (repeat refine aI (hb := ?_))
   refine hK _ ?_; clear hK K
   refine ats_ret (finB rfl ?_)
   simp only [isRing]
   rw [bd_false (fun h => by rw [e] at h; cases h.2)]
   simp only [decide_eq_false_iff_not]
   omega
  | none =>
   rw [e] at hf
   simp only [optA] at hf
   refine gC fun K hK => ?_
   first | refine fcall_free rfl rfl (hk) ?_ | refine YR_intro (acall_free rfl rfl (hk)) ?_
   simp only [go_sem, seval]
   first | refine YR_intro (fun _ => acall_data (hf) rfl) ?_ | refine YR_intro (acall_data (hf) rfl) ?_
   simp only [go_sem, seval]
   refine hK _ ?_; clear hK K
   refine ats_ret (finB rfl ?_)
   simp only [isRing]
   rw [bd_true ⟨hc, e⟩]
   try rfl
 ·rw [bd_false hc] at hk
  refine gC fun K hK => ?_
  first | refine fcall_free rfl rfl (hk) ?_ | refine YR_intro (acall_free rfl rfl (hk)) ?_
  simp only [go_sem, seval]
  refine YR_intro (v := .nil) (by first | trivial | (intro h; cases h)) ?_
  simp only [go_sem, seval]
  refine hK _ ?_; clear hK K
  refine ats_ret (finB rfl ?_)
  simp only [isRing]
  rw [bd_false (fun h => hc h.1)]
end Go.Proofs.YtjpdkdepbkmebaaGreat
namespace Go.Proofs.YtjpdkdepbkmebaaGreat
open Go Go.Aw Go.Pl
end Go.Proofs.YtjpdkdepbkmebaaGreat
namespace Go.Proofs.YtjpdkdepbkmebaaGreat
open Go Go.Aw Go.Pl
end Go.Proofs.YtjpdkdepbkmebaaGreat
