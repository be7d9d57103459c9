/-
  Joined out of: Wc Wd We Wf.
-/
import Derived.Test.YtbddekioaigbhaaWx2
set_option linter.unusedSimpArgs false
set_option linter.unusedVariables false
namespace Go.Proofs.Ytbddekioaigbhaa
open Go Go.Aw Go.Pl

theorem faultA {cx : Cx} (hcx : cx.fix = 0) (t : List (List (List Int))) (hc : Cube t) {c0 : Code} {cs : List Code} (hK0 : unitF t = none → ATs Try.prog cx 245 (c0 :: cs) (fun e st => Aw.Ends e ∧ ∃ v, resL Try.prog st [.tmp 2] v ∧ view1 st.H v = some (optA (faultF t))) ⟨[(0, .l3 t), (3, .int t.length)], []⟩) : ATs Try.prog cx 245 (nth 3 Try.f43.body :: c0 :: cs) (fun e st => Aw.Ends e ∧ ∃ v, resL Try.prog st [.tmp 2] v ∧ view1 st.H v = some (optA (faultF t))) ⟨[(0, .l3 t), (3, .int t.length), (4, .int 0)], []⟩ := by
  have h16 := hc.2.1
  have h1 := hc.1
  have hdl := ds_length t
  refine ats_code (by simp only [nth, Try.f43, flatC, List.cons_append, List.nil_append, List.getD_cons_zero, List.getD_cons_succ]; exact rfl) ?_
  (repeat refine ats_seq ?_); refine ats_loop (fun i : Nat => ⟨[(0, .l3 t), (3, .int t.length), (4, .int i)], []⟩) (fun i => i ≤ t.length ∧ ∀ b, b < i → first t.length (unitG t b) = none) (fun i => t.length - i) 0 ⟨Nat.zero_le _, fun a h => absurd h (Nat.not_lt_zero a)⟩ (by refine And.intro ?_ rfl; simp only [SlotsLe, St.get, slotGet, Nat.reduceEqDiff, ↓reduceIte, AV.int.injEq, AV.bool.injEq, AV.l1.injEq, AV.l2.injEq, AV.l3.injEq, true_and, and_true]; rfl) (fun i hi => ?_); obtain ⟨hi, Hi⟩ := hi
  (repeat refine ats_seq ?_); refine ats_go (fix0 hcx) fun K hK => ?_; simp only [go_sem, seval]; refine hK _ ?_; clear hK K
  (repeat refine ats_seq ?_); first | refine ats_ifn (p := _) rfl trivial (fun hli => ?_) (fun hli => ?_) | refine ats_ifp (p := _) rfl trivial (fun hli => ?_) (fun hli => ?_) | refine ats_cond rfl trivial (fun hli => ?_) (fun hli => ?_)
  · refine ats_skip ?_
    (repeat refine ats_seq ?_); refine ats_block ?_
    (repeat refine ats_seq ?_); refine ats_go (fix0 hcx) fun K hK => ?_; simp only [go_sem, seval]; refine hK _ ?_; clear hK K
    (repeat refine ats_seq ?_); refine ats_loop (fun k : Nat => ⟨[(0, .l3 t), (3, .int t.length), (4, .int i), (5, .int k)], []⟩) (fun k => k ≤ t.length ∧ ∀ b, b < k → unitG t i b = none) (fun k => t.length - k) 0 ⟨Nat.zero_le _, fun a h => absurd h (Nat.not_lt_zero a)⟩ (by refine And.intro ?_ rfl; simp only [SlotsLe, St.get, slotGet, Nat.reduceEqDiff, ↓reduceIte, AV.int.injEq, AV.bool.injEq, AV.l1.injEq, AV.l2.injEq, AV.l3.injEq, true_and, and_true]; rfl) (fun k hk => ?_); obtain ⟨hk, Hk⟩ := hk
    (repeat refine ats_seq ?_); refine ats_go (fix0 hcx) fun K hK => ?_; simp only [go_sem, seval]; refine hK _ ?_; clear hK K
    (repeat refine ats_seq ?_); first | refine ats_ifn (p := _) rfl trivial (fun hlk => ?_) (fun hlk => ?_) | refine ats_ifp (p := _) rfl trivial (fun hlk => ?_) (fun hlk => ?_) | refine ats_cond rfl trivial (fun hlk => ?_) (fun hlk => ?_)
    · have r1 := hc.row (i := 0) (j := i) (by omega) (by omega)
      have r2 := hc.row (i := i) (j := 0) (by omega) (by omega)
      have m1 := hc.mat (i := 0) (by omega)
      have m2 := hc.mat (i := i) (by omega)
      refine ats_skip ?_
      (repeat refine ats_seq ?_); refine ats_block ?_
      (repeat refine ats_seq ?_); refine ats_go (fix0 hcx) fun K hK => ?_; simp only [go_sem, seval]; refine hK _ ?_; clear hK K
      (repeat refine ats_seq ?_); refine ats_go (fix0 hcx) fun K hK => ?_; simp only [go_sem, seval]; refine hK _ ?_; clear hK K
      repeat refine ats_seq ?_
      refine ats_cut (fun _ : Unit => ⟨[(0, .l3 t), (3, .int t.length), (4, .int i), (5, .int k), (6, .int (dl i k))], []⟩) (fun _ => True) ?_ (fun _ _ => ?_)
      · (repeat refine ats_seq ?_); first | refine ats_ifn (p := _) rfl trivial (fun he => ?_) (fun he => ?_) | refine ats_ifp (p := _) rfl trivial (fun he => ?_) (fun he => ?_) | refine ats_cond rfl trivial (fun he => ?_) (fun he => ?_)
        · (repeat refine ats_seq ?_); refine ats_go (fix0 hcx) fun K hK => ?_; simp only [go_sem, seval]; refine hK _ ?_; clear hK K
          refine ⟨(), trivial, ?_, rfl⟩
          simp only [SlotsLe, St.get, slotGet, Nat.reduceEqDiff, ↓reduceIte, AV.int.injEq, true_and, and_true]
          simp only [dl, if_pos he]
        · refine ats_skip ?_
          refine ⟨(), trivial, ?_, rfl⟩
          simp only [SlotsLe, St.get, slotGet, Nat.reduceEqDiff, ↓reduceIte, AV.int.injEq, true_and, and_true]
          simp only [dl, if_neg he]
      · (repeat refine ats_seq ?_); refine ats_go (fix0 hcx) fun K hK => ?_; simp only [go_sem, seval]
        (repeat refine And.intro (by first | omega | (intro hq; first | omega | (simp at hq <;> omega) | (simp_all <;> omega))) ?_)
        refine hK _ ?_; clear hK K
        (repeat refine ats_seq ?_); first | refine ats_ifn (p := _) rfl trivial (fun h2 => ?_) (fun h2 => ?_) | refine ats_ifp (p := _) rfl trivial (fun h2 => ?_) (fun h2 => ?_) | refine ats_cond rfl trivial (fun h2 => ?_) (fun h2 => ?_)
        · simp only [Bool.or_eq_true, Bool.not_eq_true', decide_eq_false_iff_not] at h2
          (repeat refine ats_seq ?_); refine ats_go (fix0 hcx) fun K hK => ?_; simp only [go_sem, seval]; refine hK _ ?_; clear hK K
          have e : unitF t = some [0, (i : Int), (k : Int)] := first_some (by omega) Hi (first_some (by omega) Hk (if_pos h2))
          have e2 : faultF t = some [0, (i : Int), (k : Int)] := by simp only [faultF, orE, e]
          exact ats_ret (finV rfl ⟨rfl, trivial⟩ (by rw [e2]; rfl))
        · simp only [Bool.or_eq_false_iff, Bool.not_eq_false', decide_eq_true_eq] at h2
          refine ats_skip ?_
          (repeat refine ats_seq ?_); refine ats_go (fix0 hcx) fun K hK => ?_; simp only [go_sem, seval]; (repeat refine And.intro (by first | omega | (intro hq; first | omega | (simp at hq <;> omega) | (simp_all <;> omega))) ?_); refine hK _ ?_; clear hK K
          refine ⟨k + 1, ⟨by omega, fun a ha => by rcases Nat.lt_succ_iff_lt_or_eq.1 ha with h | rfl; exact Hk a h; exact if_neg (fun h => h.elim (fun h => h h2.1) (fun h => h h2.2))⟩, by omega, .inl ⟨?_, rfl⟩⟩; simp only [SlotsLe, St.get, slotGet, Nat.reduceEqDiff, ↓reduceIte, AV.int.injEq, AV.bool.injEq, AV.l1.injEq, AV.l2.injEq, AV.l3.injEq, true_and, and_true]; omega
    · refine ats_exit (lq_x (ats_nil (bq_n ?_)))
      (repeat refine ats_seq ?_); refine ats_go (fix0 hcx) fun K hK => ?_; simp only [go_sem, seval]; (repeat refine And.intro (by first | omega | (intro hq; first | omega | (simp at hq <;> omega) | (simp_all <;> omega))) ?_); refine hK _ ?_; clear hK K
      refine ⟨i + 1, ⟨by omega, fun a ha => by rcases Nat.lt_succ_iff_lt_or_eq.1 ha with h | rfl; exact Hi a h; exact first_none (fun k hk => Hk k (by omega))⟩, by omega, .inl ⟨?_, rfl⟩⟩; simp only [SlotsLe, St.get, slotGet, Nat.reduceEqDiff, ↓reduceIte, AV.int.injEq, AV.bool.injEq, AV.l1.injEq, AV.l2.injEq, AV.l3.injEq, true_and, and_true]; omega
  · have hu : unitF t = none := first_none (fun i hi => Hi i (by omega))
    refine ats_exit (lq_x ?_)
    refine ats_le ?_ (hK0 hu)
    exact ⟨⟨rfl, rfl, trivial⟩, rfl⟩

theorem faultB {cx : Cx} (hcx : cx.fix = 0) (t : List (List (List Int))) (hc : Cube t) {c0 : Code} {cs : List Code} (hK0 : ATs Try.prog cx 245 (c0 :: cs) (fun e st => Aw.Ends e ∧ ∃ v, resL Try.prog st [.tmp 2] v ∧ view1 st.H v = some (optA (faultF t))) ⟨[(0, .l3 t), (3, .int t.length), (7, .ref 0 [])], [(0, .t1 (ds t))]⟩) : ATs Try.prog cx 245 (nth 6 Try.f43.body :: c0 :: cs) (fun e st => Aw.Ends e ∧ ∃ v, resL Try.prog st [.tmp 2] v ∧ view1 st.H v = some (optA (faultF t))) ⟨[(0, .l3 t), (3, .int t.length), (7, .ref 0 []), (8, .int 0)], [(0, .t1 [])]⟩ := by
  have h16 := hc.2.1
  have h1 := hc.1
  have hdl := ds_length t
  refine ats_code (by simp only [nth, Try.f43, flatC, List.cons_append, List.nil_append, List.getD_cons_zero, List.getD_cons_succ]; exact rfl) ?_
  (repeat refine ats_seq ?_); refine ats_loop (fun i : Nat => ⟨[(0, .l3 t), (3, .int t.length), (7, .ref 0 []), (8, .int i)], [(0, .t1 ((List.range i).map (dual t)))]⟩) (fun i => i ≤ t.length) (fun i => t.length - i) 0 (Nat.zero_le _) (by
    refine And.intro ?_ rfl
    simp only [SlotsLe, St.get, slotGet, Nat.reduceEqDiff, ↓reduceIte, true_and, and_true, AV.int.injEq]
    rfl) (fun i hi => ?_)
  (repeat refine ats_seq ?_); refine ats_go (fix0 hcx) fun K hK => ?_; simp only [go_sem, seval]; refine hK _ ?_; clear hK K
  (repeat refine ats_seq ?_); first | refine ats_ifn (p := _) rfl trivial (fun hli => ?_) (fun hli => ?_) | refine ats_ifp (p := _) rfl trivial (fun hli => ?_) (fun hli => ?_) | refine ats_cond rfl trivial (fun hli => ?_) (fun hli => ?_)
  · have hl : ((List.range i).map (dual t)).length = i := by simp
    refine ats_skip ?_
    (repeat refine ats_seq ?_); refine ats_block ?_
    (repeat refine ats_seq ?_); refine ats_go (fix0 hcx) fun K hK => ?_; simp only [go_sem, seval]
    first | refine fcall_free rfl rfl (l03Dual_ok t hc i (by omega)) ?_ | refine YR_intro (acall_free rfl rfl (l03Dual_ok t hc i (by omega))) ?_
    simp only [go_sem, seval]
    (repeat refine And.intro (by (first | omega | (rw [hl]; omega))) ?_)
    refine hK _ ?_; clear hK K
    (repeat refine ats_seq ?_); refine ats_go (fix0 hcx) fun K hK => ?_; simp only [go_sem, seval]; (repeat refine And.intro (by first | omega | (intro hq; first | omega | (simp at hq <;> omega) | (simp_all <;> omega))) ?_); refine hK _ ?_; clear hK K
    refine ⟨i + 1, by omega, by omega, .inr ⟨[1], by simp only [killL, List.map_cons, List.map_nil, killA, killAs, qOf, rmT, killH, killT, List.filter_cons, List.filter_nil, List.contains_cons, List.contains_nil, SlotsLe, St.get, slotGet, Nat.reduceEqDiff, Nat.reduceBEq, Bool.or_false, Bool.or_true, Bool.false_and, Bool.not_true, Bool.not_false, Bool.false_eq_true, ↓reduceIte, if_true, if_false, AV.int.injEq, AV.bool.injEq, AV.l1.injEq, AV.l2.injEq, AV.l3.injEq, true_and, and_true]; omega, by simp only [killL, List.map_cons, List.map_nil, killA, killAs, qOf, rmT, killH, killT, List.filter_cons, List.filter_nil, List.contains_cons, List.contains_nil, SlotsLe, St.get, slotGet, Nat.reduceEqDiff, Nat.reduceBEq, Bool.or_false, Bool.or_true, Bool.false_and, Bool.not_true, Bool.not_false, Bool.false_eq_true, ↓reduceIte, if_true, if_false, AV.int.injEq, AV.bool.injEq, AV.l1.injEq, AV.l2.injEq, AV.l3.injEq, true_and, and_true]; simp only [List.range_succ, List.map_append, List.map_cons, List.map_nil]⟩⟩
  · obtain rfl : i = t.length := by omega
    refine ats_exit (lq_x ?_)
    refine ats_le ?_ hK0
    exact ⟨⟨rfl, rfl, rfl, trivial⟩, rfl⟩

theorem faultC {cx : Cx} (hcx : cx.fix = 0) (t : List (List (List Int))) (hc : Cube t) (hu : unitF t = none) {c0 : Code} {cs : List Code} (hK0 : dualF t = none → ATs Try.prog cx 245 (c0 :: cs) (fun e st => Aw.Ends e ∧ ∃ v, resL Try.prog st [.tmp 2] v ∧ view1 st.H v = some (optA (faultF t))) ⟨[(0, .l3 t), (3, .int t.length), (7, .ref 0 [])], [(0, .t1 (ds t))]⟩) : ATs Try.prog cx 245 (nth 8 Try.f43.body :: c0 :: cs) (fun e st => Aw.Ends e ∧ ∃ v, resL Try.prog st [.tmp 2] v ∧ view1 st.H v = some (optA (faultF t))) ⟨[(0, .l3 t), (3, .int t.length), (7, .ref 0 []), (9, .int 0)], [(0, .t1 (ds t))]⟩ := by
  have h16 := hc.2.1
  have h1 := hc.1
  have hdl := ds_length t
  refine ats_code (by simp only [nth, Try.f43, flatC, List.cons_append, List.nil_append, List.getD_cons_zero, List.getD_cons_succ]; exact rfl) ?_
  (repeat refine ats_seq ?_); refine ats_loop (fun i : Nat => ⟨[(0, .l3 t), (3, .int t.length), (7, .ref 0 []), (9, .int i)], [(0, .t1 (ds t))]⟩) (fun i => i ≤ t.length ∧ ∀ b, b < i → dualH t b = none) (fun i => t.length - i) 0 ⟨Nat.zero_le _, fun a h => absurd h (Nat.not_lt_zero a)⟩ (by refine And.intro ?_ rfl; simp only [SlotsLe, St.get, slotGet, Nat.reduceEqDiff, ↓reduceIte, AV.int.injEq, AV.bool.injEq, AV.l1.injEq, AV.l2.injEq, AV.l3.injEq, true_and, and_true]; rfl) (fun i hi => ?_); obtain ⟨hi, Hi⟩ := hi
  (repeat refine ats_seq ?_); refine ats_go (fix0 hcx) fun K hK => ?_; simp only [go_sem, seval]; refine hK _ ?_; clear hK K
  (repeat refine ats_seq ?_); first | refine ats_ifn (p := _) rfl trivial (fun hli => ?_) (fun hli => ?_) | refine ats_ifp (p := _) rfl trivial (fun hli => ?_) (fun hli => ?_) | refine ats_cond rfl trivial (fun hli => ?_) (fun hli => ?_)
  · have gi := ds_get (show i < t.length by omega)
    have dr := dual_range t i
    refine ats_skip ?_
    (repeat refine ats_seq ?_); refine ats_block ?_
    (repeat refine ats_seq ?_); refine ats_go (fix0 hcx) fun K hK => ?_; simp only [go_sem, seval]
    simp only [gi]
    (repeat refine And.intro (by first | omega | (intro hq; first | omega | (simp at hq <;> omega) | (simp_all <;> omega))) ?_)
    refine hK _ ?_; clear hK K
    (repeat refine ats_seq ?_); first | refine ats_ifn (p := _) rfl trivial (fun h2 => ?_) (fun h2 => ?_) | refine ats_ifp (p := _) rfl trivial (fun h2 => ?_) (fun h2 => ?_) | refine ats_cond rfl trivial (fun h2 => ?_) (fun h2 => ?_)
    · simp only [Bool.or_eq_true, decide_eq_true_eq, Bool.not_eq_true', decide_eq_false_iff_not] at h2
      (repeat refine ats_seq ?_); refine ats_go (fix0 hcx) fun K hK => ?_; simp only [go_sem, seval]; refine hK _ ?_; clear hK K
      have e : dualF t = some [1, (i : Int)] := first_some (by omega) Hi (if_pos (by
        by_cases h0 : dual t i < 0
        · exact .inl h0
        · refine .inr ?_
          have := ds_get (show (dual t i).toNat < t.length by omega)
          rw [this] at h2
          exact h2.resolve_left h0))
      have e2 : faultF t = some [1, (i : Int)] := by simp only [faultF, orE, hu, e]
      exact ats_ret (finV rfl ⟨rfl, trivial⟩ (by rw [e2]; rfl))
    · simp only [Bool.or_eq_false_iff, decide_eq_false_iff_not, Bool.not_eq_false', decide_eq_true_eq] at h2
      have hg := ds_get (show (dual t i).toNat < t.length by omega)
      rw [hg] at h2
      refine ats_skip ?_
      (repeat refine ats_seq ?_); refine ats_go (fix0 hcx) fun K hK => ?_; simp only [go_sem, seval]; (repeat refine And.intro (by first | omega | (intro hq; first | omega | (simp at hq <;> omega) | (simp_all <;> omega))) ?_); refine hK _ ?_; clear hK K
      refine ⟨i + 1, ⟨by omega, fun a ha => by rcases Nat.lt_succ_iff_lt_or_eq.1 ha with h | rfl; exact Hi a h; exact if_neg (fun h => h.elim (fun h => h2.1 h) (fun h => h h2.2))⟩, by omega, .inl ⟨?_, rfl⟩⟩; simp only [SlotsLe, St.get, slotGet, Nat.reduceEqDiff, ↓reduceIte, AV.int.injEq, AV.bool.injEq, AV.l1.injEq, AV.l2.injEq, AV.l3.injEq, true_and, and_true]; omega
  · have hd : dualF t = none := first_none (fun i hi => Hi i (by omega))
    refine ats_exit (lq_x ?_)
    refine ats_le ?_ (hK0 hd)
    exact ⟨⟨rfl, rfl, rfl, trivial⟩, rfl⟩

theorem faultD {cx : Cx} (hcx : cx.fix = 0) (t : List (List (List Int))) (hc : Cube t) (hu : unitF t = none) (hd : dualF t = none) {c0 : Code} {cs : List Code} (hK0 : turnF t = none → ATs Try.prog cx 245 (c0 :: cs) (fun e st => Aw.Ends e ∧ ∃ v, resL Try.prog st [.tmp 2] v ∧ view1 st.H v = some (optA (faultF t))) ⟨[(0, .l3 t), (3, .int t.length)], [(0, .t1 (ds t))]⟩) : ATs Try.prog cx 245 (nth 10 Try.f43.body :: c0 :: cs) (fun e st => Aw.Ends e ∧ ∃ v, resL Try.prog st [.tmp 2] v ∧ view1 st.H v = some (optA (faultF t))) ⟨[(0, .l3 t), (3, .int t.length), (7, .ref 0 []), (10, .int 0)], [(0, .t1 (ds t))]⟩ := by
  have h16 := hc.2.1
  have h1 := hc.1
  have hdl := ds_length t
  refine ats_code (by simp only [nth, Try.f43, flatC, List.cons_append, List.nil_append, List.getD_cons_zero, List.getD_cons_succ]; exact rfl) ?_
  (repeat refine ats_seq ?_); refine ats_loop (fun i : Nat => ⟨[(0, .l3 t), (3, .int t.length), (7, .ref 0 []), (10, .int i)], [(0, .t1 (ds t))]⟩) (fun i => i ≤ t.length ∧ ∀ b, b < i → first t.length (fun j => first t.length (turnG t b j)) = none) (fun i => t.length - i) 0 ⟨Nat.zero_le _, fun a h => absurd h (Nat.not_lt_zero a)⟩ (by refine And.intro ?_ rfl; simp only [SlotsLe, St.get, slotGet, Nat.reduceEqDiff, ↓reduceIte, AV.int.injEq, AV.bool.injEq, AV.l1.injEq, AV.l2.injEq, AV.l3.injEq, true_and, and_true]; rfl) (fun i hi => ?_); obtain ⟨hi, Hi⟩ := hi
  (repeat refine ats_seq ?_); refine ats_go (fix0 hcx) fun K hK => ?_; simp only [go_sem, seval]; refine hK _ ?_; clear hK K
  (repeat refine ats_seq ?_); first | refine ats_ifn (p := _) rfl trivial (fun hli => ?_) (fun hli => ?_) | refine ats_ifp (p := _) rfl trivial (fun hli => ?_) (fun hli => ?_) | refine ats_cond rfl trivial (fun hli => ?_) (fun hli => ?_)
  · refine ats_skip ?_
    (repeat refine ats_seq ?_); refine ats_block ?_
    (repeat refine ats_seq ?_); refine ats_go (fix0 hcx) fun K hK => ?_; simp only [go_sem, seval]; refine hK _ ?_; clear hK K
    (repeat refine ats_seq ?_); refine ats_loop (fun j : Nat => ⟨[(0, .l3 t), (3, .int t.length), (7, .ref 0 []), (10, .int i), (11, .int j)], [(0, .t1 (ds t))]⟩) (fun j => j ≤ t.length ∧ ∀ b, b < j → first t.length (turnG t i b) = none) (fun j => t.length - j) 0 ⟨Nat.zero_le _, fun a h => absurd h (Nat.not_lt_zero a)⟩ (by refine And.intro ?_ rfl; simp only [SlotsLe, St.get, slotGet, Nat.reduceEqDiff, ↓reduceIte, AV.int.injEq, AV.bool.injEq, AV.l1.injEq, AV.l2.injEq, AV.l3.injEq, true_and, and_true]; rfl) (fun j hj => ?_); obtain ⟨hj, Hj⟩ := hj
    (repeat refine ats_seq ?_); refine ats_go (fix0 hcx) fun K hK => ?_; simp only [go_sem, seval]; refine hK _ ?_; clear hK K
    (repeat refine ats_seq ?_); first | refine ats_ifn (p := _) rfl trivial (fun hlj => ?_) (fun hlj => ?_) | refine ats_ifp (p := _) rfl trivial (fun hlj => ?_) (fun hlj => ?_) | refine ats_cond rfl trivial (fun hlj => ?_) (fun hlj => ?_)
    · refine ats_skip ?_
      (repeat refine ats_seq ?_); refine ats_block ?_
      (repeat refine ats_seq ?_); refine ats_go (fix0 hcx) fun K hK => ?_; simp only [go_sem, seval]; refine hK _ ?_; clear hK K
      (repeat refine ats_seq ?_); refine ats_loop (fun k : Nat => ⟨[(0, .l3 t), (3, .int t.length), (7, .ref 0 []), (10, .int i), (11, .int j), (12, .int k)], [(0, .t1 (ds t))]⟩) (fun k => k ≤ t.length ∧ ∀ b, b < k → turnG t i j b = none) (fun k => t.length - k) 0 ⟨Nat.zero_le _, fun a h => absurd h (Nat.not_lt_zero a)⟩ (by refine And.intro ?_ rfl; simp only [SlotsLe, St.get, slotGet, Nat.reduceEqDiff, ↓reduceIte, AV.int.injEq, AV.bool.injEq, AV.l1.injEq, AV.l2.injEq, AV.l3.injEq, true_and, and_true]; rfl) (fun k hk => ?_); obtain ⟨hk, Hk⟩ := hk
      (repeat refine ats_seq ?_); refine ats_go (fix0 hcx) fun K hK => ?_; simp only [go_sem, seval]; refine hK _ ?_; clear hK K
      (repeat refine ats_seq ?_); first | refine ats_ifn (p := _) rfl trivial (fun hlk => ?_) (fun hlk => ?_) | refine ats_ifp (p := _) rfl trivial (fun hlk => ?_) (fun hlk => ?_) | refine ats_cond rfl trivial (fun hlk => ?_) (fun hlk => ?_)
      · have di := dual_ok hd (show i < t.length by omega)
        have dj := dual_ok hd (show j < t.length by omega)
        have gi := ds_get (show i < t.length by omega)
        have gj := ds_get (show j < t.length by omega)
        have mi := hc.mat (show i < t.length by omega)
        have mk := hc.mat (show k < t.length by omega)
        have md := hc.mat di.2.1
        have r1 := hc.row (show i < t.length by omega) (show j < t.length by omega)
        have r2 := hc.row di.2.1 (show k < t.length by omega)
        have r3 := hc.row (show k < t.length by omega) dj.2.1
        refine ats_skip ?_
        (repeat refine ats_seq ?_); refine ats_block ?_
        (repeat refine ats_seq ?_); refine ats_pick (fix0 hcx) mixed (by kernel_rfl) fun K hK => ?_; simp only [go_sem, seval]
        simp only [gi, gj]
        (repeat refine And.intro (by first | omega | (intro hq; first | omega | (simp at hq <;> omega) | (simp_all <;> omega))) ?_)
        refine hK _ ?_; clear hK K
        (repeat refine ats_seq ?_); first | refine ats_ifn (p := _) rfl trivial (fun h2 => ?_) (fun h2 => ?_) | refine ats_ifp (p := _) rfl trivial (fun h2 => ?_) (fun h2 => ?_) | refine ats_cond rfl trivial (fun h2 => ?_) (fun h2 => ?_)
        · simp only [Bool.or_eq_true, Bool.not_eq_true', decide_eq_false_iff_not] at h2
          (repeat refine ats_seq ?_); refine ats_go (fix0 hcx) fun K hK => ?_; simp only [go_sem, seval]; refine hK _ ?_; clear hK K
          have e : turnF t = some [2, (i : Int), (j : Int), (k : Int)] := first_some (by omega) Hi (first_some (by omega) Hj (first_some (by omega) Hk (if_pos h2)))
          have e2 : faultF t = some [2, (i : Int), (j : Int), (k : Int)] := by simp only [faultF, orE, hu, hd, e]
          exact ats_ret (finV rfl ⟨rfl, trivial⟩ (by rw [e2]; rfl))
        · simp only [Bool.or_eq_false_iff, Bool.not_eq_false', decide_eq_true_eq] at h2
          refine ats_skip ?_
          (repeat refine ats_seq ?_); refine ats_go (fix0 hcx) fun K hK => ?_; simp only [go_sem, seval]; (repeat refine And.intro (by first | omega | (intro hq; first | omega | (simp at hq <;> omega) | (simp_all <;> omega))) ?_); refine hK _ ?_; clear hK K
          refine ⟨k + 1, ⟨by omega, fun a ha => by rcases Nat.lt_succ_iff_lt_or_eq.1 ha with h | rfl; exact Hk a h; exact if_neg (fun h => h.elim (fun h => h h2.1) (fun h => h h2.2))⟩, by omega, .inl ⟨?_, rfl⟩⟩; simp only [SlotsLe, St.get, slotGet, Nat.reduceEqDiff, ↓reduceIte, AV.int.injEq, AV.bool.injEq, AV.l1.injEq, AV.l2.injEq, AV.l3.injEq, true_and, and_true]; omega
      · refine ats_exit (lq_x (ats_nil (bq_n ?_)))
        (repeat refine ats_seq ?_); refine ats_go (fix0 hcx) fun K hK => ?_; simp only [go_sem, seval]; (repeat refine And.intro (by first | omega | (intro hq; first | omega | (simp at hq <;> omega) | (simp_all <;> omega))) ?_); refine hK _ ?_; clear hK K
        refine ⟨j + 1, ⟨by omega, fun a ha => by rcases Nat.lt_succ_iff_lt_or_eq.1 ha with h | rfl; exact Hj a h; exact first_none (fun k hk => Hk k (by omega))⟩, by omega, .inl ⟨?_, rfl⟩⟩; simp only [SlotsLe, St.get, slotGet, Nat.reduceEqDiff, ↓reduceIte, AV.int.injEq, AV.bool.injEq, AV.l1.injEq, AV.l2.injEq, AV.l3.injEq, true_and, and_true]; omega
    · refine ats_exit (lq_x (ats_nil (bq_n ?_)))
      (repeat refine ats_seq ?_); refine ats_go (fix0 hcx) fun K hK => ?_; simp only [go_sem, seval]; (repeat refine And.intro (by first | omega | (intro hq; first | omega | (simp at hq <;> omega) | (simp_all <;> omega))) ?_); refine hK _ ?_; clear hK K
      refine ⟨i + 1, ⟨by omega, fun a ha => by rcases Nat.lt_succ_iff_lt_or_eq.1 ha with h | rfl; exact Hi a h; exact first_none (fun k hk => Hj k (by omega))⟩, by omega, .inl ⟨?_, rfl⟩⟩; simp only [SlotsLe, St.get, slotGet, Nat.reduceEqDiff, ↓reduceIte, AV.int.injEq, AV.bool.injEq, AV.l1.injEq, AV.l2.injEq, AV.l3.injEq, true_and, and_true]; omega
  · have ht : turnF t = none := first_none (fun i hi => Hi i (by omega))
    refine ats_exit (lq_x ?_)
    refine ats_le ?_ (hK0 ht)
    exact ⟨⟨rfl, rfl, trivial⟩, rfl⟩

theorem faultE {cx : Cx} (hcx : cx.fix = 0) (t : List (List (List Int))) (hc : Cube t) (e0 : faultF t = brackF t) {c0 : Code} {cs : List Code} (hK0 : faultF t = none → ATs Try.prog cx 245 (c0 :: cs) (fun e st => Aw.Ends e ∧ ∃ v, resL Try.prog st [.tmp 2] v ∧ view1 st.H v = some (optA (faultF t))) ⟨[], [(0, .t1 (ds t))]⟩) : ATs Try.prog cx 245 (nth 12 Try.f43.body :: c0 :: cs) (fun e st => Aw.Ends e ∧ ∃ v, resL Try.prog st [.tmp 2] v ∧ view1 st.H v = some (optA (faultF t))) ⟨[(0, .l3 t), (3, .int t.length), (13, .int 0)], [(0, .t1 (ds t))]⟩ := by
  have h16 := hc.2.1
  have h1 := hc.1
  have hdl := ds_length t
  refine ats_code (by simp only [nth, Try.f43, flatC, List.cons_append, List.nil_append, List.getD_cons_zero, List.getD_cons_succ]; exact rfl) ?_
  (repeat refine ats_seq ?_); refine ats_loop (fun i : Nat => ⟨[(0, .l3 t), (3, .int t.length), (13, .int i)], [(0, .t1 (ds t))]⟩) (fun i => i ≤ t.length ∧ ∀ b, b < i → first t.length (fun j => first t.length fun k => first t.length (brackG t b j k)) = none) (fun i => t.length - i) 0 ⟨Nat.zero_le _, fun a h => absurd h (Nat.not_lt_zero a)⟩ (by refine And.intro ?_ rfl; simp only [SlotsLe, St.get, slotGet, Nat.reduceEqDiff, ↓reduceIte, AV.int.injEq, AV.bool.injEq, AV.l1.injEq, AV.l2.injEq, AV.l3.injEq, true_and, and_true]; rfl) (fun i hi => ?_); obtain ⟨hi, Hi⟩ := hi
  (repeat refine ats_seq ?_); refine ats_go (fix0 hcx) fun K hK => ?_; simp only [go_sem, seval]; refine hK _ ?_; clear hK K
  (repeat refine ats_seq ?_); first | refine ats_ifn (p := _) rfl trivial (fun hli => ?_) (fun hli => ?_) | refine ats_ifp (p := _) rfl trivial (fun hli => ?_) (fun hli => ?_) | refine ats_cond rfl trivial (fun hli => ?_) (fun hli => ?_)
  · have mi := hc.mat (show i < t.length by omega)
    refine ats_skip ?_
    (repeat refine ats_seq ?_); refine ats_block ?_
    (repeat refine ats_seq ?_); refine ats_go (fix0 hcx) fun K hK => ?_; simp only [go_sem, seval]; refine hK _ ?_; clear hK K
    (repeat refine ats_seq ?_); refine ats_loop (fun j : Nat => ⟨[(0, .l3 t), (3, .int t.length), (13, .int i), (14, .int j)], [(0, .t1 (ds t))]⟩) (fun j => j ≤ t.length ∧ ∀ b, b < j → first t.length (fun k => first t.length (brackG t i b k)) = none) (fun j => t.length - j) 0 ⟨Nat.zero_le _, fun a h => absurd h (Nat.not_lt_zero a)⟩ (by refine And.intro ?_ rfl; simp only [SlotsLe, St.get, slotGet, Nat.reduceEqDiff, ↓reduceIte, AV.int.injEq, AV.bool.injEq, AV.l1.injEq, AV.l2.injEq, AV.l3.injEq, true_and, and_true]; rfl) (fun j hj => ?_); obtain ⟨hj, Hj⟩ := hj
    (repeat refine ats_seq ?_); refine ats_go (fix0 hcx) fun K hK => ?_; simp only [go_sem, seval]; refine hK _ ?_; clear hK K
    (repeat refine ats_seq ?_); first | refine ats_ifn (p := _) rfl trivial (fun hlj => ?_) (fun hlj => ?_) | refine ats_ifp (p := _) rfl trivial (fun hlj => ?_) (fun hlj => ?_) | refine ats_cond rfl trivial (fun hlj => ?_) (fun hlj => ?_)
    · have mj := hc.mat (show j < t.length by omega)
      have rij := hc.row (show i < t.length by omega) (show j < t.length by omega)
      refine ats_skip ?_
      (repeat refine ats_seq ?_); refine ats_block ?_
      (repeat refine ats_seq ?_); refine ats_go (fix0 hcx) fun K hK => ?_; simp only [go_sem, seval]; refine hK _ ?_; clear hK K
      (repeat refine ats_seq ?_); refine ats_loop (fun k : Nat => ⟨[(0, .l3 t), (3, .int t.length), (13, .int i), (14, .int j), (15, .int k)], [(0, .t1 (ds t))]⟩) (fun k => k ≤ t.length ∧ ∀ b, b < k → first t.length (brackG t i j b) = none) (fun k => t.length - k) 0 ⟨Nat.zero_le _, fun a h => absurd h (Nat.not_lt_zero a)⟩ (by refine And.intro ?_ rfl; simp only [SlotsLe, St.get, slotGet, Nat.reduceEqDiff, ↓reduceIte, AV.int.injEq, AV.bool.injEq, AV.l1.injEq, AV.l2.injEq, AV.l3.injEq, true_and, and_true]; rfl) (fun k hk => ?_); obtain ⟨hk, Hk⟩ := hk
      (repeat refine ats_seq ?_); refine ats_go (fix0 hcx) fun K hK => ?_; simp only [go_sem, seval]; refine hK _ ?_; clear hK K
      (repeat refine ats_seq ?_); first | refine ats_ifn (p := _) rfl trivial (fun hlk => ?_) (fun hlk => ?_) | refine ats_ifp (p := _) rfl trivial (fun hlk => ?_) (fun hlk => ?_) | refine ats_cond rfl trivial (fun hlk => ?_) (fun hlk => ?_)
      · have rjk := hc.row (show j < t.length by omega) (show k < t.length by omega)
        refine ats_skip ?_
        (repeat refine ats_seq ?_); refine ats_block ?_
        (repeat refine ats_seq ?_); refine ats_go (fix0 hcx) fun K hK => ?_; simp only [go_sem, seval]; refine hK _ ?_; clear hK K
        (repeat refine ats_seq ?_); refine ats_loop (fun l : Nat => ⟨[(0, .l3 t), (3, .int t.length), (13, .int i), (14, .int j), (15, .int k), (16, .int l)], [(0, .t1 (ds t))]⟩) (fun l => l ≤ t.length ∧ ∀ b, b < l → brackG t i j k b = none) (fun l => t.length - l) 0 ⟨Nat.zero_le _, fun a h => absurd h (Nat.not_lt_zero a)⟩ (by refine And.intro ?_ rfl; simp only [SlotsLe, St.get, slotGet, Nat.reduceEqDiff, ↓reduceIte, AV.int.injEq, AV.bool.injEq, AV.l1.injEq, AV.l2.injEq, AV.l3.injEq, true_and, and_true]; rfl) (fun l hl => ?_); obtain ⟨hl, Hl⟩ := hl
        (repeat refine ats_seq ?_); refine ats_go (fix0 hcx) fun K hK => ?_; simp only [go_sem, seval]; refine hK _ ?_; clear hK K
        (repeat refine ats_seq ?_); first | refine ats_ifn (p := _) rfl trivial (fun hll => ?_) (fun hll => ?_) | refine ats_ifp (p := _) rfl trivial (fun hll => ?_) (fun hll => ?_) | refine ats_cond rfl trivial (fun hll => ?_) (fun hll => ?_)
        · refine ats_skip ?_
          (repeat refine ats_seq ?_); refine ats_block ?_
          (repeat refine ats_seq ?_); refine ats_go (fix0 hcx) fun K hK => ?_; simp only [go_sem, seval]; refine hK _ ?_; clear hK K
          (repeat refine ats_seq ?_); refine ats_go (fix0 hcx) fun K hK => ?_; simp only [go_sem, seval]; refine hK _ ?_; clear hK K
          (repeat refine ats_seq ?_); refine ats_loop (fun m : Nat => ⟨[(0, .l3 t), (3, .int t.length), (13, .int i), (14, .int j), (15, .int k), (16, .int l), (17, .int (sumTo (brL t i j k l) m)), (18, .int (sumTo (brR t i j k l) m)), (19, .int m)], [(0, .t1 (ds t))]⟩) (fun m => m ≤ t.length) (fun m => t.length - m) 0 (Nat.zero_le _) (by
            refine And.intro ?_ rfl; simp only [SlotsLe, St.get, slotGet, Nat.reduceEqDiff, ↓reduceIte, AV.int.injEq, AV.bool.injEq, AV.l1.injEq, AV.l2.injEq, AV.l3.injEq, true_and, and_true]
            exact ⟨rfl, rfl, rfl⟩) (fun m hm => ?_)
          (repeat refine ats_seq ?_); refine ats_go (fix0 hcx) fun K hK => ?_; simp only [go_sem, seval]; refine hK _ ?_; clear hK K
          (repeat refine ats_seq ?_); first | refine ats_ifn (p := _) rfl trivial (fun hlm => ?_) (fun hlm => ?_) | refine ats_ifp (p := _) rfl trivial (fun hlm => ?_) (fun hlm => ?_) | refine ats_cond rfl trivial (fun hlm => ?_) (fun hlm => ?_)
          · have mm := hc.mat (show m < t.length by omega)
            have rmk := hc.row (show m < t.length by omega) (show k < t.length by omega)
            have rim := hc.row (show i < t.length by omega) (show m < t.length by omega)
            have bL := brL_bd hc (i := i) (j := j) (k := k) (l := l) (by omega) (by omega) (by omega) (by omega)
            have bR := brR_bd hc (i := i) (j := j) (k := k) (l := l) (by omega) (by omega) (by omega) (by omega)
            have sL := sumTo_le (n := m) (fun x hx => bL x (by omega))
            have sR := sumTo_le (n := m) (fun x hx => bR x (by omega))
            have cL := bL m (by omega)
            have cR := bR m (by omega)
            simp only [brL, brR, e3] at cL cR
            refine ats_skip ?_
            (repeat refine ats_seq ?_); refine ats_block ?_
            (repeat refine ats_seq ?_); refine ats_pick (fix0 hcx) mixed (by kernel_rfl) fun K hK => ?_; simp only [go_sem, seval]; (repeat refine And.intro (by first | omega | (intro hq; first | omega | (simp at hq <;> omega) | (simp_all <;> omega))) ?_); refine hK _ ?_; clear hK K
            (repeat refine ats_seq ?_); refine ats_pick (fix0 hcx) mixed (by kernel_rfl) fun K hK => ?_; simp only [go_sem, seval]; (repeat refine And.intro (by first | omega | (intro hq; first | omega | (simp at hq <;> omega) | (simp_all <;> omega))) ?_); refine hK _ ?_; clear hK K
            (repeat refine ats_seq ?_); refine ats_go (fix0 hcx) fun K hK => ?_; simp only [go_sem, seval]; (repeat refine And.intro (by first | omega | (intro hq; first | omega | (simp at hq <;> omega) | (simp_all <;> omega))) ?_); refine hK _ ?_; clear hK K
            refine ⟨m + 1,  by omega, by omega, .inl ⟨?_, rfl⟩⟩; simp only [SlotsLe, St.get, slotGet, Nat.reduceEqDiff, ↓reduceIte, AV.int.injEq, AV.bool.injEq, AV.l1.injEq, AV.l2.injEq, AV.l3.injEq, true_and, and_true]
            exact ⟨rfl, rfl, by omega⟩
          · obtain rfl : m = t.length := by omega
            refine ats_exit (lq_x ?_)
            (repeat refine ats_seq ?_); refine ats_go (fix0 hcx) fun K hK => ?_; simp only [go_sem, seval]; refine hK _ ?_; clear hK K
            (repeat refine ats_seq ?_); first | refine ats_ifn (p := _) rfl trivial (fun hne => ?_) (fun hne => ?_) | refine ats_ifp (p := _) rfl trivial (fun hne => ?_) (fun hne => ?_) | refine ats_cond rfl trivial (fun hne => ?_) (fun hne => ?_)
            · (repeat refine ats_seq ?_); refine ats_go (fix0 hcx) fun K hK => ?_; simp only [go_sem, seval]; refine hK _ ?_; clear hK K
              have e : brackF t = some [3, (i : Int), (j : Int), (k : Int), (l : Int)] := first_some (by omega) Hi (first_some (by omega) Hj (first_some (by omega) Hk (first_some (by omega) Hl (if_pos hne))))
              rw [e] at e0
              exact ats_ret (finV rfl ⟨rfl, trivial⟩ (by rw [e0]; rfl))
            · refine ats_skip ?_
              (repeat refine ats_seq ?_); refine ats_go (fix0 hcx) fun K hK => ?_; simp only [go_sem, seval]; (repeat refine And.intro (by first | omega | (intro hq; first | omega | (simp at hq <;> omega) | (simp_all <;> omega))) ?_); refine hK _ ?_; clear hK K
              refine ⟨l + 1, ⟨by omega, fun a ha => by rcases Nat.lt_succ_iff_lt_or_eq.1 ha with h | rfl; exact Hl a h; exact if_neg (fun h => h hne)⟩, by omega, .inl ⟨?_, rfl⟩⟩; simp only [SlotsLe, St.get, slotGet, Nat.reduceEqDiff, ↓reduceIte, AV.int.injEq, AV.bool.injEq, AV.l1.injEq, AV.l2.injEq, AV.l3.injEq, true_and, and_true]; omega
        · refine ats_exit (lq_x (ats_nil (bq_n ?_)))
          (repeat refine ats_seq ?_); refine ats_go (fix0 hcx) fun K hK => ?_; simp only [go_sem, seval]; (repeat refine And.intro (by first | omega | (intro hq; first | omega | (simp at hq <;> omega) | (simp_all <;> omega))) ?_); refine hK _ ?_; clear hK K
          refine ⟨k + 1, ⟨by omega, fun a ha => by rcases Nat.lt_succ_iff_lt_or_eq.1 ha with h | rfl; exact Hk a h; exact first_none (fun k hk => Hl k (by omega))⟩, by omega, .inl ⟨?_, rfl⟩⟩; simp only [SlotsLe, St.get, slotGet, Nat.reduceEqDiff, ↓reduceIte, AV.int.injEq, AV.bool.injEq, AV.l1.injEq, AV.l2.injEq, AV.l3.injEq, true_and, and_true]; omega
      · refine ats_exit (lq_x (ats_nil (bq_n ?_)))
        (repeat refine ats_seq ?_); refine ats_go (fix0 hcx) fun K hK => ?_; simp only [go_sem, seval]; (repeat refine And.intro (by first | omega | (intro hq; first | omega | (simp at hq <;> omega) | (simp_all <;> omega))) ?_); refine hK _ ?_; clear hK K
        refine ⟨j + 1, ⟨by omega, fun a ha => by rcases Nat.lt_succ_iff_lt_or_eq.1 ha with h | rfl; exact Hj a h; exact first_none (fun k' hk' => Hk k' (by omega))⟩, by omega, .inl ⟨?_, rfl⟩⟩; simp only [SlotsLe, St.get, slotGet, Nat.reduceEqDiff, ↓reduceIte, AV.int.injEq, AV.bool.injEq, AV.l1.injEq, AV.l2.injEq, AV.l3.injEq, true_and, and_true]; omega
    · refine ats_exit (lq_x (ats_nil (bq_n ?_)))
      (repeat refine ats_seq ?_); refine ats_go (fix0 hcx) fun K hK => ?_; simp only [go_sem, seval]; (repeat refine And.intro (by first | omega | (intro hq; first | omega | (simp at hq <;> omega) | (simp_all <;> omega))) ?_); refine hK _ ?_; clear hK K
      refine ⟨i + 1, ⟨by omega, fun a ha => by rcases Nat.lt_succ_iff_lt_or_eq.1 ha with h | rfl; exact Hi a h; exact first_none (fun k hk => Hj k (by omega))⟩, by omega, .inl ⟨?_, rfl⟩⟩; simp only [SlotsLe, St.get, slotGet, Nat.reduceEqDiff, ↓reduceIte, AV.int.injEq, AV.bool.injEq, AV.l1.injEq, AV.l2.injEq, AV.l3.injEq, true_and, and_true]; omega
  · have e : brackF t = none := first_none (fun i hi => Hi i (by omega))
    rw [e] at e0
    refine ats_exit (lq_x ?_)
    refine ats_le ?_ (hK0 e0)
    exact ⟨trivial, rfl⟩

theorem l03Fault_ok (t : List (List (List Int))) (hc : Cube t) : PureCall Try.prog 43 [.l3 t] (optA (faultF t)) := by
  refine PureCall.intro (n := 245) (rs := [.tmp 2]) Try.call43 Try.func43 rfl rfl rfl (by simp only [List.length_cons, List.length_nil]; omega) (fun cx hcx => ats_of ?_); simp only [argSlots, Nat.zero_add, Nat.reduceAdd]
  (repeat refine ats_seq ?_); refine ats_go (fix0 hcx) fun K hK => ?_; simp only [go_sem, seval]; refine hK _ ?_; clear hK K
  (repeat refine ats_seq ?_); refine ats_go (fix0 hcx) fun K hK => ?_; simp only [go_sem, seval]; refine hK _ ?_; clear hK K
  (repeat refine ats_seq ?_); refine ats_go (fix0 hcx) fun K hK => ?_; simp only [go_sem, seval]; refine hK _ ?_; clear hK K
  repeat refine ats_seq ?_
  refine ats_le (st' := ⟨[(0, .l3 t), (3, .int t.length), (4, .int 0)], []⟩) ⟨⟨rfl, rfl, rfl, trivial⟩, rfl⟩ ?_
  refine faultA hcx t hc fun hu => ?_
  (repeat refine ats_seq ?_); refine ats_go (fix0 hcx) fun K hK => ?_; simp only [go_sem, seval]; refine hK _ ?_; clear hK K
  (repeat refine ats_seq ?_); refine ats_go (fix0 hcx) fun K hK => ?_; simp only [go_sem, seval]; refine hK _ ?_; clear hK K
  repeat refine ats_seq ?_
  refine ats_le (st' := ⟨[(0, .l3 t), (3, .int t.length), (7, .ref 0 []), (8, .int 0)], [(0, .t1 [])]⟩) ⟨⟨rfl, rfl, rfl, rfl, trivial⟩, rfl⟩ ?_
  refine faultB hcx t hc ?_
  (repeat refine ats_seq ?_); refine ats_go (fix0 hcx) fun K hK => ?_; simp only [go_sem, seval]; refine hK _ ?_; clear hK K
  repeat refine ats_seq ?_
  refine ats_le (st' := ⟨[(0, .l3 t), (3, .int t.length), (7, .ref 0 []), (9, .int 0)], [(0, .t1 (ds t))]⟩) ⟨⟨rfl, rfl, rfl, rfl, trivial⟩, rfl⟩ ?_
  refine faultC hcx t hc hu fun hd => ?_
  (repeat refine ats_seq ?_); refine ats_go (fix0 hcx) fun K hK => ?_; simp only [go_sem, seval]; refine hK _ ?_; clear hK K
  repeat refine ats_seq ?_
  refine ats_le (st' := ⟨[(0, .l3 t), (3, .int t.length), (7, .ref 0 []), (10, .int 0)], [(0, .t1 (ds t))]⟩) ⟨⟨rfl, rfl, rfl, rfl, trivial⟩, rfl⟩ ?_
  refine faultD hcx t hc hu hd fun ht => ?_
  have e0 : faultF t = brackF t := by simp only [faultF, orE, hu, hd, ht]
  (repeat refine ats_seq ?_); refine ats_go (fix0 hcx) fun K hK => ?_; simp only [go_sem, seval]; refine hK _ ?_; clear hK K
  repeat refine ats_seq ?_
  refine ats_le (st' := ⟨[(0, .l3 t), (3, .int t.length), (13, .int 0)], [(0, .t1 (ds t))]⟩) ⟨⟨rfl, rfl, rfl, trivial⟩, rfl⟩ ?_
  refine faultE hcx t hc e0 fun e => ?_
  (repeat refine ats_seq ?_); refine ats_go (fix0 hcx) fun K hK => ?_; simp only [go_sem, seval]; refine hK _ ?_; clear hK K
  exact ats_ret (finV rfl ⟨rfl, trivial⟩ (by rw [e]; rfl))
end Go.Proofs.Ytbddekioaigbhaa

namespace Go.Proofs.Ytbddekioaigbhaa
open Go Go.Aw Go.Pl

theorem l01Same_ok (xs ys : List Int) : PureCall Try.prog 67 [.l1 xs, .l1 ys] (.bool (decide (xs = ys))) := by
  refine PureCall.intro (n := 26) (rs := [.tmp 4]) Try.call67 Try.func67 rfl rfl rfl (by simp only [List.length_cons, List.length_nil]; omega) (fun cx hcx => ats_of ?_); simp only [argSlots, Nat.zero_add, Nat.reduceAdd]
  (repeat refine ats_seq ?_); refine ats_go (fix0 hcx) fun K hK => ?_; simp only [go_sem, seval]; refine hK _ ?_; clear hK K
  refine ats_know 0 fun h0 => ?_; simp only [St.get, slotGet, Nat.reduceEqDiff, ↓reduceIte, if_true, fact, facts] at h0
  (repeat refine ats_seq ?_); refine ats_go (fix0 hcx) fun K hK => ?_; simp only [go_sem, seval]; refine hK _ ?_; clear hK K
  (repeat refine ats_seq ?_); first | refine ats_ifn (p := _) rfl trivial (fun hc => ?_) (fun hc => ?_) | refine ats_ifp (p := _) rfl trivial (fun hc => ?_) (fun hc => ?_) | refine ats_cond rfl trivial (fun hc => ?_) (fun hc => ?_)
  · (repeat refine ats_seq ?_); refine ats_go (fix0 hcx) fun K hK => ?_; simp only [go_sem, seval]; refine hK _ ?_; clear hK K
    refine ats_ret (finB rfl ?_)
    simp only [Bool.false_eq, decide_eq_false_iff_not]
    exact fun e => hc (by rw [e])
  · refine ats_skip ?_
    (repeat refine ats_seq ?_); refine ats_go (fix0 hcx) fun K hK => ?_; simp only [go_sem, seval]; refine hK _ ?_; clear hK K
    (repeat refine ats_seq ?_); refine ats_loop (fun k : Nat => ⟨[(0, .l1 xs), (1, .l1 ys), (5, .int k)], []⟩) (fun k => k ≤ xs.length ∧ xs.take k = ys.take k) (fun k => xs.length - k) 0 ⟨Nat.zero_le _, rfl⟩ (by
      refine And.intro ?_ rfl; simp only [SlotsLe, St.get, slotGet, Nat.reduceEqDiff, ↓reduceIte, AV.int.injEq, AV.bool.injEq, AV.l1.injEq, AV.l2.injEq, AV.l3.injEq, true_and, and_true]
      rfl) (fun k hk => ?_)
    (repeat refine ats_seq ?_); refine ats_go (fix0 hcx) fun K hK => ?_; simp only [go_sem, seval]; refine hK _ ?_; clear hK K
    (repeat refine ats_seq ?_); first | refine ats_ifn (p := _) rfl trivial (fun h1 => ?_) (fun h1 => ?_) | refine ats_ifp (p := _) rfl trivial (fun h1 => ?_) (fun h1 => ?_) | refine ats_cond rfl trivial (fun h1 => ?_) (fun h1 => ?_)
    · refine ats_skip ?_
      (repeat refine ats_seq ?_); refine ats_block ?_
      (repeat refine ats_seq ?_); refine ats_pick (fix0 hcx) mixed (by kernel_rfl) fun K hK => ?_; simp only [go_sem, seval]; (repeat refine And.intro (by first | omega | (intro hq; first | omega | (simp at hq <;> omega) | (simp_all <;> omega))) ?_); refine hK _ ?_; clear hK K
      (repeat refine ats_seq ?_); first | refine ats_ifn (p := _) rfl trivial (fun h2 => ?_) (fun h2 => ?_) | refine ats_ifp (p := _) rfl trivial (fun h2 => ?_) (fun h2 => ?_) | refine ats_cond rfl trivial (fun h2 => ?_) (fun h2 => ?_)
      · (repeat refine ats_seq ?_); refine ats_go (fix0 hcx) fun K hK => ?_; simp only [go_sem, seval]; refine hK _ ?_; clear hK K
        refine ats_ret (finB rfl ?_)
        simp only [Bool.false_eq, decide_eq_false_iff_not]
        exact ne_of_getD h2
      · refine ats_skip ?_
        have := h0.1
        (repeat refine ats_seq ?_); refine ats_go (fix0 hcx) fun K hK => ?_; simp only [go_sem, seval]; (repeat refine And.intro (by first | omega | (intro hq; first | omega | (simp at hq <;> omega) | (simp_all <;> omega))) ?_); refine hK _ ?_; clear hK K
        refine ⟨k + 1,  ⟨by omega, take_succ_eq (by omega) (by omega) hk.2 h2⟩, by omega, .inl ⟨?_, rfl⟩⟩; simp only [SlotsLe, St.get, slotGet, Nat.reduceEqDiff, ↓reduceIte, AV.int.injEq, AV.bool.injEq, AV.l1.injEq, AV.l2.injEq, AV.l3.injEq, true_and, and_true]
        omega
    · refine ats_exit (lq_x ?_)
      (repeat refine ats_seq ?_); refine ats_go (fix0 hcx) fun K hK => ?_; simp only [go_sem, seval]; refine hK _ ?_; clear hK K
      refine ats_ret (finB rfl ?_)
      have e : k = xs.length := by omega
      have h := hk.2
      rw [List.take_of_length_le (by omega), List.take_of_length_le (by omega)] at h
      simp only [h, decide_true]
theorem l01Same2_ok (xs ys : List (List Int)) : PureCall Try.prog 45 [.l2 xs, .l2 ys] (.bool (decide (xs = ys))) := by
  refine PureCall.intro (n := 27) (rs := [.tmp 4]) Try.call45 Try.func45 rfl rfl rfl (by simp only [List.length_cons, List.length_nil]; omega) (fun cx hcx => ats_of ?_); simp only [argSlots, Nat.zero_add, Nat.reduceAdd]
  (repeat refine ats_seq ?_); refine ats_go (fix0 hcx) fun K hK => ?_; simp only [go_sem, seval]; refine hK _ ?_; clear hK K
  refine ats_know 0 fun h0 => ?_; simp only [St.get, slotGet, Nat.reduceEqDiff, ↓reduceIte, if_true, fact, facts] at h0
  (repeat refine ats_seq ?_); refine ats_go (fix0 hcx) fun K hK => ?_; simp only [go_sem, seval]; refine hK _ ?_; clear hK K
  (repeat refine ats_seq ?_); first | refine ats_ifn (p := _) rfl trivial (fun hc => ?_) (fun hc => ?_) | refine ats_ifp (p := _) rfl trivial (fun hc => ?_) (fun hc => ?_) | refine ats_cond rfl trivial (fun hc => ?_) (fun hc => ?_)
  · (repeat refine ats_seq ?_); refine ats_go (fix0 hcx) fun K hK => ?_; simp only [go_sem, seval]; refine hK _ ?_; clear hK K
    refine ats_ret (finB rfl ?_)
    simp only [Bool.false_eq, decide_eq_false_iff_not]
    exact fun e => hc (by rw [e])
  · refine ats_skip ?_
    (repeat refine ats_seq ?_); refine ats_go (fix0 hcx) fun K hK => ?_; simp only [go_sem, seval]; refine hK _ ?_; clear hK K
    (repeat refine ats_seq ?_); refine ats_loop (fun k : Nat => ⟨[(0, .l2 xs), (1, .l2 ys), (5, .int k)], []⟩) (fun k => k ≤ xs.length ∧ xs.take k = ys.take k) (fun k => xs.length - k) 0 ⟨Nat.zero_le _, rfl⟩ (by
      refine And.intro ?_ rfl; simp only [SlotsLe, St.get, slotGet, Nat.reduceEqDiff, ↓reduceIte, AV.int.injEq, AV.bool.injEq, AV.l1.injEq, AV.l2.injEq, AV.l3.injEq, true_and, and_true]
      rfl) (fun k hk => ?_)
    (repeat refine ats_seq ?_); refine ats_go (fix0 hcx) fun K hK => ?_; simp only [go_sem, seval]; refine hK _ ?_; clear hK K
    (repeat refine ats_seq ?_); first | refine ats_ifn (p := _) rfl trivial (fun h1 => ?_) (fun h1 => ?_) | refine ats_ifp (p := _) rfl trivial (fun h1 => ?_) (fun h1 => ?_) | refine ats_cond rfl trivial (fun h1 => ?_) (fun h1 => ?_)
    · refine ats_skip ?_
      (repeat refine ats_seq ?_); refine ats_block ?_
      (repeat refine ats_seq ?_); refine ats_pick (fix0 hcx) mixed (by kernel_rfl) fun K hK => ?_; simp only [go_sem, seval]
      (repeat refine And.intro (by first | omega | (intro hq; first | omega | (simp at hq <;> omega) | (simp_all <;> omega))) ?_)
      first | refine fcall_free rfl rfl (l01Same_ok _ _) ?_ | refine YR_intro (acall_free rfl rfl (l01Same_ok _ _)) ?_
      simp only [go_sem, seval]
      refine hK _ ?_; clear hK K
      (repeat refine ats_seq ?_); first | refine ats_ifn (p := _) rfl trivial (fun h2 => ?_) (fun h2 => ?_) | refine ats_ifp (p := _) rfl trivial (fun h2 => ?_) (fun h2 => ?_) | refine ats_cond rfl trivial (fun h2 => ?_) (fun h2 => ?_)
      · (repeat refine ats_seq ?_); refine ats_go (fix0 hcx) fun K hK => ?_; simp only [go_sem, seval]; refine hK _ ?_; clear hK K
        refine ats_ret (finB rfl ?_)
        simp only [Bool.false_eq, decide_eq_false_iff_not]
        exact ne_of_getD h2
      · refine ats_skip ?_
        have := h0.1
        (repeat refine ats_seq ?_); refine ats_go (fix0 hcx) fun K hK => ?_; simp only [go_sem, seval]; (repeat refine And.intro (by first | omega | (intro hq; first | omega | (simp at hq <;> omega) | (simp_all <;> omega))) ?_); refine hK _ ?_; clear hK K
        refine ⟨k + 1,  ⟨by omega, take_succ_eq (by omega) (by omega) hk.2 h2⟩, by omega, .inl ⟨?_, rfl⟩⟩; simp only [SlotsLe, St.get, slotGet, Nat.reduceEqDiff, ↓reduceIte, AV.int.injEq, AV.bool.injEq, AV.l1.injEq, AV.l2.injEq, AV.l3.injEq, true_and, and_true]
        omega
    · refine ats_exit (lq_x ?_)
      (repeat refine ats_seq ?_); refine ats_go (fix0 hcx) fun K hK => ?_; simp only [go_sem, seval]; refine hK _ ?_; clear hK K
      refine ats_ret (finB rfl ?_)
      have e : k = xs.length := by omega
      have h := hk.2
      rw [List.take_of_length_le (by omega), List.take_of_length_le (by omega)] at h
      simp only [h, decide_true]
theorem l03Is_ok (t : List (List (List Int))) : PureCall Try.prog 29 [.agg [.l3 t]] (.bool (isRing t)) := by
  have hk := l03Cube_ok t
  refine PureCall.intro (n := 13) (rs := [.tmp 2]) Try.call29 Try.func29 rfl rfl rfl (by simp only [List.length_cons, List.length_nil]; omega) (fun cx hcx => ats_of ?_); simp only [argSlots, Nat.zero_add, Nat.reduceAdd]
  (repeat refine ats_seq ?_); refine ats_go (fix0 hcx) fun K hK => ?_; simp only [go_sem, seval]; refine hK _ ?_; clear hK K
  by_cases hc : Cube t
  · rw [bd_true hc] at hk
    have hf := l03Fault_ok t hc
    cases e : faultF t with
    | some u =>
      rw [e] at hf
      simp only [optA] at hf
      have hne := faultF_ne e
      (repeat refine ats_seq ?_); refine ats_go (fix0 hcx) fun K hK => ?_; simp only [go_sem, seval]
      first | refine fcall_free rfl rfl (hk) ?_ | refine YR_intro (acall_free rfl rfl (hk)) ?_
      simp only [go_sem, seval]
      first | refine YR_intro (fun _ => acall_data (hf) rfl) ?_ | refine YR_intro (acall_data (hf) rfl) ?_
      simp only [go_sem, seval]
      (repeat refine And.intro (by first | omega | (intro hq; first | omega | (simp at hq <;> omega) | (simp_all <;> omega))) ?_)
      refine hK _ ?_; clear hK K
      refine ats_ret (finB rfl ?_)
      simp only [isRing]
      rw [bd_false (fun h => by rw [e] at h; cases h.2)]
      simp only [decide_eq_false_iff_not]
      omega
    | none =>
      rw [e] at hf
      simp only [optA] at hf
      (repeat refine ats_seq ?_); refine ats_go (fix0 hcx) fun K hK => ?_; simp only [go_sem, seval]
      first | refine fcall_free rfl rfl (hk) ?_ | refine YR_intro (acall_free rfl rfl (hk)) ?_
      simp only [go_sem, seval]
      first | refine YR_intro (fun _ => acall_data (hf) rfl) ?_ | refine YR_intro (acall_data (hf) rfl) ?_
      simp only [go_sem, seval]
      refine hK _ ?_; clear hK K
      refine ats_ret (finB rfl ?_)
      simp only [isRing]
      rw [bd_true ⟨hc, e⟩]
      try rfl
  · rw [bd_false hc] at hk
    (repeat refine ats_seq ?_); refine ats_go (fix0 hcx) fun K hK => ?_; simp only [go_sem, seval]
    first | refine fcall_free rfl rfl (hk) ?_ | refine YR_intro (acall_free rfl rfl (hk)) ?_
    simp only [go_sem, seval]
    refine YR_intro (v := .nil) (by first | trivial | (intro h; cases h)) ?_
    simp only [go_sem, seval]
    refine hK _ ?_; clear hK K
    refine ats_ret (finB rfl ?_)
    simp only [isRing]
    rw [bd_false (fun h => hc h.1)]

theorem l03Duals_ok (t : List (List (List Int))) (hc : Cube t) : PureCall Try.prog 48 [.agg [.l3 t]] (.l1 (ds t)) := by
  have h16 := hc.2.1
  have h1 := hc.1
  refine PureCall.intro (n := 21) (rs := [.tmp 2]) Try.call48 Try.func48 rfl rfl rfl (by simp only [List.length_cons, List.length_nil]; omega) (fun cx hcx => ats_of ?_); simp only [argSlots, Nat.zero_add, Nat.reduceAdd]
  (repeat refine ats_seq ?_); refine ats_go (fix0 hcx) fun K hK => ?_; simp only [go_sem, seval]; refine hK _ ?_; clear hK K
  (repeat refine ats_seq ?_); refine ats_go (fix0 hcx) fun K hK => ?_; simp only [go_sem, seval]; refine hK _ ?_; clear hK K
  (repeat refine ats_seq ?_); refine ats_go (fix0 hcx) fun K hK => ?_; simp only [go_sem, seval]; refine hK _ ?_; clear hK K
  (repeat refine ats_seq ?_); refine ats_loop (fun i : Nat => ⟨[(1, .bptr 0 0), (3, .ref 1 []), (4, .int i)], [(0, .bx [.l3 t]), (1, .t1 ((List.range i).map (dual t)))]⟩) (fun i => i ≤ t.length) (fun i => t.length - i) 0 (Nat.zero_le _) (by
    refine And.intro ?_ rfl
    simp only [SlotsLe, St.get, slotGet, Nat.reduceEqDiff, ↓reduceIte, true_and, and_true, AV.int.injEq]
    rfl) (fun i hi => ?_)
  (repeat refine ats_seq ?_); refine ats_go (fix0 hcx) fun K hK => ?_; simp only [go_sem, seval]; refine hK _ ?_; clear hK K
  (repeat refine ats_seq ?_); first | refine ats_ifn (p := _) rfl trivial (fun hli => ?_) (fun hli => ?_) | refine ats_ifp (p := _) rfl trivial (fun hli => ?_) (fun hli => ?_) | refine ats_cond rfl trivial (fun hli => ?_) (fun hli => ?_)
  · have hl : ((List.range i).map (dual t)).length = i := by simp
    refine ats_skip ?_
    (repeat refine ats_seq ?_); refine ats_block ?_
    (repeat refine ats_seq ?_); refine ats_go (fix0 hcx) fun K hK => ?_; simp only [go_sem, seval]
    first | refine fcall_free rfl rfl (l03Dual_ok t hc i (by omega)) ?_ | refine YR_intro (acall_free rfl rfl (l03Dual_ok t hc i (by omega))) ?_
    simp only [go_sem, seval]
    (repeat refine And.intro (by (first | omega | (rw [hl]; omega))) ?_)
    refine hK _ ?_; clear hK K
    (repeat refine ats_seq ?_); refine ats_go (fix0 hcx) fun K hK => ?_; simp only [go_sem, seval]; (repeat refine And.intro (by first | omega | (intro hq; first | omega | (simp at hq <;> omega) | (simp_all <;> omega))) ?_); refine hK _ ?_; clear hK K
    refine ⟨i + 1, by omega, by omega, .inr ⟨[2], by simp only [killL, List.map_cons, List.map_nil, killA, killAs, qOf, rmT, killH, killT, List.filter_cons, List.filter_nil, List.contains_cons, List.contains_nil, SlotsLe, St.get, slotGet, Nat.reduceEqDiff, Nat.reduceBEq, Bool.or_false, Bool.or_true, Bool.false_and, Bool.not_true, Bool.not_false, Bool.false_eq_true, ↓reduceIte, if_true, if_false, AV.int.injEq, AV.bool.injEq, AV.l1.injEq, AV.l2.injEq, AV.l3.injEq, true_and, and_true]; omega, by simp only [killL, List.map_cons, List.map_nil, killA, killAs, qOf, rmT, killH, killT, List.filter_cons, List.filter_nil, List.contains_cons, List.contains_nil, SlotsLe, St.get, slotGet, Nat.reduceEqDiff, Nat.reduceBEq, Bool.or_false, Bool.or_true, Bool.false_and, Bool.not_true, Bool.not_false, Bool.false_eq_true, ↓reduceIte, if_true, if_false, AV.int.injEq, AV.bool.injEq, AV.l1.injEq, AV.l2.injEq, AV.l3.injEq, true_and, and_true]; simp only [List.range_succ, List.map_append, List.map_cons, List.map_nil]⟩⟩
  · obtain rfl : i = t.length := by omega
    refine ats_exit (lq_x ?_)
    (repeat refine ats_seq ?_); refine ats_go (fix0 hcx) fun K hK => ?_; simp only [go_sem, seval]; refine hK _ ?_; clear hK K
    exact ats_ret (finV rfl ⟨rfl, trivial⟩ rfl)

theorem l02Unit_ok (n : Nat) (hn : n ≤ 16) : PureCall Try.prog 46 [.int n] (.l2 (unitM n)) := by
  refine PureCall.intro (n := 22) (rs := [.tmp 2]) Try.call46 Try.func46 rfl rfl rfl (by simp only [List.length_cons, List.length_nil]; omega) (fun cx hcx => ats_of ?_); simp only [argSlots, Nat.zero_add, Nat.reduceAdd]
  (repeat refine ats_seq ?_); refine ats_go (fix0 hcx) fun K hK => ?_; simp only [go_sem, seval]; refine hK _ ?_; clear hK K
  (repeat refine ats_seq ?_); refine ats_go (fix0 hcx) fun K hK => ?_; simp only [go_sem, seval]; refine hK _ ?_; clear hK K
  (repeat refine ats_seq ?_); refine ats_go (fix0 hcx) fun K hK => ?_; simp only [go_sem, seval]; refine hK _ ?_; clear hK K
  (repeat refine ats_seq ?_); refine ats_loop (fun i : Nat => ⟨[(0, .int n), (3, .ref 0 []), (4, .int i)], [(0, .t2 ((List.range i).map fun i => (List.replicate n 0).set i 1))]⟩) (fun i => i ≤ n) (fun i => n - i) 0 (Nat.zero_le _) (by
    refine And.intro ?_ rfl
    simp only [SlotsLe, St.get, slotGet, Nat.reduceEqDiff, ↓reduceIte, true_and, and_true, AV.int.injEq]
    rfl) (fun i hi => ?_)
  (repeat refine ats_seq ?_); refine ats_go (fix0 hcx) fun K hK => ?_; simp only [go_sem, seval]; refine hK _ ?_; clear hK K
  (repeat refine ats_seq ?_); first | refine ats_ifn (p := _) rfl trivial (fun hli => ?_) (fun hli => ?_) | refine ats_ifp (p := _) rfl trivial (fun hli => ?_) (fun hli => ?_) | refine ats_cond rfl trivial (fun hli => ?_) (fun hli => ?_)
  · have hl : ((List.range i).map fun i => (List.replicate n (0 : Int)).set i 1).length = i := by simp
    refine ats_skip ?_
    (repeat refine ats_seq ?_); refine ats_block ?_
    (repeat refine ats_seq ?_); refine ats_go (fix0 hcx) fun K hK => ?_; simp only [go_sem, seval]; (repeat refine And.intro (by first | omega | (intro hq; first | omega | (simp at hq <;> omega) | (simp_all <;> omega))) ?_); refine hK _ ?_; clear hK K
    have hr : (List.replicate n (0 : Int)).length = n := List.length_replicate
    (repeat refine ats_seq ?_); refine ats_go (fix0 hcx) fun K hK => ?_; simp only [go_sem, seval]
    simp only [List.length_replicate]
    (repeat refine And.intro (by first | omega | (intro hq; first | omega | (simp at hq <;> omega) | (simp_all <;> omega))) ?_)
    refine hK _ ?_; clear hK K
    (repeat refine ats_seq ?_); refine ats_go (fix0 hcx) fun K hK => ?_; simp only [go_sem, seval]
    (repeat refine And.intro (by (first | omega | (rw [hl]; omega))) ?_)
    refine hK _ ?_; clear hK K
    (repeat refine ats_seq ?_); refine ats_go (fix0 hcx) fun K hK => ?_; simp only [go_sem, seval]; (repeat refine And.intro (by first | omega | (intro hq; first | omega | (simp at hq <;> omega) | (simp_all <;> omega))) ?_); refine hK _ ?_; clear hK K
    refine ⟨i + 1,  by omega, by omega, .inl ⟨by simp only [SlotsLe, St.get, slotGet, Nat.reduceEqDiff, ↓reduceIte, AV.int.injEq, AV.bool.injEq, AV.l1.injEq, AV.l2.injEq, AV.l3.injEq, true_and, and_true]; omega,  by simp only [List.range_succ, List.map_append, List.map_cons, List.map_nil]⟩⟩
  · obtain rfl : i = n := by omega
    refine ats_exit (lq_x ?_)
    (repeat refine ats_seq ?_); refine ats_go (fix0 hcx) fun K hK => ?_; simp only [go_sem, seval]; refine hK _ ?_; clear hK K
    exact ats_ret (finV rfl ⟨rfl, trivial⟩ rfl)

theorem l02Turn_ok (a : List (List Int)) (h0 : 0 < a.length) (h1 : a.length ≤ 16) (hm : (a.getD 0 []).length ≤ 16) (hr : ∀ i, i < a.length → (a.getD i []).length = (a.getD 0 []).length) : PureCall Try.prog 49 [.l2 a] (.l2 (turnM a)) := by
  refine PureCall.intro (n := 38) (rs := [.tmp 2]) Try.call49 Try.func49 rfl rfl rfl (by simp only [List.length_cons, List.length_nil]; omega) (fun cx hcx => ats_of ?_); simp only [argSlots, Nat.zero_add, Nat.reduceAdd]
  (repeat refine ats_seq ?_); refine ats_go (fix0 hcx) fun K hK => ?_; simp only [go_sem, seval]; refine hK _ ?_; clear hK K
  (repeat refine ats_seq ?_); refine ats_go (fix0 hcx) fun K hK => ?_; simp only [go_sem, seval]; refine hK _ ?_; clear hK K
  (repeat refine ats_seq ?_); refine ats_go (fix0 hcx) fun K hK => ?_; simp only [go_sem, seval]; refine hK _ ?_; clear hK K
  (repeat refine ats_seq ?_); refine ats_loop (fun k : Nat => ⟨[(0, .l2 a), (3, .ref 0 []), (4, .int k)], [(0, .t2 ((List.range k).map fun k => (List.range a.length).map fun i => e2 a i k))]⟩) (fun k => k ≤ (a.getD 0 []).length) (fun k => (a.getD 0 []).length - k) 0 (Nat.zero_le _) (by
    refine And.intro ?_ rfl
    simp only [SlotsLe, St.get, slotGet, Nat.reduceEqDiff, ↓reduceIte, true_and, and_true, AV.int.injEq]
    rfl) (fun k hk => ?_)
  have hl : ((List.range k).map fun k => (List.range a.length).map fun i => e2 a i k).length = k := by simp
  (repeat refine ats_seq ?_); refine ats_go (fix0 hcx) fun K hK => ?_; simp only [go_sem, seval]; (repeat refine And.intro (by first | omega | (intro hq; first | omega | (simp at hq <;> omega) | (simp_all <;> omega))) ?_); refine hK _ ?_; clear hK K
  (repeat refine ats_seq ?_); first | refine ats_ifn (p := _) rfl trivial (fun hlk => ?_) (fun hlk => ?_) | refine ats_ifp (p := _) rfl trivial (fun hlk => ?_) (fun hlk => ?_) | refine ats_cond rfl trivial (fun hlk => ?_) (fun hlk => ?_)
  · refine ats_skip ?_
    (repeat refine ats_seq ?_); refine ats_block ?_
    (repeat refine ats_seq ?_); refine ats_go (fix0 hcx) fun K hK => ?_; simp only [go_sem, seval]; refine hK _ ?_; clear hK K
    (repeat refine ats_seq ?_); refine ats_go (fix0 hcx) fun K hK => ?_; simp only [go_sem, seval]; refine hK _ ?_; clear hK K
    (repeat refine ats_seq ?_); refine ats_loop (fun i : Nat => ⟨[(0, .l2 a), (3, .ref 0 []), (4, .int k), (5, .ref 1 []), (6, .int i)], [(0, .t2 ((List.range k).map fun k => (List.range a.length).map fun i => e2 a i k)), (1, .t1 ((List.range i).map fun i => e2 a i k))]⟩) (fun i => i ≤ a.length) (fun i => a.length - i) 0 (Nat.zero_le _) (by
      refine And.intro ?_ rfl
      simp only [SlotsLe, St.get, slotGet, Nat.reduceEqDiff, ↓reduceIte, true_and, and_true, AV.int.injEq]
      rfl) (fun i hi => ?_)
    have hl2 : ((List.range i).map fun i => e2 a i k).length = i := by simp
    (repeat refine ats_seq ?_); refine ats_go (fix0 hcx) fun K hK => ?_; simp only [go_sem, seval]; refine hK _ ?_; clear hK K
    (repeat refine ats_seq ?_); first | refine ats_ifn (p := _) rfl trivial (fun hli => ?_) (fun hli => ?_) | refine ats_ifp (p := _) rfl trivial (fun hli => ?_) (fun hli => ?_) | refine ats_cond rfl trivial (fun hli => ?_) (fun hli => ?_)
    · have hri := hr i (by omega)
      refine ats_skip ?_
      (repeat refine ats_seq ?_); refine ats_block ?_
      (repeat refine ats_seq ?_); refine ats_go (fix0 hcx) fun K hK => ?_; simp only [go_sem, seval]
      (repeat refine And.intro (by (first | omega | (rw [hl2]; omega))) ?_)
      refine hK _ ?_; clear hK K
      (repeat refine ats_seq ?_); refine ats_go (fix0 hcx) fun K hK => ?_; simp only [go_sem, seval]; (repeat refine And.intro (by first | omega | (intro hq; first | omega | (simp at hq <;> omega) | (simp_all <;> omega))) ?_); refine hK _ ?_; clear hK K
      refine ⟨i + 1, by omega, by omega, .inr ⟨[2], by simp only [killL, List.map_cons, List.map_nil, killA, killAs, qOf, rmT, killH, killT, List.filter_cons, List.filter_nil, List.contains_cons, List.contains_nil, SlotsLe, St.get, slotGet, Nat.reduceEqDiff, Nat.reduceBEq, Bool.or_false, Bool.or_true, Bool.false_and, Bool.not_true, Bool.not_false, Bool.false_eq_true, ↓reduceIte, if_true, if_false, AV.int.injEq, AV.bool.injEq, AV.l1.injEq, AV.l2.injEq, AV.l3.injEq, true_and, and_true]; omega, by simp only [killL, List.map_cons, List.map_nil, killA, killAs, qOf, rmT, killH, killT, List.filter_cons, List.filter_nil, List.contains_cons, List.contains_nil, SlotsLe, St.get, slotGet, Nat.reduceEqDiff, Nat.reduceBEq, Bool.or_false, Bool.or_true, Bool.false_and, Bool.not_true, Bool.not_false, Bool.false_eq_true, ↓reduceIte, if_true, if_false, AV.int.injEq, AV.bool.injEq, AV.l1.injEq, AV.l2.injEq, AV.l3.injEq, true_and, and_true]; simp only [List.range_succ, List.map_append, List.map_cons, List.map_nil]⟩⟩
    · obtain rfl : i = a.length := by omega
      refine ats_exit (lq_x ?_)
      (repeat refine ats_seq ?_); refine ats_go (fix0 hcx) fun K hK => ?_; simp only [go_sem, seval]
      (repeat refine And.intro (by (first | omega | (rw [hl]; omega))) ?_)
      refine hK _ ?_; clear hK K
      (repeat refine ats_seq ?_); refine ats_go (fix0 hcx) fun K hK => ?_; simp only [go_sem, seval]; (repeat refine And.intro (by first | omega | (intro hq; first | omega | (simp at hq <;> omega) | (simp_all <;> omega))) ?_); refine hK _ ?_; clear hK K
      refine ⟨k + 1,  by omega, by omega, .inl ⟨by simp only [SlotsLe, St.get, slotGet, Nat.reduceEqDiff, ↓reduceIte, AV.int.injEq, AV.bool.injEq, AV.l1.injEq, AV.l2.injEq, AV.l3.injEq, true_and, and_true]; omega,  by simp only [List.range_succ (n := k), List.map_append, List.map_cons, List.map_nil]⟩⟩
  · obtain rfl : k = (a.getD 0 []).length := by omega
    refine ats_exit (lq_x ?_)
    (repeat refine ats_seq ?_); refine ats_go (fix0 hcx) fun K hK => ?_; simp only [go_sem, seval]; refine hK _ ?_; clear hK K
    exact ats_ret (finV rfl ⟨rfl, trivial⟩ rfl)
end Go.Proofs.Ytbddekioaigbhaa

namespace Go.Proofs.Ytbddekioaigbhaa
open Go Go.Aw Go.Pl

theorem l09Family_ok (t a : List (List (List Int))) : PureCall Try.prog 30 [.agg [.l3 t], .agg [.l3 a]] (.bool (bd (Fam t a))) := by
  refine PureCall.intro (n := 82) (rs := [.tmp 4]) Try.call30 Try.func30 rfl rfl rfl (by simp only [List.length_cons, List.length_nil]; omega) (fun cx hcx => ats_of ?_); simp only [argSlots, Nat.zero_add, Nat.reduceAdd]
  (repeat refine ats_seq ?_); refine ats_go (fix0 hcx) fun K hK => ?_; simp only [go_sem, seval]; refine hK _ ?_; clear hK K
  refine ats_know 1 fun ha => ?_; simp only [St.get, slotGet, Nat.reduceEqDiff, ↓reduceIte, if_true, fact, facts] at ha
  have hal := ha.1.1
  (repeat refine ats_seq ?_); refine ats_go (fix0 hcx) fun K hK => ?_; simp only [go_sem, seval]; refine hK _ ?_; clear hK K
  (repeat refine ats_seq ?_); first | refine ats_ifn (p := _) rfl trivial (fun hc => ?_) (fun hc => ?_) | refine ats_ifp (p := _) rfl trivial (fun hc => ?_) (fun hc => ?_) | refine ats_cond rfl trivial (fun hc => ?_) (fun hc => ?_)
  · simp only [Bool.or_eq_true, Bool.not_eq_true', decide_eq_true_eq, decide_eq_false_iff_not] at hc
    (repeat refine ats_seq ?_); refine ats_go (fix0 hcx) fun K hK => ?_; simp only [go_sem, seval]; refine hK _ ?_; clear hK K
    refine ats_ret (finB rfl ?_)
    exact (bd_false (fun h => by have := h.1; have := h.2.1; omega)).symm
  · simp only [Bool.or_eq_false_iff, Bool.not_eq_false', decide_eq_true_eq, decide_eq_false_iff_not] at hc
    refine ats_skip ?_
    (repeat refine ats_seq ?_); refine ats_go (fix0 hcx) fun K hK => ?_; simp only [go_sem, seval]; (repeat refine And.intro (by first | omega | (intro hq; first | omega | (simp at hq <;> omega) | (simp_all <;> omega))) ?_); refine hK _ ?_; clear hK K
    (repeat refine ats_seq ?_); refine ats_go (fix0 hcx) fun K hK => ?_; simp only [go_sem, seval]; refine hK _ ?_; clear hK K
    (repeat refine ats_seq ?_); first | refine ats_ifn (p := _) rfl trivial (fun hm => ?_) (fun hm => ?_) | refine ats_ifp (p := _) rfl trivial (fun hm => ?_) (fun hm => ?_) | refine ats_cond rfl trivial (fun hm => ?_) (fun hm => ?_)
    · simp only [Bool.or_eq_true, Bool.or_eq_false_iff, Bool.and_eq_true, Bool.and_eq_false_iff, decide_eq_true_eq, decide_eq_false_iff_not, Bool.not_eq_true', Bool.not_eq_false'] at hm
      (repeat refine ats_seq ?_); refine ats_go (fix0 hcx) fun K hK => ?_; simp only [go_sem, seval]; refine hK _ ?_; clear hK K
      refine ats_ret (finB rfl ?_)
      exact (bd_false (fun h => by have := h.2.2.1; have := h.2.2.2.1; omega)).symm
    · simp only [Bool.or_eq_true, Bool.or_eq_false_iff, Bool.and_eq_true, Bool.and_eq_false_iff, decide_eq_true_eq, decide_eq_false_iff_not, Bool.not_eq_true', Bool.not_eq_false'] at hm
      refine ats_skip ?_
      (repeat refine ats_seq ?_); refine ats_go (fix0 hcx) fun K hK => ?_; simp only [go_sem, seval]; refine hK _ ?_; clear hK K
      (repeat refine ats_seq ?_); refine ats_loop (fun i : Nat => ⟨[(3, .bptr 1 0), (5, .int (a.getD 0 []).length), (6, .int i)], [(0, .bx [.l3 t]), (1, .bx [.l3 a])]⟩) (fun i => i ≤ a.length ∧ ∀ b, b < i → MatOk (a.getD 0 []).length (a.getD b [])) (fun i => a.length - i) 0 ⟨Nat.zero_le _, fun a h => absurd h (Nat.not_lt_zero a)⟩ (by refine And.intro ?_ rfl; simp only [SlotsLe, St.get, slotGet, Nat.reduceEqDiff, ↓reduceIte, AV.int.injEq, AV.bool.injEq, AV.l1.injEq, AV.l2.injEq, AV.l3.injEq, true_and, and_true]; rfl) (fun i hi => ?_); obtain ⟨hi, Hi⟩ := hi
      (repeat refine ats_seq ?_); refine ats_go (fix0 hcx) fun K hK => ?_; simp only [go_sem, seval]; refine hK _ ?_; clear hK K
      (repeat refine ats_seq ?_); first | refine ats_ifn (p := _) rfl trivial (fun h1 => ?_) (fun h1 => ?_) | refine ats_ifp (p := _) rfl trivial (fun h1 => ?_) (fun h1 => ?_) | refine ats_cond rfl trivial (fun h1 => ?_) (fun h1 => ?_)
      · refine ats_skip ?_
        (repeat refine ats_seq ?_); refine ats_block ?_
        (repeat refine ats_seq ?_); refine ats_go (fix0 hcx) fun K hK => ?_; simp only [go_sem, seval]; (repeat refine And.intro (by first | omega | (intro hq; first | omega | (simp at hq <;> omega) | (simp_all <;> omega))) ?_); refine hK _ ?_; clear hK K
        (repeat refine ats_seq ?_); first | refine ats_ifn (p := _) rfl trivial (fun h2 => ?_) (fun h2 => ?_) | refine ats_ifp (p := _) rfl trivial (fun h2 => ?_) (fun h2 => ?_) | refine ats_cond rfl trivial (fun h2 => ?_) (fun h2 => ?_)
        · (repeat refine ats_seq ?_); refine ats_go (fix0 hcx) fun K hK => ?_; simp only [go_sem, seval]; refine hK _ ?_; clear hK K
          refine ats_ret (finB rfl ?_)
          exact (bd_false (fun h => h2 (by rw [h.mat (by omega)]))).symm
        · refine ats_skip ?_
          (repeat refine ats_seq ?_); refine ats_go (fix0 hcx) fun K hK => ?_; simp only [go_sem, seval]; refine hK _ ?_; clear hK K
          (repeat refine ats_seq ?_); refine ats_loop (fun j : Nat => ⟨[(3, .bptr 1 0), (5, .int (a.getD 0 []).length), (6, .int i), (7, .int j)], [(0, .bx [.l3 t]), (1, .bx [.l3 a])]⟩) (fun j => j ≤ (a.getD 0 []).length ∧ ∀ b, b < j → RowOk (a.getD 0 []).length ((a.getD i []).getD b [])) (fun j => (a.getD 0 []).length - j) 0 ⟨Nat.zero_le _, fun a h => absurd h (Nat.not_lt_zero a)⟩ (by refine And.intro ?_ rfl; simp only [SlotsLe, St.get, slotGet, Nat.reduceEqDiff, ↓reduceIte, AV.int.injEq, AV.bool.injEq, AV.l1.injEq, AV.l2.injEq, AV.l3.injEq, true_and, and_true]; rfl) (fun j hj => ?_); obtain ⟨hj, Hj⟩ := hj
          (repeat refine ats_seq ?_); refine ats_go (fix0 hcx) fun K hK => ?_; simp only [go_sem, seval]; refine hK _ ?_; clear hK K
          (repeat refine ats_seq ?_); first | refine ats_ifn (p := _) rfl trivial (fun h3 => ?_) (fun h3 => ?_) | refine ats_ifp (p := _) rfl trivial (fun h3 => ?_) (fun h3 => ?_) | refine ats_cond rfl trivial (fun h3 => ?_) (fun h3 => ?_)
          · refine ats_skip ?_
            (repeat refine ats_seq ?_); refine ats_block ?_
            (repeat refine ats_seq ?_); refine ats_go (fix0 hcx) fun K hK => ?_; simp only [go_sem, seval]; (repeat refine And.intro (by first | omega | (intro hq; first | omega | (simp at hq <;> omega) | (simp_all <;> omega))) ?_); refine hK _ ?_; clear hK K
            (repeat refine ats_seq ?_); first | refine ats_ifn (p := _) rfl trivial (fun h4 => ?_) (fun h4 => ?_) | refine ats_ifp (p := _) rfl trivial (fun h4 => ?_) (fun h4 => ?_) | refine ats_cond rfl trivial (fun h4 => ?_) (fun h4 => ?_)
            · (repeat refine ats_seq ?_); refine ats_go (fix0 hcx) fun K hK => ?_; simp only [go_sem, seval]; refine hK _ ?_; clear hK K
              refine ats_ret (finB rfl ?_)
              exact (bd_false (fun h => h4 (by rw [h.row (by omega) (by omega)]))).symm
            · refine ats_skip ?_
              (repeat refine ats_seq ?_); refine ats_go (fix0 hcx) fun K hK => ?_; simp only [go_sem, seval]; refine hK _ ?_; clear hK K
              (repeat refine ats_seq ?_); refine ats_loop (fun k : Nat => ⟨[(3, .bptr 1 0), (5, .int (a.getD 0 []).length), (6, .int i), (7, .int j), (8, .int k)], [(0, .bx [.l3 t]), (1, .bx [.l3 a])]⟩) (fun k => k ≤ (a.getD 0 []).length ∧ ∀ b, b < k → InM (e3 a i j b)) (fun k => (a.getD 0 []).length - k) 0 ⟨Nat.zero_le _, fun a h => absurd h (Nat.not_lt_zero a)⟩ (by refine And.intro ?_ rfl; simp only [SlotsLe, St.get, slotGet, Nat.reduceEqDiff, ↓reduceIte, AV.int.injEq, AV.bool.injEq, AV.l1.injEq, AV.l2.injEq, AV.l3.injEq, true_and, and_true]; rfl) (fun k hk => ?_); obtain ⟨hk, Hk⟩ := hk
              (repeat refine ats_seq ?_); refine ats_go (fix0 hcx) fun K hK => ?_; simp only [go_sem, seval]; refine hK _ ?_; clear hK K
              (repeat refine ats_seq ?_); first | refine ats_ifn (p := _) rfl trivial (fun h5 => ?_) (fun h5 => ?_) | refine ats_ifp (p := _) rfl trivial (fun h5 => ?_) (fun h5 => ?_) | refine ats_cond rfl trivial (fun h5 => ?_) (fun h5 => ?_)
              · refine ats_skip ?_
                (repeat refine ats_seq ?_); refine ats_block ?_
                (repeat refine ats_seq ?_); refine ats_go (fix0 hcx) fun K hK => ?_; simp only [go_sem, seval]
                (repeat refine And.intro (by first | omega | (intro hq; first | omega | (simp at hq <;> omega) | (simp_all <;> omega))) ?_)
                first | refine fcall_free rfl rfl (l01In_ok _ _ _) ?_ | refine YR_intro (acall_free rfl rfl (l01In_ok _ _ _)) ?_
                simp only [go_sem, seval]
                refine hK _ ?_; clear hK K
                (repeat refine ats_seq ?_); first | refine ats_ifn (p := _) rfl trivial (fun h6 => ?_) (fun h6 => ?_) | refine ats_ifp (p := _) rfl trivial (fun h6 => ?_) (fun h6 => ?_) | refine ats_cond rfl trivial (fun h6 => ?_) (fun h6 => ?_)
                · (repeat refine ats_seq ?_); refine ats_go (fix0 hcx) fun K hK => ?_; simp only [go_sem, seval]; refine hK _ ?_; clear hK K
                  refine ats_ret (finB rfl ?_)
                  refine (bd_false (fun h => ?_)).symm
                  have hm := h.inM (i := i) (j := j) (k := k) (by omega) (by omega) (by omega)
                  simp only [Bool.not_eq_true', Bool.and_eq_false_iff, decide_eq_false_iff_not] at h6
                  exact h6.elim (fun h => h hm.1) (fun h => h hm.2)
                · simp only [Bool.not_eq_false', Bool.and_eq_true, decide_eq_true_eq] at h6
                  refine ats_skip ?_
                  (repeat refine ats_seq ?_); refine ats_go (fix0 hcx) fun K hK => ?_; simp only [go_sem, seval]; (repeat refine And.intro (by first | omega | (intro hq; first | omega | (simp at hq <;> omega) | (simp_all <;> omega))) ?_); refine hK _ ?_; clear hK K
                  refine ⟨k + 1, ⟨by omega, fun a ha => by rcases Nat.lt_succ_iff_lt_or_eq.1 ha with h | rfl; exact Hk a h; exact h6⟩, by omega, .inl ⟨?_, rfl⟩⟩; simp only [SlotsLe, St.get, slotGet, Nat.reduceEqDiff, ↓reduceIte, AV.int.injEq, AV.bool.injEq, AV.l1.injEq, AV.l2.injEq, AV.l3.injEq, true_and, and_true]; omega
              · refine ats_exit (lq_x (ats_nil (bq_n ?_)))
                (repeat refine ats_seq ?_); refine ats_go (fix0 hcx) fun K hK => ?_; simp only [go_sem, seval]; (repeat refine And.intro (by first | omega | (intro hq; first | omega | (simp at hq <;> omega) | (simp_all <;> omega))) ?_); refine hK _ ?_; clear hK K
                refine ⟨j + 1, ⟨by omega, fun a ha => by rcases Nat.lt_succ_iff_lt_or_eq.1 ha with h | rfl; exact Hj a h; exact ⟨by omega, fun k' hk2 => Hk k' (by omega)⟩⟩, by omega, .inl ⟨?_, rfl⟩⟩; simp only [SlotsLe, St.get, slotGet, Nat.reduceEqDiff, ↓reduceIte, AV.int.injEq, AV.bool.injEq, AV.l1.injEq, AV.l2.injEq, AV.l3.injEq, true_and, and_true]; omega
          · refine ats_exit (lq_x (ats_nil (bq_n ?_)))
            (repeat refine ats_seq ?_); refine ats_go (fix0 hcx) fun K hK => ?_; simp only [go_sem, seval]; (repeat refine And.intro (by first | omega | (intro hq; first | omega | (simp at hq <;> omega) | (simp_all <;> omega))) ?_); refine hK _ ?_; clear hK K
            refine ⟨i + 1, ⟨by omega, fun a ha => by rcases Nat.lt_succ_iff_lt_or_eq.1 ha with h | rfl; exact Hi a h; exact ⟨by omega, fun k' hk2 => Hj k' (by omega)⟩⟩, by omega, .inl ⟨?_, rfl⟩⟩; simp only [SlotsLe, St.get, slotGet, Nat.reduceEqDiff, ↓reduceIte, AV.int.injEq, AV.bool.injEq, AV.l1.injEq, AV.l2.injEq, AV.l3.injEq, true_and, and_true]; omega
      · refine ats_exit (lq_x ?_)
        (repeat refine ats_seq ?_); refine ats_go (fix0 hcx) fun K hK => ?_; simp only [go_sem, seval]; refine hK _ ?_; clear hK K
        refine ats_ret (finB rfl ?_)
        exact (bd_true ⟨by omega, by omega, by omega, by omega, fun i' hi' => Hi i' (by omega)⟩).symm

theorem l09Product_ok (t a : List (List (List Int))) (hc : Cube t) (hf : Fam t a) (i j : Nat) (hi : i < t.length) (hj : j < t.length) : PureCall Try.prog 47 [.agg [.l3 t], .agg [.l3 a], .int i, .int j] (.bool (bd (ProdOk t a i j))) := by
  have h16 := hc.2.1
  have h1 := hc.1
  have hm16 := hf.2.2.2.1
  have hat := hf.1
  refine PureCall.intro (n := 96) (rs := [.tmp 8]) Try.call47 Try.func47 rfl rfl rfl (by simp only [List.length_cons, List.length_nil]; omega) (fun cx hcx => ats_of ?_); simp only [argSlots, Nat.zero_add, Nat.reduceAdd]
  (repeat refine ats_seq ?_); refine ats_go (fix0 hcx) fun K hK => ?_; simp only [go_sem, seval]; refine hK _ ?_; clear hK K
  (repeat refine ats_seq ?_); refine ats_go (fix0 hcx) fun K hK => ?_; simp only [go_sem, seval]; (repeat refine And.intro (by first | omega | (intro hq; first | omega | (simp at hq <;> omega) | (simp_all <;> omega))) ?_); refine hK _ ?_; clear hK K
  (repeat refine ats_seq ?_); refine ats_go (fix0 hcx) fun K hK => ?_; simp only [go_sem, seval]; refine hK _ ?_; clear hK K
  (repeat refine ats_seq ?_); refine ats_loop (fun x : Nat => ⟨[(4, .bptr 0 0), (5, .bptr 1 0), (2, .int i), (3, .int j), (9, .int (a.getD 0 []).length), (10, .int x)], [(0, .bx [.l3 t]), (1, .bx [.l3 a])]⟩) (fun x => x ≤ (a.getD 0 []).length ∧ ∀ b, b < x → ∀ y, y < (a.getD 0 []).length → sumTo (prL a i j b y) (a.getD 0 []).length = sumTo (prR t a i j b y) t.length) (fun x => (a.getD 0 []).length - x) 0 ⟨Nat.zero_le _, fun a h => absurd h (Nat.not_lt_zero a)⟩ (by refine And.intro ?_ rfl; simp only [SlotsLe, St.get, slotGet, Nat.reduceEqDiff, ↓reduceIte, AV.int.injEq, AV.bool.injEq, AV.l1.injEq, AV.l2.injEq, AV.l3.injEq, true_and, and_true]; rfl) (fun x hx => ?_); obtain ⟨hx, Hx⟩ := hx
  (repeat refine ats_seq ?_); refine ats_go (fix0 hcx) fun K hK => ?_; simp only [go_sem, seval]; refine hK _ ?_; clear hK K
  (repeat refine ats_seq ?_); first | refine ats_ifn (p := _) rfl trivial (fun hlx => ?_) (fun hlx => ?_) | refine ats_ifp (p := _) rfl trivial (fun hlx => ?_) (fun hlx => ?_) | refine ats_cond rfl trivial (fun hlx => ?_) (fun hlx => ?_)
  · have mi := hf.mat (show i < a.length by omega)
    have rix := hf.row (show i < a.length by omega) (show x < (a.getD 0 []).length by omega)
    refine ats_skip ?_
    (repeat refine ats_seq ?_); refine ats_block ?_
    (repeat refine ats_seq ?_); refine ats_go (fix0 hcx) fun K hK => ?_; simp only [go_sem, seval]; refine hK _ ?_; clear hK K
    (repeat refine ats_seq ?_); refine ats_loop (fun y : Nat => ⟨[(4, .bptr 0 0), (5, .bptr 1 0), (2, .int i), (3, .int j), (9, .int (a.getD 0 []).length), (10, .int x), (11, .int y)], [(0, .bx [.l3 t]), (1, .bx [.l3 a])]⟩) (fun y => y ≤ (a.getD 0 []).length ∧ ∀ b, b < y → sumTo (prL a i j x b) (a.getD 0 []).length = sumTo (prR t a i j x b) t.length) (fun y => (a.getD 0 []).length - y) 0 ⟨Nat.zero_le _, fun a h => absurd h (Nat.not_lt_zero a)⟩ (by refine And.intro ?_ rfl; simp only [SlotsLe, St.get, slotGet, Nat.reduceEqDiff, ↓reduceIte, AV.int.injEq, AV.bool.injEq, AV.l1.injEq, AV.l2.injEq, AV.l3.injEq, true_and, and_true]; rfl) (fun y hy => ?_); obtain ⟨hy, Hy⟩ := hy
    (repeat refine ats_seq ?_); refine ats_go (fix0 hcx) fun K hK => ?_; simp only [go_sem, seval]; refine hK _ ?_; clear hK K
    (repeat refine ats_seq ?_); first | refine ats_ifn (p := _) rfl trivial (fun hly => ?_) (fun hly => ?_) | refine ats_ifp (p := _) rfl trivial (fun hly => ?_) (fun hly => ?_) | refine ats_cond rfl trivial (fun hly => ?_) (fun hly => ?_)
    · have bL := prL_bd hf (i := i) (j := j) (x := x) (y := y) (by omega) (by omega) (by omega) (by omega)
      have bR := prR_bd hc hf (i := i) (j := j) (x := x) (y := y) (by omega) (by omega) (by omega) (by omega)
      refine ats_skip ?_
      (repeat refine ats_seq ?_); refine ats_block ?_
      (repeat refine ats_seq ?_); refine ats_go (fix0 hcx) fun K hK => ?_; simp only [go_sem, seval]; refine hK _ ?_; clear hK K
      (repeat refine ats_seq ?_); refine ats_go (fix0 hcx) fun K hK => ?_; simp only [go_sem, seval]; refine hK _ ?_; clear hK K
      (repeat refine ats_seq ?_); refine ats_loop (fun z : Nat => ⟨[(4, .bptr 0 0), (5, .bptr 1 0), (2, .int i), (3, .int j), (9, .int (a.getD 0 []).length), (10, .int x), (11, .int y), (12, .int (sumTo (prL a i j x y) z)), (13, .int 0), (14, .int z)], [(0, .bx [.l3 t]), (1, .bx [.l3 a])]⟩) (fun z => z ≤ (a.getD 0 []).length) (fun z => (a.getD 0 []).length - z) 0 (Nat.zero_le _) (by
        refine And.intro ?_ rfl; simp only [SlotsLe, St.get, slotGet, Nat.reduceEqDiff, ↓reduceIte, AV.int.injEq, AV.bool.injEq, AV.l1.injEq, AV.l2.injEq, AV.l3.injEq, true_and, and_true]
        exact ⟨rfl, rfl⟩) (fun z hz => ?_)
      (repeat refine ats_seq ?_); refine ats_go (fix0 hcx) fun K hK => ?_; simp only [go_sem, seval]; refine hK _ ?_; clear hK K
      (repeat refine ats_seq ?_); first | refine ats_ifn (p := _) rfl trivial (fun hlz => ?_) (fun hlz => ?_) | refine ats_ifp (p := _) rfl trivial (fun hlz => ?_) (fun hlz => ?_) | refine ats_cond rfl trivial (fun hlz => ?_) (fun hlz => ?_)
      · have mj := hf.mat (show j < a.length by omega)
        have rjz := hf.row (show j < a.length by omega) (show z < (a.getD 0 []).length by omega)
        have sL := sumTo_le (n := z) (fun x hx => bL x (by omega))
        have cL := bL z (by omega)
        simp only [prL, e3] at cL
        refine ats_skip ?_
        (repeat refine ats_seq ?_); refine ats_block ?_
        (repeat refine ats_seq ?_); refine ats_pick (fix0 hcx) mixed (by kernel_rfl) fun K hK => ?_; simp only [go_sem, seval]; (repeat refine And.intro (by first | omega | (intro hq; first | omega | (simp at hq <;> omega) | (simp_all <;> omega))) ?_); refine hK _ ?_; clear hK K
        (repeat refine ats_seq ?_); refine ats_go (fix0 hcx) fun K hK => ?_; simp only [go_sem, seval]; (repeat refine And.intro (by first | omega | (intro hq; first | omega | (simp at hq <;> omega) | (simp_all <;> omega))) ?_); refine hK _ ?_; clear hK K
        refine ⟨z + 1,  by omega, by omega, .inl ⟨?_, rfl⟩⟩; simp only [SlotsLe, St.get, slotGet, Nat.reduceEqDiff, ↓reduceIte, AV.int.injEq, AV.bool.injEq, AV.l1.injEq, AV.l2.injEq, AV.l3.injEq, true_and, and_true]
        exact ⟨rfl, by omega⟩
      · obtain rfl : z = (a.getD 0 []).length := by omega
        refine ats_exit (lq_x ?_)
        (repeat refine ats_seq ?_); refine ats_go (fix0 hcx) fun K hK => ?_; simp only [go_sem, seval]; refine hK _ ?_; clear hK K
        (repeat refine ats_seq ?_); refine ats_loop (fun k : Nat => ⟨[(4, .bptr 0 0), (5, .bptr 1 0), (2, .int i), (3, .int j), (9, .int (a.getD 0 []).length), (10, .int x), (11, .int y), (12, .int (sumTo (prL a i j x y) (a.getD 0 []).length)), (13, .int (sumTo (prR t a i j x y) k)), (15, .int k)], [(0, .bx [.l3 t]), (1, .bx [.l3 a])]⟩) (fun k => k ≤ t.length) (fun k => t.length - k) 0 (Nat.zero_le _) (by
          refine And.intro ?_ rfl; simp only [SlotsLe, St.get, slotGet, Nat.reduceEqDiff, ↓reduceIte, AV.int.injEq, AV.bool.injEq, AV.l1.injEq, AV.l2.injEq, AV.l3.injEq, true_and, and_true]
          exact ⟨rfl, rfl⟩) (fun k hk => ?_)
        (repeat refine ats_seq ?_); refine ats_go (fix0 hcx) fun K hK => ?_; simp only [go_sem, seval]; refine hK _ ?_; clear hK K
        (repeat refine ats_seq ?_); first | refine ats_ifn (p := _) rfl trivial (fun hlk => ?_) (fun hlk => ?_) | refine ats_ifp (p := _) rfl trivial (fun hlk => ?_) (fun hlk => ?_) | refine ats_cond rfl trivial (fun hlk => ?_) (fun hlk => ?_)
        · have mk := hf.mat (show k < a.length by omega)
          have rkx := hf.row (show k < a.length by omega) (show x < (a.getD 0 []).length by omega)
          have rij := hc.row hi hj
          have mti := hc.mat hi
          have sR := sumTo_le (n := k) (fun x hx => bR x (by omega))
          have cR := bR k (by omega)
          simp only [prR, e3] at cR
          refine ats_skip ?_
          (repeat refine ats_seq ?_); refine ats_block ?_
          (repeat refine ats_seq ?_); refine ats_pick (fix0 hcx) mixed (by kernel_rfl) fun K hK => ?_; simp only [go_sem, seval]; (repeat refine And.intro (by first | omega | (intro hq; first | omega | (simp at hq <;> omega) | (simp_all <;> omega))) ?_); refine hK _ ?_; clear hK K
          (repeat refine ats_seq ?_); refine ats_go (fix0 hcx) fun K hK => ?_; simp only [go_sem, seval]; (repeat refine And.intro (by first | omega | (intro hq; first | omega | (simp at hq <;> omega) | (simp_all <;> omega))) ?_); refine hK _ ?_; clear hK K
          refine ⟨k + 1,  by omega, by omega, .inl ⟨?_, rfl⟩⟩; simp only [SlotsLe, St.get, slotGet, Nat.reduceEqDiff, ↓reduceIte, AV.int.injEq, AV.bool.injEq, AV.l1.injEq, AV.l2.injEq, AV.l3.injEq, true_and, and_true]
          exact ⟨rfl, by omega⟩
        · obtain rfl : k = t.length := by omega
          refine ats_exit (lq_x ?_)
          (repeat refine ats_seq ?_); refine ats_go (fix0 hcx) fun K hK => ?_; simp only [go_sem, seval]; refine hK _ ?_; clear hK K
          (repeat refine ats_seq ?_); first | refine ats_ifn (p := _) rfl trivial (fun hne => ?_) (fun hne => ?_) | refine ats_ifp (p := _) rfl trivial (fun hne => ?_) (fun hne => ?_) | refine ats_cond rfl trivial (fun hne => ?_) (fun hne => ?_)
          · (repeat refine ats_seq ?_); refine ats_go (fix0 hcx) fun K hK => ?_; simp only [go_sem, seval]; refine hK _ ?_; clear hK K
            refine ats_ret (finB rfl ?_)
            exact (bd_false (fun h => hne (h x (by omega) y (by omega)))).symm
          · refine ats_skip ?_
            (repeat refine ats_seq ?_); refine ats_go (fix0 hcx) fun K hK => ?_; simp only [go_sem, seval]; (repeat refine And.intro (by first | omega | (intro hq; first | omega | (simp at hq <;> omega) | (simp_all <;> omega))) ?_); refine hK _ ?_; clear hK K
            refine ⟨y + 1, ⟨by omega, fun a ha => by rcases Nat.lt_succ_iff_lt_or_eq.1 ha with h | rfl; exact Hy a h; exact hne⟩, by omega, .inl ⟨?_, rfl⟩⟩; simp only [SlotsLe, St.get, slotGet, Nat.reduceEqDiff, ↓reduceIte, AV.int.injEq, AV.bool.injEq, AV.l1.injEq, AV.l2.injEq, AV.l3.injEq, true_and, and_true]; omega
    · refine ats_exit (lq_x (ats_nil (bq_n ?_)))
      (repeat refine ats_seq ?_); refine ats_go (fix0 hcx) fun K hK => ?_; simp only [go_sem, seval]; (repeat refine And.intro (by first | omega | (intro hq; first | omega | (simp at hq <;> omega) | (simp_all <;> omega))) ?_); refine hK _ ?_; clear hK K
      refine ⟨x + 1, ⟨by omega, fun a ha => by rcases Nat.lt_succ_iff_lt_or_eq.1 ha with h | rfl; exact Hx a h; exact (fun y' hy' => Hy y' (by omega))⟩, by omega, .inl ⟨?_, rfl⟩⟩; simp only [SlotsLe, St.get, slotGet, Nat.reduceEqDiff, ↓reduceIte, AV.int.injEq, AV.bool.injEq, AV.l1.injEq, AV.l2.injEq, AV.l3.injEq, true_and, and_true]; omega
  · refine ats_exit (lq_x ?_)
    (repeat refine ats_seq ?_); refine ats_go (fix0 hcx) fun K hK => ?_; simp only [go_sem, seval]; refine hK _ ?_; clear hK K
    refine ats_ret (finB rfl ?_)
    exact (bd_true (fun x' hx' => Hx x' (by omega))).symm
end Go.Proofs.Ytbddekioaigbhaa

namespace Go.Proofs.Ytbddekioaigbhaa
open Go Go.Aw Go.Pl

theorem l09Fault_ok (t a : List (List (List Int))) (hc : Cube t) (hn : faultF t = none) (hf : Fam t a) : PureCall Try.prog 31 [.agg [.l3 t], .agg [.l3 a]] (optA (actF t a)) := by
  have h16 := hc.2.1
  have h1 := hc.1
  have hm16 := hf.2.2.2.1
  have hat := hf.1
  have hd := faultF_dual hn
  have hdl := ds_length t
  refine PureCall.intro (n := 70) (rs := [.tmp 4]) Try.call31 Try.func31 rfl rfl rfl (by simp only [List.length_cons, List.length_nil]; omega) (fun cx hcx => ats_of ?_); simp only [argSlots, Nat.zero_add, Nat.reduceAdd]
  (repeat refine ats_seq ?_); refine ats_go (fix0 hcx) fun K hK => ?_; simp only [go_sem, seval]; refine hK _ ?_; clear hK K
  (repeat refine ats_seq ?_); refine ats_go (fix0 hcx) fun K hK => ?_; simp only [go_sem, seval]; refine hK _ ?_; clear hK K
  (repeat refine ats_seq ?_); refine ats_pick (fix0 hcx) mixed (by kernel_rfl) fun K hK => ?_; simp only [go_sem, seval]
  (repeat refine And.intro (by first | omega | (intro hq; first | omega | (simp at hq <;> omega) | (simp_all <;> omega))) ?_)
  first | refine fcall_data (l02Unit_ok (a.getD 0 []).length hm16) rfl ?_ | refine YR_intro (acall_data (l02Unit_ok (a.getD 0 []).length hm16) rfl) ?_
  simp only [go_sem, seval]
  first | refine fcall_data (l01Same2_ok _ _) rfl ?_ | refine YR_intro (acall_data (l01Same2_ok _ _) rfl) ?_
  simp only [go_sem, seval]
  refine hK _ ?_; clear hK K
  (repeat refine ats_seq ?_); first | refine ats_ifn (p := _) rfl trivial (fun hA => ?_) (fun hA => ?_) | refine ats_ifp (p := _) rfl trivial (fun hA => ?_) (fun hA => ?_) | refine ats_cond rfl trivial (fun hA => ?_) (fun hA => ?_)
  · (repeat refine ats_seq ?_); refine ats_go (fix0 hcx) fun K hK => ?_; simp only [go_sem, seval]; refine hK _ ?_; clear hK K
    have e : actF t a = some [0] := by simp only [actF, actA, if_neg hA, orE]
    exact ats_ret (finV rfl ⟨rfl, trivial⟩ (by rw [e]; rfl))
  · have eA : actA a = none := if_pos hA
    refine ats_skip ?_
    (repeat refine ats_seq ?_); refine ats_go (fix0 hcx) fun K hK => ?_; simp only [go_sem, seval]; refine hK _ ?_; clear hK K
    (repeat refine ats_seq ?_); refine ats_loop (fun i : Nat => ⟨[(2, .bptr 0 0), (3, .bptr 1 0), (5, .int t.length), (6, .int i)], [(0, .bx [.l3 t]), (1, .bx [.l3 a])]⟩) (fun i => i ≤ t.length ∧ ∀ b, b < i → first t.length (actG t a b) = none) (fun i => t.length - i) 0 ⟨Nat.zero_le _, fun a h => absurd h (Nat.not_lt_zero a)⟩ (by refine And.intro ?_ rfl; simp only [SlotsLe, St.get, slotGet, Nat.reduceEqDiff, ↓reduceIte, AV.int.injEq, AV.bool.injEq, AV.l1.injEq, AV.l2.injEq, AV.l3.injEq, true_and, and_true]; rfl) (fun i hi => ?_); obtain ⟨hi, Hi⟩ := hi
    (repeat refine ats_seq ?_); refine ats_go (fix0 hcx) fun K hK => ?_; simp only [go_sem, seval]; refine hK _ ?_; clear hK K
    (repeat refine ats_seq ?_); first | refine ats_ifn (p := _) rfl trivial (fun hli => ?_) (fun hli => ?_) | refine ats_ifp (p := _) rfl trivial (fun hli => ?_) (fun hli => ?_) | refine ats_cond rfl trivial (fun hli => ?_) (fun hli => ?_)
    · refine ats_skip ?_
      (repeat refine ats_seq ?_); refine ats_block ?_
      (repeat refine ats_seq ?_); refine ats_go (fix0 hcx) fun K hK => ?_; simp only [go_sem, seval]; refine hK _ ?_; clear hK K
      (repeat refine ats_seq ?_); refine ats_loop (fun j : Nat => ⟨[(2, .bptr 0 0), (3, .bptr 1 0), (5, .int t.length), (6, .int i), (7, .int j)], [(0, .bx [.l3 t]), (1, .bx [.l3 a])]⟩) (fun j => j ≤ t.length ∧ ∀ b, b < j → actG t a i b = none) (fun j => t.length - j) 0 ⟨Nat.zero_le _, fun a h => absurd h (Nat.not_lt_zero a)⟩ (by refine And.intro ?_ rfl; simp only [SlotsLe, St.get, slotGet, Nat.reduceEqDiff, ↓reduceIte, AV.int.injEq, AV.bool.injEq, AV.l1.injEq, AV.l2.injEq, AV.l3.injEq, true_and, and_true]; rfl) (fun j hj => ?_); obtain ⟨hj, Hj⟩ := hj
      (repeat refine ats_seq ?_); refine ats_go (fix0 hcx) fun K hK => ?_; simp only [go_sem, seval]; refine hK _ ?_; clear hK K
      (repeat refine ats_seq ?_); first | refine ats_ifn (p := _) rfl trivial (fun hlj => ?_) (fun hlj => ?_) | refine ats_ifp (p := _) rfl trivial (fun hlj => ?_) (fun hlj => ?_) | refine ats_cond rfl trivial (fun hlj => ?_) (fun hlj => ?_)
      · refine ats_skip ?_
        (repeat refine ats_seq ?_); refine ats_block ?_
        (repeat refine ats_seq ?_); refine ats_go (fix0 hcx) fun K hK => ?_; simp only [go_sem, seval]
        first | refine fcall_data (l09Product_ok t a hc hf i j (by omega) (by omega)) rfl ?_ | refine YR_intro (acall_data (l09Product_ok t a hc hf i j (by omega) (by omega)) rfl) ?_
        simp only [go_sem, seval]
        refine hK _ ?_; clear hK K
        (repeat refine ats_seq ?_); first | refine ats_ifn (p := _) rfl trivial (fun h2 => ?_) (fun h2 => ?_) | refine ats_ifp (p := _) rfl trivial (fun h2 => ?_) (fun h2 => ?_) | refine ats_cond rfl trivial (fun h2 => ?_) (fun h2 => ?_)
        · have h2 := bd_false h2
          (repeat refine ats_seq ?_); refine ats_go (fix0 hcx) fun K hK => ?_; simp only [go_sem, seval]; refine hK _ ?_; clear hK K
          have e1 : (first t.length fun i => first t.length (actG t a i)) = some [1, (i : Int), (j : Int)] := first_some (by omega) Hi (first_some (by omega) Hj (if_neg (by rw [h2]; decide)))
          have e : actF t a = some [1, (i : Int), (j : Int)] := by simp only [actF, eA, orE, e1]
          exact ats_ret (finV rfl ⟨rfl, trivial⟩ (by rw [e]; rfl))
        · have h2 := bd_true h2
          refine ats_skip ?_
          (repeat refine ats_seq ?_); refine ats_go (fix0 hcx) fun K hK => ?_; simp only [go_sem, seval]; (repeat refine And.intro (by first | omega | (intro hq; first | omega | (simp at hq <;> omega) | (simp_all <;> omega))) ?_); refine hK _ ?_; clear hK K
          refine ⟨j + 1, ⟨by omega, fun a ha => by rcases Nat.lt_succ_iff_lt_or_eq.1 ha with h | rfl; exact Hj a h; exact if_pos h2⟩, by omega, .inl ⟨?_, rfl⟩⟩; simp only [SlotsLe, St.get, slotGet, Nat.reduceEqDiff, ↓reduceIte, AV.int.injEq, AV.bool.injEq, AV.l1.injEq, AV.l2.injEq, AV.l3.injEq, true_and, and_true]; omega
      · refine ats_exit (lq_x (ats_nil (bq_n ?_)))
        (repeat refine ats_seq ?_); refine ats_go (fix0 hcx) fun K hK => ?_; simp only [go_sem, seval]; (repeat refine And.intro (by first | omega | (intro hq; first | omega | (simp at hq <;> omega) | (simp_all <;> omega))) ?_); refine hK _ ?_; clear hK K
        refine ⟨i + 1, ⟨by omega, fun a ha => by rcases Nat.lt_succ_iff_lt_or_eq.1 ha with h | rfl; exact Hi a h; exact first_none (fun k hk => Hj k (by omega))⟩, by omega, .inl ⟨?_, rfl⟩⟩; simp only [SlotsLe, St.get, slotGet, Nat.reduceEqDiff, ↓reduceIte, AV.int.injEq, AV.bool.injEq, AV.l1.injEq, AV.l2.injEq, AV.l3.injEq, true_and, and_true]; omega
    · have eG : (first t.length fun i => first t.length (actG t a i)) = none := first_none (fun i hi => Hi i (by omega))
      clear Hi
      refine ats_exit (lq_x ?_)
      (repeat refine ats_seq ?_); refine ats_go (fix0 hcx) fun K hK => ?_; simp only [go_sem, seval]
      first | refine fcall_data (l03Duals_ok t hc) rfl ?_ | refine YR_intro (acall_data (l03Duals_ok t hc) rfl) ?_
      simp only [go_sem, seval]
      refine hK _ ?_; clear hK K
      (repeat refine ats_seq ?_); refine ats_go (fix0 hcx) fun K hK => ?_; simp only [go_sem, seval]; refine hK _ ?_; clear hK K
      (repeat refine ats_seq ?_); refine ats_loop (fun i : Nat => ⟨[(3, .bptr 1 0), (5, .int t.length), (8, .l1 (ds t)), (9, .int i)], [(0, .bx [.l3 t]), (1, .bx [.l3 a])]⟩) (fun i => i ≤ t.length ∧ ∀ b, b < i → actH t a b = none) (fun i => t.length - i) 0 ⟨Nat.zero_le _, fun a h => absurd h (Nat.not_lt_zero a)⟩ (by refine And.intro ?_ rfl; simp only [SlotsLe, St.get, slotGet, Nat.reduceEqDiff, ↓reduceIte, AV.int.injEq, AV.bool.injEq, AV.l1.injEq, AV.l2.injEq, AV.l3.injEq, true_and, and_true]; rfl) (fun i hi => ?_); obtain ⟨hi, Hi⟩ := hi
      (repeat refine ats_seq ?_); refine ats_go (fix0 hcx) fun K hK => ?_; simp only [go_sem, seval]; refine hK _ ?_; clear hK K
      (repeat refine ats_seq ?_); first | refine ats_ifn (p := _) rfl trivial (fun hli => ?_) (fun hli => ?_) | refine ats_ifp (p := _) rfl trivial (fun hli => ?_) (fun hli => ?_) | refine ats_cond rfl trivial (fun hli => ?_) (fun hli => ?_)
      · have gi := ds_get (show i < t.length by omega)
        have di := dual_ok hd (show i < t.length by omega)
        have mi := hf.mat (show i < a.length by omega)
        have m1 := hf.2.2.1
        have r0 := hf.row (show i < a.length by omega) (show 0 < (a.getD 0 []).length by omega)
        have hrow : ∀ j, j < (a.getD i []).length → ((a.getD i []).getD j []).length = ((a.getD i []).getD 0 []).length := fun j hj => by
          rw [r0, hf.row (show i < a.length by omega) (show j < (a.getD 0 []).length by omega)]
        refine ats_skip ?_
        (repeat refine ats_seq ?_); refine ats_block ?_
        (repeat refine ats_seq ?_); refine ats_pick (fix0 hcx) mixed (by kernel_rfl) fun K hK => ?_; simp only [go_sem, seval]
        simp only [gi]
        (repeat refine And.intro (by first | omega | (intro hq; first | omega | (simp at hq <;> omega) | (simp_all <;> omega))) ?_)
        first | refine fcall_data (l02Turn_ok (a.getD i []) (by omega) (by omega) (by rw [r0]; exact hm16) hrow) rfl ?_ | refine YR_intro (acall_data (l02Turn_ok (a.getD i []) (by omega) (by omega) (by rw [r0]; exact hm16) hrow) rfl) ?_
        simp only [go_sem, seval]
        first | refine fcall_data (l01Same2_ok _ _) rfl ?_ | refine YR_intro (acall_data (l01Same2_ok _ _) rfl) ?_
        simp only [go_sem, seval]
        refine hK _ ?_; clear hK K
        (repeat refine ats_seq ?_); first | refine ats_ifn (p := _) rfl trivial (fun h2 => ?_) (fun h2 => ?_) | refine ats_ifp (p := _) rfl trivial (fun h2 => ?_) (fun h2 => ?_) | refine ats_cond rfl trivial (fun h2 => ?_) (fun h2 => ?_)
        · (repeat refine ats_seq ?_); refine ats_go (fix0 hcx) fun K hK => ?_; simp only [go_sem, seval]; refine hK _ ?_; clear hK K
          have e1 : first t.length (actH t a) = some [2, (i : Int)] := first_some (by omega) Hi (if_neg h2)
          have e : actF t a = some [2, (i : Int)] := by simp only [actF, eA, orE, eG, e1]
          exact ats_ret (finV rfl ⟨rfl, trivial⟩ (by rw [e]; rfl))
        · refine ats_skip ?_
          (repeat refine ats_seq ?_); refine ats_go (fix0 hcx) fun K hK => ?_; simp only [go_sem, seval]; (repeat refine And.intro (by first | omega | (intro hq; first | omega | (simp at hq <;> omega) | (simp_all <;> omega))) ?_); refine hK _ ?_; clear hK K
          refine ⟨i + 1, ⟨by omega, fun a ha => by rcases Nat.lt_succ_iff_lt_or_eq.1 ha with h | rfl; exact Hi a h; exact if_pos h2⟩, by omega, .inl ⟨?_, rfl⟩⟩; simp only [SlotsLe, St.get, slotGet, Nat.reduceEqDiff, ↓reduceIte, AV.int.injEq, AV.bool.injEq, AV.l1.injEq, AV.l2.injEq, AV.l3.injEq, true_and, and_true]; omega
      · have eH : first t.length (actH t a) = none := first_none (fun i hi => Hi i (by omega))
        have e : actF t a = none := by simp only [actF, eA, orE, eG, eH]
        refine ats_exit (lq_x ?_)
        (repeat refine ats_seq ?_); refine ats_go (fix0 hcx) fun K hK => ?_; simp only [go_sem, seval]; refine hK _ ?_; clear hK K
        exact ats_ret (finV rfl ⟨rfl, trivial⟩ (by rw [e]; rfl))

end Go.Proofs.Ytbddekioaigbhaa
