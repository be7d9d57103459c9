import Derived.Test.YtlngnhbochmcoaaWx1
set_option linter.unusedSimpArgs false
set_option linter.unusedVariables false
namespace Go.Proofs.Ytlngnhbochmcoaa
open Go Go.Aw Go.Pl
theorem aT9 {cx : Cx} (hcx : cx.fix = 0) (t : List (List (List Int))) (hc : Cube t) {c0 : Code} {cs : List Code} (hK0 : Y1_ t = none → ATs Try.prog cx 245 (c0 :: cs) (fun e st => Aw.Ends e ∧ ∃ v, wg_ Try.prog st [.tmp 2] v ∧ xI_ st.H v = some (VG_ (yh_ t))) ⟨[(0, .l3 t), (3, .int t.length)], []⟩) : ATs Try.prog cx 245 (nth 3 Try.f26.body :: c0 :: cs) (fun e st => Aw.Ends e ∧ ∃ v, wg_ Try.prog st [.tmp 2] v ∧ xI_ st.H v = some (VG_ (yh_ t))) ⟨[(0, .l3 t), (3, .int t.length), (4, .int 0)], []⟩ := by
 have h16 := hc.2.1
 have h1 := hc.1
 have hdl := wd_ t
 refine XI_ (by simp only [nth, Try.f26, Ut_, List.cons_append, List.nil_append, List.getD_cons_zero, List.getD_cons_succ]; exact rfl) ?_
 (repeat refine xa_ ?_); refine xo_ (fun i : Nat => ⟨[(0, .l3 t), (3, .int t.length), (4, .int i)], []⟩) (fun i => i ≤ t.length ∧ ∀ b, b < i → first t.length (TZ_ t b) = none) (fun i => t.length - i) 0 ⟨Nat.zero_le _, fun a h => absurd h (Nat.not_lt_zero a)⟩ (by refine And.intro ?_ rfl; simp only [leS, Nat.reduceEqDiff, ↓reduceIte, true_and, and_true]; rfl) (fun i hi => ?_); obtain ⟨hi, Hi⟩ := hi
 refine gA ?_
 refine gI (fun hli => ?_) fun hli => ?_
 ·refine xb_ ?_
  refine gO ?_
  refine gA ?_
  (repeat refine xa_ ?_); refine xo_ (fun k : Nat => ⟨[(0, .l3 t), (3, .int t.length), (4, .int i), (5, .int k)], []⟩) (fun k => k ≤ t.length ∧ ∀ b, b < k → TZ_ t i b = none) (fun k => t.length - k) 0 ⟨Nat.zero_le _, fun a h => absurd h (Nat.not_lt_zero a)⟩ (by refine And.intro ?_ rfl; simp only [leS, Nat.reduceEqDiff, ↓reduceIte, true_and, and_true]; rfl) (fun k hk => ?_); obtain ⟨hk, Hk⟩ := hk
  refine gA ?_
  refine gI (fun hlk => ?_) fun hlk => ?_
  ·have r1 := hc.row (i := 0) (j := i) (by omega) (by omega)
   have r2 := hc.row (i := i) (j := 0) (by omega) (by omega)
   have m1 := hc.mat (i := 0) (by omega)
   have m2 := hc.mat (i := i) (by omega)
   refine xb_ ?_
   refine gO ?_
   refine gA ?_
   refine gA ?_
   repeat refine xa_ ?_
   refine aE9 (fun _ : Unit => ⟨[(0, .l3 t), (3, .int t.length), (4, .int i), (5, .int k), (6, .int (dl i k))], []⟩) (fun _ => True) ?_ (fun _ _ => ?_)
   ·refine gI (fun he => ?_) fun he => ?_
    ·refine gA ?_
     refine ⟨(), trivial, ?_, rfl⟩
     simp only [xN_, St.get, xh_, Nat.reduceEqDiff, ↓reduceIte, AV.int.injEq, true_and, and_true]
     simp only [dl, if_pos he]
    ·refine xb_ ?_
     refine ⟨(), trivial, ?_, rfl⟩
     simp only [xN_, St.get, xh_, Nat.reduceEqDiff, ↓reduceIte, AV.int.injEq, true_and, and_true]
     simp only [dl, if_neg he]
   ·refine gC fun K hK => ?_
    refine gU ?_
    refine hK _ ?_; clear hK K
    refine gI (fun h2 => ?_) fun h2 => ?_
    ·simp only [Bool.or_eq_true, Bool.not_eq_true', decide_eq_false_iff_not] at h2
     refine gA ?_
     have e : Y1_ t = some [0, (i : Int), (k : Int)] := first_some (by omega) Hi (first_some (by omega) Hk (if_pos h2))
     have e2 : yh_ t = some [0, (i : Int), (k : Int)] := by simp only [yh_, orE, e]
     exact xd_ (TT_ rfl ⟨rfl, trivial⟩ (by rw [e2]; rfl))
    ·simp only [Bool.or_eq_false_iff, Bool.not_eq_false', decide_eq_true_eq] at h2
     refine xb_ ?_
     refine gB ?_
     refine ⟨k + 1, ⟨by omega, fun a ha => by rcases Nat.lt_succ_iff_lt_or_eq.1 ha with h | rfl; exact Hk a h; exact if_neg (fun h => h.elim (fun h => h h2.1) (fun h => h h2.2))⟩, by omega, .inl ⟨?_, rfl⟩⟩; simp only [leS, Nat.reduceEqDiff, ↓reduceIte, true_and, and_true]; omega
  ·refine xf_ (ye_ (yf_ (Vq_ ?_)))
   refine gB ?_
   refine ⟨i + 1, ⟨by omega, fun a ha => by rcases Nat.lt_succ_iff_lt_or_eq.1 ha with h | rfl; exact Hi a h; exact xY_ (fun k hk => Hk k (by omega))⟩, by omega, .inl ⟨?_, rfl⟩⟩; simp only [leS, Nat.reduceEqDiff, ↓reduceIte, true_and, and_true]; omega
 ·have hu : Y1_ t = none := xY_ (fun i hi => Hi i (by omega))
  refine xf_ (ye_ ?_)
  refine Xd_ ?_ (hK0 hu)
  exact ⟨⟨rfl, rfl, trivial⟩, rfl⟩
theorem aU0 {cx : Cx} (hcx : cx.fix = 0) (t : List (List (List Int))) (hc : Cube t) {c0 : Code} {cs : List Code} (hK0 : ATs Try.prog cx 245 (c0 :: cs) (fun e st => Aw.Ends e ∧ ∃ v, wg_ Try.prog st [.tmp 2] v ∧ xI_ st.H v = some (VG_ (yh_ t))) ⟨[(0, .l3 t), (3, .int t.length), (7, .ref 0 [])], [(0, .t1 (ds t))]⟩) : ATs Try.prog cx 245 (nth 6 Try.f26.body :: c0 :: cs) (fun e st => Aw.Ends e ∧ ∃ v, wg_ Try.prog st [.tmp 2] v ∧ xI_ st.H v = some (VG_ (yh_ t))) ⟨[(0, .l3 t), (3, .int t.length), (7, .ref 0 []), (8, .int 0)], [(0, .t1 [])]⟩ := by
 have h16 := hc.2.1
 have h1 := hc.1
 have hdl := wd_ t
 refine XI_ (by simp only [nth, Try.f26, Ut_, List.cons_append, List.nil_append, List.getD_cons_zero, List.getD_cons_succ]; exact rfl) ?_
 (repeat refine xa_ ?_); refine xo_ (fun i : Nat => ⟨[(0, .l3 t), (3, .int t.length), (7, .ref 0 []), (8, .int i)], [(0, .t1 ((List.range i).map (dual t)))]⟩) (fun i => i ≤ t.length) (fun i => t.length - i) 0 (Nat.zero_le _) (by
  refine And.intro ?_ rfl
  simp only [xN_, St.get, xh_, Nat.reduceEqDiff, ↓reduceIte, true_and, and_true, AV.int.injEq]
  rfl) (fun i hi => ?_)
 refine gA ?_
 refine gI (fun hli => ?_) fun hli => ?_
 ·have hl : ((List.range i).map (dual t)).length = i := by simp
  refine xb_ ?_
  refine gO ?_
  refine gC fun K hK => ?_
  first | refine xM_ rfl rfl (WC_ t hc i (by omega)) ?_ | refine xe_ (xG_ rfl rfl (WC_ t hc i (by omega))) ?_
  refine gV ?_
  (repeat refine And.intro (by (first | omega | (rw [hl]; omega))) ?_)
  refine hK _ ?_; clear hK K
  refine gB ?_
  refine ⟨i + 1, by omega, by omega, .inr ⟨[1], by simp only [x2_, List.map_cons, List.map_nil, xp_, xA_, qOf, rmT, xt_, x4_, List.filter_cons, List.filter_nil, List.contains_cons, List.contains_nil, xN_, St.get, xh_, Nat.reduceEqDiff, Nat.reduceBEq, Bool.or_false, Bool.or_true, Bool.false_and, Bool.not_true, Bool.not_false, Bool.false_eq_true, ↓reduceIte, if_true, if_false, AV.int.injEq, AV.bool.injEq, AV.l1.injEq, AV.l2.injEq, AV.l3.injEq, true_and, and_true]; omega, by simp only [x2_, List.map_cons, List.map_nil, xp_, xA_, qOf, rmT, xt_, x4_, List.filter_cons, List.filter_nil, List.contains_cons, List.contains_nil, xN_, St.get, xh_, Nat.reduceEqDiff, Nat.reduceBEq, Bool.or_false, Bool.or_true, Bool.false_and, Bool.not_true, Bool.not_false, Bool.false_eq_true, ↓reduceIte, if_true, if_false, AV.int.injEq, AV.bool.injEq, AV.l1.injEq, AV.l2.injEq, AV.l3.injEq, true_and, and_true]; simp only [List.range_succ, List.map_append, List.map_cons, List.map_nil]⟩⟩
 ·obtain rfl : i = t.length := by omega
  refine xf_ (ye_ ?_)
  refine Xd_ ?_ hK0
  exact ⟨⟨rfl, rfl, rfl, trivial⟩, rfl⟩
theorem aU1 {cx : Cx} (hcx : cx.fix = 0) (t : List (List (List Int))) (hc : Cube t) (hu : Y1_ t = none) {c0 : Code} {cs : List Code} (hK0 : Yt_ t = none → ATs Try.prog cx 245 (c0 :: cs) (fun e st => Aw.Ends e ∧ ∃ v, wg_ Try.prog st [.tmp 2] v ∧ xI_ st.H v = some (VG_ (yh_ t))) ⟨[(0, .l3 t), (3, .int t.length), (7, .ref 0 [])], [(0, .t1 (ds t))]⟩) : ATs Try.prog cx 245 (nth 8 Try.f26.body :: c0 :: cs) (fun e st => Aw.Ends e ∧ ∃ v, wg_ Try.prog st [.tmp 2] v ∧ xI_ st.H v = some (VG_ (yh_ t))) ⟨[(0, .l3 t), (3, .int t.length), (7, .ref 0 []), (9, .int 0)], [(0, .t1 (ds t))]⟩ := by
 have h16 := hc.2.1
 have h1 := hc.1
 have hdl := wd_ t
 refine XI_ (by simp only [nth, Try.f26, Ut_, List.cons_append, List.nil_append, List.getD_cons_zero, List.getD_cons_succ]; exact rfl) ?_
 (repeat refine xa_ ?_); refine xo_ (fun i : Nat => ⟨[(0, .l3 t), (3, .int t.length), (7, .ref 0 []), (9, .int i)], [(0, .t1 (ds t))]⟩) (fun i => i ≤ t.length ∧ ∀ b, b < i → Qr_ t b = none) (fun i => t.length - i) 0 ⟨Nat.zero_le _, fun a h => absurd h (Nat.not_lt_zero a)⟩ (by refine And.intro ?_ rfl; simp only [leS, Nat.reduceEqDiff, ↓reduceIte, true_and, and_true]; rfl) (fun i hi => ?_); obtain ⟨hi, Hi⟩ := hi
 refine gA ?_
 refine gI (fun hli => ?_) fun hli => ?_
 ·have gi := Z2_ (show i < t.length by omega)
  have dr := Ys_ t i
  refine xb_ ?_
  refine gO ?_
  refine gC fun K hK => ?_
  simp only [gi]
  refine gU ?_
  refine hK _ ?_; clear hK K
  refine gI (fun h2 => ?_) fun h2 => ?_
  ·simp only [Bool.or_eq_true, decide_eq_true_eq, Bool.not_eq_true', decide_eq_false_iff_not] at h2
   refine gA ?_
   have e : Yt_ t = some [1, (i : Int)] := first_some (by omega) Hi (if_pos (by
    by_cases h0 : dual t i < 0
    ·exact .inl h0
    ·refine .inr ?_
     have := Z2_ (show (dual t i).toNat < t.length by omega)
     rw [this] at h2
     exact h2.resolve_left h0))
   have e2 : yh_ t = some [1, (i : Int)] := by simp only [yh_, orE, hu, e]
   exact xd_ (TT_ rfl ⟨rfl, trivial⟩ (by rw [e2]; rfl))
  ·simp only [Bool.or_eq_false_iff, decide_eq_false_iff_not, Bool.not_eq_false', decide_eq_true_eq] at h2
   have hg := Z2_ (show (dual t i).toNat < t.length by omega)
   rw [hg] at h2
   refine xb_ ?_
   refine gB ?_
   refine ⟨i + 1, ⟨by omega, fun a ha => by rcases Nat.lt_succ_iff_lt_or_eq.1 ha with h | rfl; exact Hi a h; exact if_neg (fun h => h.elim (fun h => h2.1 h) (fun h => h h2.2))⟩, by omega, .inl ⟨?_, rfl⟩⟩; simp only [leS, Nat.reduceEqDiff, ↓reduceIte, true_and, and_true]; omega
 ·have hd : Yt_ t = none := xY_ (fun i hi => Hi i (by omega))
  refine xf_ (ye_ ?_)
  refine Xd_ ?_ (hK0 hd)
  exact ⟨⟨rfl, rfl, rfl, trivial⟩, rfl⟩
theorem aU2 {cx : Cx} (hcx : cx.fix = 0) (t : List (List (List Int))) (hc : Cube t) (hu : Y1_ t = none) (hd : Yt_ t = none) {c0 : Code} {cs : List Code} (hK0 : Wt_ t = none → ATs Try.prog cx 245 (c0 :: cs) (fun e st => Aw.Ends e ∧ ∃ v, wg_ Try.prog st [.tmp 2] v ∧ xI_ st.H v = some (VG_ (yh_ t))) ⟨[(0, .l3 t), (3, .int t.length)], [(0, .t1 (ds t))]⟩) : ATs Try.prog cx 245 (nth 10 Try.f26.body :: c0 :: cs) (fun e st => Aw.Ends e ∧ ∃ v, wg_ Try.prog st [.tmp 2] v ∧ xI_ st.H v = some (VG_ (yh_ t))) ⟨[(0, .l3 t), (3, .int t.length), (7, .ref 0 []), (10, .int 0)], [(0, .t1 (ds t))]⟩ := by
 have h16 := hc.2.1
 have h1 := hc.1
 have hdl := wd_ t
 refine XI_ (by simp only [nth, Try.f26, Ut_, List.cons_append, List.nil_append, List.getD_cons_zero, List.getD_cons_succ]; exact rfl) ?_
 (repeat refine xa_ ?_); refine xo_ (fun i : Nat => ⟨[(0, .l3 t), (3, .int t.length), (7, .ref 0 []), (10, .int i)], [(0, .t1 (ds t))]⟩) (fun i => i ≤ t.length ∧ ∀ b, b < i → first t.length (fun j => first t.length (VH_ t b j)) = none) (fun i => t.length - i) 0 ⟨Nat.zero_le _, fun a h => absurd h (Nat.not_lt_zero a)⟩ (by refine And.intro ?_ rfl; simp only [leS, Nat.reduceEqDiff, ↓reduceIte, true_and, and_true]; rfl) (fun i hi => ?_); obtain ⟨hi, Hi⟩ := hi
 refine gA ?_
 refine gI (fun hli => ?_) fun hli => ?_
 ·refine xb_ ?_
  refine gO ?_
  refine gA ?_
  (repeat refine xa_ ?_); refine xo_ (fun j : Nat => ⟨[(0, .l3 t), (3, .int t.length), (7, .ref 0 []), (10, .int i), (11, .int j)], [(0, .t1 (ds t))]⟩) (fun j => j ≤ t.length ∧ ∀ b, b < j → first t.length (VH_ t i b) = none) (fun j => t.length - j) 0 ⟨Nat.zero_le _, fun a h => absurd h (Nat.not_lt_zero a)⟩ (by refine And.intro ?_ rfl; simp only [leS, Nat.reduceEqDiff, ↓reduceIte, true_and, and_true]; rfl) (fun j hj => ?_); obtain ⟨hj, Hj⟩ := hj
  refine gA ?_
  refine gI (fun hlj => ?_) fun hlj => ?_
  ·refine xb_ ?_
   refine gO ?_
   refine gA ?_
   (repeat refine xa_ ?_); refine xo_ (fun k : Nat => ⟨[(0, .l3 t), (3, .int t.length), (7, .ref 0 []), (10, .int i), (11, .int j), (12, .int k)], [(0, .t1 (ds t))]⟩) (fun k => k ≤ t.length ∧ ∀ b, b < k → VH_ t i j b = none) (fun k => t.length - k) 0 ⟨Nat.zero_le _, fun a h => absurd h (Nat.not_lt_zero a)⟩ (by refine And.intro ?_ rfl; simp only [leS, Nat.reduceEqDiff, ↓reduceIte, true_and, and_true]; rfl) (fun k hk => ?_); obtain ⟨hk, Hk⟩ := hk
   refine gA ?_
   refine gI (fun hlk => ?_) fun hlk => ?_
   ·have di := VI_ hd (show i < t.length by omega)
    have dj := VI_ hd (show j < t.length by omega)
    have gi := Z2_ (show i < t.length by omega)
    have gj := Z2_ (show j < t.length by omega)
    have mi := hc.mat (show i < t.length by omega)
    have mk := hc.mat (show k < t.length by omega)
    have md := hc.mat di.2.1
    have r1 := hc.row (show i < t.length by omega) (show j < t.length by omega)
    have r2 := hc.row di.2.1 (show k < t.length by omega)
    have r3 := hc.row (show k < t.length by omega) dj.2.1
    refine xb_ ?_
    refine gO ?_
    (repeat refine xa_ ?_); refine xV_ (xZ_ hcx) mixed (by kernel_rfl) fun K hK => ?_; simp only [go_sem, seval]
    simp only [gi, gj]
    refine gU ?_
    refine hK _ ?_; clear hK K
    refine gI (fun h2 => ?_) fun h2 => ?_
    ·simp only [Bool.or_eq_true, Bool.not_eq_true', decide_eq_false_iff_not] at h2
     refine gA ?_
     have e : Wt_ t = some [2, (i : Int), (j : Int), (k : Int)] := first_some (by omega) Hi (first_some (by omega) Hj (first_some (by omega) Hk (if_pos h2)))
     have e2 : yh_ t = some [2, (i : Int), (j : Int), (k : Int)] := by simp only [yh_, orE, hu, hd, e]
     exact xd_ (TT_ rfl ⟨rfl, trivial⟩ (by rw [e2]; rfl))
    ·simp only [Bool.or_eq_false_iff, Bool.not_eq_false', decide_eq_true_eq] at h2
     refine xb_ ?_
     refine gB ?_
     refine ⟨k + 1, ⟨by omega, fun a ha => by rcases Nat.lt_succ_iff_lt_or_eq.1 ha with h | rfl; exact Hk a h; exact if_neg (fun h => h.elim (fun h => h h2.1) (fun h => h h2.2))⟩, by omega, .inl ⟨?_, rfl⟩⟩; simp only [leS, Nat.reduceEqDiff, ↓reduceIte, true_and, and_true]; omega
   ·refine xf_ (ye_ (yf_ (Vq_ ?_)))
    refine gB ?_
    refine ⟨j + 1, ⟨by omega, fun a ha => by rcases Nat.lt_succ_iff_lt_or_eq.1 ha with h | rfl; exact Hj a h; exact xY_ (fun k hk => Hk k (by omega))⟩, by omega, .inl ⟨?_, rfl⟩⟩; simp only [leS, Nat.reduceEqDiff, ↓reduceIte, true_and, and_true]; omega
  ·refine xf_ (ye_ (yf_ (Vq_ ?_)))
   refine gB ?_
   refine ⟨i + 1, ⟨by omega, fun a ha => by rcases Nat.lt_succ_iff_lt_or_eq.1 ha with h | rfl; exact Hi a h; exact xY_ (fun k hk => Hj k (by omega))⟩, by omega, .inl ⟨?_, rfl⟩⟩; simp only [leS, Nat.reduceEqDiff, ↓reduceIte, true_and, and_true]; omega
 ·have ht : Wt_ t = none := xY_ (fun i hi => Hi i (by omega))
  refine xf_ (ye_ ?_)
  refine Xd_ ?_ (hK0 ht)
  exact ⟨⟨rfl, rfl, trivial⟩, rfl⟩
theorem aU3 {cx : Cx} (hcx : cx.fix = 0) (t : List (List (List Int))) (hc : Cube t) (e0 : yh_ t = wM_ t) {c0 : Code} {cs : List Code} (hK0 : yh_ t = none → ATs Try.prog cx 245 (c0 :: cs) (fun e st => Aw.Ends e ∧ ∃ v, wg_ Try.prog st [.tmp 2] v ∧ xI_ st.H v = some (VG_ (yh_ t))) ⟨[], [(0, .t1 (ds t))]⟩) : ATs Try.prog cx 245 (nth 12 Try.f26.body :: c0 :: cs) (fun e st => Aw.Ends e ∧ ∃ v, wg_ Try.prog st [.tmp 2] v ∧ xI_ st.H v = some (VG_ (yh_ t))) ⟨[(0, .l3 t), (3, .int t.length), (13, .int 0)], [(0, .t1 (ds t))]⟩ := by
 have h16 := hc.2.1
 have h1 := hc.1
 have hdl := wd_ t
 refine XI_ (by simp only [nth, Try.f26, Ut_, List.cons_append, List.nil_append, List.getD_cons_zero, List.getD_cons_succ]; exact rfl) ?_
 (repeat refine xa_ ?_); refine xo_ (fun i : Nat => ⟨[(0, .l3 t), (3, .int t.length), (13, .int i)], [(0, .t1 (ds t))]⟩) (fun i => i ≤ t.length ∧ ∀ b, b < i → first t.length (fun j => first t.length fun k => first t.length (wL_ t b j k)) = none) (fun i => t.length - i) 0 ⟨Nat.zero_le _, fun a h => absurd h (Nat.not_lt_zero a)⟩ (by refine And.intro ?_ rfl; simp only [leS, Nat.reduceEqDiff, ↓reduceIte, true_and, and_true]; rfl) (fun i hi => ?_); obtain ⟨hi, Hi⟩ := hi
 refine gA ?_
 refine gI (fun hli => ?_) fun hli => ?_
 ·have mi := hc.mat (show i < t.length by omega)
  refine xb_ ?_
  refine gO ?_
  refine gA ?_
  (repeat refine xa_ ?_); refine xo_ (fun j : Nat => ⟨[(0, .l3 t), (3, .int t.length), (13, .int i), (14, .int j)], [(0, .t1 (ds t))]⟩) (fun j => j ≤ t.length ∧ ∀ b, b < j → first t.length (fun k => first t.length (wL_ t i b k)) = none) (fun j => t.length - j) 0 ⟨Nat.zero_le _, fun a h => absurd h (Nat.not_lt_zero a)⟩ (by refine And.intro ?_ rfl; simp only [leS, Nat.reduceEqDiff, ↓reduceIte, true_and, and_true]; rfl) (fun j hj => ?_); obtain ⟨hj, Hj⟩ := hj
  refine gA ?_
  refine gI (fun hlj => ?_) fun hlj => ?_
  ·have mj := hc.mat (show j < t.length by omega)
   have rij := hc.row (show i < t.length by omega) (show j < t.length by omega)
   refine xb_ ?_
   refine gO ?_
   refine gA ?_
   (repeat refine xa_ ?_); refine xo_ (fun k : Nat => ⟨[(0, .l3 t), (3, .int t.length), (13, .int i), (14, .int j), (15, .int k)], [(0, .t1 (ds t))]⟩) (fun k => k ≤ t.length ∧ ∀ b, b < k → first t.length (wL_ t i j b) = none) (fun k => t.length - k) 0 ⟨Nat.zero_le _, fun a h => absurd h (Nat.not_lt_zero a)⟩ (by refine And.intro ?_ rfl; simp only [leS, Nat.reduceEqDiff, ↓reduceIte, true_and, and_true]; rfl) (fun k hk => ?_); obtain ⟨hk, Hk⟩ := hk
   refine gA ?_
   refine gI (fun hlk => ?_) fun hlk => ?_
   ·have rjk := hc.row (show j < t.length by omega) (show k < t.length by omega)
    refine xb_ ?_
    refine gO ?_
    refine gA ?_
    (repeat refine xa_ ?_); refine xo_ (fun l : Nat => ⟨[(0, .l3 t), (3, .int t.length), (13, .int i), (14, .int j), (15, .int k), (16, .int l)], [(0, .t1 (ds t))]⟩) (fun l => l ≤ t.length ∧ ∀ b, b < l → wL_ t i j k b = none) (fun l => t.length - l) 0 ⟨Nat.zero_le _, fun a h => absurd h (Nat.not_lt_zero a)⟩ (by refine And.intro ?_ rfl; simp only [leS, Nat.reduceEqDiff, ↓reduceIte, true_and, and_true]; rfl) (fun l hl => ?_); obtain ⟨hl, Hl⟩ := hl
    refine gA ?_
    refine gI (fun hll => ?_) fun hll => ?_
    ·refine xb_ ?_
     refine gO ?_
     refine gA ?_
     refine gA ?_
     (repeat refine xa_ ?_); refine xo_ (fun m : Nat => ⟨[(0, .l3 t), (3, .int t.length), (13, .int i), (14, .int j), (15, .int k), (16, .int l), (17, .int (sumTo (brL t i j k l) m)), (18, .int (sumTo (brR t i j k l) m)), (19, .int m)], [(0, .t1 (ds t))]⟩) (fun m => m ≤ t.length) (fun m => t.length - m) 0 (Nat.zero_le _) (by
      refine And.intro ?_ rfl; simp only [leS, Nat.reduceEqDiff, ↓reduceIte, true_and, and_true]
      exact ⟨rfl, rfl, rfl⟩) (fun m hm => ?_)
     refine gA ?_
     refine gI (fun hlm => ?_) fun hlm => ?_
     ·have mm := hc.mat (show m < t.length by omega)
      have rmk := hc.row (show m < t.length by omega) (show k < t.length by omega)
      have rim := hc.row (show i < t.length by omega) (show m < t.length by omega)
      have bL := au2 hc (i := i) (j := j) (k := k) (l := l) (by omega) (by omega) (by omega) (by omega)
      have bR := au3 hc (i := i) (j := j) (k := k) (l := l) (by omega) (by omega) (by omega) (by omega)
      have sL := sumTo_le (n := m) (fun x hx => bL x (by omega))
      have sR := sumTo_le (n := m) (fun x hx => bR x (by omega))
      have cL := bL m (by omega)
      have cR := bR m (by omega)
      simp only [brL, brR, e3] at cL cR
      refine xb_ ?_
      refine gO ?_
      (repeat refine xa_ ?_); refine xV_ (xZ_ hcx) mixed (by kernel_rfl) fun K hK => ?_; simp only [go_sem, seval]; (repeat refine aI (hb := ?_)); refine hK _ ?_; clear hK K
      (repeat refine xa_ ?_); refine xV_ (xZ_ hcx) mixed (by kernel_rfl) fun K hK => ?_; simp only [go_sem, seval]; (repeat refine aI (hb := ?_)); refine hK _ ?_; clear hK K
      refine gB ?_
      refine ⟨m + 1,  by omega, by omega, .inl ⟨?_, rfl⟩⟩; simp only [leS, Nat.reduceEqDiff, ↓reduceIte, true_and, and_true]
      exact ⟨rfl, rfl, by omega⟩
     ·obtain rfl : m = t.length := by omega
      refine xf_ (ye_ ?_)
      refine gA ?_
      refine gI (fun hne => ?_) fun hne => ?_
      ·refine gA ?_
       have e : wM_ t = some [3, (i : Int), (j : Int), (k : Int), (l : Int)] := first_some (by omega) Hi (first_some (by omega) Hj (first_some (by omega) Hk (first_some (by omega) Hl (if_pos hne))))
       rw [e] at e0
       exact xd_ (TT_ rfl ⟨rfl, trivial⟩ (by rw [e0]; rfl))
      ·refine xb_ ?_
       refine gB ?_
       refine ⟨l + 1, ⟨by omega, fun a ha => by rcases Nat.lt_succ_iff_lt_or_eq.1 ha with h | rfl; exact Hl a h; exact if_neg (fun h => h hne)⟩, by omega, .inl ⟨?_, rfl⟩⟩; simp only [leS, Nat.reduceEqDiff, ↓reduceIte, true_and, and_true]; omega
    ·refine xf_ (ye_ (yf_ (Vq_ ?_)))
     refine gB ?_
     refine ⟨k + 1, ⟨by omega, fun a ha => by rcases Nat.lt_succ_iff_lt_or_eq.1 ha with h | rfl; exact Hk a h; exact xY_ (fun k hk => Hl k (by omega))⟩, by omega, .inl ⟨?_, rfl⟩⟩; simp only [leS, Nat.reduceEqDiff, ↓reduceIte, true_and, and_true]; omega
   ·refine xf_ (ye_ (yf_ (Vq_ ?_)))
    refine gB ?_
    refine ⟨j + 1, ⟨by omega, fun a ha => by rcases Nat.lt_succ_iff_lt_or_eq.1 ha with h | rfl; exact Hj a h; exact xY_ (fun k' hk' => Hk k' (by omega))⟩, by omega, .inl ⟨?_, rfl⟩⟩; simp only [leS, Nat.reduceEqDiff, ↓reduceIte, true_and, and_true]; omega
  ·refine xf_ (ye_ (yf_ (Vq_ ?_)))
   refine gB ?_
   refine ⟨i + 1, ⟨by omega, fun a ha => by rcases Nat.lt_succ_iff_lt_or_eq.1 ha with h | rfl; exact Hi a h; exact xY_ (fun k hk => Hj k (by omega))⟩, by omega, .inl ⟨?_, rfl⟩⟩; simp only [leS, Nat.reduceEqDiff, ↓reduceIte, true_and, and_true]; omega
 ·have e : wM_ t = none := xY_ (fun i hi => Hi i (by omega))
  rw [e] at e0
  refine xf_ (ye_ ?_)
  refine Xd_ ?_ (hK0 e0)
  exact ⟨trivial, rfl⟩
theorem T0_ (t : List (List (List Int))) (hc : Cube t) : PureCall Try.prog 26 [.l3 t] (VG_ (yh_ t)) := by
 refine gPC 245 [.tmp 2] Try.call26 Try.func26 fun cx hcx => gE ?_
 refine gA ?_
 refine gA ?_
 refine gA ?_
 repeat refine xa_ ?_
 refine Xd_ (st' := ⟨[(0, .l3 t), (3, .int t.length), (4, .int 0)], []⟩) ⟨⟨rfl, rfl, rfl, trivial⟩, rfl⟩ ?_
 refine aT9 hcx t hc fun hu => ?_
 refine gA ?_
 refine gA ?_
 repeat refine xa_ ?_
 refine Xd_ (st' := ⟨[(0, .l3 t), (3, .int t.length), (7, .ref 0 []), (8, .int 0)], [(0, .t1 [])]⟩) ⟨⟨rfl, rfl, rfl, rfl, trivial⟩, rfl⟩ ?_
 refine aU0 hcx t hc ?_
 refine gA ?_
 repeat refine xa_ ?_
 refine Xd_ (st' := ⟨[(0, .l3 t), (3, .int t.length), (7, .ref 0 []), (9, .int 0)], [(0, .t1 (ds t))]⟩) ⟨⟨rfl, rfl, rfl, rfl, trivial⟩, rfl⟩ ?_
 refine aU1 hcx t hc hu fun hd => ?_
 refine gA ?_
 repeat refine xa_ ?_
 refine Xd_ (st' := ⟨[(0, .l3 t), (3, .int t.length), (7, .ref 0 []), (10, .int 0)], [(0, .t1 (ds t))]⟩) ⟨⟨rfl, rfl, rfl, rfl, trivial⟩, rfl⟩ ?_
 refine aU2 hcx t hc hu hd fun ht => ?_
 have e0 : yh_ t = wM_ t := by simp only [yh_, orE, hu, hd, ht]
 refine gA ?_
 repeat refine xa_ ?_
 refine Xd_ (st' := ⟨[(0, .l3 t), (3, .int t.length), (13, .int 0)], [(0, .t1 (ds t))]⟩) ⟨⟨rfl, rfl, rfl, trivial⟩, rfl⟩ ?_
 refine aU3 hcx t hc e0 fun e => ?_
 refine gA ?_
 exact xd_ (TT_ rfl ⟨rfl, trivial⟩ (by rw [e]; rfl))
open Go.Pl
theorem Qu_ (xs ys : List Int) : PureCall Try.prog 27 [.l1 xs, .l1 ys] (.bool (decide (xs = ys))) := by
 refine gPC 26 [.tmp 4] Try.call27 Try.func27 fun cx hcx => gE ?_
 refine gA ?_
 refine yg_ 0 fun h0 => ?_; simp only [St.get, xh_, Nat.reduceEqDiff, ↓reduceIte, if_true, fact, facts] at h0
 refine gA ?_
 refine gI (fun hc => ?_) fun hc => ?_
 ·refine gA ?_
  refine xd_ (yZ_ rfl ?_)
  simp only [Bool.false_eq, decide_eq_false_iff_not]
  exact fun e => hc (by rw [e])
 ·refine xb_ ?_
  refine gA ?_
  (repeat refine xa_ ?_); refine xo_ (fun k : Nat => ⟨[(0, .l1 xs), (1, .l1 ys), (5, .int k)], []⟩) (fun k => k ≤ xs.length ∧ xs.take k = ys.take k) (fun k => xs.length - k) 0 ⟨Nat.zero_le _, rfl⟩ (by
   refine And.intro ?_ rfl; simp only [leS, Nat.reduceEqDiff, ↓reduceIte, true_and, and_true]
   rfl) (fun k hk => ?_)
  refine gA ?_
  refine gI (fun h1 => ?_) fun h1 => ?_
  ·refine xb_ ?_
   refine gO ?_
   (repeat refine xa_ ?_); refine xV_ (xZ_ hcx) mixed (by kernel_rfl) fun K hK => ?_; simp only [go_sem, seval]; (repeat refine aI (hb := ?_)); refine hK _ ?_; clear hK K
   refine gI (fun h2 => ?_) fun h2 => ?_
   ·refine gA ?_
    refine xd_ (yZ_ rfl ?_)
    simp only [Bool.false_eq, decide_eq_false_iff_not]
    exact zb_ h2
   ·refine xb_ ?_
    have := h0.1
    refine gB ?_
    refine ⟨k + 1,  ⟨by omega, yJ_ (by omega) (by omega) hk.2 h2⟩, by omega, .inl ⟨?_, rfl⟩⟩; simp only [leS, Nat.reduceEqDiff, ↓reduceIte, true_and, and_true]
    omega
  ·refine xf_ (ye_ ?_)
   refine gA ?_
   refine xd_ (yZ_ rfl ?_)
   have e : k = xs.length := by omega
   have h := hk.2
   rw [List.take_of_length_le (by omega), List.take_of_length_le (by omega)] at h
   simp only [h, decide_true]
theorem ao3 (t : List (List (List Int))) : PureCall Try.prog 16 [.agg [.l3 t]] (.bool (zM_ t)) := by
 have hk := Rq_ t
 refine gPC 13 [.tmp 2] Try.call16 Try.func16 fun cx hcx => gE ?_
 refine gA ?_
 by_cases hc : Cube t
 ·rw [zj_ hc] at hk
  have hf := T0_ t hc
  cases e : yh_ t with
  | some u =>
   rw [e] at hf
   simp only [VG_] at hf
   have hne := UO_ e
   refine gC fun K hK => ?_
   first | refine xM_ rfl rfl (hk) ?_ | refine xe_ (xG_ rfl rfl (hk)) ?_
   refine gV ?_
   first | refine xe_ (fun _ => xg_ (hf) rfl) ?_ | refine xe_ (xg_ (hf) rfl) ?_
   refine gW ?_
   refine hK _ ?_; clear hK K
   refine xd_ (yZ_ rfl ?_)
   simp only [zM_]
   rw [yn_ (fun h => by rw [e] at h; cases h.2)]
   simp only [decide_eq_false_iff_not]
   omega
  | none =>
   rw [e] at hf
   simp only [VG_] at hf
   refine gC fun K hK => ?_
   first | refine xM_ rfl rfl (hk) ?_ | refine xe_ (xG_ rfl rfl (hk)) ?_
   refine gV ?_
   first | refine xe_ (fun _ => xg_ (hf) rfl) ?_ | refine xe_ (xg_ (hf) rfl) ?_
   refine gV ?_
   refine hK _ ?_; clear hK K
   refine xd_ (yZ_ rfl ?_)
   simp only [zM_]
   rw [zj_ ⟨hc, e⟩]
   try rfl
 ·rw [yn_ hc] at hk
  refine gC fun K hK => ?_
  first | refine xM_ rfl rfl (hk) ?_ | refine xe_ (xG_ rfl rfl (hk)) ?_
  refine gV ?_
  refine xe_ (v := .nil) (by first | trivial | (intro h; cases h)) ?_
  refine gV ?_
  refine hK _ ?_; clear hK K
  refine xd_ (yZ_ rfl ?_)
  simp only [zM_]
  rw [yn_ (fun h => hc h.1)]
theorem Qv_ (n : Nat) (hn : n ≤ 16) : PureCall Try.prog 53 [.int n] (.l2 (ao2 n)) := by
 refine gPC 22 [.tmp 2] Try.call53 Try.func53 fun cx hcx => gE ?_
 refine gA ?_
 refine gA ?_
 refine gA ?_
 (repeat refine xa_ ?_); refine xo_ (fun i : Nat => ⟨[(0, .int n), (3, .ref 0 []), (4, .int i)], [(0, .t2 ((List.range i).map fun i => (List.replicate n 0).set i 1))]⟩) (fun i => i ≤ n) (fun i => n - i) 0 (Nat.zero_le _) (by
  refine And.intro ?_ rfl
  simp only [xN_, St.get, xh_, Nat.reduceEqDiff, ↓reduceIte, true_and, and_true, AV.int.injEq]
  rfl) (fun i hi => ?_)
 refine gA ?_
 refine gI (fun hli => ?_) fun hli => ?_
 ·have hl : ((List.range i).map fun i => (List.replicate n (0 : Int)).set i 1).length = i := by simp
  refine xb_ ?_
  refine gO ?_
  refine gB ?_
  have hr : (List.replicate n (0 : Int)).length = n := List.length_replicate
  refine gC fun K hK => ?_
  simp only [List.length_replicate]
  refine gU ?_
  refine hK _ ?_; clear hK K
  refine gC fun K hK => ?_
  (repeat refine And.intro (by (first | omega | (rw [hl]; omega))) ?_)
  refine hK _ ?_; clear hK K
  refine gB ?_
  refine ⟨i + 1,  by omega, by omega, .inl ⟨gH,  by simp only [List.range_succ, List.map_append, List.map_cons, List.map_nil]⟩⟩
 ·obtain rfl : i = n := by omega
  refine xf_ (ye_ ?_)
  refine gA ?_
  exact xd_ (TT_ rfl ⟨rfl, trivial⟩ rfl)
theorem X1_ (xs ys : List Int) : PureCall Try.prog 82 [.l1 xs, .l1 ys] (.bool (decide (xs = ys))) := by
 refine gPC 26 [.tmp 4] Try.call82 Try.func82 fun cx hcx => gE ?_
 refine gA ?_
 refine yg_ 0 fun h0 => ?_; simp only [St.get, xh_, Nat.reduceEqDiff, ↓reduceIte, if_true, fact, facts] at h0
 have hlen := h0.1
 refine gA ?_
 refine gI (fun hc => ?_) fun hc => ?_
 ·refine gA ?_
  refine xd_ (yZ_ rfl ?_)
  simp only [Bool.false_eq, decide_eq_false_iff_not]
  exact fun e => hc (by rw [e])
 ·refine xb_ ?_
  refine gA ?_
  (repeat refine xa_ ?_); refine xo_ (fun k : Nat => ⟨[(0, .l1 xs), (1, .l1 ys), (12, .int xs.length), (13, .int k)], []⟩) (fun k => k ≤ xs.length ∧ xs.take k = ys.take k) (fun k => xs.length - k) 0 ⟨Nat.zero_le _, rfl⟩ (by
   refine And.intro ?_ rfl; simp only [leS, Nat.reduceEqDiff, ↓reduceIte, true_and, and_true]
   rfl) (fun k hk => ?_)
  refine gA ?_
  refine gI (fun h1 => ?_) fun h1 => ?_
  ·refine xb_ ?_
   refine gO ?_
   refine gA ?_
   (repeat refine xa_ ?_); refine xV_ (xZ_ hcx) mixed (by kernel_rfl) fun K hK => ?_; simp only [go_sem, seval]; (repeat refine aI (hb := ?_)); refine hK _ ?_; clear hK K
   refine gI (fun h2 => ?_) fun h2 => ?_
   ·refine gA ?_
    refine xd_ (yZ_ rfl ?_)
    simp only [Bool.false_eq, decide_eq_false_iff_not]
    exact zb_ h2
   ·refine xb_ ?_
    refine gB ?_
    refine ⟨k + 1,  ⟨by omega, yJ_ (by omega) (by omega) hk.2 h2⟩, by omega, .inl ⟨?_, rfl⟩⟩; simp only [leS, Nat.reduceEqDiff, ↓reduceIte, true_and, and_true]
    omega
  ·refine xf_ (ye_ ?_)
   refine gA ?_
   refine xd_ (yZ_ rfl ?_)
   have h := hk.2
   rw [List.take_of_length_le (by omega), List.take_of_length_le (by omega)] at h
   simp only [h, decide_true]
theorem YQ_ (xs ys : List (List Int)) : PureCall Try.prog 81 [.l2 xs, .l2 ys, .fn 82 []] (.bool (decide (xs = ys))) := by
 refine gPC 32 [.tmp 6] Try.call81 Try.func81 fun cx hcx => gE ?_
 refine gA ?_
 refine yg_ 0 fun h0 => ?_; simp only [St.get, xh_, Nat.reduceEqDiff, ↓reduceIte, if_true, fact, facts] at h0
 have hlen := h0.1
 refine gA ?_
 refine gI (fun hc => ?_) fun hc => ?_
 ·refine gA ?_
  refine xd_ (yZ_ rfl ?_)
  simp only [Bool.false_eq, decide_eq_false_iff_not]
  exact fun e => hc (by rw [e])
 ·refine xb_ ?_
  refine gA ?_
  (repeat refine xa_ ?_); refine xo_ (fun k : Nat => ⟨[(0, .l2 xs), (1, .l2 ys), (2, .fn 82 []), (15, .l2 xs), (16, .int xs.length), (17, .int k)], []⟩) (fun k => k ≤ xs.length ∧ xs.take k = ys.take k) (fun k => xs.length - k) 0 ⟨Nat.zero_le _, rfl⟩ (by
   refine And.intro ?_ rfl; simp only [leS, Nat.reduceEqDiff, ↓reduceIte, true_and, and_true]
   rfl) (fun k hk => ?_)
  refine gA ?_
  refine gI (fun h1 => ?_) fun h1 => ?_
  ·refine xb_ ?_
   refine gO ?_
   refine gB ?_
   refine gB ?_
   refine gC fun K hK => ?_
   first | refine xi_ (X1_ _ _) rfl ?_ | refine xe_ (xg_ (X1_ _ _) rfl) ?_
   refine gV ?_
   refine hK _ ?_; clear hK K
   refine gI (fun h2 => ?_) fun h2 => ?_
   ·refine gA ?_
    refine xd_ (yZ_ rfl ?_)
    simp only [Bool.false_eq, decide_eq_false_iff_not]
    exact zb_ h2
   ·refine xb_ ?_
    refine gB ?_
    refine ⟨k + 1,  ⟨by omega, yJ_ (by omega) (by omega) hk.2 h2⟩, by omega, .inl ⟨?_, rfl⟩⟩; simp only [leS, Nat.reduceEqDiff, ↓reduceIte, true_and, and_true]
    omega
  ·refine xf_ (ye_ ?_)
   refine gA ?_
   refine xd_ (yZ_ rfl ?_)
   have h := hk.2
   rw [List.take_of_length_le (by omega), List.take_of_length_le (by omega)] at h
   simp only [h, decide_true]
theorem SO_ (r c : Nat) (hr : r ≤ 1048576) (hc : c ≤ 1048576) : FreshCall Try.prog 83 [.int r, .int c] (.l2 (List.replicate r (List.replicate c 0))) := by
 refine gFC 17 [.tmp 4] Try.call83 Try.func83 fun cx hcx => gE ?_
 refine gA ?_
 refine gA ?_
 refine gA ?_
 (repeat refine xa_ ?_); refine xo_ (fun i : Nat => ⟨[(1, .int c), (5, .ref 0 []), (7, .int r), (8, .int i)], [(0, .t2 (List.replicate i (List.replicate c 0)))]⟩) (fun i => i ≤ r) (fun i => r - i) 0 (Nat.zero_le _) (by
  refine And.intro ?_ rfl
  simp only [xN_, St.get, xh_, Nat.reduceEqDiff, ↓reduceIte, true_and, and_true, AV.int.injEq]
  rfl) (fun i hi => ?_)
 have hl : (List.replicate i (List.replicate c (0 : Int))).length = i := List.length_replicate
 refine gA ?_
 refine gI (fun hli => ?_) fun hli => ?_
 ·refine xb_ ?_
  refine gO ?_
  refine gC fun K hK => ?_
  simp only [hl]
  refine gU ?_
  refine hK _ ?_; clear hK K
  refine gB ?_
  refine ⟨i + 1,  by omega, by omega, .inl ⟨gH,  by simp only [List.replicate_succ']⟩⟩
 ·obtain rfl : i = r := by omega
  refine xf_ (ye_ ?_)
  refine gA ?_
  exact xd_ (Xl_ (is := [0]) rfl ⟨rfl, trivial⟩ rfl (by simp))
def trF (a : List (List Int)) (i k : Nat) (p q : Nat) : Int := if q < i ∨ (q = i ∧ p < k) then e2 a q p else 0
theorem UP_ (a : List (List Int)) (h0 : 0 < a.length) (h1 : a.length ≤ 16) (hm : (a.getD 0 []).length ≤ 16) (hr : ∀ i, i < a.length → (a.getD i []).length = (a.getD 0 []).length) : FreshCall Try.prog 96 [.l2 a] (.l2 (Wu_ a)) := by
 have hz := SO_ (a.getD 0 []).length a.length (by omega) (by omega)
 rw [Qs_] at hz
 refine gFC 39 [.tmp 2] Try.call96 Try.func96 fun cx hcx => gE ?_
 refine gA ?_
 refine gC fun K hK => ?_
 refine gU ?_
 refine xK_ rfl (hz) rfl ?_; simp only [go_sem, seval]
 refine hK _ ?_; clear hK K
 refine gA ?_
 (repeat refine xa_ ?_); refine xo_ (fun i : Nat => ⟨[(3, .ref 0 []), (15, .l2 a), (16, .int a.length), (17, .int i)], [(0, .t2 (xy_ (a.getD 0 []).length a.length (trF a i 0)))]⟩) (fun i => i ≤ a.length) (fun i => a.length - i) 0 (Nat.zero_le _) (by
  refine And.intro ?_ (by
   simp only [List.cons_append, List.nil_append]
   rw [show xy_ (a.getD 0 []).length a.length (trF a 0 0) = xy_ (a.getD 0 []).length a.length (fun _ _ => 0) from xC_ fun x _ y _ => if_neg (by omega)])
  simp only [xN_, St.get, xh_, Nat.reduceEqDiff, ↓reduceIte, true_and, and_true, AV.int.injEq]
  rfl) (fun i hi => ?_)
 refine gA ?_
 refine gI (fun hli => ?_) fun hli => ?_
 ·have hri := hr i (by omega)
  refine xb_ ?_
  refine gO ?_
  refine gB ?_
  refine gA ?_
  (repeat refine xa_ ?_); refine xo_ (fun k : Nat => ⟨[(3, .ref 0 []), (15, .l2 a), (16, .int a.length), (17, .int i), (4, .int i), (22, .l1 (a.getD i [])), (23, .int (a.getD i []).length), (24, .int k)], [(0, .t2 (xy_ (a.getD 0 []).length a.length (trF a i k)))]⟩) (fun k => k ≤ (a.getD i []).length) (fun k => (a.getD i []).length - k) 0 (Nat.zero_le _) (by
   refine And.intro ?_ rfl
   simp only [xN_, St.get, xh_, Nat.reduceEqDiff, ↓reduceIte, true_and, and_true, AV.int.injEq]
   rfl) (fun k hk => ?_)
  refine gA ?_
  refine gI (fun hlk => ?_) fun hlk => ?_
  ·have hg := xF_ (r := (a.getD 0 []).length) (c := a.length) (f := trF a i k) (show k < (a.getD 0 []).length by omega)
   have hstep : (xy_ (a.getD 0 []).length a.length (trF a i k)).set k ((xU_ a.length (trF a i k k)).set i ((a.getD i []).getD k 0)) = xy_ (a.getD 0 []).length a.length (trF a i (k + 1)) := by
    rw [← hg, X0_ (show k < (a.getD 0 []).length by omega)]
    refine xC_ fun x hx y hy => ?_
    unfold trF
    by_cases h1 : x = k ∧ y = i
    ·rw [if_pos h1, if_pos (.inr ⟨h1.2, by omega⟩), h1.1, h1.2]
    ·rw [if_neg h1]
     by_cases h3 : y < i ∨ (y = i ∧ x < k)
     ·rw [if_pos h3, if_pos (by omega)]
     ·rw [if_neg h3, if_neg (by omega)]
   refine xb_ ?_
   refine gO ?_
   refine gB ?_
   refine gC fun K hK => ?_
   simp only [xx_, hg, xn_]
   refine gU ?_
   refine hK _ ?_; clear hK K
   refine gB ?_
   refine ⟨k + 1,  by omega, by omega, .inl ⟨gH,  by rw [hstep]⟩⟩
  ·refine xf_ (ye_ (yf_ (Vq_ ?_)))
   refine gB ?_
   refine ⟨i + 1,  by omega, by omega, .inl ⟨gH,  by rw [show xy_ (a.getD 0 []).length a.length (trF a (i + 1) 0) = xy_ (a.getD 0 []).length a.length (trF a i k) from xC_ fun x hx y hy => by unfold trF; by_cases h3 : y < i ∨ (y = i ∧ x < k); rw [if_pos h3, if_pos (by omega)]; rw [if_neg h3, if_neg (by omega)]]⟩⟩
 ·obtain rfl : i = a.length := by omega
  have e : xy_ (a.getD 0 []).length a.length (trF a a.length 0) = Wu_ a := by
   rw [Yu_]
   exact xC_ fun x hx y hy => if_pos (.inl hy)
  refine xf_ (ye_ ?_)
  refine gA ?_
  rw [e]
  exact xd_ (Xl_ (is := [0]) rfl ⟨rfl, trivial⟩ rfl (by simp))
end Go.Proofs.Ytlngnhbochmcoaa
