import Derived.Test.YtlngnhbochmcoaaTy
import Derived.Test.YtlngnhbochmcoaaPl1
set_option linter.unusedSimpArgs false
set_option linter.unusedVariables false
namespace Go.Proofs.Ytlngnhbochmcoaa
open Go Go.Aw
theorem mixed : Try.prog.follows .mixedOrders = true := by kernel_rfl
theorem Zn_ (xs ys : List Int) : PureCall Try.prog 42 [.l1 xs, .l1 ys] (.bool (decide (xs = ys))) := by
 refine gPC 26 [.tmp 4] Try.call42 Try.func42 fun cx hcx => gE ?_
 refine gA ?_
 refine yg_ 0 fun h0 => ?_; simp only [St.get, xh_, Nat.reduceEqDiff, ↓reduceIte, if_true, fact, facts] at h0
 refine gA ?_
 refine gI (fun hc => ?_) fun hc => ?_
 ·refine gA ?_
  refine xd_ (yZ_ rfl ?_)
  simp only [Bool.false_eq, decide_eq_false_iff_not]
  exact fun e => hc (by rw [e])
 ·refine xb_ ?_
  refine gA ?_
  (repeat refine xa_ ?_); refine xo_ (fun k : Nat => ⟨[(0, .l1 xs), (1, .l1 ys), (5, .int k)], []⟩) (fun k => k ≤ xs.length ∧ xs.take k = ys.take k) (fun k => xs.length - k) 0 ⟨Nat.zero_le _, rfl⟩ (by
   refine And.intro ?_ rfl; simp only [leS, Nat.reduceEqDiff, ↓reduceIte, true_and, and_true]
   rfl) (fun k hk => ?_)
  refine gA ?_
  refine gI (fun h1 => ?_) fun h1 => ?_
  ·refine xb_ ?_
   refine gO ?_
   (repeat refine xa_ ?_); refine xV_ (xZ_ hcx) mixed (by kernel_rfl) fun K hK => ?_; simp only [go_sem, seval]; (repeat refine aI (hb := ?_)); refine hK _ ?_; clear hK K
   refine gI (fun h2 => ?_) fun h2 => ?_
   ·refine gA ?_
    refine xd_ (yZ_ rfl ?_)
    simp only [Bool.false_eq, decide_eq_false_iff_not]
    exact zb_ h2
   ·refine xb_ ?_
    have := h0.1
    refine gB ?_
    refine ⟨k + 1,  ⟨by omega, yJ_ (by omega) (by omega) hk.2 h2⟩, by omega, .inl ⟨?_, rfl⟩⟩; simp only [leS, Nat.reduceEqDiff, ↓reduceIte, true_and, and_true]
    omega
  ·refine xf_ (ye_ ?_)
   refine gA ?_
   refine xd_ (yZ_ rfl ?_)
   have e : k = xs.length := by omega
   have h := hk.2
   rw [List.take_of_length_le (by omega), List.take_of_length_le (by omega)] at h
   simp only [h, decide_true]
open Go.Pl
theorem Zo_ (xs : List Int) (l : Int) (hl : 0 ≤ l) : PureCall Try.prog 24 [.l1 xs, .int l] (.int (sz1 xs l)) := by
 refine gPC 12 [.tmp 4] Try.call24 Try.func24 fun cx hcx => gE ?_
 refine gA ?_
 refine yg_ 0 fun h0 => ?_; simp only [St.get, xh_, Nat.reduceEqDiff, ↓reduceIte, if_true, fact, facts] at h0
 refine yg_ 1 fun h1 => ?_; simp only [St.get, xh_, Nat.reduceEqDiff, ↓reduceIte, if_true, fact, facts] at h1
 have := h0.1; have := h1.1; have := h1.2
 refine gB ?_
 refine gA ?_
 refine gI (fun hc => ?_) fun hc => ?_
 ·refine gA ?_
  refine xd_ (zW_ rfl ?_)
  simp only [sz1, if_pos hc]
 ·refine xb_ ?_
  refine gA ?_
  refine xd_ (zW_ rfl ?_)
  simp only [sz1, if_neg hc]
theorem YI_ (xs : List (List Int)) (l : Int) (hl : 0 ≤ l) : PureCall Try.prog 15 [.l2 xs, .int l] (.int (sz2 xs l)) := by
 refine gPC 27 [.tmp 4] Try.call15 Try.func15 fun cx hcx => gE ?_
 refine gA ?_
 refine yg_ 0 fun h0 => ?_; simp only [St.get, xh_, Nat.reduceEqDiff, ↓reduceIte, if_true, fact, facts] at h0
 refine yg_ 1 fun h1 => ?_; simp only [St.get, xh_, Nat.reduceEqDiff, ↓reduceIte, if_true, fact, facts] at h1
 have := h0.1; have := h1.1; have := h1.2
 refine gB ?_
 refine gA ?_
 refine gI (fun hc => ?_) fun hc => ?_
 ·refine gA ?_
  refine xd_ (zW_ rfl ?_)
  simp only [sz2, sz0, if_pos hc]
 ·refine xb_ ?_
  refine gA ?_
  (repeat refine xa_ ?_); refine xo_ (fun p : Nat × Int => ⟨[(0, .l2 xs), (1, .int p.2), (5, .int p.1)], []⟩) (fun p => p.1 ≤ xs.length ∧ 0 ≤ p.2 ∧ szs sz1 (xs.drop p.1) p.2 = sz2 xs l) (fun p => xs.length - p.1) (0, l - xs.length) ⟨Nat.zero_le _, by omega, by simp only [sz2, sz0, if_neg hc, List.drop_zero]⟩ (by
   refine And.intro ?_ rfl; simp only [leS, Nat.reduceEqDiff, ↓reduceIte, true_and, and_true]
   rfl) (fun p hp => ?_)
  obtain ⟨k, m⟩ := p
  obtain ⟨hk, hm, he⟩ := hp
  simp only at hk hm he
  refine gA ?_
  refine gI (fun h1 => ?_) fun h1 => ?_
  ·have hst := SL_ (f := sz1) (d := []) (show k < xs.length by omega) m
   refine xb_ ?_
   refine gO ?_
   refine gC fun K hK => ?_
   refine gU ?_
   first | refine xi_ (Zo_ _ _ hm) rfl ?_ | refine xe_ (xg_ (Zo_ _ _ hm) rfl) ?_
   refine gV ?_
   refine hK _ ?_; clear hK K
   refine gA ?_
   refine gI (fun h2 => ?_) fun h2 => ?_
   ·refine gA ?_
    refine xd_ (zW_ rfl ?_)
    rw [← he, hst, if_pos h2]
   ·refine xb_ ?_
    refine gB ?_
    rw [if_neg h2] at hst
    refine ⟨(k + 1, sz1 (xs.getD k []) m),  ⟨by simp only; omega, by simp only; omega, by rw [← he, hst]⟩, by omega, .inl ⟨?_, rfl⟩⟩; simp only [leS, Nat.reduceEqDiff, ↓reduceIte, true_and, and_true]
    omega
  ·refine xf_ (ye_ ?_)
   refine gA ?_
   refine xd_ (zW_ rfl ?_)
   rw [← he, Jk_ (by omega)]
theorem XA_ (xs : List (List (List Int))) (l : Int) (hl : 0 ≤ l) : PureCall Try.prog 9 [.l3 xs, .int l] (.int (sz3 xs l)) := by
 refine gPC 27 [.tmp 4] Try.call9 Try.func9 fun cx hcx => gE ?_
 refine gA ?_
 refine yg_ 0 fun h0 => ?_; simp only [St.get, xh_, Nat.reduceEqDiff, ↓reduceIte, if_true, fact, facts] at h0
 refine yg_ 1 fun h1 => ?_; simp only [St.get, xh_, Nat.reduceEqDiff, ↓reduceIte, if_true, fact, facts] at h1
 have := h0.1; have := h1.1; have := h1.2
 refine gB ?_
 refine gA ?_
 refine gI (fun hc => ?_) fun hc => ?_
 ·refine gA ?_
  refine xd_ (zW_ rfl ?_)
  simp only [sz3, sz0, if_pos hc]
 ·refine xb_ ?_
  refine gA ?_
  (repeat refine xa_ ?_); refine xo_ (fun p : Nat × Int => ⟨[(0, .l3 xs), (1, .int p.2), (5, .int p.1)], []⟩) (fun p => p.1 ≤ xs.length ∧ 0 ≤ p.2 ∧ szs sz2 (xs.drop p.1) p.2 = sz3 xs l) (fun p => xs.length - p.1) (0, l - xs.length) ⟨Nat.zero_le _, by omega, by simp only [sz3, sz0, if_neg hc, List.drop_zero]⟩ (by
   refine And.intro ?_ rfl; simp only [leS, Nat.reduceEqDiff, ↓reduceIte, true_and, and_true]
   rfl) (fun p hp => ?_)
  obtain ⟨k, m⟩ := p
  obtain ⟨hk, hm, he⟩ := hp
  simp only at hk hm he
  refine gA ?_
  refine gI (fun h1 => ?_) fun h1 => ?_
  ·have hst := SL_ (f := sz2) (d := []) (show k < xs.length by omega) m
   refine xb_ ?_
   refine gO ?_
   refine gC fun K hK => ?_
   refine gU ?_
   first | refine xi_ (YI_ _ _ hm) rfl ?_ | refine xe_ (xg_ (YI_ _ _ hm) rfl) ?_
   refine gV ?_
   refine hK _ ?_; clear hK K
   refine gA ?_
   refine gI (fun h2 => ?_) fun h2 => ?_
   ·refine gA ?_
    refine xd_ (zW_ rfl ?_)
    rw [← he, hst, if_pos h2]
   ·refine xb_ ?_
    refine gB ?_
    rw [if_neg h2] at hst
    refine ⟨(k + 1, sz2 (xs.getD k []) m),  ⟨by simp only; omega, by simp only; omega, by rw [← he, hst]⟩, by omega, .inl ⟨?_, rfl⟩⟩; simp only [leS, Nat.reduceEqDiff, ↓reduceIte, true_and, and_true]
    omega
  ·refine xf_ (ye_ ?_)
   refine gA ?_
   refine xd_ (zW_ rfl ?_)
   rw [← he, Jk_ (by omega)]
theorem YJ_ (xs ys : List (List Int)) : PureCall Try.prog 23 [.l2 xs, .l2 ys] (.bool (decide (xs = ys))) := by
 refine gPC 27 [.tmp 4] Try.call23 Try.func23 fun cx hcx => gE ?_
 refine gA ?_
 refine yg_ 0 fun h0 => ?_; simp only [St.get, xh_, Nat.reduceEqDiff, ↓reduceIte, if_true, fact, facts] at h0
 refine gA ?_
 refine gI (fun hc => ?_) fun hc => ?_
 ·refine gA ?_
  refine xd_ (yZ_ rfl ?_)
  simp only [Bool.false_eq, decide_eq_false_iff_not]
  exact fun e => hc (by rw [e])
 ·refine xb_ ?_
  refine gA ?_
  (repeat refine xa_ ?_); refine xo_ (fun k : Nat => ⟨[(0, .l2 xs), (1, .l2 ys), (5, .int k)], []⟩) (fun k => k ≤ xs.length ∧ xs.take k = ys.take k) (fun k => xs.length - k) 0 ⟨Nat.zero_le _, rfl⟩ (by
   refine And.intro ?_ rfl; simp only [leS, Nat.reduceEqDiff, ↓reduceIte, true_and, and_true]
   rfl) (fun k hk => ?_)
  refine gA ?_
  refine gI (fun h1 => ?_) fun h1 => ?_
  ·refine xb_ ?_
   refine gO ?_
   (repeat refine xa_ ?_); refine xV_ (xZ_ hcx) mixed (by kernel_rfl) fun K hK => ?_; simp only [go_sem, seval]
   refine gU ?_
   first | refine xM_ rfl rfl (Zn_ _ _) ?_ | refine xe_ (xG_ rfl rfl (Zn_ _ _)) ?_
   refine gV ?_
   refine hK _ ?_; clear hK K
   refine gI (fun h2 => ?_) fun h2 => ?_
   ·refine gA ?_
    refine xd_ (yZ_ rfl ?_)
    simp only [Bool.false_eq, decide_eq_false_iff_not]
    exact zb_ h2
   ·refine xb_ ?_
    have := h0.1
    refine gB ?_
    refine ⟨k + 1,  ⟨by omega, yJ_ (by omega) (by omega) hk.2 h2⟩, by omega, .inl ⟨?_, rfl⟩⟩; simp only [leS, Nat.reduceEqDiff, ↓reduceIte, true_and, and_true]
    omega
  ·refine xf_ (ye_ ?_)
   refine gA ?_
   refine xd_ (yZ_ rfl ?_)
   have e : k = xs.length := by omega
   have h := hk.2
   rw [List.take_of_length_le (by omega), List.take_of_length_le (by omega)] at h
   simp only [h, decide_true]
theorem XB_ (xs ys : List (List (List Int))) : PureCall Try.prog 14 [.l3 xs, .l3 ys] (.bool (decide (xs = ys))) := by
 refine gPC 27 [.tmp 4] Try.call14 Try.func14 fun cx hcx => gE ?_
 refine gA ?_
 refine yg_ 0 fun h0 => ?_; simp only [St.get, xh_, Nat.reduceEqDiff, ↓reduceIte, if_true, fact, facts] at h0
 refine gA ?_
 refine gI (fun hc => ?_) fun hc => ?_
 ·refine gA ?_
  refine xd_ (yZ_ rfl ?_)
  simp only [Bool.false_eq, decide_eq_false_iff_not]
  exact fun e => hc (by rw [e])
 ·refine xb_ ?_
  refine gA ?_
  (repeat refine xa_ ?_); refine xo_ (fun k : Nat => ⟨[(0, .l3 xs), (1, .l3 ys), (5, .int k)], []⟩) (fun k => k ≤ xs.length ∧ xs.take k = ys.take k) (fun k => xs.length - k) 0 ⟨Nat.zero_le _, rfl⟩ (by
   refine And.intro ?_ rfl; simp only [leS, Nat.reduceEqDiff, ↓reduceIte, true_and, and_true]
   rfl) (fun k hk => ?_)
  refine gA ?_
  refine gI (fun h1 => ?_) fun h1 => ?_
  ·refine xb_ ?_
   refine gO ?_
   (repeat refine xa_ ?_); refine xV_ (xZ_ hcx) mixed (by kernel_rfl) fun K hK => ?_; simp only [go_sem, seval]
   refine gU ?_
   first | refine xM_ rfl rfl (YJ_ _ _) ?_ | refine xe_ (xG_ rfl rfl (YJ_ _ _)) ?_
   refine gV ?_
   refine hK _ ?_; clear hK K
   refine gI (fun h2 => ?_) fun h2 => ?_
   ·refine gA ?_
    refine xd_ (yZ_ rfl ?_)
    simp only [Bool.false_eq, decide_eq_false_iff_not]
    exact zb_ h2
   ·refine xb_ ?_
    have := h0.1
    refine gB ?_
    refine ⟨k + 1,  ⟨by omega, yJ_ (by omega) (by omega) hk.2 h2⟩, by omega, .inl ⟨?_, rfl⟩⟩; simp only [leS, Nat.reduceEqDiff, ↓reduceIte, true_and, and_true]
    omega
  ·refine xf_ (ye_ ?_)
   refine gA ?_
   refine xd_ (yZ_ rfl ?_)
   have e : k = xs.length := by omega
   have h := hk.2
   rw [List.take_of_length_le (by omega), List.take_of_length_le (by omega)] at h
   simp only [h, decide_true]
theorem QZ_ (t : List (List (List Int))) (l : Int) (hl : 0 ≤ l) : PureCall Try.prog 4 [.agg [.l3 t], .int l] (.int (sz3 t l)) := by
 refine gPC 12 [.tmp 4] Try.call4 Try.func4 fun cx hcx => gE ?_
 refine gA ?_
 refine gC fun K hK => ?_
 first | refine xM_ rfl rfl (XA_ _ _ hl) ?_ | refine xe_ (xG_ rfl rfl (XA_ _ _ hl)) ?_
 refine gV ?_
 refine hK _ ?_; clear hK K
 have h3 := Jj_ t l hl
 refine gA ?_
 refine gI (fun hc => ?_) fun hc => ?_
 ·refine gA ?_
  refine xd_ (zW_ rfl ?_)
  omega
 ·refine xb_ ?_
  refine gA ?_
  refine xd_ (zW_ rfl ?_)
  rfl
theorem Q0_ (t t' : List (List (List Int))) : PureCall Try.prog 8 [.agg [.l3 t], .agg [.l3 t']] (.bool (decide (t = t'))) := by
 refine gPC 11 [.tmp 4] Try.call8 Try.func8 fun cx hcx => gE ?_
 refine gA ?_
 refine gC fun K hK => ?_
 first | refine xM_ rfl rfl (XB_ _ _) ?_ | refine xe_ (xG_ rfl rfl (XB_ _ _)) ?_
 refine gV ?_
 refine hK _ ?_; clear hK K
 refine gI (fun hc => ?_) fun hc => ?_
 ·refine gA ?_
  refine xd_ (yZ_ rfl ?_)
  simp only [Bool.false_eq, decide_eq_false_iff_not]; exact hc
 ·refine xb_ ?_
  refine gA ?_
  refine xd_ (yZ_ rfl ?_)
  simp only [hc, decide_true]
theorem Tk_ (xs : List Int) (hl : xs.length ≤ 1099511627776) : FreshCall Try.prog 32 [.l1 xs] (.l1 xs) := by
 refine gFC 22 [.tmp 2] Try.call32 Try.func32 fun cx hcx => gE ?_
 refine gA ?_
 refine yg_ 0 fun h0 => ?_; simp only [St.get, xh_, Nat.reduceEqDiff, ↓reduceIte, if_true, fact, facts] at h0
 refine gB ?_
 refine gA ?_
 (repeat refine xa_ ?_); refine xo_ (fun k : Nat => ⟨[(0, .l1 xs), (3, .ref 0 []), (4, .int k)], [(0, .t1 (fill 0 xs k))]⟩) (fun k => k ≤ xs.length) (fun k => xs.length - k) 0 (Nat.zero_le _) (by
  refine And.intro ?_ (by simp only [ZY_])
  simp only [xN_, St.get, xh_, Nat.reduceEqDiff, ↓reduceIte, true_and, and_true]
  rfl) (fun k hk => ?_)
 refine gA ?_
 refine gI (fun h1 => ?_) fun h1 => ?_
 ·refine xb_ ?_
  refine gO ?_
  have hfl := zi_ (d := (0 : Int)) hk
  refine gC fun K hK => ?_
  (repeat refine And.intro (by (first | omega | (rw [zi_ hk]; omega))) ?_)
  refine hK _ ?_; clear hK K
  refine gB ?_
  refine ⟨k + 1,  by omega, by omega, .inl ⟨gH,  by simp only [ZZ_ (show k < xs.length by omega)]⟩⟩
 ·refine xf_ (ye_ ?_)
  refine gA ?_
  simp only [VE_ (d := (0 : Int)) (show xs.length ≤ k by omega)]
  exact xd_ (Xl_ rfl ⟨rfl, trivial⟩ rfl (by simp))
theorem Ug_ (xs : List (List Int)) (hl : xs.length ≤ 1099511627776 ∧ ∀ x ∈ xs, x.length ≤ 1099511627776) : FreshCall Try.prog 20 [.l2 xs] (.l2 xs) := by
 refine gFC 23 [.tmp 2] Try.call20 Try.func20 fun cx hcx => gE ?_
 refine gA ?_
 refine yg_ 0 fun h0 => ?_; simp only [St.get, xh_, Nat.reduceEqDiff, ↓reduceIte, if_true, fact, facts] at h0
 have hl0 := hl.1
 refine gB ?_
 refine gA ?_
 (repeat refine xa_ ?_); refine xo_ (fun k : Nat => ⟨[(0, .l2 xs), (3, .ref 0 []), (4, .int k)], [(0, .t2 (fill [] xs k))]⟩) (fun k => k ≤ xs.length) (fun k => xs.length - k) 0 (Nat.zero_le _) (by
  refine And.intro ?_ (by simp only [ZY_])
  simp only [xN_, St.get, xh_, Nat.reduceEqDiff, ↓reduceIte, true_and, and_true]
  rfl) (fun k hk => ?_)
 refine gA ?_
 refine gI (fun h1 => ?_) fun h1 => ?_
 ·refine xb_ ?_
  refine gO ?_
  have hfl := zi_ (d := ([] : List Int)) hk
  refine gC fun K hK => ?_
  refine gU ?_
  refine xK_ rfl (Tk_ (xs.getD k []) (hl.2 _ (getD_mem (by omega)))) rfl ?_; simp only [go_sem, seval]
  (repeat refine And.intro (by (first | omega | (rw [zi_ hk]; omega))) ?_)
  refine hK _ ?_; clear hK K
  refine gB ?_
  refine ⟨k + 1,  by omega, by omega, .inl ⟨gH,  by simp only [ZZ_ (show k < xs.length by omega)]⟩⟩
 ·refine xf_ (ye_ ?_)
  refine gA ?_
  simp only [VE_ (d := ([] : List Int)) (show xs.length ≤ k by omega)]
  exact xd_ (Xl_ rfl ⟨rfl, trivial⟩ rfl (by simp))
theorem Vc_ (xs : List (List (List Int))) (hl : xs.length ≤ 1099511627776 ∧ ∀ x ∈ xs, x.length ≤ 1099511627776 ∧ ∀ y ∈ x, y.length ≤ 1099511627776) : FreshCall Try.prog 12 [.l3 xs] (.l3 xs) := by
 refine gFC 23 [.tmp 2] Try.call12 Try.func12 fun cx hcx => gE ?_
 refine gA ?_
 refine yg_ 0 fun h0 => ?_; simp only [St.get, xh_, Nat.reduceEqDiff, ↓reduceIte, if_true, fact, facts] at h0
 have hl0 := hl.1
 refine gB ?_
 refine gA ?_
 (repeat refine xa_ ?_); refine xo_ (fun k : Nat => ⟨[(0, .l3 xs), (3, .ref 0 []), (4, .int k)], [(0, .t3 (fill [] xs k))]⟩) (fun k => k ≤ xs.length) (fun k => xs.length - k) 0 (Nat.zero_le _) (by
  refine And.intro ?_ (by simp only [ZY_])
  simp only [xN_, St.get, xh_, Nat.reduceEqDiff, ↓reduceIte, true_and, and_true]
  rfl) (fun k hk => ?_)
 refine gA ?_
 refine gI (fun h1 => ?_) fun h1 => ?_
 ·refine xb_ ?_
  refine gO ?_
  have hfl := zi_ (d := ([] : List (List Int))) hk
  refine gC fun K hK => ?_
  refine gU ?_
  refine xK_ rfl (Ug_ (xs.getD k []) (hl.2 _ (getD_mem (by omega)))) rfl ?_; simp only [go_sem, seval]
  (repeat refine And.intro (by (first | omega | (rw [zi_ hk]; omega))) ?_)
  refine hK _ ?_; clear hK K
  refine gB ?_
  refine ⟨k + 1,  by omega, by omega, .inl ⟨gH,  by simp only [ZZ_ (show k < xs.length by omega)]⟩⟩
 ·refine xf_ (ye_ ?_)
  refine gA ?_
  simp only [VE_ (d := ([] : List (List Int))) (show xs.length ≤ k by omega)]
  exact xd_ (Xl_ rfl ⟨rfl, trivial⟩ rfl (by simp))
def as3 (t : List (List (List Int))) : Prop := t.length ≤ 1099511627776 ∧ ∀ x ∈ t, x.length ≤ 1099511627776 ∧ ∀ y ∈ x, y.length ≤ 1099511627776
theorem Q1_ (t : List (List (List Int))) (hl : as3 t) : FreshCall Try.prog 6 [.agg [.l3 t]] (.agg [.l3 t]) := by
 refine gFC 9 [.cell 2 28] Try.call6 Try.func6 fun cx hcx => gE ?_
 refine gA ?_
 refine gA ?_
 refine gC fun K hK => ?_
 refine xK_ rfl (Vc_ t hl) rfl ?_; simp only [go_sem, seval]
 refine hK _ ?_; clear hK K
 refine gA ?_
 exact xd_ (bi7 (v := .agg [.ref 3 []]) (by simp only [go_sem, seval]) rfl (by simp))
theorem Ss_ {α : Type} {f : α → Int → Int} {n : α → Nat} {p : α → Prop} (B : Int) (hf : ∀ x l, 0 ≤ l → l ≤ B → ¬ f x l < 0 → p x ∧ f x l ≤ l - (n x : Nat)) : ∀ (xs : List α) (l : Int), 0 ≤ l → l ≤ B → ¬ szs f xs l < 0 → (∀ x ∈ xs, p x) ∧ szs f xs l ≤ l - (tot n xs : Nat)
 | [], l, _, _, _ => by simp [szs, tot]
 | x :: xs, l, h0, hB, h => by
  simp only [szs] at h ⊢
  by_cases h1 : f x l < 0
  ·rw [if_pos h1] at h; exact absurd (by decide) h
  ·rw [if_neg h1] at h ⊢
   obtain ⟨k1, k2⟩ := hf x l h0 hB h1
   obtain ⟨j1, j2⟩ := Ss_ B hf xs (f x l) (by omega) (by omega) h
   refine ⟨fun y hy => ?_, by simp only [tot]; omega⟩
   rcases List.mem_cons.1 hy with rfl | hy
   ·exact k1
   ·exact j1 y hy
theorem St_ {α : Type} {f : α → Int → Int} {n : α → Nat} {p : α → Prop} (B : Int) (hf : ∀ x l, 0 ≤ l → l ≤ B → ¬ f x l < 0 → p x ∧ f x l ≤ l - (n x : Nat)) (xs : List α) (l : Int) (hB : l ≤ B) (h : ¬ sz0 f xs l < 0) : ((xs.length : Int) ≤ B ∧ ∀ x ∈ xs, p x) ∧ sz0 f xs l ≤ l - (tot n xs : Nat) := by
 unfold sz0 at h ⊢
 by_cases h1 : l - xs.length < 0
 ·rw [if_pos h1] at h; exact absurd (by decide) h
 ·rw [if_neg h1] at h ⊢
  obtain ⟨j1, j2⟩ := Ss_ B hf xs (l - xs.length) (by omega) (by omega) h
  exact ⟨⟨by omega, j1⟩, by omega⟩
theorem Q2_ {t : List (List (List Int))} {l : Int} (hl : l ≤ 1048576) (h : ¬ sz3 t l < 0) (_h0 : 0 ≤ l) : as3 t ∧ (bi9 t : Nat) ≤ l := by
 have c1 : ∀ (x : List Int) (l : Int), 0 ≤ l → l ≤ 1048576 → ¬ sz1 x l < 0 → (x.length : Int) ≤ 1048576 ∧ sz1 x l ≤ l - (x.length : Nat) := fun x l _ hl h => by
  unfold sz1 at h ⊢
  by_cases h1 : l - x.length < 0
  ·rw [if_pos h1] at h; exact absurd (by decide) h
  ·rw [if_neg h1]; omega
 have c2 := fun (x : List (List Int)) (l : Int) (_ : 0 ≤ l) (hl : l ≤ 1048576) (h : ¬ sz2 x l < 0) => St_ (n := List.length) (p := fun x => (x.length : Int) ≤ 1048576) 1048576 c1 x l hl h
 have c3 := St_ (f := sz2) (n := tot List.length) (p := fun x => (x.length : Int) ≤ 1048576 ∧ ∀ y ∈ x, (y.length : Int) ≤ 1048576) 1048576 c2 t l hl h
 have hpos := (Jj_ t l _h0).resolve_left (fun e => h (by rw [e]; decide))
 obtain ⟨⟨k1, k2⟩, k3⟩ := c3
 refine ⟨⟨by omega, fun x hx => ⟨by have := (k2 x hx).1; omega, fun y hy => by have := (k2 x hx).2 y hy; omega⟩⟩, ?_⟩
 have : sz3 t l ≤ l - (bi9 t : Nat) := k3
 omega
theorem Y3_ (n a b : Int) : PureCall Try.prog 43 [.int n, .int a, .int b] (.bool (decide (a ≤ n) && decide (n ≤ b))) := by
 refine gPC 15 [.tmp 6] Try.call43 Try.func43 fun cx hcx => gE ?_
 refine gA ?_
 refine gA ?_
 refine xd_ (yZ_ rfl ?_)
 rfl
theorem Rq_ (t : List (List (List Int))) : PureCall Try.prog 25 [.l3 t] (.bool (bd (Cube t))) := by
 refine gPC 59 [.tmp 2] Try.call25 Try.func25 fun cx hcx => gE ?_
 refine gA ?_
 refine gA ?_
 refine gA ?_
 refine gI (fun hc => ?_) fun hc => ?_
 ·simp only [Bool.or_eq_true, Bool.or_eq_false_iff, Bool.and_eq_true, Bool.and_eq_false_iff, decide_eq_true_eq, decide_eq_false_iff_not, Bool.not_eq_true', Bool.not_eq_false'] at hc
  refine gA ?_
  refine xd_ (yZ_ rfl ?_)
  exact (yn_ (fun h => by have := h.1; have := h.2.1; omega)).symm
 ·simp only [Bool.or_eq_true, Bool.or_eq_false_iff, Bool.and_eq_true, Bool.and_eq_false_iff, decide_eq_true_eq, decide_eq_false_iff_not, Bool.not_eq_true', Bool.not_eq_false'] at hc
  refine xb_ ?_
  refine gA ?_
  (repeat refine xa_ ?_); refine xo_ (fun i : Nat => ⟨[(0, .l3 t), (3, .int t.length), (4, .int i)], []⟩) (fun i => i ≤ t.length ∧ ∀ a, a < i → MatOk t.length (t.getD a [])) (fun i => t.length - i) 0 ⟨Nat.zero_le _, fun a h => absurd h (Nat.not_lt_zero a)⟩ (by
   refine And.intro ?_ rfl; simp only [leS, Nat.reduceEqDiff, ↓reduceIte, true_and, and_true]
   rfl) (fun i hi => ?_)
  obtain ⟨hi, hI⟩ := hi
  refine gA ?_
  refine gI (fun h1 => ?_) fun h1 => ?_
  ·refine xb_ ?_
   refine gO ?_
   refine gB ?_
   refine gI (fun h2 => ?_) fun h2 => ?_
   ·refine gA ?_
    refine xd_ (yZ_ rfl ?_)
    exact (yn_ (fun h => h2 (by rw [(h.2.2 i (by omega)).1]))).symm
   ·refine xb_ ?_
    refine gA ?_
    (repeat refine xa_ ?_); refine xo_ (fun j : Nat => ⟨[(0, .l3 t), (3, .int t.length), (4, .int i), (5, .int j)], []⟩) (fun j => j ≤ t.length ∧ ∀ a, a < j → Qq_ t.length ((t.getD i []).getD a [])) (fun j => t.length - j) 0 ⟨Nat.zero_le _, fun a h => absurd h (Nat.not_lt_zero a)⟩ (by
     refine And.intro ?_ rfl; simp only [leS, Nat.reduceEqDiff, ↓reduceIte, true_and, and_true]
     rfl) (fun j hj => ?_)
    obtain ⟨hj, hJ⟩ := hj
    refine gA ?_
    refine gI (fun h3 => ?_) fun h3 => ?_
    ·refine xb_ ?_
     refine gO ?_
     refine gB ?_
     refine gI (fun h4 => ?_) fun h4 => ?_
     ·refine gA ?_
      refine xd_ (yZ_ rfl ?_)
      exact (yn_ (fun h => h4 (by rw [((h.2.2 i (by omega)).2 j (by omega)).1]))).symm
     ·refine xb_ ?_
      refine gA ?_
      (repeat refine xa_ ?_); refine xo_ (fun k : Nat => ⟨[(0, .l3 t), (3, .int t.length), (4, .int i), (5, .int j), (6, .int k)], []⟩) (fun k => k ≤ t.length ∧ ∀ a, a < k → InM (e3 t i j a)) (fun k => t.length - k) 0 ⟨Nat.zero_le _, fun a h => absurd h (Nat.not_lt_zero a)⟩ (by
       refine And.intro ?_ rfl; simp only [leS, Nat.reduceEqDiff, ↓reduceIte, true_and, and_true]
       rfl) (fun k hk => ?_)
      obtain ⟨hk, hK'⟩ := hk
      refine gA ?_
      refine gI (fun h5 => ?_) fun h5 => ?_
      ·refine xb_ ?_
       refine gO ?_
       refine gC fun K hK => ?_
       refine gU ?_
       first | refine xi_ (Y3_ _ _ _) rfl ?_ | refine xe_ (xg_ (Y3_ _ _ _) rfl) ?_
       refine gV ?_
       refine hK _ ?_; clear hK K
       refine gI (fun h6 => ?_) fun h6 => ?_
       ·refine gA ?_
        refine xd_ (yZ_ rfl ?_)
        refine (yn_ (fun h => ?_)).symm
        have hm := ((h.2.2 i (by omega)).2 j (by omega)).2 k (by omega)
        simp only [Bool.not_eq_true', Bool.and_eq_false_iff, decide_eq_false_iff_not] at h6
        exact h6.elim (fun h => h hm.1) (fun h => h hm.2)
       ·simp only [Bool.not_eq_false', Bool.and_eq_true, decide_eq_true_eq] at h6
        refine xb_ ?_
        refine gB ?_
        refine ⟨k + 1,  ⟨by omega, fun a ha => by rcases Nat.lt_succ_iff_lt_or_eq.1 ha with h | rfl; exact hK' a h; exact h6⟩, by omega, .inl ⟨?_, rfl⟩⟩; simp only [leS, Nat.reduceEqDiff, ↓reduceIte, true_and, and_true]
        omega
      ·refine xf_ (ye_ (yf_ (Vq_ ?_)))
       refine gB ?_
       refine ⟨j + 1,  ⟨by omega, fun a ha => by rcases Nat.lt_succ_iff_lt_or_eq.1 ha with h | rfl; exact hJ a h; exact ⟨by omega, fun k' hk2 => hK' k' (by omega)⟩⟩, by omega, .inl ⟨?_, rfl⟩⟩; simp only [leS, Nat.reduceEqDiff, ↓reduceIte, true_and, and_true]
       omega
    ·refine xf_ (ye_ (yf_ (Vq_ ?_)))
     refine gB ?_
     refine ⟨i + 1,  ⟨by omega, fun a ha => by rcases Nat.lt_succ_iff_lt_or_eq.1 ha with h | rfl; exact hI a h; exact ⟨by omega, fun k' hk2 => hJ k' (by omega)⟩⟩, by omega, .inl ⟨?_, rfl⟩⟩; simp only [leS, Nat.reduceEqDiff, ↓reduceIte, true_and, and_true]
     omega
  ·refine xf_ (ye_ ?_)
   refine gA ?_
   refine xd_ (yZ_ rfl ?_)
   exact (zj_ ⟨by omega, by omega, fun a ha => hI a (by omega)⟩).symm
theorem Uh_ (n a b : Int) : PureCall Try.prog 92 [.int n, .int a, .int b] (.bool (decide (a ≤ n) && decide (n ≤ b))) := by
 refine gPC 15 [.tmp 6] Try.call92 Try.func92 fun cx hcx => gE ?_
 refine gA ?_
 refine gA ?_
 refine xd_ (yZ_ rfl ?_)
 rfl
theorem Rr_ (xs : List Int) (f : Nat) (caps : List AV) (p : Int → Bool) (hd : yd_ caps = true) (hf : ∀ x, PureCall Try.prog f (.int x :: caps) (.bool (p x))) : PureCall Try.prog 100 [.l1 xs, .fn f caps] (.int (Qp_ p xs)) := by
 refine gPC 19 [.tmp 4] Try.call100 Try.func100 fun cx hcx => gE ?_
 refine gA ?_
 refine yg_ 0 fun h0 => ?_; simp only [St.get, xh_, Nat.reduceEqDiff, ↓reduceIte, if_true, fact, facts] at h0
 have hlen := h0.1
 refine gA ?_
 (repeat refine xa_ ?_); refine xo_ (fun k : Nat => ⟨[(0, .l1 xs), (1, .fn f caps), (7, .int xs.length), (8, .int k)], []⟩) (fun k => k ≤ xs.length ∧ ∀ i, i < k → p (xs.getD i 0) = false) (fun k => xs.length - k) 0 ⟨Nat.zero_le _, fun a h => absurd h (Nat.not_lt_zero a)⟩ (by
  refine And.intro ?_ rfl; simp only [leS, Nat.reduceEqDiff, ↓reduceIte, true_and, and_true]
  rfl) (fun k hk => ?_)
 obtain ⟨hk, hK'⟩ := hk
 refine gA ?_
 refine gI (fun h1 => ?_) fun h1 => ?_
 ·refine xb_ ?_
  refine gO ?_
  refine gA ?_
  refine gC fun K hK => ?_
  refine gU ?_
  refine xi_ (hf _) (by simp only [yd_, isData, hd, Bool.and_true]) ?_
  refine gV ?_
  refine hK _ ?_; clear hK K
  refine gI (fun h2 => ?_) fun h2 => ?_
  ·refine gA ?_
   refine xd_ (zW_ rfl ?_)
   exact (XZ_ (d := 0) (by omega) hK' h2).symm
  ·refine xb_ ?_
   refine gB ?_
   refine ⟨k + 1,  ⟨by omega, fun a ha => by rcases Nat.lt_succ_iff_lt_or_eq.1 ha with h | rfl; exact hK' a h; exact h2⟩, by omega, .inl ⟨?_, rfl⟩⟩; simp only [leS, Nat.reduceEqDiff, ↓reduceIte, true_and, and_true]
   omega
 ·refine xf_ (ye_ ?_)
  refine gA ?_
  refine xd_ (zW_ rfl ?_)
  exact (Z0_ (d := 0) (fun i hi => hK' i (by omega))).symm
theorem Rs_ (xs : List (List Int)) (f : Nat) (caps : List AV) (p : List Int → Bool) (hd : yd_ caps = true) (hf : ∀ x, PureCall Try.prog f (.l1 x :: caps) (.bool (p x))) : PureCall Try.prog 65 [.l2 xs, .fn f caps] (.int (Qp_ p xs)) := by
 refine gPC 19 [.tmp 4] Try.call65 Try.func65 fun cx hcx => gE ?_
 refine gA ?_
 refine yg_ 0 fun h0 => ?_; simp only [St.get, xh_, Nat.reduceEqDiff, ↓reduceIte, if_true, fact, facts] at h0
 have hlen := h0.1
 refine gA ?_
 (repeat refine xa_ ?_); refine xo_ (fun k : Nat => ⟨[(0, .l2 xs), (1, .fn f caps), (7, .int xs.length), (8, .int k)], []⟩) (fun k => k ≤ xs.length ∧ ∀ i, i < k → p (xs.getD i []) = false) (fun k => xs.length - k) 0 ⟨Nat.zero_le _, fun a h => absurd h (Nat.not_lt_zero a)⟩ (by
  refine And.intro ?_ rfl; simp only [leS, Nat.reduceEqDiff, ↓reduceIte, true_and, and_true]
  rfl) (fun k hk => ?_)
 obtain ⟨hk, hK'⟩ := hk
 refine gA ?_
 refine gI (fun h1 => ?_) fun h1 => ?_
 ·refine xb_ ?_
  refine gO ?_
  refine gA ?_
  refine gC fun K hK => ?_
  refine gU ?_
  refine xi_ (hf _) (by simp only [yd_, isData, hd, Bool.and_true]) ?_
  refine gV ?_
  refine hK _ ?_; clear hK K
  refine gI (fun h2 => ?_) fun h2 => ?_
  ·refine gA ?_
   refine xd_ (zW_ rfl ?_)
   exact (XZ_ (d := []) (by omega) hK' h2).symm
  ·refine xb_ ?_
   refine gB ?_
   refine ⟨k + 1,  ⟨by omega, fun a ha => by rcases Nat.lt_succ_iff_lt_or_eq.1 ha with h | rfl; exact hK' a h; exact h2⟩, by omega, .inl ⟨?_, rfl⟩⟩; simp only [leS, Nat.reduceEqDiff, ↓reduceIte, true_and, and_true]
   omega
 ·refine xf_ (ye_ ?_)
  refine gA ?_
  refine xd_ (zW_ rfl ?_)
  exact (Z0_ (d := []) (fun i hi => hK' i (by omega))).symm
theorem XC_ (xs : List Int) (f : Nat) (caps : List AV) (p : Int → Bool) (hd : yd_ caps = true) (hf : ∀ x, PureCall Try.prog f (.int x :: caps) (.bool (p x))) : PureCall Try.prog 90 [.l1 xs, .fn f caps] (.bool (xs.any p)) := by
 refine gPC 9 [.tmp 4] Try.call90 Try.func90 fun cx hcx => gE ?_
 refine gA ?_
 refine gC fun K hK => ?_
 refine xi_ (Rr_ xs f caps p hd hf) (by simp only [yd_, isData, hd, Bool.and_true]) ?_
 refine gV ?_
 refine hK _ ?_; clear hK K
 refine xd_ (yZ_ rfl ?_)
 exact VF_
theorem XD_ (xs : List (List Int)) (f : Nat) (caps : List AV) (p : List Int → Bool) (hd : yd_ caps = true) (hf : ∀ x, PureCall Try.prog f (.l1 x :: caps) (.bool (p x))) : PureCall Try.prog 72 [.l2 xs, .fn f caps] (.bool (xs.any p)) := by
 refine gPC 9 [.tmp 4] Try.call72 Try.func72 fun cx hcx => gE ?_
 refine gA ?_
 refine gC fun K hK => ?_
 refine xi_ (Rs_ xs f caps p hd hf) (by simp only [yd_, isData, hd, Bool.and_true]) ?_
 refine gV ?_
 refine hK _ ?_; clear hK K
 refine xd_ (yZ_ rfl ?_)
 exact VF_
theorem XE_ (a b n : Int) : PureCall Try.prog 91 [.int n, .cptr [.int a] 0, .cptr [.int b] 0] (.bool (!(decide (a ≤ n) && decide (n ≤ b)))) := by
 refine gPC 10 [.tmp 4] Try.call91 Try.func91 fun cx hcx => gE ?_
 refine gA ?_
 refine gC fun K hK => ?_
 first | refine xi_ (Uh_ _ _ _) rfl ?_ | refine xe_ (xg_ (Uh_ _ _ _) rfl) ?_
 refine gV ?_
 refine hK _ ?_; clear hK K
 refine xd_ (yZ_ rfl ?_)
 rfl
theorem YK_ (xs : List Int) (a b : Int) : PureCall Try.prog 74 [.l1 xs, .int a, .int b] (.bool (!(xs.any fun n => !(decide (a ≤ n) && decide (n ≤ b))))) := by
 refine gPC 11 [.tmp 6] Try.call74 Try.func74 fun cx hcx => gE ?_
 refine gA ?_
 refine gC fun K hK => ?_
 first | refine xM_ rfl rfl (XC_ xs 91 [.cptr [.int a] 0, .cptr [.int b] 0] (fun n => !(decide (a ≤ n) && decide (n ≤ b))) rfl (fun n => XE_ a b n)) ?_ | refine xe_ (xG_ rfl rfl (XC_ xs 91 [.cptr [.int a] 0, .cptr [.int b] 0] (fun n => !(decide (a ≤ n) && decide (n ≤ b))) rfl (fun n => XE_ a b n))) ?_
 refine gV ?_
 refine hK _ ?_; clear hK K
 refine xd_ (yZ_ rfl ?_)
 rfl
theorem WB_ (r : List Int) (n : Int) : PureCall Try.prog 73 [.l1 r, .cptr [.int n] 0] (.bool (WS_ n r)) := by
 refine gPC 13 [.tmp 3] Try.call73 Try.func73 fun cx hcx => gE ?_
 refine gA ?_
 refine gC fun K hK => ?_
 first | refine xe_ (fun _ => xg_ (YK_ r 0 1000) rfl) ?_ | refine xe_ (xg_ (YK_ r 0 1000) rfl) ?_
 refine gV ?_
 refine hK _ ?_; clear hK K
 refine xd_ (yZ_ rfl ?_)
 rfl
theorem Q3_ (t : List (List (List Int))) : PureCall Try.prog 55 [.agg [.l3 t]] (.bool (bd (Cube t))) := by
 refine gPC 32 [.tmp 2] Try.call55 Try.func55 fun cx hcx => gE ?_
 refine gA ?_
 refine yg_ 0 fun h0 => ?_; simp only [St.get, xh_, Nat.reduceEqDiff, ↓reduceIte, if_true, fact, facts] at h0
 have hlen := h0.1
 refine gA ?_
 refine gA ?_
 (repeat refine xa_ ?_); refine xo_ (fun k : Nat => ⟨[(0, .agg [.l3 t]), (1, .bptr 0 0), (3, .bptr 1 0), (10, .l3 t), (11, .int t.length), (12, .int k)], [(0, .bx [.l3 t]), (1, .bx [.int t.length])]⟩) (fun k => k ≤ t.length ∧ ∀ i, i < k → MatOk t.length (t.getD i [])) (fun k => t.length - k) 0 ⟨Nat.zero_le _, fun a h => absurd h (Nat.not_lt_zero a)⟩ (by
  refine And.intro ?_ rfl; simp only [leS, Nat.reduceEqDiff, ↓reduceIte, true_and, and_true]
  rfl) (fun k hk => ?_)
 obtain ⟨hk, hK'⟩ := hk
 refine gA ?_
 refine gI (fun h1 => ?_) fun h1 => ?_
 ·refine xb_ ?_
  refine gO ?_
  refine gB ?_
  refine gC fun K hK => ?_
  first | refine xe_ (fun _ => xG_ rfl rfl (XD_ (t.getD k []) 73 [.cptr [.int t.length] 0] (WS_ t.length) rfl (fun r => WB_ r _))) ?_ | refine xe_ (xG_ rfl rfl (XD_ (t.getD k []) 73 [.cptr [.int t.length] 0] (WS_ t.length) rfl (fun r => WB_ r _))) ?_
  refine gV ?_
  refine hK _ ?_; clear hK K
  refine gI (fun h2 => ?_) fun h2 => ?_
  ·refine gA ?_
   refine xd_ (yZ_ rfl ?_)
   refine (yn_ fun hc => ?_).symm
   have hm := matOk_iff.1 (hc.2.2 k (by omega))
   rw [hm.2, hm.1] at h2
   simp at h2
  ·simp only [Bool.or_eq_false_iff, Bool.not_eq_false', decide_eq_true_eq, Int.natCast_inj] at h2
   have hm := matOk_iff.2 h2
   refine xb_ ?_
   have hl1 := hlen.1
   refine gB ?_
   refine ⟨k + 1,  ⟨by omega, fun a ha => by rcases Nat.lt_succ_iff_lt_or_eq.1 ha with h | rfl; exact hK' a h; exact hm⟩, by omega, .inl ⟨?_, rfl⟩⟩; simp only [leS, Nat.reduceEqDiff, ↓reduceIte, true_and, and_true]
   omega
 ·refine xf_ (ye_ ?_)
  refine gA ?_
  refine xd_ (yZ_ rfl ?_)
  by_cases hc : 1 ≤ t.length ∧ t.length ≤ 16
  ·rw [zj_ ⟨hc.1, hc.2, fun i hi => hK' i (by omega)⟩]
   simp only [Bool.and_eq_true, decide_eq_true_eq]; omega
  ·rw [yn_ fun h => hc ⟨h.1, h.2.1⟩]
   simp only [Bool.and_eq_false_iff, decide_eq_false_iff_not]; omega
theorem WC_ (t : List (List (List Int))) (hc : Cube t) (i : Nat) (hi : i < t.length) : PureCall Try.prog 44 [.l3 t, .int i] (.int (dual t i)) := by
 have hm := hc.mat hi
 have h16 := hc.2.1
 have h1 := hc.1
 refine gPC 41 [.tmp 4] Try.call44 Try.func44 fun cx hcx => gE ?_
 refine gA ?_
 refine gA ?_
 refine gA ?_
 (repeat refine xa_ ?_); refine xo_ (fun p : Nat × Int => ⟨[(0, .l3 t), (1, .int i), (5, .int p.2), (6, .int p.1)], []⟩) (fun p => p.1 ≤ t.length ∧ Z1_ (fun j => e3 t i j 0) ((List.range t.length).drop p.1) p.2 = dual t i) (fun p => t.length - p.1) (0, -1) ⟨Nat.zero_le _, rfl⟩ (by
  refine And.intro ?_ rfl; simp only [leS, Nat.reduceEqDiff, ↓reduceIte, true_and, and_true]
  rfl) (fun p hp => ?_)
 obtain ⟨k, out⟩ := p
 obtain ⟨hk, he⟩ := hp
 simp only [e3] at hk he
 refine gA ?_
 refine gI (fun hlt => ?_) fun hlt => ?_
 ·have hr := hc.row hi (show k < t.length by omega)
  rw [Yr_ (show k < t.length by omega)] at he
  simp only [Z1_, e3] at he
  refine xb_ ?_
  refine gO ?_
  refine gO ?_
  refine gC fun K hK => ?_
  refine gU ?_
  refine hK _ ?_; clear hK K
  refine gI (fun h2 => ?_) fun h2 => ?_
  ·simp only [Bool.or_eq_true, Bool.or_eq_false_iff, Bool.and_eq_true, Bool.and_eq_false_iff, decide_eq_true_eq, decide_eq_false_iff_not, Bool.not_eq_true', Bool.not_eq_false'] at h2
   refine gA ?_
   refine gB ?_
   rw [if_neg (by rw [h2.1]; decide), if_pos ⟨h2.2, h2.1⟩] at he
   refine ⟨(k + 1, (k : Int)),  ⟨by simp only; omega, he⟩, by omega, .inl ⟨?_, rfl⟩⟩; simp only [leS, Nat.reduceEqDiff, ↓reduceIte, true_and, and_true]
   omega
  ·refine gC fun K hK => ?_
   refine gU ?_
   refine hK _ ?_; clear hK K
   refine gI (fun h3 => ?_) fun h3 => ?_
   ·refine gA ?_
    refine xd_ (zW_ rfl ?_)
    rw [if_neg h3, if_neg (fun h4 => by
     simp only [h4.1, h4.2, decide_true, Bool.and_true] at h2; cases h2)] at he
    exact he
   ·refine xb_ ?_
    refine gB ?_
    rw [if_pos h3] at he
    refine ⟨(k + 1, out),  ⟨by simp only; omega, he⟩, by omega, .inl ⟨?_, rfl⟩⟩; simp only [leS, Nat.reduceEqDiff, ↓reduceIte, true_and, and_true]
    omega
 ·rw [WT_ (by omega)] at he
  refine xf_ (ye_ ?_)
  refine gA ?_
  refine xd_ (zW_ rfl ?_)
  exact he
theorem wB_ (t : List (List (List Int))) (hc : Cube t) (i : Nat) (hi : i < t.length) : PureCall Try.prog 94 [.agg [.l3 t], .int i] (.int (dual t i)) := by
 have hm := hc.mat hi
 have h16 := hc.2.1
 have h1 := hc.1
 refine gPC 34 [.tmp 4] Try.call94 Try.func94 fun cx hcx => gE ?_
 refine gA ?_
 refine gA ?_
 refine gB ?_
 (repeat refine xa_ ?_); refine xo_ (fun p : Nat × Int => ⟨[(0, .agg [.l3 t]), (2, .bptr 0 0), (5, .int p.2), (12, .l2 (t.getD i [])), (13, .int (t.getD i []).length), (14, .int p.1)], [(0, .bx [.l3 t])]⟩) (fun p => p.1 ≤ t.length ∧ Z1_ (fun j => e3 t i j 0) ((List.range t.length).drop p.1) p.2 = dual t i) (fun p => t.length - p.1) (0, -1) ⟨Nat.zero_le _, rfl⟩ (by
  refine And.intro ?_ rfl; simp only [leS, Nat.reduceEqDiff, ↓reduceIte, true_and, and_true]
  rfl) (fun p hp => ?_)
 obtain ⟨k, out⟩ := p
 obtain ⟨hk, he⟩ := hp
 simp only [e3] at hk he
 refine gA ?_
 refine gI (fun hlt => ?_) fun hlt => ?_
 ·have hr := hc.row hi (show k < t.length by omega)
  rw [Yr_ (show k < t.length by omega)] at he
  simp only [Z1_, e3] at he
  refine xb_ ?_
  refine gO ?_
  refine gB ?_
  refine gB ?_
  refine gI (fun h2 => ?_) fun h2 => ?_
  ·rw [if_pos h2] at he
   refine xf_ (am6 ?_)
   refine gB ?_
   refine ⟨(k + 1, out),  ⟨by simp only; omega, he⟩, by omega, .inl ⟨?_, rfl⟩⟩; simp only [leS, Nat.reduceEqDiff, ↓reduceIte, true_and, and_true]
   omega
  ·rw [if_neg h2] at he
   refine xb_ ?_
   refine gC fun K hK => ?_
   refine gU ?_
   refine hK _ ?_; clear hK K
   refine gI (fun h3 => ?_) fun h3 => ?_
   ·refine gA ?_
    refine xd_ (zW_ rfl ?_)
    rw [if_neg (fun h4 => by
     simp only [Bool.or_eq_true, decide_eq_true_eq, Bool.not_eq_true', decide_eq_false_iff_not] at h3
     rcases h3 with h3 | h3
     ·omega
     ·exact h3 h4.2)] at he
    exact he
   ·simp only [Bool.or_eq_false_iff, decide_eq_false_iff_not, Bool.not_eq_false', decide_eq_true_eq] at h3
    refine xb_ ?_
    refine gA ?_
    refine gB ?_
    rw [if_pos ⟨by omega, h3.2⟩] at he
    refine ⟨(k + 1, (k : Int)),  ⟨by simp only; omega, he⟩, by omega, .inl ⟨?_, rfl⟩⟩; simp only [leS, Nat.reduceEqDiff, ↓reduceIte, true_and, and_true]
    omega
 ·rw [WT_ (by omega)] at he
  refine xf_ (ye_ ?_)
  refine gA ?_
  refine xd_ (zW_ rfl ?_)
  exact he
theorem Y4_ (i k : Nat) : PureCall Try.prog 93 [.int i, .int k] (.int (dl i k)) := by
 refine gPC 8 [.tmp 4] Try.call93 Try.func93 fun cx hcx => gE ?_
 refine gA ?_
 refine gA ?_
 refine gI (fun hc => ?_) fun hc => ?_
 ·refine gA ?_
  refine xd_ (zW_ rfl ?_)
  simp only [dl, if_pos hc]
 ·refine xb_ ?_
  refine gA ?_
  refine xd_ (zW_ rfl ?_)
  simp only [dl, if_neg hc]
theorem Ui_ (t : List (List (List Int))) (hc : Cube t) : FreshCall Try.prog 75 [.agg [.l3 t]] (VG_ (Y1_ t)) := by
 have h16 := hc.2.1
 have h1 := hc.1
 refine gFC 52 [.tmp 2] Try.call75 Try.func75 fun cx hcx => gE ?_
 refine gA ?_
 refine gA ?_
 (repeat refine xa_ ?_); refine xo_ (fun i : Nat => ⟨[(1, .bptr 0 0), (7, .int t.length), (8, .int i)], [(0, .bx [.l3 t])]⟩) (fun i => i ≤ t.length ∧ ∀ b, b < i → first t.length (TZ_ t b) = none) (fun i => t.length - i) 0 ⟨Nat.zero_le _, fun a h => absurd h (Nat.not_lt_zero a)⟩ (by refine And.intro ?_ rfl; simp only [leS, Nat.reduceEqDiff, ↓reduceIte, true_and, and_true]; rfl) (fun i hi => ?_); obtain ⟨hi, Hi⟩ := hi
 refine gA ?_
 refine gI (fun hli => ?_) fun hli => ?_
 ·refine xb_ ?_
  refine gO ?_
  refine gA ?_
  refine gA ?_
  (repeat refine xa_ ?_); refine xo_ (fun k : Nat => ⟨[(1, .bptr 0 0), (7, .int t.length), (8, .int i), (3, .int i), (13, .int t.length), (14, .int k)], [(0, .bx [.l3 t])]⟩) (fun k => k ≤ t.length ∧ ∀ b, b < k → TZ_ t i b = none) (fun k => t.length - k) 0 ⟨Nat.zero_le _, fun a h => absurd h (Nat.not_lt_zero a)⟩ (by refine And.intro ?_ rfl; simp only [leS, Nat.reduceEqDiff, ↓reduceIte, true_and, and_true]; rfl) (fun k hk => ?_); obtain ⟨hk, Hk⟩ := hk
  refine gA ?_
  refine gI (fun hlk => ?_) fun hlk => ?_
  ·have r1 := hc.row (i := 0) (j := i) (by omega) (by omega)
   have r2 := hc.row (i := i) (j := 0) (by omega) (by omega)
   have m1 := hc.mat (i := 0) (by omega)
   have m2 := hc.mat (i := i) (by omega)
   refine xb_ ?_
   refine gO ?_
   refine gA ?_
   (repeat refine xa_ ?_); refine xV_ (xZ_ hcx) mixed (by kernel_rfl) fun K hK => ?_; simp only [go_sem, seval]
   refine gU ?_
   first | refine xi_ (Y4_ i k) rfl ?_ | refine xe_ (xg_ (Y4_ i k) rfl) ?_
   refine gW ?_
   first | refine xe_ (fun _ => xg_ (Y4_ i k) rfl) ?_ | refine xe_ (xg_ (Y4_ i k) rfl) ?_
   refine gV ?_
   refine hK _ ?_; clear hK K
   refine gI (fun h2 => ?_) fun h2 => ?_
   ·simp only [Bool.or_eq_true, Bool.not_eq_true', decide_eq_false_iff_not] at h2
    refine gA ?_
    have e : Y1_ t = some [0, (i : Int), (k : Int)] := first_some (by omega) Hi (first_some (by omega) Hk (if_pos h2))
    exact xd_ (Xl_ (is := [1]) rfl ⟨rfl, trivial⟩ (by rw [e]; rfl) (by simp))
   ·simp only [Bool.or_eq_false_iff, Bool.not_eq_false', decide_eq_true_eq] at h2
    refine xb_ ?_
    refine gB ?_
    refine ⟨k + 1, ⟨by omega, fun a ha => by rcases Nat.lt_succ_iff_lt_or_eq.1 ha with h | rfl; exact Hk a h; exact if_neg (fun h => h.elim (fun h => h h2.1) (fun h => h h2.2))⟩, by omega, .inl ⟨?_, rfl⟩⟩; simp only [leS, Nat.reduceEqDiff, ↓reduceIte, true_and, and_true]; omega
  ·refine xf_ (ye_ (yf_ (Vq_ ?_)))
   refine gB ?_
   refine ⟨i + 1, ⟨by omega, fun a ha => by rcases Nat.lt_succ_iff_lt_or_eq.1 ha with h | rfl; exact Hi a h; exact xY_ (fun k hk => Hk k (by omega))⟩, by omega, .inl ⟨?_, rfl⟩⟩; simp only [leS, Nat.reduceEqDiff, ↓reduceIte, true_and, and_true]; omega
 ·refine xf_ (ye_ ?_)
  refine gA ?_
  have e : Y1_ t = none := xY_ (fun i hi => Hi i (by omega))
  exact xd_ (Xl_ (is := []) rfl ⟨rfl, trivial⟩ (by rw [e]; rfl) (by simp))
theorem Rt_ (t : List (List (List Int))) (hc : Cube t) (i : Int) (h0 : 0 ≤ i) (hi : i < t.length) : PureCall Try.prog 94 [.agg [.l3 t], .int i] (.int (dual t i.toNat)) := by
 obtain ⟨k, rfl⟩ := Int.eq_ofNat_of_zero_le h0
 exact wB_ t hc k (by omega)
theorem Uj_ (t : List (List (List Int))) (hc : Cube t) : PureCall Try.prog 76 [.agg [.l3 t]] (.int (match Yt_ t with | some (_ :: i :: _) => i | _ => -1)) := by
 have h16 := hc.2.1
 have h1 := hc.1
 refine gPC 25 [.tmp 2] Try.call76 Try.func76 fun cx hcx => gE ?_
 refine gA ?_
 refine gA ?_
 (repeat refine xa_ ?_); refine xo_ (fun i : Nat => ⟨[(1, .bptr 0 0), (7, .int t.length), (8, .int i)], [(0, .bx [.l3 t])]⟩) (fun i => i ≤ t.length ∧ ∀ b, b < i → Qr_ t b = none) (fun i => t.length - i) 0 ⟨Nat.zero_le _, fun a h => absurd h (Nat.not_lt_zero a)⟩ (by refine And.intro ?_ rfl; simp only [leS, Nat.reduceEqDiff, ↓reduceIte, true_and, and_true]; rfl) (fun i hi => ?_); obtain ⟨hi, Hi⟩ := hi
 refine gA ?_
 refine gI (fun hli => ?_) fun hli => ?_
 ·have hdr := Ys_ t i
  refine xb_ ?_
  refine gO ?_
  refine gA ?_
  refine gC fun K hK => ?_
  first | refine xM_ rfl rfl (wB_ t hc i (by omega)) ?_ | refine xe_ (xG_ rfl rfl (wB_ t hc i (by omega))) ?_
  refine gV ?_
  refine hK _ ?_; clear hK K
  refine gC fun K hK => ?_
  refine xe_ (fun hg => xG_ rfl rfl (Rt_ t hc (dual t i) (by simp only [decide_eq_false_iff_not] at hg; omega) hdr.2)) ?_
  refine gV ?_
  refine hK _ ?_; clear hK K
  refine gI (fun h2 => ?_) fun h2 => ?_
  ·simp only [Bool.or_eq_true, decide_eq_true_eq, Bool.not_eq_true', decide_eq_false_iff_not] at h2
   refine gA ?_
   have e : Yt_ t = some [1, (i : Int)] := first_some (by omega) Hi (if_pos h2)
   refine xd_ (zW_ rfl ?_)
   rw [e]
  ·simp only [Bool.or_eq_false_iff, decide_eq_false_iff_not, Bool.not_eq_false', decide_eq_true_eq] at h2
   refine xb_ ?_
   refine gB ?_
   refine ⟨i + 1, ⟨by omega, fun a ha => by rcases Nat.lt_succ_iff_lt_or_eq.1 ha with h | rfl; exact Hi a h; exact if_neg (fun h => h.elim (fun h => h2.1 h) (fun h => h h2.2))⟩, by omega, .inl ⟨?_, rfl⟩⟩; simp only [leS, Nat.reduceEqDiff, ↓reduceIte, true_and, and_true]; omega
 ·refine xf_ (ye_ ?_)
  refine gA ?_
  have e : Yt_ t = none := xY_ (fun i hi => Hi i (by omega))
  refine xd_ (zW_ rfl ?_)
  rw [e]
theorem Su_ (t : List (List (List Int))) (hc : Cube t) : FreshCall Try.prog 95 [.agg [.l3 t]] (.l1 (ds t)) := by
 have h16 := hc.2.1
 have h1 := hc.1
 refine gFC 20 [.tmp 2] Try.call95 Try.func95 fun cx hcx => gE ?_
 refine gA ?_
 refine gA ?_
 refine gA ?_
 (repeat refine xa_ ?_); refine xo_ (fun i : Nat => ⟨[(1, .bptr 0 0), (3, .ref 1 []), (8, .int t.length), (9, .int i)], [(0, .bx [.l3 t]), (1, .t1 ((List.range i).map (dual t)))]⟩) (fun i => i ≤ t.length) (fun i => t.length - i) 0 (Nat.zero_le _) (by
  refine And.intro ?_ rfl
  simp only [xN_, St.get, xh_, Nat.reduceEqDiff, ↓reduceIte, true_and, and_true, AV.int.injEq]
  rfl) (fun i hi => ?_)
 refine gA ?_
 refine gI (fun hli => ?_) fun hli => ?_
 ·have hl : ((List.range i).map (dual t)).length = i := by simp
  refine xb_ ?_
  refine gO ?_
  refine gA ?_
  refine gC fun K hK => ?_
  first | refine xM_ rfl rfl (wB_ t hc i (by omega)) ?_ | refine xe_ (xG_ rfl rfl (wB_ t hc i (by omega))) ?_
  refine gV ?_
  (repeat refine And.intro (by (first | omega | (rw [hl]; omega))) ?_)
  refine hK _ ?_; clear hK K
  refine gB ?_
  refine ⟨i + 1, by omega, by omega, .inr ⟨[2], by simp only [x2_, List.map_cons, List.map_nil, xp_, xA_, qOf, rmT, xt_, x4_, List.filter_cons, List.filter_nil, List.contains_cons, List.contains_nil, xN_, St.get, xh_, Nat.reduceEqDiff, Nat.reduceBEq, Bool.or_false, Bool.or_true, Bool.false_and, Bool.not_true, Bool.not_false, Bool.false_eq_true, ↓reduceIte, if_true, if_false, AV.int.injEq, AV.bool.injEq, AV.l1.injEq, AV.l2.injEq, AV.l3.injEq, true_and, and_true]; omega, by simp only [x2_, List.map_cons, List.map_nil, xp_, xA_, qOf, rmT, xt_, x4_, List.filter_cons, List.filter_nil, List.contains_cons, List.contains_nil, xN_, St.get, xh_, Nat.reduceEqDiff, Nat.reduceBEq, Bool.or_false, Bool.or_true, Bool.false_and, Bool.not_true, Bool.not_false, Bool.false_eq_true, ↓reduceIte, if_true, if_false, AV.int.injEq, AV.bool.injEq, AV.l1.injEq, AV.l2.injEq, AV.l3.injEq, true_and, and_true]; simp only [List.range_succ, List.map_append, List.map_cons, List.map_nil]⟩⟩
 ·obtain rfl : i = t.length := by omega
  refine xf_ (ye_ ?_)
  refine gA ?_
  exact xd_ (Xl_ (is := [1]) rfl ⟨rfl, trivial⟩ rfl (by simp))
theorem Uk_ (t : List (List (List Int))) (hc : Cube t) (hd : Yt_ t = none) : FreshCall Try.prog 77 [.agg [.l3 t]] (VG_ (Wt_ t)) := by
 have h16 := hc.2.1
 have h1 := hc.1
 have hdl := wd_ t
 refine gFC 80 [.tmp 2] Try.call77 Try.func77 fun cx hcx => gE ?_
 refine gA ?_
 refine gC fun K hK => ?_
 first | refine x3_ rfl (Su_ t hc) ?_ | refine xe_ (xP_ rfl (Su_ t hc)) ?_
 refine gV ?_
 refine hK _ ?_; clear hK K
 refine gA ?_
 (repeat refine xa_ ?_); refine xo_ (fun i : Nat => ⟨[(1, .bptr 0 0), (3, .l1 (ds t)), (12, .int t.length), (13, .int i)], [(0, .bx [.l3 t])]⟩) (fun i => i ≤ t.length ∧ ∀ b, b < i → first t.length (fun j => first t.length (VH_ t b j)) = none) (fun i => t.length - i) 0 ⟨Nat.zero_le _, fun a h => absurd h (Nat.not_lt_zero a)⟩ (by refine And.intro ?_ rfl; simp only [leS, Nat.reduceEqDiff, ↓reduceIte, true_and, and_true]; rfl) (fun i hi => ?_); obtain ⟨hi, Hi⟩ := hi
 refine gA ?_
 refine gI (fun hli => ?_) fun hli => ?_
 ·refine xb_ ?_
  refine gO ?_
  refine gA ?_
  refine gA ?_
  (repeat refine xa_ ?_); refine xo_ (fun j : Nat => ⟨[(1, .bptr 0 0), (3, .l1 (ds t)), (12, .int t.length), (13, .int i), (4, .int i), (18, .int t.length), (19, .int j)], [(0, .bx [.l3 t])]⟩) (fun j => j ≤ t.length ∧ ∀ b, b < j → first t.length (VH_ t i b) = none) (fun j => t.length - j) 0 ⟨Nat.zero_le _, fun a h => absurd h (Nat.not_lt_zero a)⟩ (by refine And.intro ?_ rfl; simp only [leS, Nat.reduceEqDiff, ↓reduceIte, true_and, and_true]; rfl) (fun j hj => ?_); obtain ⟨hj, Hj⟩ := hj
  refine gA ?_
  refine gI (fun hlj => ?_) fun hlj => ?_
  ·refine xb_ ?_
   refine gO ?_
   refine gA ?_
   refine gA ?_
   (repeat refine xa_ ?_); refine xo_ (fun k : Nat => ⟨[(1, .bptr 0 0), (3, .l1 (ds t)), (12, .int t.length), (13, .int i), (4, .int i), (18, .int t.length), (19, .int j), (5, .int j), (24, .int t.length), (25, .int k)], [(0, .bx [.l3 t])]⟩) (fun k => k ≤ t.length ∧ ∀ b, b < k → VH_ t i j b = none) (fun k => t.length - k) 0 ⟨Nat.zero_le _, fun a h => absurd h (Nat.not_lt_zero a)⟩ (by refine And.intro ?_ rfl; simp only [leS, Nat.reduceEqDiff, ↓reduceIte, true_and, and_true]; rfl) (fun k hk => ?_); obtain ⟨hk, Hk⟩ := hk
   refine gA ?_
   refine gI (fun hlk => ?_) fun hlk => ?_
   ·have di := VI_ hd (show i < t.length by omega)
    have dj := VI_ hd (show j < t.length by omega)
    have gi := Z2_ (show i < t.length by omega)
    have gj := Z2_ (show j < t.length by omega)
    have mi := hc.mat (show i < t.length by omega)
    have mk := hc.mat (show k < t.length by omega)
    have md := hc.mat di.2.1
    have r1 := hc.row (show i < t.length by omega) (show j < t.length by omega)
    have r2 := hc.row di.2.1 (show k < t.length by omega)
    have r3 := hc.row (show k < t.length by omega) dj.2.1
    refine xb_ ?_
    refine gO ?_
    refine gA ?_
    refine gB ?_
    (repeat refine xa_ ?_); refine xV_ (xZ_ hcx) mixed (by kernel_rfl) fun K hK => ?_; simp only [go_sem, seval]
    simp only [gi, gj]
    refine gU ?_
    refine hK _ ?_; clear hK K
    refine gI (fun h2 => ?_) fun h2 => ?_
    ·simp only [Bool.or_eq_true, Bool.not_eq_true', decide_eq_false_iff_not] at h2
     refine gA ?_
     have e : Wt_ t = some [2, (i : Int), (j : Int), (k : Int)] := first_some (by omega) Hi (first_some (by omega) Hj (first_some (by omega) Hk (if_pos h2)))
     exact xd_ (Xl_ (is := [1]) rfl ⟨rfl, trivial⟩ (by rw [e]; rfl) (by simp))
    ·simp only [Bool.or_eq_false_iff, Bool.not_eq_false', decide_eq_true_eq] at h2
     refine xb_ ?_
     refine gB ?_
     refine ⟨k + 1, ⟨by omega, fun a ha => by rcases Nat.lt_succ_iff_lt_or_eq.1 ha with h | rfl; exact Hk a h; exact if_neg (fun h => h.elim (fun h => h h2.1) (fun h => h h2.2))⟩, by omega, .inl ⟨?_, rfl⟩⟩; simp only [leS, Nat.reduceEqDiff, ↓reduceIte, true_and, and_true]; omega
   ·refine xf_ (ye_ (yf_ (Vq_ ?_)))
    refine gB ?_
    refine ⟨j + 1, ⟨by omega, fun a ha => by rcases Nat.lt_succ_iff_lt_or_eq.1 ha with h | rfl; exact Hj a h; exact xY_ (fun k hk => Hk k (by omega))⟩, by omega, .inl ⟨?_, rfl⟩⟩; simp only [leS, Nat.reduceEqDiff, ↓reduceIte, true_and, and_true]; omega
  ·refine xf_ (ye_ (yf_ (Vq_ ?_)))
   refine gB ?_
   refine ⟨i + 1, ⟨by omega, fun a ha => by rcases Nat.lt_succ_iff_lt_or_eq.1 ha with h | rfl; exact Hi a h; exact xY_ (fun k hk => Hj k (by omega))⟩, by omega, .inl ⟨?_, rfl⟩⟩; simp only [leS, Nat.reduceEqDiff, ↓reduceIte, true_and, and_true]; omega
 ·refine xf_ (ye_ ?_)
  refine gA ?_
  have e : Wt_ t = none := xY_ (fun i hi => Hi i (by omega))
  exact xd_ (Xl_ (is := []) rfl ⟨rfl, trivial⟩ (by rw [e]; rfl) (by simp))
theorem Zp_ (t : List (List (List Int))) (hc : Cube t) : FreshCall Try.prog 78 [.agg [.l3 t]] (VG_ (wM_ t)) := by
 have h16 := hc.2.1
 have h1 := hc.1
 refine gFC 97 [.tmp 2] Try.call78 Try.func78 fun cx hcx => gE ?_
 refine gA ?_
 refine gA ?_
 (repeat refine xa_ ?_); refine xo_ (fun i : Nat => ⟨[(1, .bptr 0 0), (13, .l3 t), (14, .int t.length), (15, .int i)], [(0, .bx [.l3 t])]⟩) (fun i => i ≤ t.length ∧ ∀ b, b < i → first t.length (fun j => first t.length fun k => first t.length (wL_ t b j k)) = none) (fun i => t.length - i) 0 ⟨Nat.zero_le _, fun a h => absurd h (Nat.not_lt_zero a)⟩ (by refine And.intro ?_ rfl; simp only [leS, Nat.reduceEqDiff, ↓reduceIte, true_and, and_true]; rfl) (fun i hi => ?_); obtain ⟨hi, Hi⟩ := hi
 refine gA ?_
 refine gI (fun hli => ?_) fun hli => ?_
 ·have mi := hc.mat (show i < t.length by omega)
  refine xb_ ?_
  refine gO ?_
  refine gB ?_
  refine gA ?_
  (repeat refine xa_ ?_); refine xo_ (fun j : Nat => ⟨[(1, .bptr 0 0), (13, .l3 t), (14, .int t.length), (15, .int i), (3, .int i), (4, .l2 (t.getD i [])), (21, .l3 t), (22, .int t.length), (23, .int j)], [(0, .bx [.l3 t])]⟩) (fun j => j ≤ t.length ∧ ∀ b, b < j → first t.length (fun k => first t.length (wL_ t i b k)) = none) (fun j => t.length - j) 0 ⟨Nat.zero_le _, fun a h => absurd h (Nat.not_lt_zero a)⟩ (by refine And.intro ?_ rfl; simp only [leS, Nat.reduceEqDiff, ↓reduceIte, true_and, and_true]; rfl) (fun j hj => ?_); obtain ⟨hj, Hj⟩ := hj
  refine gA ?_
  refine gI (fun hlj => ?_) fun hlj => ?_
  ·have mj := hc.mat (show j < t.length by omega)
   have rij := hc.row (show i < t.length by omega) (show j < t.length by omega)
   refine xb_ ?_
   refine gO ?_
   refine gB ?_
   refine gA ?_
   (repeat refine xa_ ?_); refine xo_ (fun k : Nat => ⟨[(1, .bptr 0 0), (13, .l3 t), (14, .int t.length), (15, .int i), (3, .int i), (4, .l2 (t.getD i [])), (21, .l3 t), (22, .int t.length), (23, .int j), (5, .int j), (6, .l2 (t.getD j [])), (30, .int t.length), (31, .int k)], [(0, .bx [.l3 t])]⟩) (fun k => k ≤ t.length ∧ ∀ b, b < k → first t.length (wL_ t i j b) = none) (fun k => t.length - k) 0 ⟨Nat.zero_le _, fun a h => absurd h (Nat.not_lt_zero a)⟩ (by refine And.intro ?_ rfl; simp only [leS, Nat.reduceEqDiff, ↓reduceIte, true_and, and_true]; rfl) (fun k hk => ?_); obtain ⟨hk, Hk⟩ := hk
   refine gA ?_
   refine gI (fun hlk => ?_) fun hlk => ?_
   ·have rjk := hc.row (show j < t.length by omega) (show k < t.length by omega)
    refine xb_ ?_
    refine gO ?_
    refine gA ?_
    refine gA ?_
    (repeat refine xa_ ?_); refine xo_ (fun l : Nat => ⟨[(1, .bptr 0 0), (13, .l3 t), (14, .int t.length), (15, .int i), (3, .int i), (4, .l2 (t.getD i [])), (21, .l3 t), (22, .int t.length), (23, .int j), (5, .int j), (6, .l2 (t.getD j [])), (30, .int t.length), (31, .int k), (7, .int k), (36, .int t.length), (37, .int l)], [(0, .bx [.l3 t])]⟩) (fun l => l ≤ t.length ∧ ∀ b, b < l → wL_ t i j k b = none) (fun l => t.length - l) 0 ⟨Nat.zero_le _, fun a h => absurd h (Nat.not_lt_zero a)⟩ (by refine And.intro ?_ rfl; simp only [leS, Nat.reduceEqDiff, ↓reduceIte, true_and, and_true]; rfl) (fun l hl => ?_); obtain ⟨hl, Hl⟩ := hl
    refine gA ?_
    refine gI (fun hll => ?_) fun hll => ?_
    ·refine xb_ ?_
     refine gO ?_
     refine gA ?_
     refine gA ?_
     refine gA ?_
     (repeat refine xa_ ?_); refine xo_ (fun m : Nat => ⟨[(1, .bptr 0 0), (13, .l3 t), (14, .int t.length), (15, .int i), (3, .int i), (4, .l2 (t.getD i [])), (21, .l3 t), (22, .int t.length), (23, .int j), (5, .int j), (6, .l2 (t.getD j [])), (30, .int t.length), (31, .int k), (7, .int k), (36, .int t.length), (37, .int l), (8, .int l), (9, .int (sumTo (brL t i j k l) m)), (10, .int (sumTo (brR t i j k l) m)), (42, .int t.length), (43, .int m)], [(0, .bx [.l3 t])]⟩) (fun m => m ≤ t.length) (fun m => t.length - m) 0 (Nat.zero_le _) (by
      refine And.intro ?_ rfl; simp only [leS, Nat.reduceEqDiff, ↓reduceIte, true_and, and_true]
      exact ⟨rfl, rfl, rfl⟩) (fun m hm => ?_)
     refine gA ?_
     refine gI (fun hlm => ?_) fun hlm => ?_
     ·have mm := hc.mat (show m < t.length by omega)
      have rmk := hc.row (show m < t.length by omega) (show k < t.length by omega)
      have rim := hc.row (show i < t.length by omega) (show m < t.length by omega)
      have bL := au2 hc (i := i) (j := j) (k := k) (l := l) (by omega) (by omega) (by omega) (by omega)
      have bR := au3 hc (i := i) (j := j) (k := k) (l := l) (by omega) (by omega) (by omega) (by omega)
      have sL := sumTo_le (n := m) (fun x hx => bL x (by omega))
      have sR := sumTo_le (n := m) (fun x hx => bR x (by omega))
      have cL := bL m (by omega)
      have cR := bR m (by omega)
      simp only [brL, brR, e3] at cL cR
      refine xb_ ?_
      refine gO ?_
      refine gA ?_
      (repeat refine xa_ ?_); refine xV_ (xZ_ hcx) mixed (by kernel_rfl) fun K hK => ?_; simp only [go_sem, seval]; (repeat refine aI (hb := ?_)); refine hK _ ?_; clear hK K
      (repeat refine xa_ ?_); refine xV_ (xZ_ hcx) mixed (by kernel_rfl) fun K hK => ?_; simp only [go_sem, seval]; (repeat refine aI (hb := ?_)); refine hK _ ?_; clear hK K
      refine gB ?_
      refine ⟨m + 1,  by omega, by omega, .inl ⟨?_, rfl⟩⟩; simp only [leS, Nat.reduceEqDiff, ↓reduceIte, true_and, and_true]
      exact ⟨rfl, rfl, by omega⟩
     ·obtain rfl : m = t.length := by omega
      refine xf_ (ye_ ?_)
      refine gA ?_
      refine gI (fun hne => ?_) fun hne => ?_
      ·refine gA ?_
       have e : wM_ t = some [3, (i : Int), (j : Int), (k : Int), (l : Int)] := first_some (by omega) Hi (first_some (by omega) Hj (first_some (by omega) Hk (first_some (by omega) Hl (if_pos hne))))
       exact xd_ (Xl_ (is := [1]) rfl ⟨rfl, trivial⟩ (by rw [e]; rfl) (by simp))
      ·refine xb_ ?_
       refine gB ?_
       refine ⟨l + 1, ⟨by omega, fun a ha => by rcases Nat.lt_succ_iff_lt_or_eq.1 ha with h | rfl; exact Hl a h; exact if_neg (fun h => h hne)⟩, by omega, .inl ⟨?_, rfl⟩⟩; simp only [leS, Nat.reduceEqDiff, ↓reduceIte, true_and, and_true]; omega
    ·refine xf_ (ye_ (yf_ (Vq_ ?_)))
     refine gB ?_
     refine ⟨k + 1, ⟨by omega, fun a ha => by rcases Nat.lt_succ_iff_lt_or_eq.1 ha with h | rfl; exact Hk a h; exact xY_ (fun k hk => Hl k (by omega))⟩, by omega, .inl ⟨?_, rfl⟩⟩; simp only [leS, Nat.reduceEqDiff, ↓reduceIte, true_and, and_true]; omega
   ·refine xf_ (ye_ (yf_ (Vq_ ?_)))
    refine gB ?_
    refine ⟨j + 1, ⟨by omega, fun a ha => by rcases Nat.lt_succ_iff_lt_or_eq.1 ha with h | rfl; exact Hj a h; exact xY_ (fun k' hk' => Hk k' (by omega))⟩, by omega, .inl ⟨?_, rfl⟩⟩; simp only [leS, Nat.reduceEqDiff, ↓reduceIte, true_and, and_true]; omega
  ·refine xf_ (ye_ (yf_ (Vq_ ?_)))
   refine gB ?_
   refine ⟨i + 1, ⟨by omega, fun a ha => by rcases Nat.lt_succ_iff_lt_or_eq.1 ha with h | rfl; exact Hi a h; exact xY_ (fun k hk => Hj k (by omega))⟩, by omega, .inl ⟨?_, rfl⟩⟩; simp only [leS, Nat.reduceEqDiff, ↓reduceIte, true_and, and_true]; omega
 ·refine xf_ (ye_ ?_)
  refine gA ?_
  have e : wM_ t = none := xY_ (fun i hi => Hi i (by omega))
  exact xd_ (Xl_ (is := []) rfl ⟨rfl, trivial⟩ (by rw [e]; rfl) (by simp))
theorem ac8 (t : List (List (List Int))) (hc : Cube t) : FreshCall Try.prog 56 [.agg [.l3 t]] (VG_ (yh_ t)) := by
 have hku := Ui_ t hc
 have hkd := Uj_ t hc
 refine gFC 24 [.tmp 2] Try.call56 Try.func56 fun cx hcx => gE ?_
 refine gA ?_
 cases hu : Y1_ t with
 | some u =>
  rw [hu] at hku
  have hne := SM_ hu
  refine gC fun K hK => ?_
  refine xK_ rfl (hku) rfl ?_; simp only [go_sem, seval]
  refine hK _ ?_; clear hK K
  refine gB ?_
  refine gR ?_
  refine gA ?_
  have e : yh_ t = some u := by simp only [yh_, orE, hu]
  exact xd_ (Xl_ (is := [1]) rfl ⟨rfl, trivial⟩ (by rw [e]; rfl) (by simp))
 | none =>
  rw [hu] at hku
  refine gC fun K hK => ?_
  refine xK_ rfl (hku) rfl ?_; simp only [go_sem, seval]
  refine hK _ ?_; clear hK K
  refine gA ?_
  refine gQ ?_
  refine xb_ ?_
  cases hd : Yt_ t with
  | some d =>
   obtain ⟨i, rfl⟩ := Z3_ hd
   rw [hd] at hkd
   refine gC fun K hK => ?_
   first | refine xM_ rfl rfl (hkd) ?_ | refine xe_ (xG_ rfl rfl (hkd)) ?_
   refine gV ?_
   refine hK _ ?_; clear hK K
   refine gA ?_
   refine gI (fun h2 => ?_) fun h2 => ?_
   ·refine gA ?_
    have e : yh_ t = some [1, (i : Int)] := by simp only [yh_, orE, hu, hd]
    exact xd_ (Xl_ (is := [1]) rfl ⟨rfl, trivial⟩ (by rw [e]; rfl) (by simp))
   ·exact absurd (Int.natCast_nonneg i) h2
  | none =>
   rw [hd] at hkd
   have hkt := Uk_ t hc hd
   refine gC fun K hK => ?_
   first | refine xM_ rfl rfl (hkd) ?_ | refine xe_ (xG_ rfl rfl (hkd)) ?_
   refine gV ?_
   refine hK _ ?_; clear hK K
   refine gA ?_
   refine gI (fun h2 => ?_) fun h2 => ?_
   ·exact absurd h2 (by decide)
   ·refine xb_ ?_
    cases ht : Wt_ t with
    | some u =>
     rw [ht] at hkt
     have hne := SN_ ht
     refine gC fun K hK => ?_
     refine xK_ rfl (hkt) rfl ?_; simp only [go_sem, seval]
     refine hK _ ?_; clear hK K
     refine gB ?_
     refine gR ?_
     refine gA ?_
     have e : yh_ t = some u := by simp only [yh_, orE, hu, hd, ht]
     exact xd_ (Xl_ (is := [1]) rfl ⟨rfl, trivial⟩ (by rw [e]; rfl) (by simp))
    | none =>
     rw [ht] at hkt
     refine gC fun K hK => ?_
     refine xK_ rfl (hkt) rfl ?_; simp only [go_sem, seval]
     refine hK _ ?_; clear hK K
     refine gA ?_
     refine gQ ?_
     refine xb_ ?_
     have hkb := Zp_ t hc
     have e : yh_ t = wM_ t := by simp only [yh_, orE, hu, hd, ht]
     cases hb : wM_ t with
     | some u =>
      rw [hb] at hkb e
      refine gC fun K hK => ?_
      refine xK_ rfl (hkb) rfl ?_; simp only [go_sem, seval]
      refine hK _ ?_; clear hK K
      exact xd_ (Xl_ (is := [1]) rfl ⟨rfl, trivial⟩ (by rw [e]; rfl) (by simp))
     | none =>
      rw [hb] at hkb e
      refine gC fun K hK => ?_
      refine xK_ rfl (hkb) rfl ?_; simp only [go_sem, seval]
      refine hK _ ?_; clear hK K
      exact xd_ (Xl_ (is := []) rfl ⟨rfl, trivial⟩ (by rw [e]; rfl) (by simp))
theorem Q4_ (t : List (List (List Int))) : PureCall Try.prog 33 [.agg [.l3 t]] (.bool (zM_ t)) := by
 have hk := Q3_ t
 refine gPC 10 [.tmp 2] Try.call33 Try.func33 fun cx hcx => gE ?_
 refine gA ?_
 by_cases hc : Cube t
 ·rw [zj_ hc] at hk
  have hf := ac8 t hc
  cases e : yh_ t with
  | some u =>
   rw [e] at hf
   simp only [VG_] at hf
   have hne := UO_ e
   refine gC fun K hK => ?_
   first | refine xM_ rfl rfl (hk) ?_ | refine xe_ (xG_ rfl rfl (hk)) ?_
   refine gV ?_
   first | refine xe_ (fun _ => xP_ rfl (hf)) ?_ | refine xe_ (xP_ rfl (hf)) ?_
   refine gW ?_
   refine hK _ ?_; clear hK K
   refine xd_ (yZ_ rfl ?_)
   simp only [zM_]
   rw [yn_ (fun h => by rw [e] at h; cases h.2)]
  | none =>
   rw [e] at hf
   simp only [VG_] at hf
   refine gC fun K hK => ?_
   first | refine xM_ rfl rfl (hk) ?_ | refine xe_ (xG_ rfl rfl (hk)) ?_
   refine gV ?_
   first | refine xe_ (fun _ => xP_ rfl (hf)) ?_ | refine xe_ (xP_ rfl (hf)) ?_
   refine gV ?_
   refine hK _ ?_; clear hK K
   refine xd_ (yZ_ rfl ?_)
   simp only [zM_]
   rw [zj_ ⟨hc, e⟩]
 ·rw [yn_ hc] at hk
  refine gC fun K hK => ?_
  first | refine xM_ rfl rfl (hk) ?_ | refine xe_ (xG_ rfl rfl (hk)) ?_
  refine gV ?_
  refine xe_ (v := .nil) (by first | trivial | (intro h; cases h)) ?_
  refine gV ?_
  refine hK _ ?_; clear hK K
  refine xd_ (yZ_ rfl ?_)
  simp only [zM_]
  rw [yn_ (fun h => hc h.1)]
end Go.Proofs.Ytlngnhbochmcoaa
