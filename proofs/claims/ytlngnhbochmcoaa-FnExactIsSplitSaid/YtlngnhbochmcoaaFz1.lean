import Derived.Test.YtlngnhbochmcoaaDz2
import Derived.Test.YtlngnhbochmcoaaWz1
import Derived.Test.YtlngnhbochmcoaaKp2
set_option linter.unusedSimpArgs false
set_option linter.unusedVariables false
namespace Go.Proofs.Ytlngnhbochmcoaa
open Go Go.Aw Go.Pl
open Go.Pl
theorem W8_ (a b : List (List Int)) : PureCall Try.prog 80 [.l2 a, .l2 b] (.bool (decide (a = b))) := by
 refine gPC 8 [.tmp 4] Try.call80 Try.func80 fun cx hcx => gE ?_
 refine gA ?_
 refine gC fun K hK => ?_
 first | refine xi_ (YQ_ a b) rfl ?_ | refine xe_ (xg_ (YQ_ a b) rfl) ?_
 refine gV ?_
 refine hK _ ?_; clear hK K
 refine xd_ (yZ_ rfl ?_)
 rfl
theorem Ye_ (xs ys : List (List (List Int))) : PureCall Try.prog 79 [.l3 xs, .l3 ys, .fn 80 []] (.bool (decide (xs = ys))) := by
 refine gPC 32 [.tmp 6] Try.call79 Try.func79 fun cx hcx => gE ?_
 refine gA ?_
 refine yg_ 0 fun h0 => ?_; simp only [St.get, xh_, Nat.reduceEqDiff, ↓reduceIte, if_true, fact, facts] at h0
 have hlen := h0.1
 refine gA ?_
 refine gI (fun hc => ?_) fun hc => ?_
 ·refine gA ?_
  refine xd_ (yZ_ rfl ?_)
  simp only [Bool.false_eq, decide_eq_false_iff_not]
  exact fun e => hc (by rw [e])
 ·refine xb_ ?_
  refine gA ?_
  (repeat refine xa_ ?_); refine xo_ (fun k : Nat => ⟨[(0, .l3 xs), (1, .l3 ys), (2, .fn 80 []), (15, .l3 xs), (16, .int xs.length), (17, .int k)], []⟩) (fun k => k ≤ xs.length ∧ xs.take k = ys.take k) (fun k => xs.length - k) 0 ⟨Nat.zero_le _, rfl⟩ (by
   refine And.intro ?_ rfl; simp only [leS, Nat.reduceEqDiff, ↓reduceIte, true_and, and_true]
   rfl) (fun k hk => ?_)
  refine gA ?_
  refine gI (fun h1 => ?_) fun h1 => ?_
  ·refine xb_ ?_
   refine gO ?_
   refine gB ?_
   refine gB ?_
   refine gC fun K hK => ?_
   first | refine xi_ (W8_ _ _) rfl ?_ | refine xe_ (xg_ (W8_ _ _) rfl) ?_
   refine gV ?_
   refine hK _ ?_; clear hK K
   refine gI (fun h2 => ?_) fun h2 => ?_
   ·refine gA ?_
    refine xd_ (yZ_ rfl ?_)
    simp only [Bool.false_eq, decide_eq_false_iff_not]
    exact zb_ h2
   ·refine xb_ ?_
    refine gB ?_
    refine ⟨k + 1,  ⟨by omega, yJ_ (by omega) (by omega) hk.2 h2⟩, by omega, .inl ⟨?_, rfl⟩⟩; simp only [leS, Nat.reduceEqDiff, ↓reduceIte, true_and, and_true]
    omega
  ·refine xf_ (ye_ ?_)
   refine gA ?_
   refine xd_ (yZ_ rfl ?_)
   have h := hk.2
   rw [List.take_of_length_le (by omega), List.take_of_length_le (by omega)] at h
   simp only [h, decide_true]
theorem Wz_ (xs ys : List (List (List Int))) : PureCall Try.prog 57 [.l3 xs, .l3 ys] (.bool (decide (xs = ys))) := by
 refine gPC 8 [.tmp 4] Try.call57 Try.func57 fun cx hcx => gE ?_
 refine gA ?_
 refine gC fun K hK => ?_
 first | refine xi_ (Ye_ xs ys) rfl ?_ | refine xe_ (xg_ (Ye_ xs ys) rfl) ?_
 refine gV ?_
 refine hK _ ?_; clear hK K
 refine xd_ (yZ_ rfl ?_)
 rfl
set_option maxHeartbeats 4000000 in
theorem Sn_ (t : List (List (List Int))) (hc : Cube t) : FreshCall Try.prog 58 [.agg [.l3 t]] (.agg [.l3 (U2_ t t.length)]) := by
 have h1 := hc.1
 have h16 := hc.2.1
 obtain ⟨n, en⟩ : ∃ n, t.length = n := ⟨_, rfl⟩
 have hm := hc.2.2
 rw [en] at h1 h16 hm
 refine gFC 42 [.cell 2 28] Try.call58 Try.func58 fun cx hcx => gE ?_
 refine gA ?_
 refine gA ?_
 refine gB ?_
 (repeat refine xa_ ?_)
 refine xo_ (fun o : Option Nat => match o with
  | none => ⟨[(1, .bptr 0 0), (2, .bptr 1 0), (3, .bptr 2 0), (10, .int t.length), (11, .int 0)], [(0, .bx [.l3 t]), (1, .bx [.nil]), (2, .bx [.nil])]⟩
  | some i => ⟨[(1, .bptr 0 0), (2, .bptr 1 0), (3, .bptr 2 0), (10, .int t.length), (11, .int i)], [(0, .bx [.l3 t]), (1, .bx [.nil]), (2, .bx [.ref 5 []]), (5, .t3 (U2_ t i))]⟩) (fun o => match o with
  | none => True
  | some i => 1 ≤ i ∧ i ≤ n) (fun o => match o with
  | none => n + 1
  | some i => n - i) none trivial ⟨by simp only [xN_, St.get, xh_, Nat.reduceEqDiff, ↓reduceIte, true_and, and_true], rfl⟩ (fun o ho => ?_)
 cases o with
 | none =>
  dsimp only at ho ⊢
  refine gA ?_
  refine gI (fun hli => ?_) fun hli => ?_
  ·have mi := hm 0 (by omega)
   refine xb_ ?_
   refine gO ?_
   refine gA ?_
   refine gB ?_
   refine gB ?_
   (repeat refine xa_ ?_); refine gLp (fun j : Nat => ⟨[(1, .bptr 0 0), (2, .bptr 1 0), (3, .bptr 2 0), (4, .int 0), (5, .ref 3 []), (10, .int t.length), (11, .int 0), (17, .int t.length), (18, .int j)], [(0, .bx [.l3 t]), (1, .bx [.nil]), (2, .bx [.nil]), (3, .t2 (SY_ t 0 j))]⟩) n fun j hj => ?_
   have lj := Xt_ (t := t) (i := 0) (j := j)
   have sj := U3_ (t := t) (i := 0) (j := j)
   refine gB ?_
   refine gI (fun hlj => ?_) fun hlj => ?_
   ·have mj := hm j (by omega)
    have lj2 := mj.1
    have rj := mj.row (show 0 < n by omega)
    have hcl := X2_ ((t.getD j []).getD 0 []) (by omega) (by omega)
    refine xb_ ?_
    refine gO ?_
    refine gB ?_
    refine gC fun K hK => ?_
    refine gU ?_
    refine xK_ rfl (hcl) rfl ?_; simp only [go_sem, seval]
    refine gU ?_
    refine hK _ ?_; clear hK K
    refine gB ?_
    refine ⟨j + 1,  by omega, by omega, .inl ⟨gH,  by rw [sj]⟩⟩
   ·obtain rfl : j = n := by omega
    refine xf_ (ye_ ?_)
    refine gB ?_
    refine gB ?_
    refine ⟨some (0 + 1), ⟨by omega, by omega⟩, by show j - (0 + 1) < j + 1; omega, .inl ⟨?_, ?_⟩⟩
    ·simp only [xN_, St.get, xh_, Nat.reduceEqDiff, ↓reduceIte, AV.int.injEq, true_and, and_true]
     omega
    ·have es : U2_ t (0 + 1) =  [SY_ t 0 t.length] := by rw [U4_] <;> rfl
     dsimp only
     rw [es, en]
  ·omega
 | some i =>
  dsimp only at ho ⊢
  have ls := oppL_length (t := t) (i := i)
  refine gA ?_
  refine gI (fun hli => ?_) fun hli => ?_
  ·have mi := hm i (by omega)
   refine xb_ ?_
   refine gO ?_
   refine gA ?_
   refine gB ?_
   refine gB ?_
   (repeat refine xa_ ?_); refine gLp (fun j : Nat => ⟨[(1, .bptr 0 0), (2, .bptr 1 0), (3, .bptr 2 0), (4, .int i), (5, .ref 6 []), (10, .int t.length), (11, .int i), (17, .int t.length), (18, .int j)], [(0, .bx [.l3 t]), (1, .bx [.nil]), (2, .bx [.ref 5 []]), (5, .t3 (U2_ t i)), (6, .t2 (SY_ t i j))]⟩) n fun j hj => ?_
   have lj := Xt_ (t := t) (i := i) (j := j)
   have sj := U3_ (t := t) (i := i) (j := j)
   refine gB ?_
   refine gI (fun hlj => ?_) fun hlj => ?_
   ·have mj := hm j (by omega)
    have lj2 := mj.1
    have rj := mj.row (show i < n by omega)
    have hcl := X2_ ((t.getD j []).getD i []) (by omega) (by omega)
    refine xb_ ?_
    refine gO ?_
    refine gB ?_
    refine gC fun K hK => ?_
    refine gU ?_
    refine xK_ rfl (hcl) rfl ?_; simp only [go_sem, seval]
    refine gU ?_
    refine hK _ ?_; clear hK K
    refine gB ?_
    refine ⟨j + 1,  by omega, by omega, .inl ⟨gH,  by rw [sj]⟩⟩
   ·obtain rfl : j = n := by omega
    refine xf_ (ye_ ?_)
    refine gB ?_
    refine gB ?_
    refine ⟨some (i + 1), ⟨by omega, by omega⟩, by show j - (i + 1) < j - i; omega, .inl ⟨?_, ?_⟩⟩
    ·simp only [xN_, St.get, xh_, Nat.reduceEqDiff, ↓reduceIte, AV.int.injEq, true_and, and_true]
     omega
    ·have es : U2_ t (i + 1) = U2_ t i ++ [SY_ t i t.length] := by rw [U4_] <;> rfl
     dsimp only
     rw [es, en]
  ·obtain rfl : i = t.length := by omega
   refine xf_ (ye_ ?_)
   refine gA ?_
   exact xd_ (bi7 (v := .agg [.ref 5 []]) (by simp only [go_sem, seval]) rfl (by simp))
theorem ab5 (t : List (List (List Int))) (hc : Cube t) : PureCall Try.prog 34 [.agg [.l3 t]] (.bool (bd (U1_ t))) := by
 have ho := Sn_ t hc
 have he := Wz_ t (U2_ t t.length)
 have hb : decide (t = U2_ t t.length) = bd (U1_ t) := by
  by_cases h : U1_ t
  ·rw [bd_iff.2 h, decide_eq_true_eq]; exact (S0_ hc).1 h
  ·rw [yn_ h, decide_eq_false_iff_not]; exact fun e => h ((S0_ hc).2 e)
 rw [hb] at he
 refine gPC 9 [.tmp 2] Try.call34 Try.func34 fun cx hcx => gE ?_
 refine gA ?_
 (repeat refine xa_ ?_); refine xV_ (xZ_ hcx) mixed (by kernel_rfl) fun K hK => ?_; simp only [go_sem, seval]
 first | refine x3_ rfl (ho) ?_ | refine xe_ (xP_ rfl (ho)) ?_
 refine gV ?_
 first | refine xi_ (he) rfl ?_ | refine xe_ (xg_ (he) rfl) ?_
 refine gV ?_
 refine hK _ ?_; clear hK K
 refine xd_ (yZ_ rfl ?_)
 rfl
theorem Xe_ (t : List (List (List Int))) : PureCall Try.prog 21 [.agg [.l3 t]] (.int (Xu_ t)) := by
 have hr := Q4_ t
 unfold Xu_
 refine gPC 9 [.tmp 2] Try.call21 Try.func21 fun cx hcx => gE ?_
 refine gA ?_
 refine gC fun K hK => ?_
 first | refine xi_ (hr) rfl ?_ | refine xe_ (xg_ (hr) rfl) ?_
 refine gV ?_
 refine hK _ ?_; clear hK K
 cases h : zM_ t with
 | false =>
  refine gI (fun h1 => ?_) fun h1 => ?_
  ·refine gA ?_
   refine xd_ (zW_ rfl ?_)
   simp
  ·simp [h] at h1
 | true =>
  have hcb := ab5 t (Xr_ h).1
  refine gI (fun h1 => ?_) fun h1 => ?_
  ·simp [h] at h1
  ·refine xb_ ?_
   refine gC fun K hK => ?_
   first | refine xi_ (hcb) rfl ?_ | refine xe_ (xg_ (hcb) rfl) ?_
   refine gV ?_
   refine hK _ ?_; clear hK K
   cases h2 : bd (U1_ t) with
   | false =>
    refine gI (fun h3 => ?_) fun h3 => ?_
    ·refine gA ?_
     refine xd_ (zW_ rfl ?_)
     simp
    ·simp [h2] at h3
   | true =>
    refine gI (fun h3 => ?_) fun h3 => ?_
    ·simp [h2] at h3
    ·refine xb_ ?_
     refine gA ?_
     refine xd_ (zW_ rfl ?_)
     simp
theorem QK_ (t : List (List (List Int))) (hc : Cube t) : PureCall Try.prog 17 [.agg [.l3 t]] (.bool (bd (U1_ t))) := by
 have h16 := hc.2.1
 have hm := hc.2.2
 refine gPC 35 [.tmp 2] Try.call17 Try.func17 fun cx hcx => gE ?_
 refine gA ?_
 refine gA ?_
 (repeat refine xa_ ?_); refine xo_ (fun i : Nat => ⟨[(1, .bptr 0 0), (3, .int i)], [(0, .bx [.l3 t])]⟩) (fun i => i ≤ t.length ∧ ∀ p, p < i → ∀ q, q < p → (t.getD p []).getD q [] = (t.getD q []).getD p []) (fun i => t.length - i) 0 ⟨Nat.zero_le _, fun a h => absurd h (Nat.not_lt_zero a)⟩ (by
  refine And.intro ?_ rfl; simp only [leS, Nat.reduceEqDiff, ↓reduceIte, true_and, and_true]
  rfl) (fun i hi => ?_)
 obtain ⟨hi, hI⟩ := hi
 refine gB ?_
 refine gI (fun h1 => ?_) fun h1 => ?_
 ·have mi := (hm i (by omega)).1
  refine xb_ ?_
  refine gO ?_
  refine gB ?_
  (repeat refine xa_ ?_); refine xo_ (fun j : Nat => ⟨[(1, .bptr 0 0), (3, .int i), (4, .int j)], [(0, .bx [.l3 t])]⟩) (fun j => j ≤ i ∧ ∀ q, q < j → (t.getD i []).getD q [] = (t.getD q []).getD i []) (fun j => i - j) 0 ⟨Nat.zero_le _, fun a h => absurd h (Nat.not_lt_zero a)⟩ (by
   refine And.intro ?_ rfl; simp only [leS, Nat.reduceEqDiff, ↓reduceIte, true_and, and_true]
   rfl) (fun j hj => ?_)
  obtain ⟨hj, hJ⟩ := hj
  refine gB ?_
  refine gI (fun h2 => ?_) fun h2 => ?_
  ·have mj := (hm j (by omega)).1
   have hs := Qu_ ((t.getD i []).getD j []) ((t.getD j []).getD i [])
   refine xb_ ?_
   refine gO ?_
   (repeat refine xa_ ?_); refine xV_ (xZ_ hcx) mixed (by kernel_rfl) fun K hK => ?_; simp only [go_sem, seval]
   refine gU ?_
   first | refine xi_ (hs) rfl ?_ | refine xe_ (xg_ (hs) rfl) ?_
   refine gW ?_
   refine hK _ ?_; clear hK K
   refine gI (fun h3 => ?_) fun h3 => ?_
   ·refine gA ?_
    refine xd_ (yZ_ rfl ?_)
    exact (yn_ (fun h => h3 (h i (by omega) j (by omega)))).symm
   ·refine xb_ ?_
    refine gB ?_
    refine ⟨j + 1,  ⟨by omega, fun q hq => by rcases Nat.lt_succ_iff_lt_or_eq.1 hq with h | rfl; exact hJ q h; exact h3⟩, by omega, .inl ⟨?_, rfl⟩⟩; simp only [leS, Nat.reduceEqDiff, ↓reduceIte, true_and, and_true]
    omega
  ·refine xf_ (ye_ ?_)
   refine gB ?_
   refine ⟨i + 1,  ⟨by omega, fun p hp q hq => by rcases Nat.lt_succ_iff_lt_or_eq.1 hp with h | rfl; exact hI p h q hq; exact hJ q (by omega)⟩, by omega, .inl ⟨?_, rfl⟩⟩; simp only [leS, Nat.reduceEqDiff, ↓reduceIte, true_and, and_true]
   omega
 ·refine xf_ (ye_ ?_)
  refine gA ?_
  refine xd_ (yZ_ rfl ?_)
  refine (bd_iff.2 (fun p hp q hq => ?_)).symm
  rcases Nat.lt_trichotomy p q with h | h | h
  ·exact (hI q (by omega) p h).symm
  ·rw [h]
  ·exact hI p (by omega) q h
theorem QL_ (t : List (List (List Int))) : PureCall Try.prog 10 [.agg [.l3 t]] (.int (Xu_ t)) := by
 have hr := ao3 t
 unfold Xu_
 refine gPC 9 [.tmp 2] Try.call10 Try.func10 fun cx hcx => gE ?_
 refine gA ?_
 refine gC fun K hK => ?_
 first | refine xi_ (hr) rfl ?_ | refine xe_ (xg_ (hr) rfl) ?_
 refine gV ?_
 refine hK _ ?_; clear hK K
 cases h : zM_ t with
 | false =>
  refine gI (fun h1 => ?_) fun h1 => ?_
  ·refine gA ?_
   refine xd_ (zW_ rfl ?_)
   simp
  ·simp [h] at h1
 | true =>
  have hcb := QK_ t (Xr_ h).1
  refine gI (fun h1 => ?_) fun h1 => ?_
  ·simp [h] at h1
  ·refine xb_ ?_
   refine gC fun K hK => ?_
   first | refine xi_ (hcb) rfl ?_ | refine xe_ (xg_ (hcb) rfl) ?_
   refine gV ?_
   refine hK _ ?_; clear hK K
   cases h2 : bd (U1_ t) with
   | false =>
    refine gI (fun h3 => ?_) fun h3 => ?_
    ·refine gA ?_
     refine xd_ (zW_ rfl ?_)
     simp
    ·simp [h2] at h3
   | true =>
    refine gI (fun h3 => ?_) fun h3 => ?_
    ·simp [h2] at h3
    ·refine xb_ ?_
     refine gA ?_
     refine xd_ (zW_ rfl ?_)
     simp
end Go.Proofs.Ytlngnhbochmcoaa
