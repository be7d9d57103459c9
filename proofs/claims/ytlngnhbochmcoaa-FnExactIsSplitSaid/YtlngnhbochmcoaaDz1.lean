import Derived.Test.YtlngnhbochmcoaaWx4
import Derived.Test.YtlngnhbochmcoaaPl2
import Derived.Test.YtlngnhbochmcoaaLib5
set_option linter.unusedSimpArgs false
set_option linter.unusedVariables false
namespace Go.Proofs.Ytlngnhbochmcoaa
open Go Go.Aw Go.Pl
theorem QW_ (a : Int) (k : Nat) (ha : InP a) (hk : k ≤ 1000000000) : PureCall Try.prog 67 [.int a, .int k] (.int (pw a k)) := by
 refine gPC 22 [.tmp 4] Try.call67 Try.func67 fun cx hcx => gE ?_
 refine gA ?_
 refine gA ?_
 (repeat refine xa_ ?_); refine xo_ (fun x : Int × Int × Nat => ⟨[(0, .int x.2.1), (1, .int x.2.2), (5, .int x.1)], []⟩) (fun x => InP x.1 ∧ InP x.2.1 ∧ x.2.2 ≤ 1000000000 ∧ pwL x.1 x.2.1 x.2.2 = pw a k) (fun x => x.2.2) (1, a, k) ⟨Jm_, ha, hk, rfl⟩ (by
  refine And.intro ?_ rfl; simp only [leS, Nat.reduceEqDiff, ↓reduceIte, true_and, and_true]
  skip) (fun x hx => ?_)
 obtain ⟨out, b, m⟩ := x
 obtain ⟨h1, h2, h4, h3⟩ := hx
 simp only at h1 h2 h3 h4
 have m1 := Wv_ h1 h2
 have m2 := Wv_ h2 h2
 have g1 := h1.1
 have g2 := h1.2
 have g3 := h2.1
 have g4 := h2.2
 refine gA ?_
 refine gI (fun hm => ?_) fun hm => ?_
 ·have hm' : m ≠ 0 := by omega
  refine xb_ ?_
  refine gO ?_
  refine gC fun K hK => ?_; (try simp (disch := omega) only [tmP, tdP]); (repeat refine aI (hb := ?_)); refine hK _ ?_; clear hK K
  refine gI (fun hodd => ?_) fun hodd => ?_
  ·refine gC fun K hK => ?_; (try simp (disch := omega) only [tmP, tdP]); (repeat refine aI (hb := ?_)); refine hK _ ?_; clear hK K
   refine gC fun K hK => ?_; (try simp (disch := omega) only [tmP, tdP]); (repeat refine aI (hb := ?_)); refine hK _ ?_; clear hK K
   refine gC fun K hK => ?_; (try simp (disch := omega) only [tmP, tdP]); (repeat refine aI (hb := ?_)); refine hK _ ?_; clear hK K
   refine ⟨(out * b % 55441, b * b % 55441, m / 2), ⟨x7_ _, x7_ _, by show m / 2 ≤ _; omega, ?_⟩, by show m / 2 < m; omega, .inl ⟨?_, rfl⟩⟩
   ·rw [← h3, w9_ hm', if_pos (by omega)]
   ·simp only [leS, Nat.reduceEqDiff, ↓reduceIte, true_and, and_true]
    omega
  ·refine xb_ ?_
   refine gC fun K hK => ?_; (try simp (disch := omega) only [tmP, tdP]); (repeat refine aI (hb := ?_)); refine hK _ ?_; clear hK K
   refine gC fun K hK => ?_; (try simp (disch := omega) only [tmP, tdP]); (repeat refine aI (hb := ?_)); refine hK _ ?_; clear hK K
   refine ⟨(out, b * b % 55441, m / 2), ⟨h1, x7_ _, by show m / 2 ≤ _; omega, ?_⟩, by show m / 2 < m; omega, .inl ⟨?_, rfl⟩⟩
   ·rw [← h3, w9_ hm', if_neg (by omega)]
   ·simp only [leS, Nat.reduceEqDiff, ↓reduceIte, true_and, and_true]
    omega
 ·have hm0 : m = 0 := by omega
  subst hm0
  rw [Zd_] at h3
  refine xf_ (ye_ ?_)
  refine gA ?_
  refine xd_ (zW_ rfl ?_)
  exact h3
theorem Zk_ (a : Int) (ha : InP a) : PureCall Try.prog 46 [.int a] (.int (inv a)) := by
 have hk : PureCall Try.prog 67 [.int a, .int 55439] (.int (inv a)) := QW_ a 55439 ha (by omega)
 refine gPC 5 [.tmp 2] Try.call46 Try.func46 fun cx hcx => gE ?_
 refine gA ?_
 refine gC fun K hK => ?_
 first | refine xM_ rfl rfl (hk) ?_ | refine xe_ (xG_ rfl rfl (hk)) ?_
 refine gV ?_
 refine hK _ ?_; clear hK K
 refine xd_ (zW_ rfl ?_)
 rfl
theorem ac6 (a : Int) (k : Nat) (ha : InP a) (hk : k ≤ 1000000000) : PureCall Try.prog 98 [.int a, .int k] (.int (pw a k)) := by
 refine gPC 22 [.tmp 4] Try.call98 Try.func98 fun cx hcx => gE ?_
 refine gA ?_
 refine gA ?_
 (repeat refine xa_ ?_); refine xo_ (fun x : Int × Int × Nat => ⟨[(0, .int x.2.1), (1, .int x.2.2), (5, .int x.1)], []⟩) (fun x => InP x.1 ∧ InP x.2.1 ∧ x.2.2 ≤ 1000000000 ∧ pwL x.1 x.2.1 x.2.2 = pw a k) (fun x => x.2.2) (1, a, k) ⟨Jm_, ha, hk, rfl⟩ (by
  refine And.intro ?_ rfl; simp only [leS, Nat.reduceEqDiff, ↓reduceIte, true_and, and_true]
  skip) (fun x hx => ?_)
 obtain ⟨out, b, m⟩ := x
 obtain ⟨h1, h2, h4, h3⟩ := hx
 simp only at h1 h2 h3 h4
 have m1 := Wv_ h1 h2
 have m2 := Wv_ h2 h2
 have g1 := h1.1
 have g2 := h1.2
 have g3 := h2.1
 have g4 := h2.2
 refine gA ?_
 refine gI (fun hm => ?_) fun hm => ?_
 ·have hm' : m ≠ 0 := by omega
  refine xb_ ?_
  refine gO ?_
  refine gC fun K hK => ?_; (try simp (disch := omega) only [tmP, tdP]); (repeat refine aI (hb := ?_)); refine hK _ ?_; clear hK K
  refine gI (fun hodd => ?_) fun hodd => ?_
  ·refine gC fun K hK => ?_; (try simp (disch := omega) only [tmP, tdP]); (repeat refine aI (hb := ?_)); refine hK _ ?_; clear hK K
   refine gC fun K hK => ?_; (try simp (disch := omega) only [tmP, tdP]); (repeat refine aI (hb := ?_)); refine hK _ ?_; clear hK K
   refine gC fun K hK => ?_; (try simp (disch := omega) only [tmP, tdP]); (repeat refine aI (hb := ?_)); refine hK _ ?_; clear hK K
   refine ⟨(out * b % 55441, b * b % 55441, m / 2), ⟨x7_ _, x7_ _, by show m / 2 ≤ _; omega, ?_⟩, by show m / 2 < m; omega, .inl ⟨?_, rfl⟩⟩
   ·rw [← h3, w9_ hm', if_pos (by omega)]
   ·simp only [leS, Nat.reduceEqDiff, ↓reduceIte, true_and, and_true]
    omega
  ·refine xb_ ?_
   refine gC fun K hK => ?_; (try simp (disch := omega) only [tmP, tdP]); (repeat refine aI (hb := ?_)); refine hK _ ?_; clear hK K
   refine gC fun K hK => ?_; (try simp (disch := omega) only [tmP, tdP]); (repeat refine aI (hb := ?_)); refine hK _ ?_; clear hK K
   refine ⟨(out, b * b % 55441, m / 2), ⟨h1, x7_ _, by show m / 2 ≤ _; omega, ?_⟩, by show m / 2 < m; omega, .inl ⟨?_, rfl⟩⟩
   ·rw [← h3, w9_ hm', if_neg (by omega)]
   ·simp only [leS, Nat.reduceEqDiff, ↓reduceIte, true_and, and_true]
    omega
 ·have hm0 : m = 0 := by omega
  subst hm0
  rw [Zd_] at h3
  refine xf_ (ye_ ?_)
  refine gA ?_
  refine xd_ (zW_ rfl ?_)
  exact h3
theorem Uf_ (x a : Int) (hx : InP x) (ha : InP a) : PureCall Try.prog 85 [.int x, .int a] (.int (x * inv a % 55441)) := by
 have hk : PureCall Try.prog 98 [.int a, .int 55439] (.int (inv a)) := ac6 a 55439 ha (by omega)
 have m1 := Wv_ hx (Yv_ ha)
 refine gPC 10 [.tmp 4] Try.call85 Try.func85 fun cx hcx => gE ?_
 refine gA ?_
 refine gC fun K hK => ?_
 first | refine xM_ rfl rfl (hk) ?_ | refine xe_ (xG_ rfl rfl (hk)) ?_
 refine gV ?_
 try simp (disch := omega) only [tmP, tdP]
 refine gU ?_
 refine hK _ ?_; clear hK K
 refine xd_ (zW_ rfl ?_)
 rfl
open Go.Pl
theorem YH_ (x : Int) : PureCall Try.prog 68 [.int x] (.bool (decide (0 ≤ x) && decide (x ≤ 55440))) := by
 refine gPC 5 [.tmp 2] Try.call68 Try.func68 fun cx hcx => gE ?_
 refine gA ?_
 refine gC fun K hK => ?_
 first | refine xi_ (Y3_ x 0 55440) rfl ?_ | refine xe_ (xg_ (Y3_ x 0 55440) rfl) ?_
 refine gV ?_
 refine hK _ ?_; clear hK K
 refine xd_ (yZ_ rfl ?_)
 rfl
theorem Vb_ (xs : List Int) : PureCall Try.prog 49 [.l1 xs] (.bool (ao4 xs)) := by
 refine gPC 16 [.tmp 2] Try.call49 Try.func49 fun cx hcx => gE ?_
 refine gA ?_
 refine yg_ 0 fun h0 => ?_; simp only [St.get, xh_, Nat.reduceEqDiff, ↓reduceIte, if_true, fact, facts] at h0
 have hlen := h0.1
 refine gA ?_
 (repeat refine xa_ ?_); refine xo_ (fun k : Nat => ⟨[(0, .l1 xs), (3, .int k)], []⟩) (fun k => k ≤ xs.length ∧ ∀ b, b < k → InP (xs.getD b 0)) (fun k => xs.length - k) 0 ⟨Nat.zero_le _, fun a h => absurd h (Nat.not_lt_zero a)⟩ (by refine And.intro ?_ rfl; simp only [leS, Nat.reduceEqDiff, ↓reduceIte, true_and, and_true]; rfl) (fun k hk => ?_); obtain ⟨hk, Hk⟩ := hk
 refine gA ?_
 refine gI (fun hlk => ?_) fun hlk => ?_
 ·refine xb_ ?_
  refine gO ?_
  refine gC fun K hK => ?_
  refine gU ?_
  first | refine xi_ (YH_ _) rfl ?_ | refine xe_ (xg_ (YH_ _) rfl) ?_
  refine gV ?_
  refine hK _ ?_; clear hK K
  refine gI (fun h6 => ?_) fun h6 => ?_
  ·refine gA ?_
   refine xd_ (yZ_ rfl ?_)
   refine (Bool.eq_false_iff.2 (fun h => ?_)).symm
   have hm := numsB_iff.1 h k (by omega)
   simp only [Bool.not_eq_true', Bool.and_eq_false_iff, decide_eq_false_iff_not] at h6
   exact h6.elim (fun h => h hm.1) (fun h => h hm.2)
  ·simp only [Bool.not_eq_false', Bool.and_eq_true, decide_eq_true_eq] at h6
   refine xb_ ?_
   refine gB ?_
   refine ⟨k + 1, ⟨by omega, fun a ha => by rcases Nat.lt_succ_iff_lt_or_eq.1 ha with h | rfl; exact Hk a h; exact h6⟩, by omega, .inl ⟨?_, rfl⟩⟩; simp only [leS, Nat.reduceEqDiff, ↓reduceIte, true_and, and_true]; omega
 ·refine xf_ (ye_ ?_)
  refine gA ?_
  refine xd_ (yZ_ rfl ?_)
  exact (numsB_iff.2 (fun k' hk' => Hk k' (by omega))).symm
theorem QX_ (x y : List Int) (n : Nat) (h16 : n ≤ 64) (hx : x.length = n) (hy : y.length = n) (px : ∀ i, i < n → InP (x.getD i 0)) (py : ∀ i, i < n → InP (y.getD i 0)) : PureCall Try.prog 50 [.l1 x, .l1 y] (.int (Ti_ x y n)) := by
 have bd : ∀ k, k < n → 0 ≤ Qt_ x y k ∧ Qt_ x y k ≤ 3073593600 := fun k hk => Wv_ (px k hk) (py k hk)
 refine gPC 26 [.tmp 4] Try.call50 Try.func50 fun cx hcx => gE ?_
 refine gA ?_
 refine gA ?_
 refine gA ?_
 (repeat refine xa_ ?_); refine gLp (fun k : Nat => ⟨[(0, .l1 x), (1, .l1 y), (5, .int (sumTo (Qt_ x y) k % 55441)), (6, .int k)], []⟩) n fun k hk => ?_
 refine gA ?_
 refine gI (fun hlk => ?_) fun hlk => ?_
 ·have cL := bd k (by omega)
  have e := aU4 (f := Qt_ x y) (n := k)
  simp only [Qt_] at cL e
  refine xb_ ?_
  refine gO ?_
  (repeat refine xa_ ?_); refine xV_ (xZ_ hcx) mixed (by kernel_rfl) fun K hK => ?_; simp only [go_sem, seval]; (try simp (disch := omega) only [tmP, tdP]); (repeat refine aI (hb := ?_)); refine hK _ ?_; clear hK K
  refine gB ?_
  refine ⟨k + 1,  by omega, by omega, .inl ⟨by simp only [leS, Nat.reduceEqDiff, ↓reduceIte, true_and, and_true]; exact ⟨e, by omega⟩,  rfl⟩⟩
 ·obtain rfl : k = n := by omega
  refine xf_ (ye_ ?_)
  refine gC fun K hK => ?_; (try simp (disch := omega) only [tmP, tdP]); (repeat refine aI (hb := ?_)); refine hK _ ?_; clear hK K
  refine xd_ (zW_ rfl ?_)
  rfl
theorem Zl_ (xs : List Int) (x : Int) : PureCall Try.prog 89 [.l1 xs, .int x] (.int (Qp_ (fun y => decide (y = x)) xs)) := by
 refine gPC 19 [.tmp 4] Try.call89 Try.func89 fun cx hcx => gE ?_
 refine gA ?_
 refine yg_ 0 fun h0 => ?_; simp only [St.get, xh_, Nat.reduceEqDiff, ↓reduceIte, if_true, fact, facts] at h0
 have hlen := h0.1
 refine gA ?_
 (repeat refine xa_ ?_); refine xo_ (fun k : Nat => ⟨[(0, .l1 xs), (1, .int x), (5, .int k)], []⟩) (fun k => k ≤ xs.length ∧ ∀ b, b < k → decide (xs.getD b 0 = x) = false) (fun k => xs.length - k) 0 ⟨Nat.zero_le _, fun a h => absurd h (Nat.not_lt_zero a)⟩ (by refine And.intro ?_ rfl; simp only [leS, Nat.reduceEqDiff, ↓reduceIte, true_and, and_true]; rfl) (fun k hk => ?_); obtain ⟨hk, Hk⟩ := hk
 refine gA ?_
 refine gI (fun hlk => ?_) fun hlk => ?_
 ·refine xb_ ?_
  refine gO ?_
  refine gB ?_
  refine gI (fun h6 => ?_) fun h6 => ?_
  ·refine gA ?_
   refine xd_ (zW_ rfl ?_)
   exact (XZ_ (d := 0) (show k < xs.length by omega) Hk (decide_eq_true h6)).symm
  ·refine xb_ ?_
   refine gB ?_
   refine ⟨k + 1, ⟨by omega, fun a ha => by rcases Nat.lt_succ_iff_lt_or_eq.1 ha with h | rfl; exact Hk a h; exact decide_eq_false h6⟩, by omega, .inl ⟨?_, rfl⟩⟩; simp only [leS, Nat.reduceEqDiff, ↓reduceIte, true_and, and_true]; omega
 ·refine xf_ (ye_ ?_)
  refine gA ?_
  refine xd_ (zW_ rfl ?_)
  exact (Z0_ (d := 0) (fun i hi => Hk i (by omega))).symm
theorem QY_ (xs : List Int) (x : Int) : PureCall Try.prog 71 [.l1 xs, .int x] (.bool (xs.any fun y => decide (y = x))) := by
 refine gPC 9 [.tmp 4] Try.call71 Try.func71 fun cx hcx => gE ?_
 refine gA ?_
 refine gC fun K hK => ?_
 first | refine xM_ rfl rfl (Zl_ xs x) ?_ | refine xe_ (xG_ rfl rfl (Zl_ xs x)) ?_
 refine gV ?_
 refine hK _ ?_; clear hK K
 refine xd_ (yZ_ rfl ?_)
 exact VF_
theorem as2 (x y : List Int) (n : Nat) (h16 : n ≤ 64) (hx : x.length = n) (hy : y.length = n) (px : ∀ i, i < n → InP (x.getD i 0)) (py : ∀ i, i < n → InP (y.getD i 0)) : PureCall Try.prog 66 [.l1 x, .l1 y] (.int (Ti_ x y n)) := by
 have bd : ∀ k, k < n → 0 ≤ Qt_ x y k ∧ Qt_ x y k ≤ 3073593600 := fun k hk => Wv_ (px k hk) (py k hk)
 refine gPC 27 [.tmp 4] Try.call66 Try.func66 fun cx hcx => gE ?_
 refine gA ?_
 refine gA ?_
 refine gA ?_
 (repeat refine xa_ ?_); refine gLp (fun k : Nat => ⟨[(0, .l1 x), (1, .l1 y), (5, .int (sumTo (fun k => Qt_ x y k % 55441) k)), (8, .int n), (9, .int k)], []⟩) n fun k hk => ?_
 have sL := sumTo_le (f := fun k => Qt_ x y k % 55441) (B := 55440) (n := k) (fun x hx => by have := bd x (by omega); omega)
 refine gA ?_
 refine gI (fun hlk => ?_) fun hlk => ?_
 ·have cL := bd k (by omega)
  simp only [Qt_] at cL
  refine xb_ ?_
  refine gO ?_
  refine gA ?_
  (repeat refine xa_ ?_); refine xV_ (xZ_ hcx) mixed (by kernel_rfl) fun K hK => ?_; simp only [go_sem, seval]; (try simp (disch := omega) only [tmP, tdP]); (repeat refine aI (hb := ?_)); refine hK _ ?_; clear hK K
  refine gB ?_
  refine ⟨k + 1,  by omega, by omega, .inl ⟨by simp only [leS, Nat.reduceEqDiff, ↓reduceIte, true_and, and_true]; exact ⟨rfl, by omega⟩,  rfl⟩⟩
 ·obtain rfl : k = n := by omega
  refine xf_ (ye_ ?_)
  refine gC fun K hK => ?_; (try simp (disch := omega) only [tmP, tdP]); (repeat refine aI (hb := ?_)); refine hK _ ?_; clear hK K
  refine xd_ (zW_ rfl ?_)
  unfold Ti_
  rw [Jn_]
theorem ac7 (b : List (List Int)) (v : List Int) (n : Nat) (h1 : 1 ≤ n) (h16 : n ≤ 16) (hb : MatP n b) (hv : v.length = n) (pv : ∀ i, i < n → InP (v.getD i 0)) : FreshCall Try.prog 97 [.l2 (Wu_ b), .l1 v] (.l1 (apL b v n)) := by
 have r0 := hb.row (show 0 < n by omega)
 have lb := hb.1
 have lt := US_ b
 have hcol : ∀ j, j < n → (Wu_ b).getD j [] = xU_ n (fun i => e2 b i j) := fun j hj => by rw [Jr_ (by omega), lb]
 refine gFC 23 [.tmp 4] Try.call97 Try.func97 fun cx hcx => gE ?_
 refine gA ?_
 refine gA ?_
 refine gA ?_
 (repeat refine xa_ ?_); refine gLp (fun j : Nat => ⟨[(1, .l1 v), (5, .ref 0 []), (9, .l2 (Wu_ b)), (10, .int n), (11, .int j)], [(0, .t1 ((List.range j).map fun j => sumTo (fun k => v.getD k 0 * e2 b k j) n % 55441))]⟩) n fun j hj => ?_
 have hl : ((List.range j).map fun j => sumTo (fun k => v.getD k 0 * e2 b k j) n % 55441).length = j := by simp
 refine gA ?_
 refine gI (fun hlj => ?_) fun hlj => ?_
 ·have hc := hcol j (by omega)
  have hd : PureCall Try.prog 66 [.l1 (xU_ n fun i => e2 b i j), .l1 v] (.int (sumTo (fun k => v.getD k 0 * e2 b k j) n % 55441)) := by
   rw [← aF6]
   exact as2 _ _ n (by omega) (xn_ ..) hv (fun i hi => by rw [xE_ hi]; exact hb.inP hi (by omega)) pv
  refine xb_ ?_
  refine gO ?_
  refine gC fun K hK => ?_
  refine gU ?_
  simp only [hc]
  refine hK _ ?_; clear hK K
  refine gC fun K hK => ?_
  first | refine xi_ (hd) rfl ?_ | refine xe_ (xg_ (hd) rfl) ?_
  refine gV ?_
  (repeat refine And.intro (by (first | omega | (rw [hl]; omega))) ?_)
  refine hK _ ?_; clear hK K
  refine gB ?_
  refine ⟨j + 1, by omega, by omega, .inr ⟨[1], by simp only [x2_, List.map_cons, List.map_nil, xp_, xA_, qOf, rmT, xt_, x4_, List.filter_cons, List.filter_nil, List.contains_cons, List.contains_nil, xN_, St.get, xh_, Nat.reduceEqDiff, Nat.reduceBEq, Bool.or_false, Bool.or_true, Bool.false_and, Bool.not_true, Bool.not_false, Bool.false_eq_true, ↓reduceIte, if_true, if_false, AV.int.injEq, AV.bool.injEq, AV.l1.injEq, AV.l2.injEq, AV.l3.injEq, true_and, and_true]; omega, by simp only [x2_, List.map_cons, List.map_nil, xp_, xA_, qOf, rmT, xt_, x4_, List.filter_cons, List.filter_nil, List.contains_cons, List.contains_nil, xN_, St.get, xh_, Nat.reduceEqDiff, Nat.reduceBEq, Bool.or_false, Bool.or_true, Bool.false_and, Bool.not_true, Bool.not_false, Bool.false_eq_true, ↓reduceIte, if_true, if_false, AV.int.injEq, AV.bool.injEq, AV.l1.injEq, AV.l2.injEq, AV.l3.injEq, true_and, and_true]; simp only [List.range_succ (n := j), List.map_append, List.map_cons, List.map_nil]⟩⟩
 ·obtain rfl : j = n := by omega
  refine xf_ (ye_ ?_)
  refine gA ?_
  exact xd_ (Xl_ (is := [0]) rfl ⟨rfl, trivial⟩ rfl (by simp))
theorem Zm_ (a b : List (List Int)) (n : Nat) (h1 : 1 ≤ n) (h16 : n ≤ 16) (ha : MatP n a) (hb : MatP n b) : FreshCall Try.prog 84 [.l2 a, .l2 b] (.l2 (wz_ a b n)) := by
 have la := ha.1
 have lb := hb.1
 have r0 := hb.row (show 0 < n by omega)
 have hT := UP_ b (by omega) (by omega) (by omega) (fun i hi => by rw [hb.row (by omega), r0])
 refine gFC 26 [.tmp 4] Try.call84 Try.func84 fun cx hcx => gE ?_
 refine gA ?_
 refine gC fun K hK => ?_
 first | refine x3_ rfl (hT) ?_ | refine xe_ (xP_ rfl (hT)) ?_
 refine gV ?_
 refine hK _ ?_; clear hK K
 refine gA ?_
 refine gA ?_
 (repeat refine xa_ ?_); refine gLp (fun i : Nat => ⟨[(5, .l2 (Wu_ b)), (6, .ref 0 []), (12, .l2 a), (13, .int n), (14, .int i)], [(0, .t2 ((List.range i).map fun i => xU_ n fun j => sumTo (pG a b i j) n % 55441))]⟩) n fun i hi => ?_
 have hl : ((List.range i).map fun i => xU_ n fun j => sumTo (pG a b i j) n % 55441).length = i := by simp
 refine gA ?_
 refine gI (fun hli => ?_) fun hli => ?_
 ·have hA : FreshCall Try.prog 97 [.l2 (Wu_ b), .l1 (a.getD i [])] (.l1 (xU_ n fun j => sumTo (pG a b i j) n % 55441)) := ac7 b (a.getD i []) n h1 h16 hb (ha.row (by omega)) (fun k hk => ha.inP (by omega) hk)
  refine xb_ ?_
  refine gO ?_
  refine gB ?_
  refine gC fun K hK => ?_
  refine xK_ rfl (hA) rfl ?_; simp only [go_sem, seval]
  (repeat refine And.intro (by (first | omega | (rw [hl]; omega))) ?_)
  refine hK _ ?_; clear hK K
  refine gB ?_
  refine ⟨i + 1,  by omega, by omega, .inl ⟨gH,  by simp only [List.range_succ (n := i), List.map_append, List.map_cons, List.map_nil]⟩⟩
 ·obtain rfl : i = n := by omega
  refine xf_ (ye_ ?_)
  refine gA ?_
  exact xd_ (Xl_ (is := [0]) rfl ⟨rfl, trivial⟩ rfl (by simp))
end Go.Proofs.Ytlngnhbochmcoaa
