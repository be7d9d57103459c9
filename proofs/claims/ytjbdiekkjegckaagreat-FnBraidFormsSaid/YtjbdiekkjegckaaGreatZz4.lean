import Derived.Test.YtjbdiekkjegckaaGreatZz3
import Derived.Test.YtjbdiekkjegckaaGreatYz4
set_option linter.unusedSimpArgs false
set_option linter.unusedVariables false
namespace Go.Proofs.YtjbdiekkjegckaaGreat
open Go Go.Aw Go.Pl
attribute [local go_sem] y9_ yB_ za_ zb_ wE_ yq_ List.getElem?_toArray List.getElem?_cons_zero List.getElem?_cons_succ
theorem St_ (k m : Int) (m1 : 1 ≤ m) (m2 : m ≤ 1000) : PureCall Tryz.prog 101 [.int k, .int m] (.int (k % m)) := by
 have a1 : -m < k.tmod m := by
  have := Int.tmod_lt_of_pos (-k) (show 0 < m by omega)
  rw [Int.neg_tmod] at this
  omega
 have a2 := Int.tmod_lt_of_pos k (show 0 < m by omega)
 have a3 := Zk_ (n := k) m1
 have a4 := Int.emod_nonneg k (show m ≠ 0 by omega)
 have a5 := Int.emod_lt_of_pos k (show 0 < m by omega)
 refine gPC 12 [.tmp 4] Tryz.call101 Tryz.func101 fun cx hcx => gE ?_
 refine gB ?_
 (repeat refine xb_ ?_); refine xx_ (xO_ hcx) fun K hK => ?_; simp only [go_sem, seval, a3]
 refine gU ?_
 refine hK _ ?_; clear hK K
 refine xf_ (zY_ rfl ?_)
 rfl
set_option maxHeartbeats 4000000 in
theorem Wr_ (m : Int) (n : Nat) (q : List (List Int)) (n8 : n ≤ 8) (m1 : 1 ≤ m) (m2 : m ≤ 1000) (hq : GridB n m q) : FreshCall Tryz.prog 83 [.l2 q, .int m] (.l2 (Z3_ m n q)) := by
 have lq := hq.1
 obtain ⟨f, ef⟩ : ∃ f : Nat → Nat → Int, f = fun x y => (e2 q y x - e2 q x y) % m := ⟨_, rfl⟩
 have er : Z3_ m n q = yW_ n n f := by rw [ef]; rfl
 rw [er]
 refine gFC 48 [.tmp 4] Tryz.call83 Tryz.func83 fun cx hcx => gE ?_
 refine gB ?_
 refine gB ?_
 refine gB ?_
 (repeat refine xb_ ?_); refine gLp (fun i : Nat => ⟨[(0, .l2 q), (1, .int m), (5, .ref 0 []), (6, .int i)], [(0, .t2 (yW_ i n f))]⟩) n fun i hi => ?_
 (repeat refine xb_ ?_); refine xx_ (xO_ hcx) fun K hK => ?_; simp only [go_sem, seval, lq]
 refine gU ?_
 refine hK _ ?_; clear hK K
 refine gI (fun hc2 => ?_) fun hc2 => ?_
 ·have hi : i < n := by omega
  have ri := hq.row hi
  have st := zP_ (r := i) (n := n) (f := f)
  have lm := ya_ i n f
  refine xe_ ?_
  refine gO ?_
  refine gB ?_
  refine gB ?_
  (repeat refine xb_ ?_); refine gLp (fun j : Nat => ⟨[(0, .l2 q), (1, .int m), (5, .ref 0 []), (6, .int i), (7, .ref 1 []), (8, .int j)], [(0, .t2 (yW_ i n f)), (1, .t1 (zo_ j (f i)))]⟩) n fun j hj => ?_
  (repeat refine xb_ ?_); refine xx_ (xO_ hcx) fun K hK => ?_; simp only [go_sem, seval, lq]
  refine gU ?_
  refine hK _ ?_; clear hK K
  refine gI (fun hc4 => ?_) fun hc4 => ?_
  ·have hj : j < n := by omega
   have rj := hq.row hj
   have v1 := hq.bd hi hj
   have v2 := hq.bd hj hi
   have st2 := yR_ (k := j) (f := f i)
   have lr := xT_ j (f i)
   have hM := St_ (e2 q j i - e2 q i j) m m1 m2
   have ev : (e2 q j i - e2 q i j) % m = f i j := by rw [ef]
   rw [ev] at hM
   simp only [e2] at v1 v2 hM
   refine xe_ ?_
   refine gO ?_
   (repeat refine xb_ ?_)
   refine xZ_ [] (.one 0 (.one 1 (.one 2 (.one 3 (.one 4 (.one 5 (.one 6 (.one 7 (.one 8 (.one 9 (.one 10 (.one 11 (.one 12 (.one 13 (.one 14 (.one 15 (.one 16 (.one 17 (.alt 18 (.alt 19 (.one 20 .fin) .stop) .stop))))))))))))))))))) ⟨[(0, .l2 q), (1, .int m), (5, .ref 0 []), (6, .int i), (7, .ref 1 []), (8, .int j)], [(0, .t2 (yW_ i n f)), (1, .t1 (zo_ j (f i) ++ [f i j])), (2, .t1 [f i j])]⟩ (xO_ hcx) mixed (by kernel_rfl) (fun K hK => ?_) ?_
   ·simp only [go_sem, seval, Option.getD_some, and_true, true_and, and_self, List.contains_cons, List.contains_nil, Bool.or_false, Bool.or_true]
    repeat' (first | exact hK _ gM  | with_reducible refine And.intro ?_ ?_ | omega | ((first | refine xc_ (hM) rfl ?_ | refine xd_ (xa_ (hM) rfl) ?_); simp only [go_sem, seval, Option.getD_some, and_true, true_and, and_self, List.contains_cons, List.contains_nil, Bool.or_false, Bool.or_true]))
   rw [← st2]
   refine gB ?_
   refine ⟨j + 1, by omega, by omega, .inr ⟨[2], gK1, av1⟩⟩
  ·obtain rfl : j = n := by omega
   refine xh_ (x9_ ?_)
   (repeat refine xb_ ?_); refine xx_ (xO_ hcx) fun K hK => ?_; simp only [go_sem, seval, lm]
   refine gU ?_
   refine hK _ ?_; clear hK K
   rw [← st]
   refine gB ?_
   refine ⟨i + 1,  by omega, by omega, .inl ⟨gH,  rfl⟩⟩
 ·obtain rfl : i = n := by omega
  refine xh_ (x9_ ?_)
  refine gB ?_
  exact xf_ (ai1 (is := [0]) rfl ⟨rfl, trivial⟩ rfl (by simp))
theorem YG_ (u v : Nat) (hu : u ≤ 1000) (hv : v ≤ 1000) : PureCall Tryz.prog 102 [.int u, .int v] (.int (Nat.gcd u v : Nat)) := by
 obtain ⟨a, ea⟩ : ∃ a, Nat.gcd u v = a := ⟨_, rfl⟩
 rw [ea]
 refine gPC 14 [.tmp 4] Tryz.call102 Tryz.func102 fun cx hcx => gE ?_
 refine gB ?_
 (repeat refine xb_ ?_)
 (repeat refine xb_ ?_); refine xt_ (fun q : Nat × Nat => ⟨[(0, .int q.1), (1, .int q.2)], []⟩) (fun q => Nat.gcd q.1 q.2 = a ∧ q.1 ≤ 1000 ∧ q.2 ≤ 1000) (fun q => q.2) (u, v) ⟨ea, hu, hv⟩ (by
  refine And.intro ?_ rfl; simp only [leS, Nat.reduceEqDiff, ↓reduceIte, true_and, and_true]
  try rfl) (fun q hq => ?_)
 obtain ⟨x, y⟩ := q
 obtain ⟨g1, g2, g3⟩ := hq
 dsimp only at g1 g2 g3 ⊢
 refine gB ?_
 refine gI (fun hh => ?_) fun hh => ?_
 ·have et : (x : Int).tmod (y : Int) = ((x % y : Nat) : Int) := by
   rw [Int.tmod_eq_emod_of_nonneg (by omega)]; exact (Int.natCast_emod x y).symm
  have hlt : x % y < y := Nat.mod_lt _ (by omega)
  have gg : Nat.gcd y (x % y) = a := by rw [← g1, Nat.gcd_comm y, ← Nat.gcd_rec, Nat.gcd_comm]
  obtain ⟨R, eR⟩ : ∃ R, x % y = R := ⟨_, rfl⟩
  rw [eR] at et hlt gg
  refine xe_ ?_
  refine gO ?_
  (repeat refine xb_ ?_); refine xx_ (xO_ hcx) fun K hK => ?_; simp only [go_sem, seval, et]
  refine gU ?_
  refine hK _ ?_; clear hK K
  refine gB ?_
  refine gB ?_
  refine ⟨(y, R),  ⟨gg, by dsimp only; omega, by dsimp only; omega⟩, by omega, .inl ⟨by simp only [leS, Nat.reduceEqDiff, ↓reduceIte, true_and, and_true]; (try omega),  rfl⟩⟩
 ·have y0 : y = 0 := by omega
  subst y0
  have ex : x = a := by rw [← g1]; exact (Nat.gcd_zero_right x).symm
  subst ex
  refine xh_ (x9_ ?_)
  refine gB ?_
  refine xf_ (zY_ rfl ?_)
  rfl
def dgL (o : List Int) (x : Nat) : Nat → List Int × Int
 | 0 => (List.replicate o.length 0, x)
 | k + 1 => ((dgL o x k).1.set (o.length - 1 - k) ((dgL o x k).2 % o.getD (o.length - 1 - k) 0), (dgL o x k).2 / o.getD (o.length - 1 - k) 0)
theorem YZ_ {o : List Int} (hp : PosO o) {x : Nat} : ∀ k, k ≤ o.length → (dgL o x k).1.length = o.length ∧ 0 ≤ (dgL o x k).2 ∧ (dgL o x k).2 ≤ x ∧ ∀ i, i < o.length → 0 ≤ (dgL o x k).1.getD i 0 ∧ (dgL o x k).1.getD i 0 < o.getD i 0
 | 0, _ => ⟨List.length_replicate .., by show (0 : Int) ≤ x; omega, Int.le_refl _, fun i hi => by
  have := hp.2 i hi
  show 0 ≤ (List.replicate o.length (0 : Int)).getD i 0 ∧ (List.replicate o.length (0 : Int)).getD i 0 < _
  rw [List.getD_eq_getElem?_getD, List.getElem?_replicate, if_pos hi]
  exact ⟨Int.le_refl _, by show (0 : Int) < _; omega⟩⟩
 | k + 1, hk => by
  obtain ⟨h1, h2, h3, h4⟩ := YZ_ hp (x := x) k (by omega)
  have hd := hp.2 (o.length - 1 - k) (by omega)
  rw [dgL]
  dsimp only
  refine ⟨by rw [List.length_set]; exact h1, Int.ediv_nonneg h2 (by omega), ?_, fun i hi => ?_⟩
  ·have := Int.ediv_le_self (o.getD (o.length - 1 - k) 0) h2
   omega
  ·rw [List.getD_eq_getElem?_getD, List.getElem?_set]
   by_cases c : o.length - 1 - k = i
   ·rw [if_pos c, if_pos (by omega), ← c]
    exact ⟨Int.emod_nonneg _ (by omega), Int.emod_lt_of_pos _ (by omega)⟩
   ·rw [if_neg c, ← List.getD_eq_getElem?_getD]
    exact h4 i hi
end Go.Proofs.YtjbdiekkjegckaaGreat
namespace Go.Proofs.YtjbdiekkjegckaaGreat
open Go Go.Aw Go.Pl
set_option maxRecDepth 100000 in
set_option maxHeartbeats 8000000 in
theorem Ws_ (o : List Int) (m : Int) (w : List (List (List Int))) (c : List (List Int)) (o' : List Int) (w' : List (List (List Int))) (c' : List (List Int)) (h : CocS o m w) (hn : w'.length = w.length) (h' : CubB w.length m w') (hl : o.length ≤ 1048576) (hb : GridB w.length m c) (hb' : GridB w.length m c') : FreshCall Tryz.prog 81 [.agg [.l1 o, .int m, .l3 w, .l2 c], .agg [.l1 o', .int m, .l3 w', .l2 c']] (.agg [.l1 o, .int m, .l3 (sumW m w.length w w'), .l2 (Wd_ m w.length c c')]) := by
 have n8 := h.n8
 have m1 := h.2.2.1
 have m2 := h.2.2.2.1
 have hS := WW_ o m w o' w' h hn h' hl
 obtain ⟨W, eW⟩ : ∃ W, sumW m w.length w w' = W := ⟨_, rfl⟩
 rw [eW] at hS ⊢
 obtain ⟨n, en⟩ : ∃ n, w.length = n := ⟨_, rfl⟩
 rw [en] at n8 hn hb hb' ⊢
 have lc := hb.1
 have lc' := hb'.1
 obtain ⟨f, ef⟩ : ∃ f : Nat → Nat → Int, f = fun i j => (e2 c i j + e2 c' i j) % m := ⟨_, rfl⟩
 have es : Wd_ m n c c' = yW_ n n f := by unfold Wd_; rw [ef]
 rw [es]
 refine gFC 61 [.cell 4 30] Tryz.call81 Tryz.func81 fun cx hcx => gE ?_
 refine gA ?_
 refine gC fun K hK => ?_
 refine gU ?_
 refine xq_ rfl (hS) rfl ?_; simp only [go_sem, seval]
 refine gU ?_
 refine hK _ ?_; clear hK K
 refine gB ?_
 (repeat refine xb_ ?_); refine AT.ghost (st' := ⟨[(2, .bptr 0 0), (3, .bptr 1 0), (4, .bptr 2 0), (5, .bptr 5 0), (6, .int 0)], [(0, .bx [.l1 o, .int m, .l3 w, .l2 c]), (1, .bx [.l1 o', .int m, .l3 w', .l2 c']), (2, .bx [.nil, .int 0, .nil, .nil]), (3, .t1 o), (4, .t3 W), (5, .bx [.ref 3 [], .int m, .ref 4 [], .nil])]⟩) (xr_ [] (by simp only [go_sem, seval, AV.int.injEq, AV.bool.injEq, AV.l1.injEq, AV.l2.injEq, AV.l3.injEq]) (by simp only [go_sem, seval])) ?_
 (repeat refine xb_ ?_)
 refine xt_ (fun q : Option Nat => match q with
  | none => ⟨[(2, .bptr 0 0), (3, .bptr 1 0), (4, .bptr 2 0), (5, .bptr 5 0), (6, .int 0)], [(0, .bx [.l1 o, .int m, .l3 w, .l2 c]), (1, .bx [.l1 o', .int m, .l3 w', .l2 c']), (2, .bx [.nil, .int 0, .nil, .nil]), (3, .t1 o), (4, .t3 W), (5, .bx [.ref 3 [], .int m, .ref 4 [], .nil])]⟩
  | some i => ⟨[(2, .bptr 0 0), (3, .bptr 1 0), (4, .bptr 2 0), (5, .bptr 5 0), (6, .int i)], [(0, .bx [.l1 o, .int m, .l3 w, .l2 c]), (1, .bx [.l1 o', .int m, .l3 w', .l2 c']), (2, .bx [.nil, .int 0, .nil, .nil]), (3, .t1 o), (4, .t3 W), (5, .bx [.ref 3 [], .int m, .ref 4 [], .ref 8 []]), (8, .t2 (yW_ i n f))]⟩) (fun q => match q with
  | none => True
  | some i => 1 ≤ i ∧ i ≤ n) (fun q => match q with
  | none => n + 1
  | some i => n - i) none trivial ⟨by simp only [xs_, St.get, xg_, Nat.reduceEqDiff, ↓reduceIte, true_and, and_true], rfl⟩ (fun q hq => ?_)
 cases q with
 | none =>
  dsimp only at hq ⊢
  refine gB ?_
  refine gI (fun hli => ?_) fun hli => ?_
  ·have ri := hb.row (show 0 < n by omega)
   have ri' := hb'.row (show 0 < n by omega)
   refine xe_ ?_
   refine gO ?_
   refine gB ?_
   refine gB ?_
   (repeat refine xb_ ?_); refine gLp (fun j : Nat => ⟨[(2, .bptr 0 0), (3, .bptr 1 0), (4, .bptr 2 0), (5, .bptr 5 0), (6, .int 0), (7, .ref 6 []), (8, .int j)], [(0, .bx [.l1 o, .int m, .l3 w, .l2 c]), (1, .bx [.l1 o', .int m, .l3 w', .l2 c']), (2, .bx [.nil, .int 0, .nil, .nil]), (3, .t1 o), (4, .t3 W), (5, .bx [.ref 3 [], .int m, .ref 4 [], .nil]), (6, .t1 (zo_ j (f 0)))]⟩) n fun j hj => ?_
   have hlr := xT_ j (f 0)
   have hlm := ya_ 0 n f
   refine gB ?_
   refine gI (fun hlj => ?_) fun hlj => ?_
   ·have v1 := hb.bd (show 0 < n by omega) (show j < n by omega)
    have v2 := hb'.bd (show 0 < n by omega) (show j < n by omega)
    have ev : (e2 c 0 j + e2 c' 0 j).tmod m = f 0 j := by rw [ef]; exact Int.tmod_eq_emod_of_nonneg (by omega)
    have bt : -m < (e2 c 0 j + e2 c' 0 j).tmod m := by rw [Int.tmod_eq_emod_of_nonneg (by omega)]; have := Int.emod_nonneg (e2 c 0 j + e2 c' 0 j) (show m ≠ 0 by omega); omega
    have bt2 : (e2 c 0 j + e2 c' 0 j).tmod m < m := Int.tmod_lt_of_pos _ (by omega)
    simp only [e2] at v1 v2 ev bt bt2
    rw [ev] at bt bt2
    refine xe_ ?_
    refine gO ?_
    (repeat refine xb_ ?_); refine Ux_ [0, 1, 2, 3, 4, 5, 6, 7, 8, 9, 10, 11, 12, 13, 14, 15, 16, 17, 18, 19, 20, 21, 22, 23, 24] (xO_ hcx) mixed (by kernel_rfl) fun K hK => ?_; simp only [Uw_, yq_, List.map_cons, List.map_nil, List.getElem?_toArray, List.getElem?_cons_zero, List.getElem?_cons_succ, Option.getD_some]; simp only [go_sem, seval]
    simp only [ev, hlr]
    refine gU ?_
    refine hK _ ?_; clear hK K
    refine gB ?_
    refine ⟨j + 1, by omega, by omega, .inr ⟨[7], gK1, bf3 ?_⟩⟩; rw [yR_]
   ·obtain rfl : j = n := by omega
    refine xh_ (x9_ ?_)
    refine gC fun K hK => ?_
    try simp only [hlm]
    refine gU ?_
    refine hK _ ?_; clear hK K
    refine gB ?_
    refine ⟨some (0 + 1), ⟨by omega, by omega⟩, by show j - (0 + 1) < j + 1; omega, .inl ⟨?_, ?_⟩⟩
    ·simp only [xs_, St.get, xg_, Nat.reduceEqDiff, ↓reduceIte, AV.int.injEq, true_and, and_true]
     omega
    ·dsimp only
     rw [zP_]
     try rfl
  ·omega
 | some i =>
  dsimp only at hq ⊢
  refine gB ?_
  refine gI (fun hli => ?_) fun hli => ?_
  ·have ri := hb.row (show i < n by omega)
   have ri' := hb'.row (show i < n by omega)
   refine xe_ ?_
   refine gO ?_
   refine gB ?_
   refine gB ?_
   (repeat refine xb_ ?_); refine gLp (fun j : Nat => ⟨[(2, .bptr 0 0), (3, .bptr 1 0), (4, .bptr 2 0), (5, .bptr 5 0), (6, .int i), (7, .ref 9 []), (8, .int j)], [(0, .bx [.l1 o, .int m, .l3 w, .l2 c]), (1, .bx [.l1 o', .int m, .l3 w', .l2 c']), (2, .bx [.nil, .int 0, .nil, .nil]), (3, .t1 o), (4, .t3 W), (5, .bx [.ref 3 [], .int m, .ref 4 [], .ref 8 []]), (8, .t2 (yW_ i n f)), (9, .t1 (zo_ j (f i)))]⟩) n fun j hj => ?_
   have hlr := xT_ j (f i)
   have hlm := ya_ i n f
   refine gB ?_
   refine gI (fun hlj => ?_) fun hlj => ?_
   ·have v1 := hb.bd (show i < n by omega) (show j < n by omega)
    have v2 := hb'.bd (show i < n by omega) (show j < n by omega)
    have ev : (e2 c i j + e2 c' i j).tmod m = f i j := by rw [ef]; exact Int.tmod_eq_emod_of_nonneg (by omega)
    have bt : -m < (e2 c i j + e2 c' i j).tmod m := by rw [Int.tmod_eq_emod_of_nonneg (by omega)]; have := Int.emod_nonneg (e2 c i j + e2 c' i j) (show m ≠ 0 by omega); omega
    have bt2 : (e2 c i j + e2 c' i j).tmod m < m := Int.tmod_lt_of_pos _ (by omega)
    simp only [e2] at v1 v2 ev bt bt2
    rw [ev] at bt bt2
    refine xe_ ?_
    refine gO ?_
    (repeat refine xb_ ?_); refine Ux_ [0, 1, 2, 3, 4, 5, 6, 7, 8, 9, 10, 11, 12, 13, 14, 15, 16, 17, 18, 19, 20, 21, 22, 23, 24] (xO_ hcx) mixed (by kernel_rfl) fun K hK => ?_; simp only [Uw_, yq_, List.map_cons, List.map_nil, List.getElem?_toArray, List.getElem?_cons_zero, List.getElem?_cons_succ, Option.getD_some]; simp only [go_sem, seval]
    simp only [ev, hlr]
    refine gU ?_
    refine hK _ ?_; clear hK K
    refine gB ?_
    refine ⟨j + 1, by omega, by omega, .inr ⟨[10], gK1, bf3 ?_⟩⟩; rw [yR_]
   ·obtain rfl : j = n := by omega
    refine xh_ (x9_ ?_)
    refine gC fun K hK => ?_
    try simp only [hlm]
    refine gU ?_
    refine hK _ ?_; clear hK K
    refine gB ?_
    refine ⟨some (i + 1), ⟨by omega, by omega⟩, by show j - (i + 1) < j - i; omega, .inl ⟨?_, ?_⟩⟩
    ·simp only [xs_, St.get, xg_, Nat.reduceEqDiff, ↓reduceIte, AV.int.injEq, true_and, and_true]
     omega
    ·dsimp only
     rw [zP_]
     try rfl
  ·obtain rfl : i = n := by omega
   refine xh_ (x9_ ?_)
   refine gB ?_
   exact xf_ (RI_ (v := .agg [.ref 3 [], .int m, .ref 4 [], .ref 8 []]) (by simp only [go_sem, seval]) rfl (by simp))
set_option maxHeartbeats 4000000 in
theorem z0_ (o : List Int) (x : Nat) (hp : PosO o) (h8 : xA_ o ≤ 8) (hx : x ≤ 8) (hl : o.length ≤ 1000) : FreshCall Tryz.prog 103 [.l1 o, .int x] (.l1 (dgL o x o.length).1) := by
 obtain ⟨n, en⟩ : ∃ n, o.length = n := ⟨_, rfl⟩
 have h0 := hp.1
 have fa := fun k hk => YZ_ hp (x := x) k hk
 have st : ∀ k, dgL o x (k + 1) = ((dgL o x k).1.set (n - 1 - k) ((dgL o x k).2 % o.getD (n - 1 - k) 0), (dgL o x k).2 / o.getD (n - 1 - k) 0) := fun k => by rw [← en]; rfl
 have d0 : dgL o x 0 = (List.replicate n 0, (x : Int)) := by rw [← en]; rfl
 rw [en] at h0 fa hl ⊢
 obtain ⟨D, eD⟩ : ∃ D : Nat → List Int × Int, D = dgL o x := ⟨_, rfl⟩
 rw [← eD] at fa st d0 ⊢
 clear eD
 have d1 : List.replicate n (0 : Int) = (D 0).1 := by rw [d0]
 have d2 : (x : Int) = (D 0).2 := by rw [d0]
 refine gFC 33 [.tmp 4] Tryz.call103 Tryz.func103 fun cx hcx => gE ?_
 refine gB ?_
 (repeat refine xb_ ?_); refine xx_ (xO_ hcx) fun K hK => ?_; simp only [go_sem, seval, en, Int.toNat_natCast]
 refine gU ?_
 refine hK _ ?_; clear hK K
 (repeat refine xb_ ?_); refine xx_ (xO_ hcx) fun K hK => ?_; simp only [go_sem, seval, en]
 refine gU ?_
 refine hK _ ?_; clear hK K
 rw [d1, d2]
 (repeat refine xb_ ?_)
 (repeat refine xb_ ?_); refine xt_ (fun k : Nat => ⟨[(0, .l1 o), (1, .int (D k).2), (5, .ref 0 []), (6, .int ((n : Int) - 1 - k))], [(0, .t1 (D k).1)]⟩) (fun k => k ≤ n) (fun k => n - k) 0 (Nat.zero_le _) (by
  refine And.intro ?_ rfl; simp only [leS, Nat.reduceEqDiff, ↓reduceIte, true_and, and_true]
  try omega) (fun k hk => ?_)
 refine gB ?_
 refine gI (fun hh => ?_) fun hh => ?_
 ·have hkn : k < n := by omega
  obtain ⟨f1, f2, f3, f4⟩ := fa k hk
  have sk := st k
  have fb := (fa (k + 1) (by omega)).2
  have ev := hp.2 (n - 1 - k) (by omega)
  have el := zH_ hp (show n - 1 - k < o.length by omega)
  obtain ⟨j, ej⟩ : ∃ j, n - 1 - k = j := ⟨_, rfl⟩
  have eI : (n : Int) - 1 - k = (j : Int) := by omega
  rw [ej] at sk ev el
  obtain ⟨L, eL⟩ : ∃ L, (D k).1 = L := ⟨_, rfl⟩
  obtain ⟨X, eX⟩ : ∃ X, (D k).2 = X := ⟨_, rfl⟩
  rw [eL] at f1 f4 sk ⊢
  rw [eX] at f2 f3 sk ⊢
  obtain ⟨v, eV⟩ : ∃ v, o.getD j 0 = v := ⟨_, rfl⟩
  rw [eV] at sk ev el
  have et : X.tmod v = X % v := Int.tmod_eq_emod_of_nonneg f2
  have ed : X.tdiv v = X / v := Int.tdiv_eq_ediv_of_nonneg f2
  have b1 := Int.emod_nonneg X (show v ≠ 0 by omega)
  have b2 := Int.emod_lt_of_pos X (show 0 < v by omega)
  rw [sk] at fb
  dsimp only at fb
  have g1 := fb.1
  have g2 := fb.2.1
  clear fb
  rw [eI]
  refine xe_ ?_
  refine gO ?_
  (repeat refine xb_ ?_); refine xx_ (xO_ hcx) fun K hK => ?_; simp only [go_sem, seval, en, f1, eV, et]
  refine gU ?_
  refine hK _ ?_; clear hK K
  (repeat refine xb_ ?_); refine xx_ (xO_ hcx) fun K hK => ?_; simp only [go_sem, seval, en, eV, ed]
  refine gU ?_
  refine hK _ ?_; clear hK K
  refine gB ?_
  refine ⟨k + 1,  by omega, by omega, .inl ⟨by simp only [leS, Nat.reduceEqDiff, ↓reduceIte, true_and, and_true]; (rw [sk]; first | omega | (refine ⟨rfl, ?_⟩; omega) | (push_cast; omega)),  by rw [sk]⟩⟩
 ·obtain rfl : k = n := by omega
  refine xh_ (x9_ ?_)
  refine gB ?_
  exact xf_ (ai1 (is := [0]) rfl ⟨rfl, trivial⟩ rfl (by simp))
end Go.Proofs.YtjbdiekkjegckaaGreat
namespace Go.Proofs.YtjbdiekkjegckaaGreat
open Go Go.Aw Go.Pl
set_option maxRecDepth 100000 in
set_option maxHeartbeats 16000000 in
theorem Xm_ (n : Nat) (a : Int) (n1 : 1 ≤ n) (n8 : n ≤ 8) (a0 : 0 ≤ a) (a1 : a ≤ 2 * n - 1) : FreshCall Tryz.prog 79 [.int n, .int a] (.agg [.l1 [(n : Int)], .int (2 * n), .l3 (sdW n a), .l2 (sdC n a)]) := by
 obtain ⟨f, ef⟩ : ∃ f, f = sdF n a := ⟨_, rfl⟩
 obtain ⟨m, em⟩ : ∃ m : Int, 2 * (n : Int) = m := ⟨_, rfl⟩
 obtain ⟨g, eg⟩ : ∃ g : Nat → Nat → Int, g = fun (x y : Nat) => a * (x : Int) * (y : Int) % m := ⟨_, rfl⟩
 have eW : sdW n a = z5_ n f := by rw [ef]; rfl
 have eC : sdC n a = yW_ n n g := by rw [eg, ← em]; rfl
 rw [eW, eC, em]
 clear eW eC
 have k3 := zn_ n (by omega)
 rw [Yh_ n f] at k3
 refine gFC 78 [.cell 4 30] Tryz.call79 Tryz.func79 fun cx hcx => gE ?_
 refine gB ?_
 (repeat refine xb_ ?_); refine xx_ (xO_ hcx) fun K hK => ?_; simp only [go_sem, seval, em]
 refine gU ?_
 refine hK _ ?_; clear hK K
 refine gC fun K hK => ?_
 refine gU ?_
 refine xq_ rfl (k3) rfl ?_; simp only [go_sem, seval]
 refine gU ?_
 refine hK _ ?_; clear hK K
 (repeat refine xb_ ?_); refine AT.ghost (st' := ⟨[(0, .int n), (1, .int a), (4, .bptr 0 0), (5, .int m), (6, .bptr 3 0)], [(0, .bx [.nil, .int 0, .nil, .nil]), (1, .t1 [(n : Int)]), (2, .t3 (wrC n f (fun _ _ _ => 0) 0 0 0)), (3, .bx [.ref 1 [], .int m, .ref 2 [], .nil])]⟩) (xr_ [] (by simp only [go_sem, seval, AV.int.injEq, AV.bool.injEq, AV.l1.injEq, AV.l2.injEq, AV.l3.injEq]) (by simp only [go_sem, seval])) ?_
 refine gB ?_
 (repeat refine xb_ ?_)
 refine xt_ (fun q : Option Nat => match q with
  | none => ⟨[(0, .int n), (1, .int a), (4, .bptr 0 0), (5, .int m), (6, .bptr 3 0), (7, .int 0)], [(0, .bx [.nil, .int 0, .nil, .nil]), (1, .t1 [(n : Int)]), (2, .t3 (wrC n f (fun _ _ _ => 0) 0 0 0)), (3, .bx [.ref 1 [], .int m, .ref 2 [], .nil])]⟩
  | some i => ⟨[(0, .int n), (1, .int a), (4, .bptr 0 0), (5, .int m), (6, .bptr 3 0), (7, .int i)], [(0, .bx [.nil, .int 0, .nil, .nil]), (1, .t1 [(n : Int)]), (2, .t3 (wrC n f (fun _ _ _ => 0) i 0 0)), (3, .bx [.ref 1 [], .int m, .ref 2 [], .ref 6 []]), (6, .t2 (yW_ i n g))]⟩) (fun q => match q with
  | none => True
  | some i => 1 ≤ i ∧ i ≤ n) (fun q => match q with
  | none => n + 1
  | some i => n - i) none trivial ⟨by simp only [xs_, St.get, xg_, Nat.reduceEqDiff, ↓reduceIte, true_and, and_true], rfl⟩ (fun q hq => ?_)
 cases q with
 | none =>
  dsimp only at hq ⊢
  refine gB ?_
  refine gI (fun hli => ?_) fun hli => ?_
  ·have hx : 0 < n := by omega
   refine xe_ ?_
   refine gO ?_
   refine gB ?_
   refine gB ?_
   (repeat refine xb_ ?_); refine gLp (fun y : Nat => ⟨[(0, .int n), (1, .int a), (4, .bptr 0 0), (5, .int m), (6, .bptr 3 0), (7, .int 0), (8, .ref 4 []), (9, .int y)], [(0, .bx [.nil, .int 0, .nil, .nil]), (1, .t1 [(n : Int)]), (2, .t3 (wrC n f (fun _ _ _ => 0) 0 y 0)), (3, .bx [.ref 1 [], .int m, .ref 2 [], .nil]), (4, .t1 (zo_ y (g 0)))]⟩) n fun y hy => ?_
   have lr := xT_ y (g 0)
   have lm := ya_ 0 n g
   refine gB ?_
   refine gI (fun hy2 => ?_) fun hy2 => ?_
   ·have hy : y < n := by omega
    obtain ⟨b1, b2⟩ := Wu_ (x := 0) (y := y) a0 (show a ≤ 16 by omega) (by omega) (by omega)
    obtain ⟨c1, c2⟩ := Wt_ (x := 0) n8 a0 (show a ≤ 16 by omega) (by omega)
    have ev : (a * ((0 : Nat) : Int) * (y : Int)).tmod m = g 0 y := by rw [eg, Int.tmod_eq_emod_of_nonneg b2.1]
    have bg := Int.emod_nonneg (a * ((0 : Nat) : Int) * (y : Int)) (show m ≠ 0 by omega)
    have bg2 := Int.emod_lt_of_pos (a * ((0 : Nat) : Int) * (y : Int)) (show 0 < m by omega)
    have evg : a * ((0 : Nat) : Int) * (y : Int) % m = g 0 y := by rw [eg]
    rw [evg] at bg bg2
    have st := yR_ (k := y) (f := g 0)
    have fz : ∀ z, f 0 y z = if n ≤ y + z then (a * (n : Int) * ((0 : Nat) : Int)).tmod m else 0 := fun z => by rw [ef, ← em, Int.tmod_eq_emod_of_nonneg c2.1]; rfl
    have wb : 0 ≤ (a * (n : Int) * ((0 : Nat) : Int)).tmod m ∧ (a * (n : Int) * ((0 : Nat) : Int)).tmod m < m := by rw [Int.tmod_eq_emod_of_nonneg c2.1]; exact ⟨Int.emod_nonneg _ (by omega), Int.emod_lt_of_pos _ (by omega)⟩
    clear evg
    obtain ⟨A, eA⟩ : ∃ A, a * ((0 : Nat) : Int) = A := ⟨_, rfl⟩
    rw [eA] at b1 b2 ev
    obtain ⟨B, eB⟩ : ∃ B, A * (y : Int) = B := ⟨_, rfl⟩
    rw [eB] at b2 ev
    obtain ⟨C, eC⟩ : ∃ C, a * (n : Int) = C := ⟨_, rfl⟩
    rw [eC] at c1 c2 fz wb
    obtain ⟨E, eE⟩ : ∃ E, C * ((0 : Nat) : Int) = E := ⟨_, rfl⟩
    rw [eE] at c2 fz wb
    obtain ⟨V, eV⟩ : ∃ V, E.tmod m = V := ⟨_, rfl⟩
    rw [eV] at fz wb
    have eA0 : a * 0 = A := eA
    have eE0 : C * 0 = E := eE
    refine xe_ ?_
    refine gO ?_
    (repeat refine xb_ ?_); refine xx_ (xO_ hcx) fun K hK => ?_; simp only [go_sem, seval, eA0, eB, ev]
    refine gU ?_
    refine hK _ ?_; clear hK K
    rw [← st]
    refine gB ?_
    (repeat refine xb_ ?_); refine gLp (fun z : Nat => ⟨[(0, .int n), (1, .int a), (4, .bptr 0 0), (5, .int m), (6, .bptr 3 0), (7, .int 0), (8, .ref 4 []), (9, .int y), (10, .int z)], [(0, .bx [.nil, .int 0, .nil, .nil]), (1, .t1 [(n : Int)]), (2, .t3 (wrC n f (fun _ _ _ => 0) 0 y z)), (3, .bx [.ref 1 [], .int m, .ref 2 [], .nil]), (4, .t1 (zo_ (y + 1) (g 0))), (5, .t1 [g 0 y])]⟩) n fun z hz => ?_
    refine gB ?_
    refine gI (fun hz2 => ?_) fun hz2 => ?_
    ·have hz : z < n := by omega
     refine xe_ ?_
     refine gO ?_
     refine gB ?_
     refine gI (fun hc => ?_) fun hc => ?_
     ·have l3 := wr_ (n := n) (f := f) (g := fun _ _ _ => 0) (i := 0) (j := y) (k := z)
      have l4 := Zm_ (n := n) (f := f) (g := fun _ _ _ => 0) (i := 0) (j := y) (k := z) (x := 0) (by omega)
      have l5 := Zn_ (n := n) (f := f) (g := fun _ _ _ => 0) (i := 0) (j := y) (k := z) (x := 0) (y := y) (by omega) (by omega)
      have sk := Xs_ (n := n) (f := f) (g := fun _ _ _ => 0) (i := 0) (j := y) (k := z) hx hy
      rw [fz z, if_pos (by omega)] at sk
      (repeat refine xb_ ?_); refine xx_ (xO_ hcx) fun K hK => ?_; simp only [go_sem, seval, l3, l4, l5]
      refine gU ?_
      refine hK _ ?_; clear hK K
      (repeat refine xb_ ?_); refine xx_ (xO_ hcx) fun K hK => ?_; simp only [go_sem, seval, l3, l4, l5, eC, eE0, eV, sk]
      refine gU ?_
      refine hK _ ?_; clear hK K
      refine gB ?_
      refine ⟨z + 1,  by omega, by omega, .inl ⟨gH,  rfl⟩⟩
     ·have e0 : wrC n f (fun _ _ _ => 0) 0 y (z + 1) = wrC n f (fun _ _ _ => 0) 0 y z := Zb_ (fun z' h1 h2 => by
       obtain rfl : z' = z := by omega
       rw [fz, if_neg (by omega)]) (Nat.le_succ z)
      rw [← e0]
      refine xe_ ?_
      refine gB ?_
      refine ⟨z + 1,  by omega, by omega, .inl ⟨gH,  rfl⟩⟩
    ·obtain rfl : z = n := by omega
     rw [Xt_]
     refine xh_ (x9_ ?_)
     refine gB ?_
     refine ⟨y + 1, by omega, by omega, .inr ⟨[5], gK1, av1⟩⟩
   ·obtain rfl : y = n := by omega
    rw [Xu_]
    refine xh_ (x9_ ?_)
    refine gC fun K hK => ?_
    try simp only [lm]
    refine gU ?_
    refine hK _ ?_; clear hK K
    refine gB ?_
    refine ⟨some (0 + 1), ⟨by omega, by omega⟩, by show y - (0 + 1) < y + 1; omega, .inl ⟨?_, ?_⟩⟩
    ·simp only [xs_, St.get, xg_, Nat.reduceEqDiff, ↓reduceIte, AV.int.injEq, true_and, and_true]
     try omega
    ·dsimp only
     rw [zP_]
     try rfl
  ·omega
 | some i =>
  dsimp only at hq ⊢
  refine gB ?_
  refine gI (fun hli => ?_) fun hli => ?_
  ·have hx : i < n := by omega
   refine xe_ ?_
   refine gO ?_
   refine gB ?_
   refine gB ?_
   (repeat refine xb_ ?_); refine gLp (fun y : Nat => ⟨[(0, .int n), (1, .int a), (4, .bptr 0 0), (5, .int m), (6, .bptr 3 0), (7, .int i), (8, .ref 7 []), (9, .int y)], [(0, .bx [.nil, .int 0, .nil, .nil]), (1, .t1 [(n : Int)]), (2, .t3 (wrC n f (fun _ _ _ => 0) i y 0)), (3, .bx [.ref 1 [], .int m, .ref 2 [], .ref 6 []]), (6, .t2 (yW_ i n g)), (7, .t1 (zo_ y (g i)))]⟩) n fun y hy => ?_
   have lr := xT_ y (g i)
   have lm := ya_ i n g
   refine gB ?_
   refine gI (fun hy2 => ?_) fun hy2 => ?_
   ·have hy : y < n := by omega
    obtain ⟨b1, b2⟩ := Wu_ (x := i) (y := y) a0 (show a ≤ 16 by omega) (by omega) (by omega)
    obtain ⟨c1, c2⟩ := Wt_ (x := i) n8 a0 (show a ≤ 16 by omega) (by omega)
    have ev : (a * ((i : Nat) : Int) * (y : Int)).tmod m = g i y := by rw [eg, Int.tmod_eq_emod_of_nonneg b2.1]
    have bg := Int.emod_nonneg (a * ((i : Nat) : Int) * (y : Int)) (show m ≠ 0 by omega)
    have bg2 := Int.emod_lt_of_pos (a * ((i : Nat) : Int) * (y : Int)) (show 0 < m by omega)
    have evg : a * ((i : Nat) : Int) * (y : Int) % m = g i y := by rw [eg]
    rw [evg] at bg bg2
    have st := yR_ (k := y) (f := g i)
    have fz : ∀ z, f i y z = if n ≤ y + z then (a * (n : Int) * ((i : Nat) : Int)).tmod m else 0 := fun z => by rw [ef, ← em, Int.tmod_eq_emod_of_nonneg c2.1]; rfl
    have wb : 0 ≤ (a * (n : Int) * ((i : Nat) : Int)).tmod m ∧ (a * (n : Int) * ((i : Nat) : Int)).tmod m < m := by rw [Int.tmod_eq_emod_of_nonneg c2.1]; exact ⟨Int.emod_nonneg _ (by omega), Int.emod_lt_of_pos _ (by omega)⟩
    clear evg
    obtain ⟨A, eA⟩ : ∃ A, a * ((i : Nat) : Int) = A := ⟨_, rfl⟩
    rw [eA] at b1 b2 ev
    obtain ⟨B, eB⟩ : ∃ B, A * (y : Int) = B := ⟨_, rfl⟩
    rw [eB] at b2 ev
    obtain ⟨C, eC⟩ : ∃ C, a * (n : Int) = C := ⟨_, rfl⟩
    rw [eC] at c1 c2 fz wb
    obtain ⟨E, eE⟩ : ∃ E, C * ((i : Nat) : Int) = E := ⟨_, rfl⟩
    rw [eE] at c2 fz wb
    obtain ⟨V, eV⟩ : ∃ V, E.tmod m = V := ⟨_, rfl⟩
    rw [eV] at fz wb
    have eA0 : a * (i : Int) = A := eA
    have eE0 : C * (i : Int) = E := eE
    refine xe_ ?_
    refine gO ?_
    (repeat refine xb_ ?_); refine xx_ (xO_ hcx) fun K hK => ?_; simp only [go_sem, seval, eA0, eB, ev]
    refine gU ?_
    refine hK _ ?_; clear hK K
    rw [← st]
    refine gB ?_
    (repeat refine xb_ ?_); refine gLp (fun z : Nat => ⟨[(0, .int n), (1, .int a), (4, .bptr 0 0), (5, .int m), (6, .bptr 3 0), (7, .int i), (8, .ref 7 []), (9, .int y), (10, .int z)], [(0, .bx [.nil, .int 0, .nil, .nil]), (1, .t1 [(n : Int)]), (2, .t3 (wrC n f (fun _ _ _ => 0) i y z)), (3, .bx [.ref 1 [], .int m, .ref 2 [], .ref 6 []]), (6, .t2 (yW_ i n g)), (7, .t1 (zo_ (y + 1) (g i))), (8, .t1 [g i y])]⟩) n fun z hz => ?_
    refine gB ?_
    refine gI (fun hz2 => ?_) fun hz2 => ?_
    ·have hz : z < n := by omega
     refine xe_ ?_
     refine gO ?_
     refine gB ?_
     refine gI (fun hc => ?_) fun hc => ?_
     ·have l3 := wr_ (n := n) (f := f) (g := fun _ _ _ => 0) (i := i) (j := y) (k := z)
      have l4 := Zm_ (n := n) (f := f) (g := fun _ _ _ => 0) (i := i) (j := y) (k := z) (x := i) (by omega)
      have l5 := Zn_ (n := n) (f := f) (g := fun _ _ _ => 0) (i := i) (j := y) (k := z) (x := i) (y := y) (by omega) (by omega)
      have sk := Xs_ (n := n) (f := f) (g := fun _ _ _ => 0) (i := i) (j := y) (k := z) hx hy
      rw [fz z, if_pos (by omega)] at sk
      (repeat refine xb_ ?_); refine xx_ (xO_ hcx) fun K hK => ?_; simp only [go_sem, seval, l3, l4, l5]
      refine gU ?_
      refine hK _ ?_; clear hK K
      (repeat refine xb_ ?_); refine xx_ (xO_ hcx) fun K hK => ?_; simp only [go_sem, seval, l3, l4, l5, eC, eE0, eV, sk]
      refine gU ?_
      refine hK _ ?_; clear hK K
      refine gB ?_
      refine ⟨z + 1,  by omega, by omega, .inl ⟨gH,  rfl⟩⟩
     ·have e0 : wrC n f (fun _ _ _ => 0) i y (z + 1) = wrC n f (fun _ _ _ => 0) i y z := Zb_ (fun z' h1 h2 => by
       obtain rfl : z' = z := by omega
       rw [fz, if_neg (by omega)]) (Nat.le_succ z)
      rw [← e0]
      refine xe_ ?_
      refine gB ?_
      refine ⟨z + 1,  by omega, by omega, .inl ⟨gH,  rfl⟩⟩
    ·obtain rfl : z = n := by omega
     rw [Xt_]
     refine xh_ (x9_ ?_)
     refine gB ?_
     refine ⟨y + 1, by omega, by omega, .inr ⟨[8], gK1, av1⟩⟩
   ·obtain rfl : y = n := by omega
    rw [Xu_]
    refine xh_ (x9_ ?_)
    refine gC fun K hK => ?_
    try simp only [lm]
    refine gU ?_
    refine hK _ ?_; clear hK K
    refine gB ?_
    refine ⟨some (i + 1), ⟨by omega, by omega⟩, by show y - (i + 1) < y - i; omega, .inl ⟨?_, ?_⟩⟩
    ·simp only [xs_, St.get, xg_, Nat.reduceEqDiff, ↓reduceIte, AV.int.injEq, true_and, and_true]
     try omega
    ·dsimp only
     rw [zP_]
     try rfl
  ·obtain rfl : i = n := by omega
   rw [Yj_]
   refine xh_ (x9_ ?_)
   refine gB ?_
   exact xf_ (RI_ (v := .agg [.ref 1 [], .int m, .ref 2 [], .ref 6 []]) (by simp only [go_sem, seval]) rfl (by simp))
end Go.Proofs.YtjbdiekkjegckaaGreat
