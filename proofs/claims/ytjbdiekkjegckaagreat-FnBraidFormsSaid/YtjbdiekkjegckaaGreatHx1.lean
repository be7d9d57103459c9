import Derived.Test.YtjbdiekkjegckaaGreatPl6
import Derived.Test.YtjbdiekkjegckaaGreatWx1
import Derived.Test.YtjbdiekkjegckaaGreatGa
set_option linter.unusedSimpArgs false
set_option linter.unusedVariables false
namespace Go.Proofs.YtjbdiekkjegckaaGreat
open Go Go.Aw Go.Pl
theorem VS_ (o : List Int) : PureCall Tryz.prog 121 [.l1 o] (.bool (bd (PosO o))) := by
 refine gPC 18 [.tmp 2] Tryz.call121 Tryz.func121 fun cx hcx => gE ?_
 refine gA ?_
 refine zp_ 0 fun h0 => ?_; simp only [St.get, xg_, Nat.reduceEqDiff, ↓reduceIte, if_true, fact, facts] at h0
 have hlen := h0.1
 refine gA ?_
 (repeat refine xb_ ?_); refine xt_ (fun k : Nat => ⟨[(0, .l1 o), (3, .int k)], []⟩) (fun k => k ≤ o.length ∧ ∀ i, i < k → 1 ≤ o.getD i 0) (fun k => o.length - k) 0 ⟨Nat.zero_le _, fun a h => absurd h (Nat.not_lt_zero a)⟩ (by
  refine And.intro ?_ rfl; simp only [leS, Nat.reduceEqDiff, ↓reduceIte, true_and, and_true]
  rfl) (fun k hk => ?_)
 obtain ⟨hk, hK'⟩ := hk
 refine gA ?_
 refine gI (fun h1 => ?_) fun h1 => ?_
 ·refine xe_ ?_
  refine gO ?_
  refine gB ?_
  refine gI (fun h2 => ?_) fun h2 => ?_
  ·refine gA ?_
   refine xf_ (yu_ rfl ?_)
   exact (xz_ (fun h => by have := h.2 k (by omega); omega)).symm
  ·refine xe_ ?_
   refine gB ?_
   refine ⟨k + 1,  ⟨by omega, fun a ha => by rcases Nat.lt_succ_iff_lt_or_eq.1 ha with h | rfl; exact hK' a h; omega⟩, by omega, .inl ⟨?_, rfl⟩⟩; simp only [leS, Nat.reduceEqDiff, ↓reduceIte, true_and, and_true]
   omega
 ·refine xh_ (x9_ ?_)
  refine gA ?_
  refine xf_ (yu_ rfl ?_)
  by_cases h3 : 0 < o.length
  ·rw [xS_ (show PosO o from ⟨h3, fun i hi => hK' i (by omega)⟩)]
   exact decide_eq_true (by omega)
  ·rw [xz_ (fun h : PosO o => h3 h.1)]
   exact decide_eq_false (by omega)
theorem Ww_ (o : List Int) (h : PosO o) : PureCall Tryz.prog 104 [.l1 o, .int 8] (.int (RE_ o)) := by
 refine gPC 33 [.tmp 4] Tryz.call104 Tryz.func104 fun cx hcx => gE ?_
 refine gA ?_
 refine zp_ 0 fun h0 => ?_; simp only [St.get, xg_, Nat.reduceEqDiff, ↓reduceIte, if_true, fact, facts] at h0
 have hlen := h0.1
 refine gA ?_
 refine gA ?_
 (repeat refine xb_ ?_); refine xt_ (fun k : Nat => ⟨[(0, .l1 o), (1, .int 8), (5, .int (frP o k)), (6, .int k)], []⟩) (fun k => k ≤ o.length ∧ frP o k ≤ 8) (fun k => o.length - k) 0 ⟨Nat.zero_le _, by simp [frP]⟩ (by
  refine And.intro ?_ rfl; simp only [leS, Nat.reduceEqDiff, ↓reduceIte, true_and, and_true]
  first | exact ⟨rfl, rfl⟩ | rfl) (fun k hk => ?_)
 obtain ⟨hk, hf⟩ := hk
 have hb := Wx_ (j := o.length) h.2 k hk
 rw [wp_] at hb
 refine gA ?_
 refine gI (fun h1 => ?_) fun h1 => ?_
 ·have he := zH_ h (show k < o.length by omega)
  have ho := h.2 k (by omega)
  refine xe_ ?_
  refine gO ?_
  refine gB ?_
  refine gI (fun h2 => ?_) fun h2 => ?_
  ·refine gB ?_
   refine xf_ (zY_ rfl ?_)
   unfold RE_
   rw [if_neg (by omega)]
  ·have hb1 := Wx_ (j := o.length) h.2 (k + 1) (by omega)
   have m1 : frP o k * o.getD k 0 ≤ 8 * 8 := Int.mul_le_mul (by omega) (by omega) (by omega) (by omega)
   rw [wp_] at hb1
   simp only [frP] at hb1
   refine xe_ ?_
   refine gB ?_
   refine gA ?_
   refine gI (fun h3 => ?_) fun h3 => ?_
   ·refine gB ?_
    refine xf_ (zY_ rfl ?_)
    unfold RE_
    rw [if_neg (by omega)]
   ·refine xe_ ?_
    refine gB ?_
    refine ⟨k + 1,  ⟨by omega, by simp only [frP]; omega⟩, by omega, .inl ⟨?_, rfl⟩⟩; simp only [leS, Nat.reduceEqDiff, ↓reduceIte, true_and, and_true]
    first | exact ⟨rfl, by omega⟩ | omega
 ·obtain rfl : k = o.length := by omega
  rw [wp_] at hf ⊢
  refine xh_ (x9_ ?_)
  refine gA ?_
  refine xf_ (zY_ rfl ?_)
  unfold RE_
  rw [if_pos hf]
theorem w5_ (o : List Int) (h : PosO o) : PureCall Tryz.prog 86 [.l1 o] (.int (RE_ o)) := by
 refine gPC 5 [.tmp 2] Tryz.call86 Tryz.func86 fun cx hcx => gE ?_
 refine gA ?_
 refine gC fun K hK => ?_
 first | refine x0_ rfl rfl (Ww_ o h) ?_ | refine xd_ (xR_ rfl rfl (Ww_ o h)) ?_
 refine gV ?_
 refine hK _ ?_; clear hK K
 refine xf_ (zY_ rfl ?_)
 rfl
theorem yv_ (o : List Int) : PureCall Tryz.prog 37 [.l1 o] (.int (gsz o)) := by
 refine gPC 24 [.tmp 2] Tryz.call37 Tryz.func37 fun cx hcx => gE ?_
 refine gA ?_
 refine zp_ 0 fun h0 => ?_; simp only [St.get, xg_, Nat.reduceEqDiff, ↓reduceIte, if_true, fact, facts] at h0
 have hlen := h0.1
 refine gA ?_
 refine gA ?_
 (repeat refine xb_ ?_); refine xt_ (fun k : Nat => ⟨[(0, .l1 o), (3, .int (yG_ (frP o k))), (6, .l1 o), (7, .int o.length), (8, .int k)], []⟩) (fun k => k ≤ o.length ∧ ∀ i, i < k → 1 ≤ o.getD i 0) (fun k => o.length - k) 0 ⟨Nat.zero_le _, fun a h => absurd h (Nat.not_lt_zero a)⟩ (by
  refine And.intro ?_ rfl; simp only [leS, Nat.reduceEqDiff, ↓reduceIte, true_and, and_true]
  first | exact ⟨rfl, rfl⟩ | rfl) (fun k hk => ?_)
 obtain ⟨hk, hK'⟩ := hk
 have hb := (Wx_ hK' k (Nat.le_refl _)).1
 refine gA ?_
 refine gI (fun h1 => ?_) fun h1 => ?_
 ·refine xe_ ?_
  refine gO ?_
  refine gB ?_
  refine gA ?_
  refine gI (fun h2 => ?_) fun h2 => ?_
  ·refine gA ?_
   refine xf_ (zY_ rfl ?_)
   unfold gsz
   rw [xz_ (fun h : PosO o => by have := h.2 k (by omega); omega)]
   rfl
  ·have e1 : (if 17 < o.getD k 0 then 17 else o.getD k 0) = yG_ (o.getD k 0) := by unfold yG_; split <;> split <;> omega
   have e2 := Qb_ hb (show 1 ≤ o.getD k 0 by omega)
   have b1 : 1 ≤ yG_ (o.getD k 0) ∧ yG_ (o.getD k 0) ≤ 17 := by unfold yG_; split <;> omega
   have b2 : 1 ≤ yG_ (frP o k) ∧ yG_ (frP o k) ≤ 17 := by unfold yG_; split <;> omega
   have b3 : yG_ (frP o k) * yG_ (o.getD k 0) ≤ 17 * 17 := Int.mul_le_mul (by omega) (by omega) (by omega) (by omega)
   have b4 : 0 ≤ yG_ (frP o k) * yG_ (o.getD k 0) := Int.mul_nonneg (by omega) (by omega)
   have e3 : ∀ X : Int, (if X < 17 then X else 17) = yG_ X := fun X => by unfold yG_; split <;> split <;> omega
   refine xe_ ?_
   refine gC fun K hK => ?_
   simp only [e1, e3, e2]
   refine gU ?_
   refine hK _ ?_; clear hK K
   refine gB ?_
   refine ⟨k + 1,  ⟨by omega, fun a ha => by rcases Nat.lt_succ_iff_lt_or_eq.1 ha with h | rfl; exact hK' a h; omega⟩, by omega, .inl ⟨?_, rfl⟩⟩; simp only [leS, Nat.reduceEqDiff, ↓reduceIte, true_and, and_true]
   first | rfl | exact ⟨rfl, by omega⟩ | (simp only [frP]; omega)
 ·obtain rfl : k = o.length := by omega
  rw [wp_]
  refine xh_ (x9_ ?_)
  refine gA ?_
  refine gI (fun h3 => ?_) fun h3 => ?_
  ·refine gA ?_
   refine xf_ (zY_ rfl ?_)
   unfold gsz
   rw [xz_ (fun h : PosO o => by have := h.1; omega)]
   rfl
  ·refine xe_ ?_
   refine gA ?_
   refine xf_ (zY_ rfl ?_)
   unfold gsz
   rw [if_pos (xS_ ⟨by omega, hK'⟩)]
theorem wP_ (m : Int) : PureCall Tryz.prog 72 [.int m] (.bool (decide (1 ≤ m) && decide (m ≤ 1000))) := by
 refine gPC 5 [.tmp 2] Tryz.call72 Tryz.func72 fun cx hcx => gE ?_
 refine gA ?_
 refine gC fun K hK => ?_
 first | refine xc_ (yf_ _ _ _) rfl ?_ | refine xd_ (xa_ (yf_ _ _ _) rfl) ?_
 refine gV ?_
 refine hK _ ?_; clear hK K
 refine xf_ (yu_ rfl ?_)
 rfl
theorem zB_ (o : List Int) (m : Int) (w : List (List (List Int))) (n : Int) (h1 : 1 ≤ m) (h2 : m ≤ 1000) : PureCall Tryz.prog 66 [.agg [.l1 o, .int m, .l3 w], .int n] (.int (n % m)) := by
 have a1 : -m < n.tmod m := by
  have := Int.tmod_lt_of_pos (-n) (show 0 < m by omega)
  rw [Int.neg_tmod] at this
  omega
 have a2 := Int.tmod_lt_of_pos n (show 0 < m by omega)
 have a3 := Zk_ (n := n) h1
 have a4 := Int.emod_nonneg n (show m ≠ 0 by omega)
 have a5 := Int.emod_lt_of_pos n (show 0 < m by omega)
 refine gPC 15 [.tmp 4] Tryz.call66 Tryz.func66 fun cx hcx => gE ?_
 refine gA ?_
 (repeat refine xb_ ?_); refine xI_ (xO_ hcx) mixed (by kernel_rfl) fun K hK => ?_; simp only [go_sem, seval]
 simp only [a3]
 refine gU ?_
 refine hK _ ?_; clear hK K
 refine xf_ (zY_ rfl ?_)
 rfl
set_option maxHeartbeats 2000000 in
theorem zO_ (o : List Int) (h : PosO o) (h8 : xA_ o ≤ 8) (x y : Nat) (hx : x ≤ 8) (hy : y ≤ 8) : PureCall Tryz.prog 100 [.l1 o, .int x, .int y] (.int (ad o x y)) := by
 rw [UU_ h]
 refine gPC 58 [.tmp 6] Tryz.call100 Tryz.func100 fun cx hcx => gE ?_
 refine gA ?_
 refine zp_ 0 fun h0 => ?_; simp only [St.get, xg_, Nat.reduceEqDiff, ↓reduceIte, if_true, fact, facts] at h0
 have hlen := h0.1
 refine gA ?_
 refine gB ?_
 (repeat refine xb_ ?_); refine xt_ (fun k : Nat => ⟨[(0, .l1 o), (1, .int (adX o x k)), (2, .int (adX o y k)), (7, .int (adS o x y k)), (8, .int (adP o k)), (9, .int ((o.length : Int) - 1 - k))], []⟩) (fun k => k ≤ o.length) (fun k => o.length - k) 0 (Nat.zero_le _) (by
  refine And.intro ?_ rfl; simp only [leS, Nat.reduceEqDiff, ↓reduceIte, true_and, and_true]
  simp only [adX, adS, adP]
  exact ⟨trivial, trivial, trivial, trivial, by omega⟩) (fun k hk => ?_)
 refine gA ?_
 refine gI (fun h1 => ?_) fun h1 => ?_
 ·obtain ⟨j, ej⟩ : ∃ j : Nat, (o.length : Int) - 1 - k = j := ⟨o.length - 1 - k, by omega⟩
  have eq : o.getD j 0 = adQ o k := by unfold adQ; congr 1; omega
  have hkl : k < o.length := by omega
  have q1 := Zj_ h hkl
  have q2 : adQ o k ≤ xA_ o := zH_ h (by omega)
  have bx := YI_ h (x := x) (by omega) k hk
  have bx1 := YI_ h (x := x) (by omega) (k + 1) (by omega)
  have bY := YI_ h (x := y) (by omega) k hk
  have bY1 := YI_ h (x := y) (by omega) (k + 1) (by omega)
  have cx1 := bx1
  have cY1 := bY1
  have bg := R9_ h x y hkl
  have bs := VV_ h x y k hk
  have bs1 := VV_ h x y (k + 1) (by omega)
  have bp := Wy_ h k hk
  have bp1 := Wy_ h (k + 1) (by omega)
  have m0 : 0 ≤ adG o x y k * adP o k := Int.mul_nonneg bg.1 (by omega)
  simp only [adX, adS, adP] at bx1 bY1 bs1 bp1
  have r1 := Int.emod_nonneg (adX o x k) (show adQ o k ≠ 0 by omega)
  have r2 := Int.emod_lt_of_pos (adX o x k) (show 0 < adQ o k by omega)
  have r3 := Int.emod_nonneg (adX o y k) (show adQ o k ≠ 0 by omega)
  have r4 := Int.emod_lt_of_pos (adX o y k) (show 0 < adQ o k by omega)
  have t1 : (adX o x k).tmod (adQ o k) = adX o x k % adQ o k := Int.tmod_eq_emod_of_nonneg (by omega)
  have t2 : (adX o y k).tmod (adQ o k) = adX o y k % adQ o k := Int.tmod_eq_emod_of_nonneg (by omega)
  have t3 : (adX o x k % adQ o k + adX o y k % adQ o k).tmod (adQ o k) = adG o x y k := Int.tmod_eq_emod_of_nonneg (by omega)
  have t4 : (adX o x k).tdiv (adQ o k) = adX o x (k + 1) := Int.tdiv_eq_ediv_of_nonneg (by omega)
  have t5 : (adX o y k).tdiv (adQ o k) = adX o y (k + 1) := Int.tdiv_eq_ediv_of_nonneg (by omega)
  rw [ej]
  refine xe_ ?_
  refine gO ?_
  (repeat refine xb_ ?_); refine xI_ (xO_ hcx) mixed (by kernel_rfl) fun K hK => ?_; simp only [go_sem, seval]
  simp only [eq, t1, t2, t3]
  refine gU ?_
  refine hK _ ?_; clear hK K
  refine gC fun K hK => ?_
  simp only [eq, t4]
  refine gU ?_
  refine hK _ ?_; clear hK K
  refine gC fun K hK => ?_
  simp only [eq, t4]
  refine gU ?_
  refine hK _ ?_; clear hK K
  refine gC fun K hK => ?_
  simp only [eq, t5]
  refine gU ?_
  refine hK _ ?_; clear hK K
  refine gB ?_
  refine ⟨k + 1,  by omega, by omega, .inl ⟨?_, rfl⟩⟩; simp only [leS, Nat.reduceEqDiff, ↓reduceIte, true_and, and_true]
  (repeat' refine And.intro ?_ ?_) <;> first | rfl | omega
 ·obtain rfl : k = o.length := by omega
  refine xh_ (x9_ ?_)
  refine gA ?_
  refine xf_ (zY_ rfl ?_)
  rfl
end Go.Proofs.YtjbdiekkjegckaaGreat
namespace Go.Proofs.YtjbdiekkjegckaaGreat
open Go Go.Aw Go.Pl
attribute [local go_sem] y9_ yB_ za_ zb_ wE_ yq_ List.getElem?_toArray List.getElem?_cons_zero List.getElem?_cons_succ
set_option maxHeartbeats 4000000 in
theorem VT_ (xs : List Int) : OwnCall Tryz.prog 115 [.l1 xs] [] [(4, .bx [.l1 xs])] (.fn 122 [.bptr 4 0]) [] := by
 refine OwnCall.intro (n := 4) (rs := [.tmp 2]) 1 [0] (X := []) Tryz.call115 Tryz.func115 rfl rfl rfl (by simp only [List.length_cons, List.length_nil]; omega) (by simp [Aw.ids, x3_, xQ_, xl_, xg_]) (fun cx hcx => AT.weakG (x2_ ?_)); refine gE ?_
 refine gBN ?_
 refine gBN ?_
 refine xf_ ⟨⟨[(0, .l1 xs), (2, .fn 122 [.bptr 4 0])], [(4, .bx [.l1 xs])]⟩, yJ_ (wg_ []) (xr_ [(0, 4)] (by simp only [yj_, xu_, xH_, qOf, rmT, xD_, yF_, List.filter_cons, List.filter_nil, List.contains_cons, List.contains_nil, Bool.or_false, Bool.or_true, Bool.false_and, Bool.not_true, Bool.not_false, Bool.false_eq_true, if_true, if_false, YO_, rnL, rn, rns, sw, xs_, St.get, xg_, List.map_cons, List.map_nil, seval, AV.int.injEq, AV.bool.injEq, AV.l1.injEq, AV.l2.injEq, AV.l3.injEq, true_and, and_true]) (by simp only [yj_, xu_, xH_, qOf, rmT, xD_, yF_, List.filter_cons, List.filter_nil, List.contains_cons, List.contains_nil, Bool.or_false, Bool.or_true, Bool.false_and, Bool.not_true, Bool.not_false, Bool.false_eq_true, if_true, if_false, zf_, YY_, YP_, rnH, rnT, rn, rns, sw, List.map_cons, List.map_nil, seval])), .inr rfl, (by first | rfl | exact ⟨trivial, rfl⟩ | (simp only [y1_, zZ_, go_sem, seval]; done)), (by simp [St.get, xg_, xl_]), rfl⟩
set_option maxHeartbeats 8000000 in
theorem YU_ (o : List Int) (h : PosO o) (h8 : xA_ o ≤ 16) (x y : Nat) (hx : x ≤ 16) (hy : y ≤ 16) : PureCall Tryz.prog 96 [.l1 o, .int x, .int y] (.int (ad o x y)) := by
 rw [UU_ h]
 have hba := VT_ o
 refine PureCall.introD (n := 38) (rs := [.tmp 6]) Tryz.call96 Tryz.func96 rfl rfl rfl (by simp only [List.length_cons, List.length_nil]; omega) (fun cx hcx hrd => ?_)
 have hcxA := hcx
 refine gE ?_
 refine ae3 0 fun h0 => ?_
 replace h0 : F1 o := h0
 have hlen := h0.1
 refine ae2 [_, _] ⟨[(0, .l1 o), (4, .bptr 0 0), (5, .bptr 1 0), (7, .bptr 2 0), (8, .bptr 3 0)], [(0, .bx [.int x]), (1, .bx [.int y]), (2, .bx [.int 0]), (3, .bx [.int 1])]⟩ (fun cx hf => ?_) ?_
 ·replace hcx := hf.trans hcx
  refine gBN ?_
  refine gBN ?_
  refine xJ_ ?_; refine Or.inl ⟨rfl, yJ_ (wg_ []) (xr_ [] (by simp only [yj_, xu_, xH_, qOf, rmT, xD_, yF_, List.filter_cons, List.filter_nil, List.contains_cons, List.contains_nil, Bool.or_false, Bool.or_true, Bool.false_and, Bool.not_true, Bool.not_false, Bool.false_eq_true, if_true, if_false, YO_, rnL, rn, rns, sw, xs_, St.get, xg_, List.map_cons, List.map_nil, seval, AV.int.injEq, AV.bool.injEq, AV.l1.injEq, AV.l2.injEq, AV.l3.injEq, true_and, and_true]) (by simp only [yj_, xu_, xH_, qOf, rmT, xD_, yF_, List.filter_cons, List.filter_nil, List.contains_cons, List.contains_nil, Bool.or_false, Bool.or_true, Bool.false_and, Bool.not_true, Bool.not_false, Bool.false_eq_true, if_true, if_false, zf_, YY_, YP_, rnH, rnT, rn, rns, sw, List.map_cons, List.map_nil, seval]))⟩
 ·refine Kk_ ?_
  (repeat refine ae1 ?_)
  refine Km_ ⟨[(0, .l1 o), (4, .bptr 0 0), (5, .bptr 1 0), (7, .bptr 2 0), (8, .bptr 3 0), (12, .fn 122 [.bptr 4 0])], [(0, .bx [.int x]), (1, .bx [.int y]), (2, .bx [.int 0]), (3, .bx [.int 1]), (4, .bx [.l1 o])]⟩ (fun cx hf => ?_) ?_
  ·replace hcx := hf.trans hcx
   refine gCN fun K hK => ?_
   refine zz_ (hba) (by simp [Aw.ids]) (by simp [find]) (by simp [zQ_, yF_, xH_, xu_, YV_, Aw.ids]) (by simp [xH_, xu_, YV_, Aw.ids]) (by simp [Aw.ids]) ?_; simp only [Aw.ids, List.map_cons, List.map_nil, List.filter_cons, List.filter_nil, List.contains_cons, List.contains_nil, Bool.or_false, Bool.or_true, Bool.not_true, Bool.not_false, Nat.reduceBEq, Bool.false_eq_true, if_true, if_false, List.cons_append, List.nil_append]; simp only [go_sem, seval]
   refine hK _ ?_; clear hK K
   refine xJ_ ?_; refine Or.inl ⟨rfl, yJ_ (wg_ []) (xr_ [] (by simp only [yj_, xu_, xH_, qOf, rmT, xD_, yF_, List.filter_cons, List.filter_nil, List.contains_cons, List.contains_nil, Bool.or_false, Bool.or_true, Bool.false_and, Bool.not_true, Bool.not_false, Bool.false_eq_true, if_true, if_false, YO_, rnL, rn, rns, sw, xs_, St.get, xg_, List.map_cons, List.map_nil, seval, AV.int.injEq, AV.bool.injEq, AV.l1.injEq, AV.l2.injEq, AV.l3.injEq, true_and, and_true]) (by simp only [yj_, xu_, xH_, qOf, rmT, xD_, yF_, List.filter_cons, List.filter_nil, List.contains_cons, List.contains_nil, Bool.or_false, Bool.or_true, Bool.false_and, Bool.not_true, Bool.not_false, Bool.false_eq_true, if_true, if_false, zf_, YY_, YP_, rnH, rnT, rn, rns, sw, List.map_cons, List.map_nil, seval]))⟩
  refine Rp_ ?_
  refine ATD.back (fB := 122) Kr_ Tryz.call122 hrd (gs := 12) (p0 := 13) (p1 := 14) o.length (fun k => [(0, .bx [.int (adX o x k)]), (1, .bx [.int (adX o y k)]), (2, .bx [.int (adS o x y k)]), (3, .bx [.int (adP o k)]), (4, .bx [.l1 o])]) (fun k => o.getD (o.length - 1 - k) 0) (fun j => [0, 4, 5, 7, 8, 12].contains j) (by unfold maxLen; omega) rfl rfl rfl (by decide) (by decide) (by decide) (aL3 rfl) (aL4 rfl rfl (fun x => rfl)) (fun k hkl c2 hf2 => ?_) ?_
  ·have hcx := hf2
   have eq : o.getD (o.length - 1 - k) 0 = adQ o k := rfl
   rw [eq]
   have hk : k ≤ o.length := by omega
   have q1 := Zj_ h hkl
   have q2 : adQ o k ≤ xA_ o := zH_ h (by omega)
   have bx := YI_ h (x := x) (by omega) k hk
   have bx1 := YI_ h (x := x) (by omega) (k + 1) (by omega)
   have bY := YI_ h (x := y) (by omega) k hk
   have bY1 := YI_ h (x := y) (by omega) (k + 1) (by omega)
   have bg := R9_ h x y hkl
   have bs := VV_ h x y k hk
   have bs1 := VV_ h x y (k + 1) (by omega)
   have bp := Wy_ h k hk
   have bp1 := Wy_ h (k + 1) (by omega)
   have m0 : 0 ≤ adG o x y k * adP o k := Int.mul_nonneg bg.1 (by omega)
   have cs1 : adS o x y (k + 1) = adS o x y k + adG o x y k * adP o k := rfl
   have cp1 : adP o (k + 1) = adP o k * adQ o k := rfl
   have r1 := Int.emod_nonneg (adX o x k) (show adQ o k ≠ 0 by omega)
   have r2 := Int.emod_lt_of_pos (adX o x k) (show 0 < adQ o k by omega)
   have r3 := Int.emod_nonneg (adX o y k) (show adQ o k ≠ 0 by omega)
   have r4 := Int.emod_lt_of_pos (adX o y k) (show 0 < adQ o k by omega)
   have t1 : (adX o x k).tmod (adQ o k) = adX o x k % adQ o k := Int.tmod_eq_emod_of_nonneg (by omega)
   have t2 : (adX o y k).tmod (adQ o k) = adX o y k % adQ o k := Int.tmod_eq_emod_of_nonneg (by omega)
   have t3 : (adX o x k % adQ o k + adX o y k % adQ o k).tmod (adQ o k) = adG o x y k := Int.tmod_eq_emod_of_nonneg (by omega)
   have t4 : (adX o x k).tdiv (adQ o k) = adX o x (k + 1) := Int.tdiv_eq_ediv_of_nonneg (by omega)
   have t5 : (adX o y k).tdiv (adQ o k) = adX o y (k + 1) := Int.tdiv_eq_ediv_of_nonneg (by omega)
   refine x2_ ?_
   refine gBN ?_
   refine ⟨rfl, fun cx hf => ?_⟩
   have hcx := hf
   refine AT.weakG (x2_ ?_)
   refine gO ?_
   (repeat refine xb_ ?_); refine xI_ (by first | exact xO_ hcx | exact y2_ hcx rfl) mixed (by kernel_rfl) fun K hK => ?_; simp only [go_sem, seval]
   simp only [t1, t2, t3]
   refine gU ?_
   refine hK _ ?_; clear hK K
   refine gBN ?_
   have d1 : -9223372036854775808 ≤ (adX o x k).tdiv (adQ o k) := by rw [t4]; omega
   have d2 : (adX o x k).tdiv (adQ o k) ≤ 9223372036854775807 := by rw [t4]; omega
   have d3 : -9223372036854775808 ≤ (adX o y k).tdiv (adQ o k) := by rw [t5]; omega
   have d4 : (adX o y k).tdiv (adQ o k) ≤ 9223372036854775807 := by rw [t5]; omega
   rw [← cs1, ← cp1]
   (repeat refine xb_ ?_)
   refine xZ_ [] (.one 0 (.one 1 (.one 2 (.alt 3 (.alt 4 (.alt 5 (.alt 6 (.alt 7 .fin .stop) .stop) (.alt 6 (.one 5 (.alt 7 .fin .stop)) .stop)) (.alt 6 (.one 4 (.one 5 (.alt 7 .fin .stop))) .stop)) (.alt 4 (.alt 3 (.alt 5 (.alt 6 (.alt 7 .fin .stop) .stop) (.alt 6 (.one 5 (.alt 7 .fin .stop)) .stop)) (.alt 6 (.one 3 (.one 5 (.alt 7 .fin .stop))) .stop)) (.alt 6 (.one 3 (.one 4 (.one 5 (.alt 7 .fin .stop)))) .stop)))))) ⟨[(0, .l1 o), (4, .bptr 0 0), (5, .bptr 1 0), (7, .bptr 2 0), (8, .bptr 3 0), (12, .fn 122 [.bptr 4 0])], [(0, .bx [.int ((adX o x k).tdiv (adQ o k))]), (1, .bx [.int ((adX o y k).tdiv (adQ o k))]), (2, .bx [.int (adS o x y (k + 1))]), (3, .bx [.int (adP o (k + 1))]), (4, .bx [.l1 o])]⟩ (by first | exact xO_ hcx | exact y2_ hcx rfl) mixed (by kernel_rfl) (fun K hK => ?_) ?_
   ·simp only [go_sem, seval, Option.getD_some, and_true, true_and, and_self, List.contains_cons, List.contains_nil, Bool.or_false, Bool.or_true]
    repeat' (first | exact hK _ gM  | with_reducible refine And.intro ?_ ?_ | omega | (refine xq_ rfl () rfl ?_; simp only [go_sem, seval, Option.getD_some, and_true, true_and, and_self, List.contains_cons, List.contains_nil, Bool.or_false, Bool.or_true]))
   rw [t4, t5]
   refine xJ_ (Yt_ (xJ_ ?_))
   refine ⟨_, Rq_, rfl, ?_, rfl⟩
   show xs_ _ [(0, .l1 o), (4, .bptr 0 0), (5, .bptr 1 0), (7, .bptr 2 0), (8, .bptr 3 0), (12, .fn 122 [.bptr 4 0])]
   simp only [leS, Nat.reduceEqDiff, ↓reduceIte, true_and, and_true]
  ·refine Kl_ fun cx hf => ?_
   replace hcx := hf.trans hcxA
   refine x2_ ?_
   refine gBN ?_
   refine xf_ (zY_ rfl ?_)
   rfl
theorem yQ_ (o : List Int) (h : PosO o) (h8 : xA_ o ≤ 8) (x y : Nat) (hx : x ≤ 8) (hy : y ≤ 8) : PureCall Tryz.prog 96 [.l1 o, .int x, .int y] (.int (ad o x y)) := YU_ o h (by omega) x y (by omega) (by omega)
end Go.Proofs.YtjbdiekkjegckaaGreat
namespace Go.Proofs.YtjbdiekkjegckaaGreat
open Go Go.Aw Go.Pl
set_option maxHeartbeats 2000000 in
theorem UT_ (o : List Int) (m : Int) (w : List (List (List Int))) : PureCall Tryz.prog 111 [.agg [.l1 o, .int m, .l3 w]] (.bool (bd (CocS o m w))) := by
 have hk := VS_ o
 by_cases hp : PosO o
 ·have hs := w5_ o hp
  rw [xS_ hp] at hk
  refine gPC 79 [.tmp 2] Tryz.call111 Tryz.func111 fun cx hcx => gE ?_
  refine gA ?_
  refine gC fun K hK => ?_
  first | refine xc_ (hk) rfl ?_ | refine xd_ (xa_ (hk) rfl) ?_
  refine gW ?_
  first | refine xc_ (z3_ m 1 1000) rfl ?_ | refine xd_ (xa_ (z3_ m 1 1000) rfl) ?_
  refine gW ?_
  refine hK _ ?_; clear hK K
  refine gI (fun h1 => ?_) fun h1 => ?_
  ·refine gB ?_
   refine xf_ (yu_ rfl ?_)
   refine (xz_ (fun h => ?_)).symm
   have a1 := h.2.2.1
   have a2 := h.2.2.2.1
   simp [a1, a2] at h1
  ·have hm : 1 ≤ m ∧ m ≤ 1000 := by simpa using h1
   refine xe_ ?_
   refine gC fun K hK => ?_
   first | refine xc_ (hs) rfl ?_ | refine xd_ (xa_ (hs) rfl) ?_
   refine gW ?_
   refine hK _ ?_; clear hK K
   refine gB ?_
   refine gI (fun h2 => ?_) fun h2 => ?_
   ·refine gB ?_
    refine xf_ (yu_ rfl ?_)
    refine (xz_ (fun h => ?_)).symm
    have a1 := h.2.2.2.2.1
    have a2 := h.2.1
    have e : RE_ o = xA_ o := if_pos a2
    rw [e] at h2
    simp at h2
    omega
   ·have hh : RE_ o ≤ 8 ∧ (w.length : Int) = RE_ o := by
     simp at h2
     omega
    have p8 : xA_ o ≤ 8 := by
     have := hh.1
     unfold RE_ at this
     split at this <;> omega
    have ew : RE_ o = (w.length : Int) := hh.2.symm
    have hw : (w.length : Int) = xA_ o := by rw [hh.2]; exact if_pos p8
    have w8 : w.length ≤ 8 := by omega
    rw [ew]
    refine xe_ ?_
    refine gB ?_
    (repeat refine xb_ ?_); refine xt_ (fun i : Nat => ⟨[(1, .bptr 0 0), (3, .int w.length), (4, .int i)], [(0, .bx [.l1 o, .int m, .l3 w])]⟩) (fun i => i ≤ w.length ∧ ∀ b, b < i → GridB w.length m (w.getD b [])) (fun i => w.length - i) 0 ⟨Nat.zero_le _, fun a h => absurd h (Nat.not_lt_zero a)⟩ (by refine And.intro ?_ rfl; simp only [leS, Nat.reduceEqDiff, ↓reduceIte, true_and, and_true]; rfl) (fun i hi => ?_); obtain ⟨hi, Hi⟩ := hi
    refine gB ?_
    refine gI (fun hc4 => ?_) fun hc4 => ?_
    ·refine xe_ ?_
     refine gO ?_
     refine gB ?_
     refine gI (fun hc5 => ?_) fun hc5 => ?_
     ·refine gB ?_
      refine xf_ (yu_ rfl ?_)
      refine (xz_ (fun h => ?_)).symm
      have := (h.2.2.2.2.2.2 i (by omega)).1
      omega
     ·refine xe_ ?_
      refine gB ?_
      (repeat refine xb_ ?_); refine xt_ (fun j : Nat => ⟨[(1, .bptr 0 0), (3, .int w.length), (4, .int i), (5, .int j)], [(0, .bx [.l1 o, .int m, .l3 w])]⟩) (fun j => j ≤ w.length ∧ ∀ b, b < j → aw1 w.length m ((w.getD i []).getD b [])) (fun j => w.length - j) 0 ⟨Nat.zero_le _, fun a h => absurd h (Nat.not_lt_zero a)⟩ (by refine And.intro ?_ rfl; simp only [leS, Nat.reduceEqDiff, ↓reduceIte, true_and, and_true]; rfl) (fun j hj => ?_); obtain ⟨hj, Hj⟩ := hj
      refine gB ?_
      refine gI (fun hc7 => ?_) fun hc7 => ?_
      ·refine xe_ ?_
       refine gO ?_
       refine gB ?_
       refine gI (fun hc8 => ?_) fun hc8 => ?_
       ·refine gB ?_
        refine xf_ (yu_ rfl ?_)
        refine (xz_ (fun h => ?_)).symm
        have := ((h.2.2.2.2.2.2 i (by omega)).2 j (by omega)).1
        omega
       ·refine xe_ ?_
        refine gB ?_
        (repeat refine xb_ ?_); refine xt_ (fun k : Nat => ⟨[(1, .bptr 0 0), (3, .int w.length), (4, .int i), (5, .int j), (6, .int k)], [(0, .bx [.l1 o, .int m, .l3 w])]⟩) (fun k => k ≤ w.length ∧ ∀ b, b < k → 0 ≤ e3 w i j b ∧ e3 w i j b ≤ m - 1) (fun k => w.length - k) 0 ⟨Nat.zero_le _, fun a h => absurd h (Nat.not_lt_zero a)⟩ (by refine And.intro ?_ rfl; simp only [leS, Nat.reduceEqDiff, ↓reduceIte, true_and, and_true]; rfl) (fun k hk => ?_); obtain ⟨hk, Hk⟩ := hk
        refine gB ?_
        refine gI (fun hc10 => ?_) fun hc10 => ?_
        ·refine xe_ ?_
         refine gO ?_
         (repeat refine xb_ ?_); refine xI_ (xO_ hcx) mixed (by kernel_rfl) fun K hK => ?_; simp only [go_sem, seval]
         refine gU ?_
         first | refine xc_ (z3_ (((w.getD i []).getD j []).getD k 0) 0 (m - 1)) rfl ?_ | refine xd_ (xa_ (z3_ (((w.getD i []).getD j []).getD k 0) 0 (m - 1)) rfl) ?_
         refine gW ?_
         refine hK _ ?_; clear hK K
         refine gI (fun hc11 => ?_) fun hc11 => ?_
         ·refine gB ?_
          refine xf_ (yu_ rfl ?_)
          refine (xz_ (fun h => ?_)).symm
          have := h.2.2.2.2.2.bd (i := i) (j := j) (k := k) (by omega) (by omega) (by omega)
          simp only [e3] at this
          simp [-List.getD_eq_getElem?_getD, this.1, this.2] at hc11
         ·have hb : 0 ≤ ((w.getD i []).getD j []).getD k 0 ∧ ((w.getD i []).getD j []).getD k 0 ≤ m - 1 := by simpa using hc11
          refine xe_ ?_
          refine gB ?_
          refine ⟨k + 1, ⟨by omega, fun a ha => by rcases Nat.lt_succ_iff_lt_or_eq.1 ha with h | rfl; exact Hk a h; exact hb⟩, by omega, .inl ⟨?_, rfl⟩⟩; simp only [leS, Nat.reduceEqDiff, ↓reduceIte, true_and, and_true]; omega
        ·refine xh_ (x9_ (xJ_ (Yt_ ?_)))
         refine gB ?_
         refine ⟨j + 1, ⟨by omega, fun a ha => by rcases Nat.lt_succ_iff_lt_or_eq.1 ha with h | rfl; exact Hj a h; exact ⟨by omega, fun k hk => Hk k (by omega)⟩⟩, by omega, .inl ⟨?_, rfl⟩⟩; simp only [leS, Nat.reduceEqDiff, ↓reduceIte, true_and, and_true]; omega
      ·refine xh_ (x9_ (xJ_ (Yt_ ?_)))
       refine gB ?_
       refine ⟨i + 1, ⟨by omega, fun a ha => by rcases Nat.lt_succ_iff_lt_or_eq.1 ha with h | rfl; exact Hi a h; exact ⟨by omega, fun k hk => Hj k (by omega)⟩⟩, by omega, .inl ⟨?_, rfl⟩⟩; simp only [leS, Nat.reduceEqDiff, ↓reduceIte, true_and, and_true]; omega
    ·refine xh_ (x9_ ?_)
     refine gB ?_
     refine xf_ (yu_ rfl ?_)
     exact (xS_ ⟨hp, p8, hm.1, hm.2, hw, rfl, fun k hk => Hi k (by omega)⟩).symm
 ·rw [xz_ hp] at hk
  have e : bd (CocS o m w) = false := xz_ (fun h => hp h.1)
  refine gPC 79 [.tmp 2] Tryz.call111 Tryz.func111 fun cx hcx => gE ?_
  refine gA ?_
  refine gC fun K hK => ?_
  first | refine xc_ (hk) rfl ?_ | refine xd_ (xa_ (hk) rfl) ?_
  refine gV ?_
  refine xd_ (v := .bool true) (by first | trivial | (intro h; cases h)) ?_
  refine gV ?_
  refine hK _ ?_; clear hK K
  refine gR ?_
  refine gA ?_
  refine xf_ (yu_ rfl ?_)
  rw [e]
set_option maxHeartbeats 2000000 in
theorem VU_ (o : List Int) (m : Int) (w : List (List (List Int))) (h : CocS o m w) : PureCall Tryz.prog 112 [.agg [.l1 o, .int m, .l3 w]] (.bool (bd (Sx_ w))) := by
 have n8 := h.n8
 have hc := h.2.2.2.2.2
 have m0 := hc.mat (show 0 < w.length by omega)
 refine gPC 56 [.tmp 2] Tryz.call112 Tryz.func112 fun cx hcx => gE ?_
 refine gB ?_
 refine gB ?_
 refine gB ?_
 (repeat refine xb_ ?_); refine xt_ (fun i : Nat => ⟨[(1, .bptr 0 0), (3, .int w.length), (4, .int i)], [(0, .bx [.l1 o, .int m, .l3 w])]⟩) (fun i => i ≤ w.length ∧ ∀ b, b < i → ∀ j, j < w.length → e3 w 0 b j = 0 ∧ e3 w b 0 j = 0 ∧ e3 w b j 0 = 0) (fun i => w.length - i) 0 ⟨Nat.zero_le _, fun a h => absurd h (Nat.not_lt_zero a)⟩ (by refine And.intro ?_ rfl; simp only [leS, Nat.reduceEqDiff, ↓reduceIte, true_and, and_true]; rfl) (fun i hi => ?_); obtain ⟨hi, Hi⟩ := hi
 refine gB ?_
 refine gI (fun hc2 => ?_) fun hc2 => ?_
 ·refine xe_ ?_
  refine gO ?_
  refine gB ?_
  (repeat refine xb_ ?_); refine xt_ (fun j : Nat => ⟨[(1, .bptr 0 0), (3, .int w.length), (4, .int i), (5, .int j)], [(0, .bx [.l1 o, .int m, .l3 w])]⟩) (fun j => j ≤ w.length ∧ ∀ b, b < j → e3 w 0 i b = 0 ∧ e3 w i 0 b = 0 ∧ e3 w i b 0 = 0) (fun j => w.length - j) 0 ⟨Nat.zero_le _, fun a h => absurd h (Nat.not_lt_zero a)⟩ (by refine And.intro ?_ rfl; simp only [leS, Nat.reduceEqDiff, ↓reduceIte, true_and, and_true]; rfl) (fun j hj => ?_); obtain ⟨hj, Hj⟩ := hj
  refine gB ?_
  refine gI (fun hc4 => ?_) fun hc4 => ?_
  ·have mi := hc.mat (show i < w.length by omega)
   have r0 := hc.row (show 0 < w.length by omega) (show i < w.length by omega)
   have r1 := hc.row (show i < w.length by omega) (show 0 < w.length by omega)
   have r2 := hc.row (show i < w.length by omega) (show j < w.length by omega)
   refine xe_ ?_
   refine gO ?_
   refine gB ?_
   refine gI (fun hc5 => ?_) fun hc5 => ?_
   ·refine gB ?_
    refine xf_ (yu_ rfl ?_)
    refine (xz_ (fun h => ?_)).symm
    have := h i (by omega) j (by omega)
    simp only [e3] at this
    simp [-List.getD_eq_getElem?_getD, this.1, this.2.1, this.2.2] at hc5
   ·have hb : e3 w 0 i j = 0 ∧ e3 w i 0 j = 0 ∧ e3 w i j 0 = 0 := by
     simp at hc5
     simp only [e3]
     simp [hc5]
    refine xe_ ?_
    refine gB ?_
    refine ⟨j + 1, ⟨by omega, fun a ha => by rcases Nat.lt_succ_iff_lt_or_eq.1 ha with h | rfl; exact Hj a h; exact hb⟩, by omega, .inl ⟨?_, rfl⟩⟩; simp only [leS, Nat.reduceEqDiff, ↓reduceIte, true_and, and_true]; omega
  ·refine xh_ (x9_ (xJ_ (Yt_ ?_)))
   refine gB ?_
   refine ⟨i + 1, ⟨by omega, fun a ha => by rcases Nat.lt_succ_iff_lt_or_eq.1 ha with h | rfl; exact Hi a h; exact fun k hk => Hj k (by omega)⟩, by omega, .inl ⟨?_, rfl⟩⟩; simp only [leS, Nat.reduceEqDiff, ↓reduceIte, true_and, and_true]; omega
 ·refine xh_ (x9_ ?_)
  refine gB ?_
  refine xf_ (yu_ rfl ?_)
  exact (xS_ fun i hi => Hi i (by omega)).symm
end Go.Proofs.YtjbdiekkjegckaaGreat
