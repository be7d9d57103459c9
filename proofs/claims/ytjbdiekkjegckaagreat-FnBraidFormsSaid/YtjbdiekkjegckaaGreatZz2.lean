import Derived.Test.YtjbdiekkjegckaaGreatZz1
import Derived.Test.YtjbdiekkjegckaaGreatYz3
set_option linter.unusedSimpArgs false
set_option linter.unusedVariables false
namespace Go.Proofs.YtjbdiekkjegckaaGreat
open Go Go.Aw Go.Pl
def prM (o : List Int) (m : Int) (v : List Int) (x y : Nat) : Int := (v.getD (ad o x y) 0 - v.getD x 0 - v.getD y 0) % m
structure MetP (o : List Int) (m : Int) (n : Nat) (v : List Int) : Prop where
 pos : PosO o
 le8 : xA_ o ≤ 8
 n_eq : (n : Int) = xA_ o
 m1 : 1 ≤ m
 m2 : m ≤ 1000
 gr : grB o = true
 dv : dvB m = true
 len : v.length = n
 rng : ∀ x, x < n → 0 ≤ v.getD x 0 ∧ v.getD x 0 < m
 zero : v.getD 0 0 = 0
 neg : ∀ x, x < n → v.getD (ngO o x) 0 = v.getD x 0
 lin : ∀ x, x < n → ∀ y, y < n → ∀ z, z < n → prM o m v (ad o x y) z = (prM o m v x z + prM o m v y z) % m
theorem MetP.grp {o : List Int} {m : Int} {n : Nat} {v : List Int} (h : MetP o m n v) : GrpP n (ad o) (ngO o) := by
 have g := h.pos.grp
 rwa [nO h.n_eq] at g
theorem Xr_ {n : Nat} {c : List (List Int)} {x : Nat} (hx : x < n) : (Wc_ n c).getD x 0 = e2 c x x := y4_ hx
theorem XG_ {o : List Int} {m : Int} {n : Nat} {w : List (List (List Int))} {c : List (List Int)} (h : BrP o m n w c) {x y : Nat} (hx : x < n) (hy : y < n) : prM o m (Wc_ n c) x y = Zg_ m c x y := by
 have g := h.grp
 unfold prM Zg_
 rw [Xr_ (g.lt x hx y hy), Xr_ hx, Xr_ hy]
 exact VB_ (h.form hx hy)
theorem UN_ {o : List Int} {m : Int} {n : Nat} {w : List (List (List Int))} {c : List (List Int)} (h : BrP o m n w c) (hg : grB o = true) (hd : dvB m = true) : MetP o m n (Wc_ n c) := by
 have g := h.grp
 have hS := h.coc.1
 have hn := hS.2.2.2.2.1
 rw [h.len] at hn
 have m1 := hS.2.2.1
 refine ⟨hS.1, hS.2.1, hn, m1, hS.2.2.2.1, hg, hd, xT_ .., fun x hx => ?_, ?_, fun x hx => ?_, fun x hx y hy z hz => ?_⟩
 ·rw [Xr_ hx]
  have := h.num.1.bd hx hx
  omega
 ·rw [Xr_ g.pos]
  exact (h.num.2 0 g.pos).1
 ·have hu := g.ilt x hx
  rw [Xr_ hu, Xr_ hx]
  have e := VB_ (h.neg hx hu (g.ir x hx))
  have a := h.num.1.bd hx hx
  have b := h.num.1.bd hu hu
  rw [Int.emod_eq_of_lt a.1 (by omega), Int.emod_eq_of_lt b.1 (by omega)] at e
  exact e.symm
 ·have hs := g.lt x hx y hy
  rw [XG_ h hs hz, XG_ h hx hz, XG_ h hy hz]
  unfold Zg_
  rw [← Int.add_emod]
  have L := h.lin hx hy hz
  refine VB_ ?_
  have e : ∀ a b c : Int, a - (b + c) = a - b - c := fun _ _ _ => by omega
  rw [e]
  exact L
section
variable {o : List Int} {m : Int} {n : Nat} {v : List Int}
theorem MetP.n8 (h : MetP o m n v) : 1 ≤ n ∧ n ≤ 8 := by
 have := yk_ h.pos
 have := h.le8
 have := h.n_eq
 omega
theorem Y0_ (o : List Int) (m : Int) (v : List Int) : PureCall Tryz.prog 36 [.agg [.l1 o, .int m, .l1 v]] (.int (v.length : Nat)) := by
 refine gPC 6 [.tmp 2] Tryz.call36 Tryz.func36 fun cx hcx => gE ?_
 refine gB ?_
 refine gB ?_
 refine xf_ (zY_ rfl ?_)
 rfl
theorem WY_ (h : MetP o m n v) (x y : Nat) (hx : x < n) (hy : y < n) : PureCall Tryz.prog 70 [.agg [.l1 o, .int m, .l1 v], .int x, .int y] (.int (ad o x y)) := by
 have n8 := h.n8
 have hA := yQ_ o h.pos h.le8 x y (by omega) (by omega)
 refine gPC 12 [.tmp 6] Tryz.call70 Tryz.func70 fun cx hcx => gE ?_
 refine gB ?_
 refine gC fun K hK => ?_
 refine gU ?_
 first | refine xc_ (hA) rfl ?_ | refine xd_ (xa_ (hA) rfl) ?_
 refine gV ?_
 refine hK _ ?_; clear hK K
 refine xf_ (zY_ rfl ?_)
 rfl
theorem WZ_ (o : List Int) (m : Int) (v : List Int) (k : Int) (m1 : 1 ≤ m) (m2 : m ≤ 1000) : PureCall Tryz.prog 58 [.agg [.l1 o, .int m, .l1 v], .int k] (.int (k % m)) := by
 have a1 : -m < k.tmod m := by
  have := Int.tmod_lt_of_pos (-k) (show 0 < m by omega)
  rw [Int.neg_tmod] at this
  omega
 have a2 := Int.tmod_lt_of_pos k (show 0 < m by omega)
 have a3 := Zk_ (n := k) m1
 have a4 := Int.emod_nonneg k (show m ≠ 0 by omega)
 have a5 := Int.emod_lt_of_pos k (show 0 < m by omega)
 refine gPC 15 [.tmp 4] Tryz.call58 Tryz.func58 fun cx hcx => gE ?_
 refine gB ?_
 (repeat refine xb_ ?_); refine xI_ (xO_ hcx) mixed (by kernel_rfl) fun K hK => ?_; simp only [go_sem, seval, a3]
 refine gU ?_
 refine hK _ ?_; clear hK K
 refine xf_ (zY_ rfl ?_)
 rfl
theorem RU_ (h : MetP o m n v) (x : Nat) (hx : x < n) : PureCall Tryz.prog 69 [.agg [.l1 o, .int m, .l1 v], .int x] (.int (ngO o x)) := by
 have g := h.grp
 have n8 := h.n8
 have hu := g.ilt x hx
 have e0 := g.ir x hx
 have uq : ∀ y, y < n → ad o x y = 0 → y = ngO o x := fun y hy e => by
  have h1 := g.as (ngO o x) hu x hx y hy
  rw [g.il x hx, g.zl y hy, e, g.zr _ hu] at h1
  exact h1
 obtain ⟨u, eu⟩ : ∃ u, ngO o x = u := ⟨_, rfl⟩
 rw [eu] at hu e0 uq ⊢
 have hP := fun y hy => WY_ h x y hx hy
 refine gPC 14 [.tmp 4] Tryz.call69 Tryz.func69 fun cx hcx => gE ?_
 refine gB ?_
 refine gB ?_
 (repeat refine xb_ ?_); refine gLp (fun y : Nat => ⟨[(1, .int x), (2, .bptr 0 0), (5, .int y)], [(0, .bx [.l1 o, .int m, .l1 v])]⟩) u fun y hy => ?_
 have hy : y < n := by omega
 have hp := hP y hy
 have uy := uq y hy
 by_cases e : y = u
 ·subst e
  rw [e0] at hp
  refine gC fun K hK => ?_
  refine gU ?_
  first | refine xc_ (hp) rfl ?_ | refine xd_ (xa_ (hp) rfl) ?_
  refine gV ?_
  refine hK _ ?_; clear hK K
  refine gQ ?_
  refine xh_ (x9_ ?_)
  refine gB ?_
  refine xf_ (zY_ rfl ?_)
  rfl
 ·obtain ⟨q, eq⟩ : ∃ q, ad o x y = q := ⟨_, rfl⟩
  rw [eq] at hp uy
  refine gC fun K hK => ?_
  refine gU ?_
  first | refine xc_ (hp) rfl ?_ | refine xd_ (xa_ (hp) rfl) ?_
  refine gV ?_
  refine hK _ ?_; clear hK K
  refine gI (fun hh => ?_) fun hh => ?_
  ·refine xe_ ?_
   refine gO ?_
   refine gB ?_
   refine ⟨y + 1,  by omega, by omega, .inl ⟨gH,  rfl⟩⟩
  ·exact absurd (uy (by omega)) e
theorem XH_ (h : MetP o m n v) (x y : Nat) (hx : x < n) (hy : y < n) : PureCall Tryz.prog 41 [.agg [.l1 o, .int m, .l1 v], .int x, .int y] (.int (prM o m v x y)) := by
 have g := h.grp
 have n8 := h.n8
 have hs := g.lt x hx y hy
 have hP := WY_ h x y hx hy
 have m1 := h.m1
 have m2 := h.m2
 have lv := h.len
 have r1 := h.rng x hx
 have r2 := h.rng y hy
 have r3 := h.rng _ hs
 have hR := WZ_ o m v (v.getD (ad o x y) 0 - v.getD x 0 - v.getD y 0) m1 m2
 unfold prM
 have b1 := Int.emod_nonneg (v.getD (ad o x y) 0 - v.getD x 0 - v.getD y 0) (show m ≠ 0 by omega)
 have b2 := Int.emod_lt_of_pos (v.getD (ad o x y) 0 - v.getD x 0 - v.getD y 0) (show 0 < m by omega)
 generalize (v.getD (ad o x y) 0 - v.getD x 0 - v.getD y 0) % m = R at *
 obtain ⟨s, es⟩ : ∃ s, ad o x y = s := ⟨_, rfl⟩
 rw [es] at hs hP r3 hR
 refine gPC 29 [.tmp 6] Tryz.call41 Tryz.func41 fun cx hcx => gE ?_
 refine gB ?_
 (repeat refine xb_ ?_); refine xI_ (xO_ hcx) mixed (by kernel_rfl) fun K hK => ?_; simp only [go_sem, seval]
 (try simp only [lv])
 refine gU ?_
 first | refine xc_ (hP) rfl ?_ | refine xd_ (xa_ (hP) rfl) ?_
 refine gW ?_
 first | refine xc_ (hR) rfl ?_ | refine xd_ (xa_ (hR) rfl) ?_
 refine gW ?_
 refine hK _ ?_; clear hK K
 refine xf_ (zY_ rfl ?_)
 rfl
end
end Go.Proofs.YtjbdiekkjegckaaGreat
namespace Go.Proofs.YtjbdiekkjegckaaGreat
open Go Go.Aw Go.Pl
section
variable {o : List Int} {m : Int} {n : Nat} {v : List Int}
set_option maxHeartbeats 4000000 in
theorem aj8 (h : MetP o m n v) : PureCall Tryz.prog 39 [.agg [.l1 o, .int m, .l1 v]] (.bool true) := by
 have g := h.grp
 have n8 := h.n8
 have lv := h.len
 have m1 := h.m1
 have m2 := h.m2
 have hS := Y0_ o m v
 rw [lv] at hS
 have bd : ∀ x y, 0 ≤ prM o m v x y ∧ prM o m v x y < m := fun x y => ⟨Int.emod_nonneg _ (by omega), Int.emod_lt_of_pos _ (by omega)⟩
 refine gPC 56 [.tmp 2] Tryz.call39 Tryz.func39 fun cx hcx => gE ?_
 refine gB ?_
 refine gC fun K hK => ?_
 first | refine xc_ (hS) rfl ?_ | refine xd_ (xa_ (hS) rfl) ?_
 refine gW ?_
 refine hK _ ?_; clear hK K
 (repeat refine xb_ ?_); refine gLp (fun i : Nat => ⟨[(1, .bptr 0 0), (7, .int n), (8, .int i)], [(0, .bx [.l1 o, .int m, .l1 v])]⟩) n fun i hi => ?_
 refine gB ?_
 refine gI (fun hc2 => ?_) fun hc2 => ?_
 ·have hi : i < n := by omega
  have hM := RU_ h i hi
  have hu := g.ilt i hi
  have hn := h.neg i hi
  obtain ⟨u, eu⟩ : ∃ u, ngO o i = u := ⟨_, rfl⟩
  rw [eu] at hM hu hn
  refine xe_ ?_
  refine gO ?_
  refine gB ?_
  (repeat refine xb_ ?_); refine xI_ (xO_ hcx) mixed (by kernel_rfl) fun K hK => ?_; simp only [go_sem, seval, lv]
  refine gU ?_
  first | refine xc_ (hM) rfl ?_ | refine xd_ (xa_ (hM) rfl) ?_
  refine gV ?_
  simp only [go_sem, seval, lv, hn, decide_true, Bool.not_true]
  refine gU ?_
  refine hK _ ?_; clear hK K
  refine gQ ?_
  refine xe_ ?_
  refine gC fun K hK => ?_
  first | refine xc_ (hS) rfl ?_ | refine xd_ (xa_ (hS) rfl) ?_
  refine gW ?_
  refine hK _ ?_; clear hK K
  (repeat refine xb_ ?_); refine gLp (fun j : Nat => ⟨[(1, .bptr 0 0), (3, .int i), (7, .int n), (8, .int i), (25, .int n), (26, .int j)], [(0, .bx [.l1 o, .int m, .l1 v])]⟩) n fun j hj => ?_
  refine gB ?_
  refine gI (fun hc5 => ?_) fun hc5 => ?_
  ·have hj : j < n := by omega
   refine xe_ ?_
   refine gO ?_
   refine gB ?_
   refine gC fun K hK => ?_
   first | refine xc_ (hS) rfl ?_ | refine xd_ (xa_ (hS) rfl) ?_
   refine gW ?_
   refine hK _ ?_; clear hK K
   (repeat refine xb_ ?_); refine gLp (fun k : Nat => ⟨[(1, .bptr 0 0), (3, .int i), (4, .int j), (7, .int n), (8, .int i), (25, .int n), (26, .int j), (30, .int n), (31, .int k)], [(0, .bx [.l1 o, .int m, .l1 v])]⟩) n fun k hk => ?_
   refine gB ?_
   refine gI (fun hc7 => ?_) fun hc7 => ?_
   ·have hk : k < n := by omega
    have hs := g.lt i hi j hj
    have c1 := WY_ h i j hi hj
    have c2 := XH_ h _ k hs hk
    have c3 := XH_ h i k hi hk
    have c4 := XH_ h j k hj hk
    have c5 := WZ_ o m v (prM o m v i k + prM o m v j k) m1 m2
    rw [← h.lin i hi j hj k hk] at c5
    have b3 := bd i k
    have b4 := bd j k
    generalize prM o m v (ad o i j) k = P at *
    generalize prM o m v i k = Q at *
    generalize prM o m v j k = R at *
    generalize ad o i j = s at *
    refine xe_ ?_
    refine gO ?_
    refine gB ?_
    (repeat refine xb_ ?_); refine xI_ (xO_ hcx) mixed (by kernel_rfl) fun K hK => ?_; simp only [go_sem, seval]
    first | refine xc_ (c1) rfl ?_ | refine xd_ (xa_ (c1) rfl) ?_
    refine gW ?_
    first | refine xc_ (c2) rfl ?_ | refine xd_ (xa_ (c2) rfl) ?_
    refine gW ?_
    first | refine xc_ (c3) rfl ?_ | refine xd_ (xa_ (c3) rfl) ?_
    refine gW ?_
    first | refine xc_ (c4) rfl ?_ | refine xd_ (xa_ (c4) rfl) ?_
    refine gW ?_
    first | refine xc_ (c5) rfl ?_ | refine xd_ (xa_ (c5) rfl) ?_
    refine gV ?_
    simp only [go_sem, seval, decide_true, Bool.not_true]
    refine gU ?_
    refine hK _ ?_; clear hK K
    refine gQ ?_
    refine xe_ ?_
    refine gB ?_
    refine ⟨k + 1,  by omega, by omega, .inl ⟨gH,  rfl⟩⟩
   ·obtain rfl : k = n := by omega
    refine xh_ (x9_ ?_)
    refine gB ?_
    refine ⟨j + 1,  by omega, by omega, .inl ⟨gH,  rfl⟩⟩
  ·obtain rfl : j = n := by omega
   refine xh_ (x9_ ?_)
   refine gB ?_
   refine ⟨i + 1,  by omega, by omega, .inl ⟨gH,  rfl⟩⟩
 ·refine xh_ (x9_ ?_)
  refine gB ?_
  refine xf_ (yu_ rfl ?_)
  rfl
theorem RV_ (h : MetP o m n v) (hl : o.length ≤ 1048576) : PureCall Tryz.prog 13 [.agg [.l1 o, .int m, .l1 v]] (.bool true) := by
 have n8 := h.n8
 have lv := h.len
 have m1 := h.m1
 have m2 := h.m2
 have hG := Ze_ o h.pos h.le8 hl
 rw [h.gr] at hG
 have hD := Zd_ m m1 m2
 rw [h.dv] at hD
 have hS := Y0_ o m v
 rw [lv] at hS
 have hZ := yv_ o
 have eg : gsz o = (n : Int) := by
  unfold gsz
  have := h.le8
  rw [if_pos (xS_ h.pos)]
  unfold yG_
  rw [if_pos (by omega)]
  exact h.n_eq.symm
 rw [eg] at hZ
 have hA := zA_ v 0 (m - 1)
 have eA : (v.any fun k => !(decide (0 ≤ k) && decide (k ≤ m - 1))) = false := (w1_ 0).2 fun i hi => by
  have := h.rng i (by omega)
  rw [decide_eq_true (by omega), decide_eq_true (by omega)]
  rfl
 rw [eA] at hA
 have hB := aj8 h
 have z := h.zero
 refine gPC 39 [.tmp 2] Tryz.call13 Tryz.func13 fun cx hcx => gE ?_
 refine gB ?_
 (repeat refine xb_ ?_); refine xI_ (xO_ hcx) mixed (by kernel_rfl) fun K hK => ?_; simp only [go_sem, seval]
 first | refine xc_ (hG) rfl ?_ | refine xd_ (xa_ (hG) rfl) ?_
 refine gV ?_
 first | refine xc_ (hD) rfl ?_ | refine xd_ (xa_ (hD) rfl) ?_
 refine gV ?_
 first | refine xc_ (hS) rfl ?_ | refine xd_ (xa_ (hS) rfl) ?_
 refine gV ?_
 first | refine xc_ (hZ) rfl ?_ | refine xd_ (xa_ (hZ) rfl) ?_
 refine gV ?_
 (try simp only [go_sem, seval, decide_true, Bool.not_true])
 refine gU ?_
 first | refine xc_ (hA) rfl ?_ | refine xd_ (xa_ (hA) rfl) ?_
 refine gW ?_
 refine hK _ ?_; clear hK K
 refine gQ ?_
 refine xe_ ?_
 (repeat refine xb_ ?_); refine xx_ (xO_ hcx) fun K hK => ?_; simp only [go_sem, seval, lv, z, decide_true]
 refine gU ?_
 first | refine xd_ (fun _ => xa_ (hB) rfl) ?_ | refine xd_ (xa_ (hB) rfl) ?_
 refine gV ?_
 (try simp only [go_sem, seval, decide_true])
 refine hK _ ?_; clear hK K
 refine xf_ (yu_ rfl ?_)
 rfl
theorem K1_ (h : MetP o m n v) (hl : o.length ≤ 1048576) (x y : Nat) (hx : x < n) (hy : y < n) : PureCall Tryz.prog 40 [.agg [.l1 o, .int m, .l1 v], .l1 [(x : Int), (y : Int)]] (.int 0) := by
 have n8 := h.n8
 have hI := RV_ h hl
 have hS := Y0_ o m v
 rw [h.len] at hS
 have hA := zA_ [(x : Int), (y : Int)] 0 ((n : Int) - 1)
 have eA : ([(x : Int), (y : Int)].any fun k => !(decide (0 ≤ k) && decide (k ≤ (n : Int) - 1))) = false := by
  simp only [List.any_cons, List.any_nil, Bool.or_false]
  rw [decide_eq_true (show (0 : Int) ≤ x by omega), decide_eq_true (show (x : Int) ≤ n - 1 by omega), decide_eq_true (show (0 : Int) ≤ y by omega), decide_eq_true (show (y : Int) ≤ n - 1 by omega)]
  rfl
 rw [eA] at hA
 refine gPC 14 [.tmp 4] Tryz.call40 Tryz.func40 fun cx hcx => gE ?_
 refine gB ?_
 refine gC fun K hK => ?_
 first | refine xc_ (hI) rfl ?_ | refine xd_ (xa_ (hI) rfl) ?_
 refine gV ?_
 refine hK _ ?_; clear hK K
 refine gQ ?_
 refine xe_ ?_
 refine gC fun K hK => ?_
 first | refine xc_ (hS) rfl ?_ | refine xd_ (xa_ (hS) rfl) ?_
 refine gW ?_
 first | refine xc_ (hA) rfl ?_ | refine xd_ (xa_ (hA) rfl) ?_
 refine gV ?_
 refine hK _ ?_; clear hK K
 refine gQ ?_
 refine xe_ ?_
 refine gB ?_
 refine xf_ (zY_ rfl ?_)
 rfl
theorem RW_ (h : MetP o m n v) (hl : o.length ≤ 1048576) (x y : Nat) (hx : x < n) (hy : y < n) : PureCall Tryz.prog 15 [.agg [.l1 o, .int m, .l1 v], .int x, .int y] (.tup [.int (prM o m v x y), .int 0]) := by
 have hC := K1_ h hl x y hx hy
 have hP := XH_ h x y hx hy
 generalize prM o m v x y = P at *
 refine gPC 21 [.tmp 6, .tmp 7] Tryz.call15 Tryz.func15 fun cx hcx => gE ?_
 refine gB ?_
 refine gC fun K hK => ?_
 refine gU ?_
 first | refine x0_ rfl rfl (hC) ?_ | refine xd_ (xR_ rfl rfl (hC)) ?_
 refine gV ?_
 refine hK _ ?_; clear hK K
 refine gB ?_
 refine gQ ?_
 refine xe_ ?_
 refine gC fun K hK => ?_
 first | refine xc_ (hP) rfl ?_ | refine xd_ (xa_ (hP) rfl) ?_
 refine gV ?_
 refine hK _ ?_; clear hK K
 exact xf_ (av2 trivial trivial rfl)
end
end Go.Proofs.YtjbdiekkjegckaaGreat
namespace Go.Proofs.YtjbdiekkjegckaaGreat
open Go Go.Aw Go.Pl
set_option maxHeartbeats 4000000 in
theorem aj9 (o : List Int) (m : Int) (n : Nat) (w : List (List (List Int))) (c : List (List Int)) (hB : BrP o m n w c) (hg : grB o = true) (hd : dvB m = true) : PureCall Tryz.prog 35 [.agg [.l1 o, .int m, .l1 (Wc_ n c)]] (.l1 (tlL n m c n)) := by
 have h := UN_ hB hg hd
 have n8 := h.n8
 have hS := Y0_ o m (Wc_ n c)
 rw [h.len] at hS
 have m1 := h.m1
 have hMon : ∀ x y, x < n → y < n → PureCall Tryz.prog 41 [.agg [.l1 o, .int m, .l1 (Wc_ n c)], .int x, .int y] (.int (Zg_ m c x y)) := fun x y hx hy => by
  rw [← XG_ hB hx hy]
  exact XH_ h x y hx hy
 have hb4 := fun x y hx hy => (XI_ hB.num.1 m1 (x := x) (y := y) hx hy).2.2.2
 generalize Wc_ n c = v at *
 refine gPC 34 [.tmp 2] Tryz.call35 Tryz.func35 fun cx hcx => gE ?_
 refine gB ?_
 refine gB ?_
 refine gC fun K hK => ?_
 first | refine xc_ (hS) rfl ?_ | refine xd_ (xa_ (hS) rfl) ?_
 refine gW ?_
 refine hK _ ?_; clear hK K
 (repeat refine xb_ ?_); refine gLp (fun x : Nat => ⟨[(1, .bptr 0 0), (3, .ref 1 []), (9, .int n), (10, .int x)], [(0, .bx [.l1 o, .int m, .l1 v]), (1, .t1 (tlL n m c x))]⟩) n fun x hx => ?_
 refine gB ?_
 refine gI (fun hx2 => ?_) fun hx2 => ?_
 ·have hx : x < n := by omega
  have lt := UP_ (n := n) (m := m) (c := c) (k := x)
  refine xe_ ?_
  refine gO ?_
  refine gB ?_
  refine gB ?_
  refine gC fun K hK => ?_
  first | refine xc_ (hS) rfl ?_ | refine xd_ (xa_ (hS) rfl) ?_
  refine gW ?_
  refine hK _ ?_; clear hK K
  (repeat refine xb_ ?_); refine gLp (fun y : Nat => ⟨[(1, .bptr 0 0), (3, .ref 1 []), (4, .int x), (5, .bool (tlG m c x y)), (9, .int n), (10, .int x), (14, .int n), (15, .int y)], [(0, .bx [.l1 o, .int m, .l1 v]), (1, .t1 (tlL n m c x))]⟩) n fun y hy => ?_
  refine gB ?_
  refine gI (fun hy2 => ?_) fun hy2 => ?_
  ·have hy : y < n := by omega
   have sc := Y1_ (m := m) (c := c) (x := x) (y := y)
   have hM := hMon x y hx hy
   have bM := hb4 x y hx hy
   generalize Zg_ m c x y = M at *
   refine xe_ ?_
   refine gO ?_
   refine gB ?_
   cases hG : tlG m c x y with
   | true =>
    rw [hG, Bool.true_and] at sc
    refine gC fun K hK => ?_
    first | refine xc_ (hM) rfl ?_ | refine xd_ (xa_ (hM) rfl) ?_
    refine gW ?_
    refine hK _ ?_; clear hK K
    rw [← sc]
    refine gB ?_
    refine ⟨y + 1,  by omega, by omega, .inl ⟨gH,  rfl⟩⟩
   | false =>
    rw [hG, Bool.false_and] at sc
    refine gC fun K hK => ?_
    refine xd_ (v := .int 0) (by first | trivial | (intro h; cases h)) ?_
    refine gV ?_
    refine hK _ ?_; clear hK K
    refine gB ?_
    refine ⟨y + 1,  by omega, by omega, .inl ⟨by simp only [leS, Nat.reduceEqDiff, ↓reduceIte, true_and, and_true]; (rw [sc]; (first | omega | (refine ⟨rfl, ?_⟩; omega) | (refine ⟨rfl, ?_, ?_⟩ <;> omega) | simp)),  rfl⟩⟩
  ·obtain rfl : y = n := by omega
   refine xh_ (x9_ ?_)
   cases hG : tlG m c x y with
   | true =>
    refine gB ?_
    refine gR ?_
    refine gB ?_
    rw [← UO_ hG]
    refine gB ?_
    refine ⟨x + 1, by omega, by omega, .inr ⟨[2], gK1, av1⟩⟩
   | false =>
    have e := RY_ hG
    rw [← e]
    refine gB ?_
    refine gQ ?_
    refine xe_ ?_
    refine gB ?_
    refine ⟨x + 1,  by omega, by omega, .inl ⟨gH,  rfl⟩⟩
 ·obtain rfl : x = n := by omega
  refine xh_ (x9_ ?_)
  refine gB ?_
  exact xf_ (ac5 rfl ⟨rfl, trivial⟩ rfl)
theorem K2_ (o : List Int) (m : Int) (n : Nat) (w : List (List (List Int))) (c : List (List Int)) (hB : BrP o m n w c) (hg : grB o = true) (hd : dvB m = true) (hl : o.length ≤ 1048576) : PureCall Tryz.prog 12 [.agg [.l1 o, .int m, .l1 (Wc_ n c)]] (.tup [.l1 (tlL n m c n), .int 0]) := by
 have h := UN_ hB hg hd
 have hI := RV_ h hl
 have hR := aj9 o m n w c hB hg hd
 generalize Wc_ n c = v at *
 refine gPC 9 [.tmp 2, .tmp 3] Tryz.call12 Tryz.func12 fun cx hcx => gE ?_
 refine gB ?_
 refine gC fun K hK => ?_
 first | refine xc_ (hI) rfl ?_ | refine xd_ (xa_ (hI) rfl) ?_
 refine gV ?_
 refine hK _ ?_; clear hK K
 refine gQ ?_
 refine xe_ ?_
 refine gC fun K hK => ?_
 first | refine xc_ (hR) rfl ?_ | refine xd_ (xa_ (hR) rfl) ?_
 refine gV ?_
 refine hK _ ?_; clear hK K
 exact xf_ (av2 trivial trivial rfl)
def cyL (n : Nat) (a : Int) : List Int := zo_ n fun x => a * x * x % (2 * n)
theorem av9 {n : Nat} {a : Int} : Wc_ n (sdC n a) = cyL n a := wc_ fun x hx => Yd_ hx hx
theorem gr_one {n : Nat} (h2 : 2 ≤ n) (h8 : n ≤ 8) : grB [(n : Int)] = true := by
 unfold grB
 simp
 omega
theorem ah0 {n : Nat} (h2 : 2 ≤ n) (h8 : n ≤ 8) (he : n % 2 = 0) : dvB (2 * (n : Int)) = true := by
 unfold dvB
 have : n = 2 ∨ n = 4 ∨ n = 6 ∨ n = 8 := by omega
 rcases this with rfl | rfl | rfl | rfl <;> decide
end Go.Proofs.YtjbdiekkjegckaaGreat
namespace Go.Proofs.YtjbdiekkjegckaaGreat
open Go Go.Aw Go.Pl
attribute [local go_sem] y9_ yB_ za_ zb_ wE_ yq_ List.getElem?_toArray List.getElem?_cons_zero List.getElem?_cons_succ
theorem ak0 (n : Nat) (m : Int) (q : List (List Int)) (m2 : m ≤ 1000) (hq : GridB n m q) (x y : Nat) (hx : x < n) (hy : y < n) : PureCall Tryz.prog 46 [.int x, .int y, .cptr [.l2 q] 0] (.int (e2 q y x - e2 q x y)) := by
 have lq := hq.1
 have rx := hq.row hx
 have ry := hq.row hy
 have v1 := hq.bd hx hy
 have v2 := hq.bd hy hx
 simp only [e2] at v1 v2 ⊢
 refine gPC 21 [.tmp 5] Tryz.call46 Tryz.func46 fun cx hcx => gE ?_
 refine gBN ?_
 (repeat refine xb_ ?_); refine xI_ (by first | exact xO_ hcx | exact y2_ hcx rfl) mixed (by kernel_rfl) fun K hK => ?_; simp only [go_sem, seval, lq, rx, ry]
 refine gU ?_
 refine hK _ ?_; clear hK K
 refine xf_ (zY_ rfl ?_)
 rfl
theorem Wu_ {a : Int} {x y : Nat} (a0 : 0 ≤ a) (a1 : a ≤ 16) (hx : x ≤ 8) (hy : y ≤ 8) : (0 ≤ a * x ∧ a * x ≤ 128) ∧ 0 ≤ a * x * y ∧ a * x * y ≤ 1024 := by
 have h1 : 0 ≤ a * x := Int.mul_nonneg a0 (by omega)
 have h2 : a * x ≤ 16 * 8 := Int.mul_le_mul a1 (by omega) (by omega) (by omega)
 have h3 : 0 ≤ a * x * y := Int.mul_nonneg h1 (by omega)
 have h4 : a * x * y ≤ 128 * 8 := Int.mul_le_mul (by omega) (by omega) (by omega) (by omega)
 omega
theorem ak1 (a : Int) (a0 : 0 ≤ a) (a1 : a ≤ 16) (x y : Nat) (hx : x ≤ 8) (hy : y ≤ 8) : PureCall Tryz.prog 57 [.int x, .int y, .cptr [.int a] 0] (.int (a * x * y)) := by
 obtain ⟨b1, b2⟩ := Wu_ (x := x) (y := y) a0 a1 hx hy
 obtain ⟨A, eA⟩ : ∃ A, a * (x : Int) = A := ⟨_, rfl⟩
 rw [eA] at b1 b2 ⊢
 obtain ⟨B, eB⟩ : ∃ B, A * (y : Int) = B := ⟨_, rfl⟩
 rw [eB] at b2 ⊢
 refine gPC 11 [.tmp 5] Tryz.call57 Tryz.func57 fun cx hcx => gE ?_
 refine gBN ?_
 (repeat refine xb_ ?_); refine xx_ (by first | exact xO_ hcx | exact y2_ hcx rfl) fun K hK => ?_; simp only [go_sem, seval, eA, eB]
 refine gU ?_
 refine hK _ ?_; clear hK K
 refine xf_ (zY_ rfl ?_)
 rfl
set_option maxRecDepth 100000 in
set_option maxHeartbeats 8000000 in
theorem K3_ (n : Nat) (W : List (List (List Int))) (o : List Int) (m : Int) (q : List (List Int)) (hq : GridB n m q) (hW : W.length = n) (n8 : n ≤ 8) (m1 : 1 ≤ m) (m2 : m ≤ 1000) :
  OwnCall Tryz.prog 44 [.agg [.ref 3 [], .int m, .ref 4 []], .fn 46 [.bptr 0 0]]
   [(0, .bx [.l2 q]), (3, .t1 o), (4, .t3 W)]
   [(0, .bx [.l2 q]), (3, .t1 o), (4, .t3 W), (5, .t2 (Z3_ m n q)), (6, .bx [.ref 3 [], .int m, .ref 4 [], .ref 5 []])]
   (.agg [.ref 3 [], .int m, .ref 4 [], .ref 5 []]) [0] := by
 have hz := Xg_ n n (by omega) (by omega)
 obtain ⟨F, eF⟩ : ∃ F : Nat → Nat → Int, F = fun x y => e2 q y x - e2 q x y := ⟨_, rfl⟩
 have hCl : ∀ x y, x < n → y < n → PureCall Tryz.prog 46 [.int x, .int y, .cptr [.l2 q] 0] (.int (F x y)) := fun x y hx hy => by
  rw [eF]; exact ak0 n m q m2 hq x y hx hy
 have hbF : ∀ x y, x < n → y < n → -2000 ≤ F x y ∧ F x y ≤ 2000 := fun x y hx hy => by
  rw [eF]; have u1 := hq.bd hx hy ; have u2 := hq.bd hy hx ; show -2000 ≤ e2 q y x - e2 q x y ∧ e2 q y x - e2 q x y ≤ 2000 ; omega
 obtain ⟨f, ef⟩ : ∃ f : Nat → Nat → Int, f = fun x y => F x y % m := ⟨_, rfl⟩
 have es : (Z3_ m n q) = yW_ n n f := by
  rw [ef, eF]
  try rfl
 rw [es]
 obtain ⟨g, eg⟩ : ∃ g : Nat → Nat → Int, g = fun _ _ => 0 := ⟨_, rfl⟩
 have z0 : List.replicate n (List.replicate n (0 : Int)) = wrM n f g 0 0 := by rw [w6_, eg, zK_]
 rw [z0] at hz
 have hz' : FreshCall Tryz.prog 74 [.int W.length, .int W.length] (.l2 (wrM n f g 0 0)) := by rw [hW]; exact hz
 refine OwnCall.intro (n := 45) (rs := [.cell 4 30]) 2 [0, 1] (X := [0]) Tryz.call44 Tryz.func44 rfl rfl rfl (by simp only [List.length_cons, List.length_nil]; omega) (by simp [Aw.ids, x3_, xQ_, xl_, xg_]) (fun cx hcx => AT.weakG (x2_ ?_)); refine gE ?_
 refine gBN ?_
 (repeat refine xb_ ?_)
 refine wh_ [7] (.one 1 (.one 2 (.one 3 (.one 4 (.one 5 (.one 6 (.alt 0 (.alt 7 (.one 8 (.alt 9 (.alt 10 .fin .stop) .stop)) (.alt 9 (.alt 7 (.one 8 (.alt 10 .fin .stop)) .stop) .stop)) (.alt 7 (.one 0 (.one 8 (.alt 9 (.alt 10 .fin .stop) .stop))) (.alt 9 (.alt 0 (.alt 7 (.one 8 (.alt 10 .fin .stop)) .stop) (.alt 7 (.one 0 (.one 8 (.alt 10 .fin .stop))) .stop)) .stop))))))))) ⟨[(0, .agg [.ref 3 [], .int m, .ref 4 []]), (1, .fn 46 [.bptr 0 0]), (2, .bptr 5 0), (4, .bptr 6 0), (5, .bptr 8 0)], [(0, .bx [.l2 q]), (3, .t1 o), (4, .t3 W), (5, .bx [.ref 3 [], .int m, .ref 4 []]), (6, .bx [.nil, .int 0, .nil, .nil]), (7, .t2 (wrM n f g 0 0)), (8, .bx [.ref 3 [], .int m, .ref 4 [], .ref 7 []])]⟩ (by first | exact xO_ hcx | exact y2_ hcx rfl) mixed (by kernel_rfl) (fun K hK => ?_) ?_
 ·simp only [go_sem, seval, Option.getD_some, and_true, true_and, and_self, List.contains_cons, List.contains_nil, Bool.or_false, Bool.or_true]
  repeat' (first | (refine hK _ (xr_ [] ?_ ?_); (focus (simp only [YO_, rnL, rn, rns, sw, xs_, St.get, xg_, List.map_cons, List.map_nil, seval, AV.int.injEq, AV.bool.injEq, AV.l1.injEq, AV.l2.injEq, AV.l3.injEq, true_and, and_true]; done)); (focus (simp only [zf_, YY_, YP_, rnH, rnT, rn, rns, sw, List.map_cons, List.map_nil, seval]; done))) | (refine hK _ (xr_ [(7, 8)] ?_ ?_); (focus (simp only [YO_, rnL, rn, rns, sw, xs_, St.get, xg_, List.map_cons, List.map_nil, seval, AV.int.injEq, AV.bool.injEq, AV.l1.injEq, AV.l2.injEq, AV.l3.injEq, true_and, and_true]; done)); (focus (simp only [zf_, YY_, YP_, rnH, rnT, rn, rns, sw, List.map_cons, List.map_nil, seval]; done))) | with_reducible refine And.intro ?_ ?_ | omega | (refine xq_ rfl (hz') rfl ?_; simp only [go_sem, seval, Option.getD_some, and_true, true_and, and_self, List.contains_cons, List.contains_nil, Bool.or_false, Bool.or_true]))
 have l1 := yT_ (n := n) (f := f) (g := g) (i := 0) (j := 0)
 refine gCN fun K hK => ?_
 simp only [l1]
 refine gU ?_
 refine hK _ ?_; clear hK K
 (repeat refine xb_ ?_); refine gLp (fun i : Nat => ⟨[(0, .agg [.ref 3 [], .int m, .ref 4 []]), (1, .fn 46 [.bptr 0 0]), (2, .bptr 5 0), (4, .bptr 6 0), (5, .bptr 8 0), (19, .int n), (20, .int i)], [(0, .bx [.l2 q]), (3, .t1 o), (4, .t3 W), (5, .bx [.ref 3 [], .int m, .ref 4 []]), (6, .bx [.nil, .int 0, .nil, .nil]), (7, .t2 (wrM n f g i 0)), (8, .bx [.ref 3 [], .int m, .ref 4 [], .ref 7 []])]⟩) n fun i hi => ?_
 refine gBN ?_
 refine gI (fun hli => ?_) fun hli => ?_
 ·have l2 := yT_ (n := n) (f := f) (g := g) (i := i) (j := 0)
  refine xe_ ?_
  refine gO ?_
  refine gBN ?_
  refine gCN fun K hK => ?_
  simp only [l2]
  refine gU ?_
  refine hK _ ?_; clear hK K
  (repeat refine xb_ ?_); refine gLp (fun j : Nat => ⟨[(0, .agg [.ref 3 [], .int m, .ref 4 []]), (1, .fn 46 [.bptr 0 0]), (2, .bptr 5 0), (4, .bptr 6 0), (5, .bptr 8 0), (6, .int i), (19, .int n), (20, .int i), (25, .int n), (26, .int j)], [(0, .bx [.l2 q]), (3, .t1 o), (4, .t3 W), (5, .bx [.ref 3 [], .int m, .ref 4 []]), (6, .bx [.nil, .int 0, .nil, .nil]), (7, .t2 (wrM n f g i j)), (8, .bx [.ref 3 [], .int m, .ref 4 [], .ref 7 []])]⟩) n fun j hj => ?_
  refine gBN ?_
  refine gI (fun hlj => ?_) fun hlj => ?_
  ·have l3 := yT_ (n := n) (f := f) (g := g) (i := i) (j := j)
   have l4 := XL_ (n := n) (f := f) (g := g) (i := i) (j := j) (x := i) (by omega)
   have hA := hCl i j (by omega) (by omega)
   have bA := hbF i j (by omega) (by omega)
   have ev : F i j % m = f i j := by rw [ef]
   obtain ⟨K9, eK9⟩ : ∃ K9, F i j = K9 := ⟨_, rfl⟩
   rw [eK9] at hA bA ev
   have hR := zB_ o m W K9 m1 m2
   have b1 := Int.emod_nonneg K9 (show m ≠ 0 by omega)
   have b2 := Int.emod_lt_of_pos K9 (show 0 < m by omega)
   rw [ev] at hR b1 b2
   have sk := ws_ (n := n) (f := f) (g := g) (i := i) (j := j) (by omega)
   refine xe_ ?_
   refine gO ?_
   refine gBN ?_
   (repeat refine xb_ ?_)
   refine xZ_ [] (.one 0 (.one 1 (.one 2 (.one 3 (.one 4 (.one 5 (.one 6 (.one 7 (.one 8 (.one 9 (.one 10 (.one 11 (.one 12 (.alt 13 .fin .stop)))))))))))))) ⟨[(0, .agg [.ref 3 [], .int m, .ref 4 []]), (1, .fn 46 [.bptr 0 0]), (2, .bptr 5 0), (4, .bptr 6 0), (5, .bptr 8 0), (6, .int i), (19, .int n), (20, .int i), (25, .int n), (26, .int j)], [(0, .bx [.l2 q]), (3, .t1 o), (4, .t3 W), (5, .bx [.ref 3 [], .int m, .ref 4 []]), (6, .bx [.nil, .int 0, .nil, .nil]), (7, .t2 ((wrM n f g i j).set i (((wrM n f g i j).getD i []).set j (f i j)))), (8, .bx [.ref 3 [], .int m, .ref 4 [], .ref 7 []])]⟩ (by first | exact xO_ hcx | exact y2_ hcx rfl) mixed (by kernel_rfl) (fun K hK => ?_) ?_
   ·simp only [go_sem, seval, Option.getD_some, and_true, true_and, and_self, List.contains_cons, List.contains_nil, Bool.or_false, Bool.or_true]
    repeat' (first | exact hK _ gM  | with_reducible refine And.intro ?_ ?_ | omega | ((first | refine x0_ rfl rfl (hA) ?_ | refine xd_ (xR_ rfl rfl (hA)) ?_); simp only [go_sem, seval, Option.getD_some, and_true, true_and, and_self, List.contains_cons, List.contains_nil, Bool.or_false, Bool.or_true]) | ((first | refine x0_ rfl rfl (hR) ?_ | refine xd_ (xR_ rfl rfl (hR)) ?_); simp only [go_sem, seval, Option.getD_some, and_true, true_and, and_self, List.contains_cons, List.contains_nil, Bool.or_false, Bool.or_true]))
   rw [sk]
   refine gBN ?_
   refine ⟨j + 1,  by omega, by omega, .inl ⟨gH,  rfl⟩⟩
  ·obtain rfl : j = n := by omega
   rw [wt_]
   refine xh_ (x9_ ?_)
   refine gBN ?_
   refine ⟨i + 1,  by omega, by omega, .inl ⟨gH,  rfl⟩⟩
 ·obtain rfl : i = n := by omega
  rw [wu_]
  refine xh_ (x9_ ?_)
  refine gBN ?_
  refine xf_ ⟨⟨[(0, .agg [.ref 3 [], .int m, .ref 4 []]), (1, .fn 46 [.bptr 0 0]), (4, .bptr 6 0)], [(0, .bx [.l2 q]), (3, .t1 o), (4, .t3 W), (5, .t2 (yW_ i i f)), (6, .bx [.ref 3 [], .int m, .ref 4 [], .ref 5 []])]⟩, xm_ [5, 8] [(5, 7)], .inr rfl, (by first | rfl | exact ⟨trivial, rfl⟩ | (simp only [y1_, zZ_, go_sem, seval]; done)), (by simp [St.get, xg_, xl_]), rfl⟩
set_option maxRecDepth 100000 in
set_option maxHeartbeats 8000000 in
theorem K4_ (n : Nat) (W : List (List (List Int))) (o : List Int) (m : Int) (a : Int) (a0 : 0 ≤ a) (a1 : a ≤ 16) (hW : W.length = n) (n8 : n ≤ 8) (m1 : 1 ≤ m) (m2 : m ≤ 1000) :
  OwnCall Tryz.prog 44 [.agg [.ref 3 [], .int m, .ref 4 []], .fn 57 [.bptr 0 0]]
   [(0, .bx [.int a]), (3, .t1 o), (4, .t3 W)]
   [(0, .bx [.int a]), (3, .t1 o), (4, .t3 W), (5, .t2 (yW_ n n fun x y => a * (x : Int) * (y : Int) % m)), (6, .bx [.ref 3 [], .int m, .ref 4 [], .ref 5 []])]
   (.agg [.ref 3 [], .int m, .ref 4 [], .ref 5 []]) [0] := by
 have hz := Xg_ n n (by omega) (by omega)
 obtain ⟨F, eF⟩ : ∃ F : Nat → Nat → Int, F = fun (x y : Nat) => a * (x : Int) * (y : Int) := ⟨_, rfl⟩
 have hCl : ∀ x y, x < n → y < n → PureCall Tryz.prog 57 [.int x, .int y, .cptr [.int a] 0] (.int (F x y)) := fun x y hx hy => by
  rw [eF]; exact ak1 a a0 a1 x y (by omega) (by omega)
 have hbF : ∀ x y, x < n → y < n → -2000 ≤ F x y ∧ F x y ≤ 2000 := fun x y hx hy => by
  rw [eF]; have u1 := (Wu_ (x := x) (y := y) a0 a1 (by omega) (by omega)).2 ; show -2000 ≤ a * x * y ∧ a * x * y ≤ 2000 ; omega
 obtain ⟨f, ef⟩ : ∃ f : Nat → Nat → Int, f = fun x y => F x y % m := ⟨_, rfl⟩
 have es : (yW_ n n fun x y => a * (x : Int) * (y : Int) % m) = yW_ n n f := by
  rw [ef, eF]
  try rfl
 rw [es]
 obtain ⟨g, eg⟩ : ∃ g : Nat → Nat → Int, g = fun _ _ => 0 := ⟨_, rfl⟩
 have z0 : List.replicate n (List.replicate n (0 : Int)) = wrM n f g 0 0 := by rw [w6_, eg, zK_]
 rw [z0] at hz
 have hz' : FreshCall Tryz.prog 74 [.int W.length, .int W.length] (.l2 (wrM n f g 0 0)) := by rw [hW]; exact hz
 refine OwnCall.intro (n := 45) (rs := [.cell 4 30]) 2 [0, 1] (X := [0]) Tryz.call44 Tryz.func44 rfl rfl rfl (by simp only [List.length_cons, List.length_nil]; omega) (by simp [Aw.ids, x3_, xQ_, xl_, xg_]) (fun cx hcx => AT.weakG (x2_ ?_)); refine gE ?_
 refine gBN ?_
 (repeat refine xb_ ?_)
 refine wh_ [7] (.one 1 (.one 2 (.one 3 (.one 4 (.one 5 (.one 6 (.alt 0 (.alt 7 (.one 8 (.alt 9 (.alt 10 .fin .stop) .stop)) (.alt 9 (.alt 7 (.one 8 (.alt 10 .fin .stop)) .stop) .stop)) (.alt 7 (.one 0 (.one 8 (.alt 9 (.alt 10 .fin .stop) .stop))) (.alt 9 (.alt 0 (.alt 7 (.one 8 (.alt 10 .fin .stop)) .stop) (.alt 7 (.one 0 (.one 8 (.alt 10 .fin .stop))) .stop)) .stop))))))))) ⟨[(0, .agg [.ref 3 [], .int m, .ref 4 []]), (1, .fn 57 [.bptr 0 0]), (2, .bptr 5 0), (4, .bptr 6 0), (5, .bptr 8 0)], [(0, .bx [.int a]), (3, .t1 o), (4, .t3 W), (5, .bx [.ref 3 [], .int m, .ref 4 []]), (6, .bx [.nil, .int 0, .nil, .nil]), (7, .t2 (wrM n f g 0 0)), (8, .bx [.ref 3 [], .int m, .ref 4 [], .ref 7 []])]⟩ (by first | exact xO_ hcx | exact y2_ hcx rfl) mixed (by kernel_rfl) (fun K hK => ?_) ?_
 ·simp only [go_sem, seval, Option.getD_some, and_true, true_and, and_self, List.contains_cons, List.contains_nil, Bool.or_false, Bool.or_true]
  repeat' (first | (refine hK _ (xr_ [] ?_ ?_); (focus (simp only [YO_, rnL, rn, rns, sw, xs_, St.get, xg_, List.map_cons, List.map_nil, seval, AV.int.injEq, AV.bool.injEq, AV.l1.injEq, AV.l2.injEq, AV.l3.injEq, true_and, and_true]; done)); (focus (simp only [zf_, YY_, YP_, rnH, rnT, rn, rns, sw, List.map_cons, List.map_nil, seval]; done))) | (refine hK _ (xr_ [(7, 8)] ?_ ?_); (focus (simp only [YO_, rnL, rn, rns, sw, xs_, St.get, xg_, List.map_cons, List.map_nil, seval, AV.int.injEq, AV.bool.injEq, AV.l1.injEq, AV.l2.injEq, AV.l3.injEq, true_and, and_true]; done)); (focus (simp only [zf_, YY_, YP_, rnH, rnT, rn, rns, sw, List.map_cons, List.map_nil, seval]; done))) | with_reducible refine And.intro ?_ ?_ | omega | (refine xq_ rfl (hz') rfl ?_; simp only [go_sem, seval, Option.getD_some, and_true, true_and, and_self, List.contains_cons, List.contains_nil, Bool.or_false, Bool.or_true]))
 have l1 := yT_ (n := n) (f := f) (g := g) (i := 0) (j := 0)
 refine gCN fun K hK => ?_
 simp only [l1]
 refine gU ?_
 refine hK _ ?_; clear hK K
 (repeat refine xb_ ?_); refine gLp (fun i : Nat => ⟨[(0, .agg [.ref 3 [], .int m, .ref 4 []]), (1, .fn 57 [.bptr 0 0]), (2, .bptr 5 0), (4, .bptr 6 0), (5, .bptr 8 0), (19, .int n), (20, .int i)], [(0, .bx [.int a]), (3, .t1 o), (4, .t3 W), (5, .bx [.ref 3 [], .int m, .ref 4 []]), (6, .bx [.nil, .int 0, .nil, .nil]), (7, .t2 (wrM n f g i 0)), (8, .bx [.ref 3 [], .int m, .ref 4 [], .ref 7 []])]⟩) n fun i hi => ?_
 refine gBN ?_
 refine gI (fun hli => ?_) fun hli => ?_
 ·have l2 := yT_ (n := n) (f := f) (g := g) (i := i) (j := 0)
  refine xe_ ?_
  refine gO ?_
  refine gBN ?_
  refine gCN fun K hK => ?_
  simp only [l2]
  refine gU ?_
  refine hK _ ?_; clear hK K
  (repeat refine xb_ ?_); refine gLp (fun j : Nat => ⟨[(0, .agg [.ref 3 [], .int m, .ref 4 []]), (1, .fn 57 [.bptr 0 0]), (2, .bptr 5 0), (4, .bptr 6 0), (5, .bptr 8 0), (6, .int i), (19, .int n), (20, .int i), (25, .int n), (26, .int j)], [(0, .bx [.int a]), (3, .t1 o), (4, .t3 W), (5, .bx [.ref 3 [], .int m, .ref 4 []]), (6, .bx [.nil, .int 0, .nil, .nil]), (7, .t2 (wrM n f g i j)), (8, .bx [.ref 3 [], .int m, .ref 4 [], .ref 7 []])]⟩) n fun j hj => ?_
  refine gBN ?_
  refine gI (fun hlj => ?_) fun hlj => ?_
  ·have l3 := yT_ (n := n) (f := f) (g := g) (i := i) (j := j)
   have l4 := XL_ (n := n) (f := f) (g := g) (i := i) (j := j) (x := i) (by omega)
   have hA := hCl i j (by omega) (by omega)
   have bA := hbF i j (by omega) (by omega)
   have ev : F i j % m = f i j := by rw [ef]
   obtain ⟨K9, eK9⟩ : ∃ K9, F i j = K9 := ⟨_, rfl⟩
   rw [eK9] at hA bA ev
   have hR := zB_ o m W K9 m1 m2
   have b1 := Int.emod_nonneg K9 (show m ≠ 0 by omega)
   have b2 := Int.emod_lt_of_pos K9 (show 0 < m by omega)
   rw [ev] at hR b1 b2
   have sk := ws_ (n := n) (f := f) (g := g) (i := i) (j := j) (by omega)
   refine xe_ ?_
   refine gO ?_
   refine gBN ?_
   (repeat refine xb_ ?_)
   refine xZ_ [] (.one 0 (.one 1 (.one 2 (.one 3 (.one 4 (.one 5 (.one 6 (.one 7 (.one 8 (.one 9 (.one 10 (.one 11 (.one 12 (.alt 13 .fin .stop)))))))))))))) ⟨[(0, .agg [.ref 3 [], .int m, .ref 4 []]), (1, .fn 57 [.bptr 0 0]), (2, .bptr 5 0), (4, .bptr 6 0), (5, .bptr 8 0), (6, .int i), (19, .int n), (20, .int i), (25, .int n), (26, .int j)], [(0, .bx [.int a]), (3, .t1 o), (4, .t3 W), (5, .bx [.ref 3 [], .int m, .ref 4 []]), (6, .bx [.nil, .int 0, .nil, .nil]), (7, .t2 ((wrM n f g i j).set i (((wrM n f g i j).getD i []).set j (f i j)))), (8, .bx [.ref 3 [], .int m, .ref 4 [], .ref 7 []])]⟩ (by first | exact xO_ hcx | exact y2_ hcx rfl) mixed (by kernel_rfl) (fun K hK => ?_) ?_
   ·simp only [go_sem, seval, Option.getD_some, and_true, true_and, and_self, List.contains_cons, List.contains_nil, Bool.or_false, Bool.or_true]
    repeat' (first | exact hK _ gM  | with_reducible refine And.intro ?_ ?_ | omega | ((first | refine x0_ rfl rfl (hA) ?_ | refine xd_ (xR_ rfl rfl (hA)) ?_); simp only [go_sem, seval, Option.getD_some, and_true, true_and, and_self, List.contains_cons, List.contains_nil, Bool.or_false, Bool.or_true]) | ((first | refine x0_ rfl rfl (hR) ?_ | refine xd_ (xR_ rfl rfl (hR)) ?_); simp only [go_sem, seval, Option.getD_some, and_true, true_and, and_self, List.contains_cons, List.contains_nil, Bool.or_false, Bool.or_true]))
   rw [sk]
   refine gBN ?_
   refine ⟨j + 1,  by omega, by omega, .inl ⟨gH,  rfl⟩⟩
  ·obtain rfl : j = n := by omega
   rw [wt_]
   refine xh_ (x9_ ?_)
   refine gBN ?_
   refine ⟨i + 1,  by omega, by omega, .inl ⟨gH,  rfl⟩⟩
 ·obtain rfl : i = n := by omega
  rw [wu_]
  refine xh_ (x9_ ?_)
  refine gBN ?_
  refine xf_ ⟨⟨[(0, .agg [.ref 3 [], .int m, .ref 4 []]), (1, .fn 57 [.bptr 0 0]), (4, .bptr 6 0)], [(0, .bx [.int a]), (3, .t1 o), (4, .t3 W), (5, .t2 (yW_ i i f)), (6, .bx [.ref 3 [], .int m, .ref 4 [], .ref 5 []])]⟩, xm_ [5, 8] [(5, 7)], .inr rfl, (by first | rfl | exact ⟨trivial, rfl⟩ | (simp only [y1_, zZ_, go_sem, seval]; done)), (by simp [St.get, xg_, xl_]), rfl⟩
set_option maxHeartbeats 4000000 in
theorem Sw_ (o : List Int) (m : Int) (n : Nat) (q : List (List Int)) (hp : PosO o) (h8 : xA_ o ≤ 8) (hn : (n : Int) = xA_ o) (m1 : 1 ≤ m) (m2 : m ≤ 1000) (hq : wq_ n m q) (hl : o.length ≤ 1048576) : FreshCall Tryz.prog 18 [.l1 o, .int m, .l2 q] (.tup [.agg [.l1 o, .int m, .l3 (Xl_ o m n q), .l2 (Z3_ m n q)], .int 0]) := by
 have hC := Wq_ o m q
 have h0 : Si_ o m q = 0 := by
  unfold Si_
  rw [if_pos (xS_ hp), if_pos h8, nO hn, if_pos ⟨m1, m2, xS_ hq⟩]
 rw [h0] at hC
 have hB := VK_ o m n q hp h8 hn m1 m2 hq.1 hl
 have hY := K3_ n (Xl_ o m n q) o m q hq.1 zt_ (by omega) m1 m2
 generalize Z3_ m n q = D at *
 generalize Xl_ o m n q = V at *
 refine gFC 23 [.cell 6 30, .tmp 7] Tryz.call18 Tryz.func18 fun cx hcx => gE ?_
 refine gBN ?_
 refine gCN fun K hK => ?_
 first | refine xc_ (hC) rfl ?_ | refine xd_ (xa_ (hC) rfl) ?_
 refine gV ?_
 refine hK _ ?_; clear hK K
 refine gBN ?_
 refine gQ ?_
 refine xe_ ?_
 (repeat refine xb_ ?_); refine AT.ghost (st' := ⟨[(0, .l1 o), (1, .int m), (5, .bptr 0 0), (6, .bptr 2 0)], [(0, .bx [.l2 q]), (2, .bx [.nil, .int 0, .nil, .nil])]⟩) (xm_ [] [(1, 2)]) ?_
 refine gCN fun K hK => ?_
 refine xq_ rfl (hB) rfl ?_; simp only [go_sem, seval]
 refine xN_ (hY) (k := ?_); simp only [Aw.ids, go_sem, seval]
 refine hK _ ?_; clear hK K
 exact xf_ (Wj_ (v := .agg [.ref 3 [], .int m, .ref 4 [], .ref 5 []]) (by simp only [go_sem, seval]) trivial rfl (by simp))
end Go.Proofs.YtjbdiekkjegckaaGreat
