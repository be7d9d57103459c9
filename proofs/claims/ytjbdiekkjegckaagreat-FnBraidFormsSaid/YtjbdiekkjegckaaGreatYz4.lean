import Derived.Test.YtjbdiekkjegckaaGreatYz1
import Derived.Test.YtjbdiekkjegckaaGreatJz2
set_option linter.unusedSimpArgs false
set_option linter.unusedVariables false
namespace Go.Proofs.YtjbdiekkjegckaaGreat
open Go Go.Aw Go.Pl
theorem Zb_ {n : Nat} {f : Nat → Nat → Nat → Int} {i j k k2 : Nat} (h : ∀ z, k ≤ z → z < k2 → f i j z = 0) (hk : k ≤ k2) : wrC n f (fun _ _ _ => 0) i j k2 = wrC n f (fun _ _ _ => 0) i j k := by
 unfold wrC
 refine zJ_ fun x _ y _ z _ => ?_
 unfold lx3
 by_cases c1 : x < i ∨ (x = i ∧ (y < j ∨ (y = j ∧ z < k)))
 ·rw [if_pos c1, if_pos (by omega)]
 ·rw [if_neg c1]
  by_cases c2 : x < i ∨ (x = i ∧ (y < j ∨ (y = j ∧ z < k2)))
  ·rw [if_pos c2]
   obtain ⟨rfl, rfl, h3⟩ : x = i ∧ y = j ∧ z < k2 := by omega
   exact h z (by omega) h3
  ·rw [if_neg c2]
theorem Wa_ {a b c : Int} (h1 : 0 ≤ a) (h2 : a ≤ c) (h3 : 0 ≤ b) (h4 : b ≤ 8) (hc : 0 ≤ c) : 0 ≤ a * b ∧ a * b ≤ c * 8 :=
 ⟨Int.mul_nonneg h1 h3, Int.mul_le_mul h2 h4 h3 hc⟩
theorem Yh_ (n : Nat) (f : Nat → Nat → Nat → Int) : List.replicate n (List.replicate n (List.replicate n (0 : Int))) = wrC n f (fun _ _ _ => 0) 0 0 0 := by
 rw [Y2_]
 simp [z5_, yW_, zo_, List.map_const']
def aH8 (n k : Nat) (x y z : Nat) : Int := if n ≤ y + z then (k : Int) * x % n else 0
set_option maxHeartbeats 4000000 in
theorem UI_ (n k : Nat) (n1 : 1 ≤ n) (n8 : n ≤ 8) (hk : k ≤ 8) : FreshCall Tryz.prog 105 [.int n, .int k] (.agg [.l1 [(n : Int)], .int n, .l3 (z5_ n (aH8 n k))]) := by
 obtain ⟨f, ef⟩ : ∃ f, f = aH8 n k := ⟨_, rfl⟩
 have k3 := zn_ n (by omega)
 rw [Yh_ n f] at k3
 rw [← ef]
 refine gFC 49 [.cell 4 27] Tryz.call105 Tryz.func105 fun cx hcx => gE ?_
 refine gB ?_
 refine gC fun K hK => ?_
 refine gU ?_
 refine xq_ rfl (k3) rfl ?_; simp only [go_sem, seval]
 refine gU ?_
 refine hK _ ?_; clear hK K
 (repeat refine xb_ ?_); refine AT.ghost (st' := ⟨[(0, .int n), (1, .int k), (4, .bptr 0 0), (5, .bptr 3 0)], [(0, .bx [.nil, .int 0, .nil]), (1, .t1 [(n : Int)]), (2, .t3 (wrC n f (fun _ _ _ => 0) 0 0 0)), (3, .bx [.ref 1 [], .int n, .ref 2 []])]⟩) (xm_ [] []) ?_
 refine gB ?_
 (repeat refine xb_ ?_); refine gLp (fun x : Nat => ⟨[(0, .int n), (1, .int k), (4, .bptr 0 0), (5, .bptr 3 0), (6, .int x)], [(0, .bx [.nil, .int 0, .nil]), (1, .t1 [(n : Int)]), (2, .t3 (wrC n f (fun _ _ _ => 0) x 0 0)), (3, .bx [.ref 1 [], .int n, .ref 2 []])]⟩) n fun x hx => ?_
 refine gB ?_
 refine gI (fun hx2 => ?_) fun hx2 => ?_
 ·have hx : x < n := by omega
  refine xe_ ?_
  refine gO ?_
  refine gB ?_
  (repeat refine xb_ ?_); refine gLp (fun y : Nat => ⟨[(0, .int n), (1, .int k), (4, .bptr 0 0), (5, .bptr 3 0), (6, .int x), (7, .int y)], [(0, .bx [.nil, .int 0, .nil]), (1, .t1 [(n : Int)]), (2, .t3 (wrC n f (fun _ _ _ => 0) x y 0)), (3, .bx [.ref 1 [], .int n, .ref 2 []])]⟩) n fun y hy => ?_
  refine gB ?_
  refine gI (fun hy2 => ?_) fun hy2 => ?_
  ·have hy : y < n := by omega
   have e0 : wrC n f (fun _ _ _ => 0) x y (n - y) = wrC n f (fun _ _ _ => 0) x y 0 := Zb_ (fun z _ hz => by rw [ef]; exact if_neg (by omega)) (Nat.zero_le _)
   have eny : (n : Int) - y = ((n - y : Nat) : Int) := by omega
   refine xe_ ?_
   refine gO ?_
   refine gC fun K hK => ?_
   simp only [eny]
   refine gU ?_
   refine hK _ ?_; clear hK K
   rw [← e0]
   (repeat refine xb_ ?_)
   (repeat refine xb_ ?_); refine xt_ (fun z : Nat => ⟨[(0, .int n), (1, .int k), (4, .bptr 0 0), (5, .bptr 3 0), (6, .int x), (7, .int y), (8, .int z)], [(0, .bx [.nil, .int 0, .nil]), (1, .t1 [(n : Int)]), (2, .t3 (wrC n f (fun _ _ _ => 0) x y z)), (3, .bx [.ref 1 [], .int n, .ref 2 []])]⟩) (fun z => n - y ≤ z ∧ z ≤ n) (fun z => n - z) (n - y) ⟨Nat.le_refl _, by omega⟩ (by
    refine And.intro ?_ rfl; simp only [leS, Nat.reduceEqDiff, ↓reduceIte, true_and, and_true]
    try rfl) (fun z hz => ?_)
   obtain ⟨z1, zn⟩ := hz
   refine gB ?_
   refine gI (fun hz2 => ?_) fun hz2 => ?_
   ·have hz : z < n := by omega
    have l3 := wr_ (n := n) (f := f) (g := fun _ _ _ => 0) (i := x) (j := y) (k := z)
    have l4 := Zm_ (n := n) (f := f) (g := fun _ _ _ => 0) (i := x) (j := y) (k := z) (x := x) (by omega)
    have l5 := Zn_ (n := n) (f := f) (g := fun _ _ _ => 0) (i := x) (j := y) (k := z) (x := x) (y := y) (by omega) (by omega)
    have sk := Xs_ (n := n) (f := f) (g := fun _ _ _ => 0) (i := x) (j := y) (k := z) hx hy
    have mb := Wa_ (a := (k : Int)) (b := (x : Int)) (c := 8) (by omega) (by omega) (by omega) (by omega) (by omega)
    have ev : ((k : Int) * x).tmod n = f x y z := by
     rw [ef, Int.tmod_eq_emod_of_nonneg mb.1]
     exact (if_pos (by omega)).symm
    obtain ⟨M, eM⟩ : ∃ M, (k : Int) * x = M := ⟨_, rfl⟩
    rw [eM] at mb ev
    have bv : 0 ≤ f x y z ∧ f x y z ≤ 8 := by
     rw [← ev, Int.tmod_eq_emod_of_nonneg mb.1]
     have := Int.emod_nonneg M (show (n : Int) ≠ 0 by omega)
     have := Int.emod_lt_of_pos M (show (0 : Int) < n by omega)
     omega
    refine xe_ ?_
    refine gO ?_
    (repeat refine xb_ ?_); refine xI_ (xO_ hcx) mixed (by kernel_rfl) fun K hK => ?_; simp only [go_sem, seval, l3, l4, l5, eM, ev, sk]
    refine gU ?_
    refine hK _ ?_; clear hK K
    refine gB ?_
    refine ⟨z + 1,  ⟨by omega, by omega⟩, by omega, .inl ⟨gH,  rfl⟩⟩
   ·obtain rfl : z = n := by omega
    rw [Xt_]
    refine xh_ (x9_ ?_)
    refine gB ?_
    refine ⟨y + 1,  by omega, by omega, .inl ⟨gH,  rfl⟩⟩
  ·obtain rfl : y = n := by omega
   rw [Xu_]
   refine xh_ (x9_ ?_)
   refine gB ?_
   refine ⟨x + 1,  by omega, by omega, .inl ⟨gH,  rfl⟩⟩
 ·obtain rfl : x = n := by omega
  rw [Yj_]
  refine xh_ (x9_ ?_)
  refine gB ?_
  exact xf_ (RI_ (v := .agg [.ref 1 [], .int x, .ref 2 []]) (by simp only [go_sem, seval]) rfl (by simp))
def aH9 (m k a : Nat) (x y z : Nat) : Int := if m ≤ y % m + z % m then (k : Int) * (x / m : Nat) % a else 0
set_option maxHeartbeats 8000000 in
theorem TC_ (n m k : Nat) (n1 : 1 ≤ n) (m1 : 1 ≤ m) (h8 : n * m ≤ 8) (hk : k ≤ 8) : FreshCall Tryz.prog 106 [.int n, .int m, .int k] (.agg [.l1 [(n : Int), (m : Int)], .int (Nat.gcd n m : Nat), .l3 (z5_ (n * m) (aH9 m k (Nat.gcd n m)))]) := by
 obtain ⟨N, eN⟩ : ∃ N, n * m = N := ⟨_, rfl⟩
 have eN1 : (n : Int) * (m : Int) = (N : Int) := by rw [← eN]; exact (Int.natCast_mul _ _).symm
 rw [eN] at h8 ⊢
 have n8 : n ≤ 8 := by
  have : n * 1 ≤ n * m := Nat.mul_le_mul_left n m1
  omega
 have m8 : m ≤ 8 := by
  have : 1 * m ≤ n * m := Nat.mul_le_mul_right m n1
  omega
 obtain ⟨a, ea⟩ : ∃ a, Nat.gcd n m = a := ⟨_, rfl⟩
 have a1 : 1 ≤ a := by rw [← ea]; exact Nat.gcd_pos_of_pos_left _ n1
 have a8 : a ≤ 8 := by
  have := Nat.le_of_dvd n1 (Nat.gcd_dvd_left n m)
  omega
 rw [ea]
 obtain ⟨f, ef⟩ : ∃ f, f = aH9 m k a := ⟨_, rfl⟩
 have k3 := zn_ N (by omega)
 rw [Yh_ N f] at k3
 rw [← ef]
 refine gFC 80 [.cell 6 27] Tryz.call106 Tryz.func106 fun cx hcx => gE ?_
 refine gB ?_
 refine gB ?_
 (repeat refine xb_ ?_); refine AT.ghost (st' := ⟨[(0, .int n), (1, .int m), (2, .int k), (6, .bptr 0 0), (7, .int n), (8, .int m)], [(0, .bx [.nil, .int 0, .nil])]⟩) (xm_ [] []) ?_
 (repeat refine xb_ ?_)
 (repeat refine xb_ ?_); refine xt_ (fun q : Nat × Nat => ⟨[(0, .int n), (1, .int m), (2, .int k), (6, .bptr 0 0), (7, .int q.1), (8, .int q.2)], [(0, .bx [.nil, .int 0, .nil])]⟩) (fun q => Nat.gcd q.1 q.2 = a ∧ q.1 ≤ 8 ∧ q.2 ≤ 8) (fun q => q.2) (n, m) ⟨ea, n8, m8⟩ (by
  refine And.intro ?_ rfl; simp only [leS, Nat.reduceEqDiff, ↓reduceIte, true_and, and_true]
  try rfl) (fun q hq => ?_)
 obtain ⟨u, v⟩ := q
 obtain ⟨g1, g2, g3⟩ := hq
 dsimp only at g1 g2 g3 ⊢
 refine gB ?_
 refine gI (fun hv => ?_) fun hv => ?_
 ·have et : (u : Int).tmod (v : Int) = ((u % v : Nat) : Int) := by
   rw [Int.tmod_eq_emod_of_nonneg (by omega)]; exact (Int.natCast_emod u v).symm
  have hlt : u % v < v := Nat.mod_lt _ (by omega)
  have gg : Nat.gcd v (u % v) = a := by rw [← g1, Nat.gcd_comm v, ← Nat.gcd_rec, Nat.gcd_comm]
  obtain ⟨R, eR⟩ : ∃ R, u % v = R := ⟨_, rfl⟩
  rw [eR] at et hlt gg
  refine xe_ ?_
  refine gO ?_
  (repeat refine xb_ ?_); refine xx_ (xO_ hcx) fun K hK => ?_; simp only [go_sem, seval, et]
  refine gU ?_
  refine hK _ ?_; clear hK K
  refine gB ?_
  refine gB ?_
  refine ⟨(v, R),  ⟨gg, by dsimp only; omega, by dsimp only; omega⟩, by omega, .inl ⟨by simp only [leS, Nat.reduceEqDiff, ↓reduceIte, true_and, and_true]; (try omega),  rfl⟩⟩
 ·have v0 : v = 0 := by omega
  subst v0
  have eu : u = a := by rw [← g1]; exact (Nat.gcd_zero_right u).symm
  subst eu
  refine xh_ (x9_ ?_)
  (repeat refine xb_ ?_); refine xx_ (xO_ hcx) fun K hK => ?_; simp only [go_sem, seval, eN1]
  refine gU ?_
  refine xq_ rfl (k3) rfl ?_; simp only [go_sem, seval]
  refine gU ?_
  refine hK _ ?_; clear hK K
  (repeat refine xb_ ?_); refine AT.ghost (st' := ⟨[(0, .int n), (1, .int m), (2, .int k), (6, .bptr 0 0), (7, .int u), (10, .bptr 3 0)], [(0, .bx [.nil, .int 0, .nil]), (1, .t1 [(n : Int), (m : Int)]), (2, .t3 (wrC N f (fun _ _ _ => 0) 0 0 0)), (3, .bx [.ref 1 [], .int u, .ref 2 []])]⟩) (xm_ [] []) ?_
  refine gB ?_
  (repeat refine xb_ ?_); refine gLp (fun x : Nat => ⟨[(0, .int n), (1, .int m), (2, .int k), (6, .bptr 0 0), (7, .int u), (10, .bptr 3 0), (11, .int x)], [(0, .bx [.nil, .int 0, .nil]), (1, .t1 [(n : Int), (m : Int)]), (2, .t3 (wrC N f (fun _ _ _ => 0) x 0 0)), (3, .bx [.ref 1 [], .int u, .ref 2 []])]⟩) N fun x hx => ?_
  (repeat refine xb_ ?_); refine xx_ (xO_ hcx) fun K hK => ?_; simp only [go_sem, seval, eN1]
  refine gU ?_
  refine hK _ ?_; clear hK K
  refine gI (fun hx2 => ?_) fun hx2 => ?_
  ·have hx : x < N := by omega
   refine xe_ ?_
   refine gO ?_
   refine gB ?_
   (repeat refine xb_ ?_); refine gLp (fun y : Nat => ⟨[(0, .int n), (1, .int m), (2, .int k), (6, .bptr 0 0), (7, .int u), (10, .bptr 3 0), (11, .int x), (12, .int y)], [(0, .bx [.nil, .int 0, .nil]), (1, .t1 [(n : Int), (m : Int)]), (2, .t3 (wrC N f (fun _ _ _ => 0) x y 0)), (3, .bx [.ref 1 [], .int u, .ref 2 []])]⟩) N fun y hy => ?_
   (repeat refine xb_ ?_); refine xx_ (xO_ hcx) fun K hK => ?_; simp only [go_sem, seval, eN1]
   refine gU ?_
   refine hK _ ?_; clear hK K
   refine gI (fun hy2 => ?_) fun hy2 => ?_
   ·have hy : y < N := by omega
    refine xe_ ?_
    refine gO ?_
    refine gB ?_
    (repeat refine xb_ ?_); refine gLp (fun z : Nat => ⟨[(0, .int n), (1, .int m), (2, .int k), (6, .bptr 0 0), (7, .int u), (10, .bptr 3 0), (11, .int x), (12, .int y), (13, .int z)], [(0, .bx [.nil, .int 0, .nil]), (1, .t1 [(n : Int), (m : Int)]), (2, .t3 (wrC N f (fun _ _ _ => 0) x y z)), (3, .bx [.ref 1 [], .int u, .ref 2 []])]⟩) N fun z hz => ?_
    (repeat refine xb_ ?_); refine xx_ (xO_ hcx) fun K hK => ?_; simp only [go_sem, seval, eN1]
    refine gU ?_
    refine hK _ ?_; clear hK K
    refine gI (fun hz2 => ?_) fun hz2 => ?_
    ·have hz : z < N := by omega
     have ey : (y : Int).tmod (m : Int) = ((y % m : Nat) : Int) := by rw [Int.tmod_eq_emod_of_nonneg (by omega)]; exact (Int.natCast_emod y m).symm
     have ez : (z : Int).tmod (m : Int) = ((z % m : Nat) : Int) := by rw [Int.tmod_eq_emod_of_nonneg (by omega)]; exact (Int.natCast_emod z m).symm
     have ly : y % m < m := Nat.mod_lt _ (by omega)
     have lz : z % m < m := Nat.mod_lt _ (by omega)
     have fv : f x y z = if m ≤ y % m + z % m then (k : Int) * (x / m : Nat) % u else 0 := by rw [ef]; rfl
     obtain ⟨Y, eY⟩ : ∃ Y, y % m = Y := ⟨_, rfl⟩
     obtain ⟨Z, eZ⟩ : ∃ Z, z % m = Z := ⟨_, rfl⟩
     rw [eY] at ey ly fv
     rw [eZ] at ez lz fv
     refine xe_ ?_
     refine gO ?_
     (repeat refine xb_ ?_); refine xI_ (xO_ hcx) mixed (by kernel_rfl) fun K hK => ?_; simp only [go_sem, seval, ey, ez]
     refine gU ?_
     refine hK _ ?_; clear hK K
     refine gI (fun hc => ?_) fun hc => ?_
     ·have l3 := wr_ (n := N) (f := f) (g := fun _ _ _ => 0) (i := x) (j := y) (k := z)
      have l4 := Zm_ (n := N) (f := f) (g := fun _ _ _ => 0) (i := x) (j := y) (k := z) (x := x) (by omega)
      have l5 := Zn_ (n := N) (f := f) (g := fun _ _ _ => 0) (i := x) (j := y) (k := z) (x := x) (y := y) (by omega) (by omega)
      have sk := Xs_ (n := N) (f := f) (g := fun _ _ _ => 0) (i := x) (j := y) (k := z) hx hy
      have ed : (x : Int).tdiv (m : Int) = ((x / m : Nat) : Int) := by rw [Int.tdiv_eq_ediv_of_nonneg (by omega)]; exact (Int.natCast_ediv x m).symm
      have ld : x / m ≤ 8 := by have := Nat.div_le_self x m; omega
      rw [if_pos (by omega)] at fv
      obtain ⟨D, eD⟩ : ∃ D, x / m = D := ⟨_, rfl⟩
      rw [eD] at ed ld fv
      have mb := Wa_ (a := (k : Int)) (b := (D : Int)) (c := 8) (by omega) (by omega) (by omega) (by omega) (by omega)
      obtain ⟨M, eM⟩ : ∃ M, (k : Int) * (D : Int) = M := ⟨_, rfl⟩
      rw [eM] at mb fv
      have ev : M.tmod u = f x y z := by rw [fv]; exact Int.tmod_eq_emod_of_nonneg mb.1
      have bv : 0 ≤ f x y z ∧ f x y z ≤ 8 := by
       rw [fv]
       have := Int.emod_nonneg M (show (u : Int) ≠ 0 by omega)
       have := Int.emod_lt_of_pos M (show (0 : Int) < u by omega)
       omega
      (repeat refine xb_ ?_); refine xI_ (xO_ hcx) mixed (by kernel_rfl) fun K hK => ?_; simp only [go_sem, seval, l3, l4, l5, ed, eM, ev, sk]
      refine gU ?_
      refine hK _ ?_; clear hK K
      refine gB ?_
      refine ⟨z + 1,  by omega, by omega, .inl ⟨gH,  rfl⟩⟩
     ·have e0 : wrC N f (fun _ _ _ => 0) x y (z + 1) = wrC N f (fun _ _ _ => 0) x y z := Zb_ (fun z' h1 h2 => by
       obtain rfl : z' = z := by omega
       rw [fv, if_neg (by omega)]) (Nat.le_succ z)
      rw [← e0]
      refine xe_ ?_
      refine gB ?_
      refine ⟨z + 1,  by omega, by omega, .inl ⟨gH,  rfl⟩⟩
    ·obtain rfl : z = N := by omega
     rw [Xt_]
     refine xh_ (x9_ ?_)
     refine gB ?_
     refine ⟨y + 1,  by omega, by omega, .inl ⟨gH,  rfl⟩⟩
   ·obtain rfl : y = N := by omega
    rw [Xu_]
    refine xh_ (x9_ ?_)
    refine gB ?_
    refine ⟨x + 1,  by omega, by omega, .inl ⟨gH,  rfl⟩⟩
  ·obtain rfl : x = N := by omega
   rw [Yj_]
   refine xh_ (x9_ ?_)
   refine gB ?_
   exact xf_ (RI_ (v := .agg [.ref 1 [], .int u, .ref 2 []]) (by simp only [go_sem, seval]) rfl (by simp))
def av5 (x y z : Nat) : Int := (x / 4 : Nat) * (y / 2 % 2 : Nat) * (z % 2 : Nat)
theorem aj6 {x y z : Nat} (hx : x < 8) : 0 ≤ av5 x y z ∧ av5 x y z ≤ 1 := by
 unfold av5
 have h1 : x / 4 = 0 ∨ x / 4 = 1 := by omega
 have h2 : y / 2 % 2 = 0 ∨ y / 2 % 2 = 1 := by omega
 have h3 : z % 2 = 0 ∨ z % 2 = 1 := by omega
 rcases h1 with h | h <;> rcases h2 with h' | h' <;> rcases h3 with h'' | h'' <;> rw [h, h', h''] <;> decide
set_option maxRecDepth 100000 in
set_option maxHeartbeats 4000000 in
theorem KP_ : FreshCall Tryz.prog 107 [] (.agg [.l1 [2, 2, 2], .int 2, .l3 (z5_ 8 av5)]) := by
 obtain ⟨f, ef⟩ : ∃ f, f = av5 := ⟨_, rfl⟩
 obtain ⟨n, en⟩ : ∃ n, n = 8 := ⟨_, rfl⟩
 have k3 := zn_ n (by omega)
 rw [Yh_ n f] at k3
 have ei : (n : Int) = 8 := by omega
 rw [ei] at k3
 rw [← ef, ← en]
 refine gFC 40 [.cell 0 27] Tryz.call107 Tryz.func107 fun cx hcx => gE ?_
 refine gB ?_
 refine gC fun K hK => ?_
 refine gU ?_
 refine xq_ rfl (k3) rfl ?_; simp only [go_sem, seval]
 refine gU ?_
 refine hK _ ?_; clear hK K
 (repeat refine xb_ ?_); refine AT.ghost (st' := ⟨[(0, .bptr 0 0), (1, .bptr 3 0)], [(0, .bx [.nil, .int 0, .nil]), (1, .t1 [2, 2, 2]), (2, .t3 (wrC n f (fun _ _ _ => 0) 0 0 0)), (3, .bx [.ref 1 [], .int 2, .ref 2 []])]⟩) (xm_ [] []) ?_
 refine gB ?_
 (repeat refine xb_ ?_); refine gLp (fun x : Nat => ⟨[(0, .bptr 0 0), (1, .bptr 3 0), (2, .int x)], [(0, .bx [.nil, .int 0, .nil]), (1, .t1 [2, 2, 2]), (2, .t3 (wrC n f (fun _ _ _ => 0) x 0 0)), (3, .bx [.ref 1 [], .int 2, .ref 2 []])]⟩) n fun x hx => ?_
 refine gB ?_
 refine gI (fun hx2 => ?_) fun hx2 => ?_
 ·have hx : x < n := by omega
  refine xe_ ?_
  refine gO ?_
  refine gB ?_
  (repeat refine xb_ ?_); refine gLp (fun y : Nat => ⟨[(0, .bptr 0 0), (1, .bptr 3 0), (2, .int x), (3, .int y)], [(0, .bx [.nil, .int 0, .nil]), (1, .t1 [2, 2, 2]), (2, .t3 (wrC n f (fun _ _ _ => 0) x y 0)), (3, .bx [.ref 1 [], .int 2, .ref 2 []])]⟩) n fun y hy => ?_
  refine gB ?_
  refine gI (fun hy2 => ?_) fun hy2 => ?_
  ·have hy : y < n := by omega
   refine xe_ ?_
   refine gO ?_
   refine gB ?_
   (repeat refine xb_ ?_); refine gLp (fun z : Nat => ⟨[(0, .bptr 0 0), (1, .bptr 3 0), (2, .int x), (3, .int y), (4, .int z)], [(0, .bx [.nil, .int 0, .nil]), (1, .t1 [2, 2, 2]), (2, .t3 (wrC n f (fun _ _ _ => 0) x y z)), (3, .bx [.ref 1 [], .int 2, .ref 2 []])]⟩) n fun z hz => ?_
   refine gB ?_
   refine gI (fun hz2 => ?_) fun hz2 => ?_
   ·have hz : z < n := by omega
    have l3 := wr_ (n := n) (f := f) (g := fun _ _ _ => 0) (i := x) (j := y) (k := z)
    have l4 := Zm_ (n := n) (f := f) (g := fun _ _ _ => 0) (i := x) (j := y) (k := z) (x := x) (by omega)
    have l5 := Zn_ (n := n) (f := f) (g := fun _ _ _ => 0) (i := x) (j := y) (k := z) (x := x) (y := y) (by omega) (by omega)
    have sk := Xs_ (n := n) (f := f) (g := fun _ _ _ => 0) (i := x) (j := y) (k := z) hx hy
    have e1 : (x : Int).tdiv 4 = ((x / 4 : Nat) : Int) := by rw [Int.tdiv_eq_ediv_of_nonneg (by omega)]; omega
    have e2 : (y : Int).tdiv 2 = ((y / 2 : Nat) : Int) := by rw [Int.tdiv_eq_ediv_of_nonneg (by omega)]; omega
    have e3 : ((y / 2 : Nat) : Int).tmod 2 = ((y / 2 % 2 : Nat) : Int) := by rw [Int.tmod_eq_emod_of_nonneg (by omega)]; omega
    have e4 : (z : Int).tmod 2 = ((z % 2 : Nat) : Int) := by rw [Int.tmod_eq_emod_of_nonneg (by omega)]; omega
    have b1 : x / 4 ≤ 1 := by omega
    have b2 : y / 2 % 2 ≤ 1 := by omega
    have b3 : z % 2 ≤ 1 := by omega
    have b4 : y / 2 ≤ 8 := by omega
    have m1 := Wa_ (a := ((x / 4 : Nat) : Int)) (b := ((y / 2 % 2 : Nat) : Int)) (c := 8) (by omega) (by omega) (by omega) (by omega) (by omega)
    have ev : ((x / 4 : Nat) : Int) * ((y / 2 % 2 : Nat) : Int) * ((z % 2 : Nat) : Int) = f x y z := by rw [ef]; rfl
    have bv : 0 ≤ f x y z ∧ f x y z ≤ 1 := by rw [ef]; exact aj6 (by omega)
    obtain ⟨A, eA⟩ : ∃ A, x / 4 = A := ⟨_, rfl⟩
    obtain ⟨B, eB⟩ : ∃ B, y / 2 = B := ⟨_, rfl⟩
    rw [eA] at e1 b1 m1 ev
    rw [eB] at e2 e3 b2 b4 m1 ev
    obtain ⟨C, eC⟩ : ∃ C, B % 2 = C := ⟨_, rfl⟩
    obtain ⟨D, eD⟩ : ∃ D, z % 2 = D := ⟨_, rfl⟩
    rw [eC] at e3 b2 m1 ev
    rw [eD] at e4 b3 ev
    obtain ⟨M, eM⟩ : ∃ M, (A : Int) * (C : Int) = M := ⟨_, rfl⟩
    rw [eM] at m1 ev
    clear eA eB eC eD
    refine xe_ ?_
    refine gO ?_
    (repeat refine xb_ ?_); refine xx_ (xO_ hcx) fun K hK => ?_; simp only [go_sem, seval, l3, l4, l5, e1, e2, e3, e4, eM, ev, sk]
    refine gU ?_
    refine hK _ ?_; clear hK K
    refine gB ?_
    refine ⟨z + 1,  by omega, by omega, .inl ⟨gH,  rfl⟩⟩
   ·obtain rfl : z = n := by omega
    rw [Xt_]
    refine xh_ (x9_ ?_)
    refine gB ?_
    refine ⟨y + 1,  by omega, by omega, .inl ⟨gH,  rfl⟩⟩
  ·obtain rfl : y = n := by omega
   rw [Xu_]
   refine xh_ (x9_ ?_)
   refine gB ?_
   refine ⟨x + 1,  by omega, by omega, .inl ⟨gH,  rfl⟩⟩
 ·obtain rfl : x = n := by omega
  rw [Yj_]
  refine xh_ (x9_ ?_)
  refine gB ?_
  exact xf_ (RI_ (v := .agg [.ref 1 [], .int 2, .ref 2 []]) (by simp only [go_sem, seval]) rfl (by simp))
end Go.Proofs.YtjbdiekkjegckaaGreat
namespace Go.Proofs.YtjbdiekkjegckaaGreat
open Go Go.Aw Go.Pl
attribute [local go_sem] y9_ yB_ za_ zb_ wE_ yq_ List.getElem?_toArray List.getElem?_cons_zero List.getElem?_cons_succ
set_option maxRecDepth 100000 in
set_option maxHeartbeats 8000000 in
theorem WW_ (o : List Int) (m : Int) (w : List (List (List Int))) (o' : List Int) (w' : List (List (List Int))) (h : CocS o m w) (hn : w'.length = w.length) (h' : CubB w.length m w') (hl : o.length ≤ 1048576) : FreshCall Tryz.prog 99 [.agg [.l1 o, .int m, .l3 w], .agg [.l1 o', .int m, .l3 w']] (.agg [.l1 o, .int m, .l3 (sumW m w.length w w')]) := by
 have n8 := h.n8
 have m1 := h.2.2.1
 have m2 := h.2.2.2.1
 have hc := h.2.2.2.2.2
 have k1 := Zh_ o (by omega)
 have k2 := K8_ w m n8.2 hc
 obtain ⟨f, ef⟩ : ∃ f : Nat → Nat → Nat → Int, f = fun i j k => (e3 w i j k + e3 w' i j k) % m := ⟨_, rfl⟩
 have e0 : w = wrC w.length f (e3 w) 0 0 0 := by rw [Y2_, Jd_ hc]
 have es : sumW m w.length w w' = z5_ w.length f := by unfold sumW; rw [ef]
 have k3 : FreshCall Tryz.prog 118 [.l3 w] (.l3 (wrC w.length f (e3 w) 0 0 0)) := by rw [← e0]; exact k2
 rw [es]
 clear e0 es
 obtain ⟨g, eg⟩ : ∃ g : Nat → Nat → Nat → Int, g = e3 w := ⟨_, rfl⟩
 rw [← eg] at k3
 obtain ⟨n, en⟩ : ∃ n, w.length = n := ⟨_, rfl⟩
 rw [en] at k3 h' hc n8 hn ⊢
 refine gFC 76 [.cell 4 27] Tryz.call99 Tryz.func99 fun cx hcx => gE ?_
 refine gA ?_
 (repeat refine xb_ ?_)
 refine wh_ [2, 7] (.one 0 (.one 1 (.alt 2 (.one 5 (.one 6 (.alt 3 (.alt 4 (.alt 7 (.one 8 (.alt 9 (.alt 10 .fin .stop) .stop)) (.alt 9 (.alt 7 (.one 8 (.alt 10 .fin .stop)) .stop) .stop)) (.alt 7 (.one 4 (.one 8 (.alt 9 (.alt 10 .fin .stop) .stop))) (.alt 9 (.alt 4 (.alt 7 (.one 8 (.alt 10 .fin .stop)) .stop) (.alt 7 (.one 4 (.one 8 (.alt 10 .fin .stop))) .stop)) .stop))) (.alt 7 (.one 3 (.one 4 (.one 8 (.alt 9 (.alt 10 .fin .stop) .stop)))) (.alt 9 (.alt 3 (.alt 4 (.alt 7 (.one 8 (.alt 10 .fin .stop)) .stop) (.alt 7 (.one 4 (.one 8 (.alt 10 .fin .stop))) .stop)) (.alt 7 (.one 3 (.one 4 (.one 8 (.alt 10 .fin .stop)))) .stop)) .stop))))) (.alt 3 (.alt 2 (.one 5 (.one 6 (.alt 4 (.alt 7 (.one 8 (.alt 9 (.alt 10 .fin .stop) .stop)) (.alt 9 (.alt 7 (.one 8 (.alt 10 .fin .stop)) .stop) .stop)) (.alt 7 (.one 4 (.one 8 (.alt 9 (.alt 10 .fin .stop) .stop))) (.alt 9 (.alt 4 (.alt 7 (.one 8 (.alt 10 .fin .stop)) .stop) (.alt 7 (.one 4 (.one 8 (.alt 10 .fin .stop))) .stop)) .stop))))) (.alt 4 (.alt 2 (.one 5 (.one 6 (.alt 7 (.one 8 (.alt 9 (.alt 10 .fin .stop) .stop)) (.alt 9 (.alt 7 (.one 8 (.alt 10 .fin .stop)) .stop) .stop)))) (.alt 5 (.alt 2 (.one 6 (.alt 7 (.one 8 (.alt 9 (.alt 10 .fin .stop) .stop)) (.alt 9 (.alt 7 (.one 8 (.alt 10 .fin .stop)) .stop) .stop))) (.alt 6 (.alt 2 (.alt 7 (.one 8 (.alt 9 (.alt 10 .fin .stop) .stop)) (.alt 9 (.alt 7 (.one 8 (.alt 10 .fin .stop)) .stop) .stop)) (.alt 9 (.alt 2 (.alt 7 (.one 8 (.alt 10 .fin .stop)) .stop) .stop) .stop)) (.alt 9 (.alt 2 (.one 6 (.alt 7 (.one 8 (.alt 10 .fin .stop)) .stop)) (.alt 6 (.alt 2 (.alt 7 (.one 8 (.alt 10 .fin .stop)) .stop) .stop) .stop)) .stop))) (.alt 9 (.alt 2 (.one 5 (.one 6 (.alt 7 (.one 8 (.alt 10 .fin .stop)) .stop))) (.alt 5 (.alt 2 (.one 6 (.alt 7 (.one 8 (.alt 10 .fin .stop)) .stop)) (.alt 6 (.alt 2 (.alt 7 (.one 8 (.alt 10 .fin .stop)) .stop) .stop) .stop)) .stop)) .stop))) (.alt 5 (.alt 2 (.one 6 (.alt 4 (.alt 7 (.one 8 (.alt 9 (.alt 10 .fin .stop) .stop)) (.alt 9 (.alt 7 (.one 8 (.alt 10 .fin .stop)) .stop) .stop)) (.alt 7 (.one 4 (.one 8 (.alt 9 (.alt 10 .fin .stop) .stop))) (.alt 9 (.alt 4 (.alt 7 (.one 8 (.alt 10 .fin .stop)) .stop) (.alt 7 (.one 4 (.one 8 (.alt 10 .fin .stop))) .stop)) .stop)))) (.alt 4 (.alt 2 (.one 6 (.alt 7 (.one 8 (.alt 9 (.alt 10 .fin .stop) .stop)) (.alt 9 (.alt 7 (.one 8 (.alt 10 .fin .stop)) .stop) .stop))) (.alt 6 (.alt 2 (.alt 7 (.one 8 (.alt 9 (.alt 10 .fin .stop) .stop)) (.alt 9 (.alt 7 (.one 8 (.alt 10 .fin .stop)) .stop) .stop)) (.alt 9 (.alt 2 (.alt 7 (.one 8 (.alt 10 .fin .stop)) .stop) .stop) .stop)) (.alt 9 (.alt 2 (.one 6 (.alt 7 (.one 8 (.alt 10 .fin .stop)) .stop)) (.alt 6 (.alt 2 (.alt 7 (.one 8 (.alt 10 .fin .stop)) .stop) .stop) .stop)) .stop))) (.alt 6 (.alt 2 (.alt 4 (.alt 7 (.one 8 (.alt 9 (.alt 10 .fin .stop) .stop)) (.alt 9 (.alt 7 (.one 8 (.alt 10 .fin .stop)) .stop) .stop)) (.alt 7 (.one 4 (.one 8 (.alt 9 (.alt 10 .fin .stop) .stop))) (.alt 9 (.alt 4 (.alt 7 (.one 8 (.alt 10 .fin .stop)) .stop) (.alt 7 (.one 4 (.one 8 (.alt 10 .fin .stop))) .stop)) .stop))) (.alt 4 (.alt 2 (.alt 7 (.one 8 (.alt 9 (.alt 10 .fin .stop) .stop)) (.alt 9 (.alt 7 (.one 8 (.alt 10 .fin .stop)) .stop) .stop)) (.alt 9 (.alt 2 (.alt 7 (.one 8 (.alt 10 .fin .stop)) .stop) .stop) .stop)) (.alt 9 (.alt 2 (.alt 4 (.alt 7 (.one 8 (.alt 10 .fin .stop)) .stop) (.alt 7 (.one 4 (.one 8 (.alt 10 .fin .stop))) .stop)) (.alt 4 (.alt 2 (.alt 7 (.one 8 (.alt 10 .fin .stop)) .stop) .stop) .stop)) .stop))) (.alt 9 (.alt 2 (.one 6 (.alt 4 (.alt 7 (.one 8 (.alt 10 .fin .stop)) .stop) (.alt 7 (.one 4 (.one 8 (.alt 10 .fin .stop))) .stop))) (.alt 4 (.alt 2 (.one 6 (.alt 7 (.one 8 (.alt 10 .fin .stop)) .stop)) (.alt 6 (.alt 2 (.alt 7 (.one 8 (.alt 10 .fin .stop)) .stop) .stop) .stop)) (.alt 6 (.alt 2 (.alt 4 (.alt 7 (.one 8 (.alt 10 .fin .stop)) .stop) (.alt 7 (.one 4 (.one 8 (.alt 10 .fin .stop))) .stop)) (.alt 4 (.alt 2 (.alt 7 (.one 8 (.alt 10 .fin .stop)) .stop) .stop) .stop)) .stop))) .stop)))) (.alt 9 (.alt 2 (.one 5 (.one 6 (.alt 4 (.alt 7 (.one 8 (.alt 10 .fin .stop)) .stop) (.alt 7 (.one 4 (.one 8 (.alt 10 .fin .stop))) .stop)))) (.alt 4 (.alt 2 (.one 5 (.one 6 (.alt 7 (.one 8 (.alt 10 .fin .stop)) .stop))) (.alt 5 (.alt 2 (.one 6 (.alt 7 (.one 8 (.alt 10 .fin .stop)) .stop)) (.alt 6 (.alt 2 (.alt 7 (.one 8 (.alt 10 .fin .stop)) .stop) .stop) .stop)) .stop)) (.alt 5 (.alt 2 (.one 6 (.alt 4 (.alt 7 (.one 8 (.alt 10 .fin .stop)) .stop) (.alt 7 (.one 4 (.one 8 (.alt 10 .fin .stop))) .stop))) (.alt 4 (.alt 2 (.one 6 (.alt 7 (.one 8 (.alt 10 .fin .stop)) .stop)) (.alt 6 (.alt 2 (.alt 7 (.one 8 (.alt 10 .fin .stop)) .stop) .stop) .stop)) (.alt 6 (.alt 2 (.alt 4 (.alt 7 (.one 8 (.alt 10 .fin .stop)) .stop) (.alt 7 (.one 4 (.one 8 (.alt 10 .fin .stop))) .stop)) (.alt 4 (.alt 2 (.alt 7 (.one 8 (.alt 10 .fin .stop)) .stop) .stop) .stop)) .stop))) .stop))) .stop)))) (.alt 5 (.alt 2 (.one 6 (.alt 3 (.alt 4 (.alt 7 (.one 8 (.alt 9 (.alt 10 .fin .stop) .stop)) (.alt 9 (.alt 7 (.one 8 (.alt 10 .fin .stop)) .stop) .stop)) (.alt 7 (.one 4 (.one 8 (.alt 9 (.alt 10 .fin .stop) .stop))) (.alt 9 (.alt 4 (.alt 7 (.one 8 (.alt 10 .fin .stop)) .stop) (.alt 7 (.one 4 (.one 8 (.alt 10 .fin .stop))) .stop)) .stop))) (.alt 7 (.one 3 (.one 4 (.one 8 (.alt 9 (.alt 10 .fin .stop) .stop)))) (.alt 9 (.alt 3 (.alt 4 (.alt 7 (.one 8 (.alt 10 .fin .stop)) .stop) (.alt 7 (.one 4 (.one 8 (.alt 10 .fin .stop))) .stop)) (.alt 7 (.one 3 (.one 4 (.one 8 (.alt 10 .fin .stop)))) .stop)) .stop)))) (.alt 3 (.alt 2 (.one 6 (.alt 4 (.alt 7 (.one 8 (.alt 9 (.alt 10 .fin .stop) .stop)) (.alt 9 (.alt 7 (.one 8 (.alt 10 .fin .stop)) .stop) .stop)) (.alt 7 (.one 4 (.one 8 (.alt 9 (.alt 10 .fin .stop) .stop))) (.alt 9 (.alt 4 (.alt 7 (.one 8 (.alt 10 .fin .stop)) .stop) (.alt 7 (.one 4 (.one 8 (.alt 10 .fin .stop))) .stop)) .stop)))) (.alt 4 (.alt 2 (.one 6 (.alt 7 (.one 8 (.alt 9 (.alt 10 .fin .stop) .stop)) (.alt 9 (.alt 7 (.one 8 (.alt 10 .fin .stop)) .stop) .stop))) (.alt 6 (.alt 2 (.alt 7 (.one 8 (.alt 9 (.alt 10 .fin .stop) .stop)) (.alt 9 (.alt 7 (.one 8 (.alt 10 .fin .stop)) .stop) .stop)) (.alt 9 (.alt 2 (.alt 7 (.one 8 (.alt 10 .fin .stop)) .stop) .stop) .stop)) (.alt 9 (.alt 2 (.one 6 (.alt 7 (.one 8 (.alt 10 .fin .stop)) .stop)) (.alt 6 (.alt 2 (.alt 7 (.one 8 (.alt 10 .fin .stop)) .stop) .stop) .stop)) .stop))) (.alt 6 (.alt 2 (.alt 4 (.alt 7 (.one 8 (.alt 9 (.alt 10 .fin .stop) .stop)) (.alt 9 (.alt 7 (.one 8 (.alt 10 .fin .stop)) .stop) .stop)) (.alt 7 (.one 4 (.one 8 (.alt 9 (.alt 10 .fin .stop) .stop))) (.alt 9 (.alt 4 (.alt 7 (.one 8 (.alt 10 .fin .stop)) .stop) (.alt 7 (.one 4 (.one 8 (.alt 10 .fin .stop))) .stop)) .stop))) (.alt 4 (.alt 2 (.alt 7 (.one 8 (.alt 9 (.alt 10 .fin .stop) .stop)) (.alt 9 (.alt 7 (.one 8 (.alt 10 .fin .stop)) .stop) .stop)) (.alt 9 (.alt 2 (.alt 7 (.one 8 (.alt 10 .fin .stop)) .stop) .stop) .stop)) (.alt 9 (.alt 2 (.alt 4 (.alt 7 (.one 8 (.alt 10 .fin .stop)) .stop) (.alt 7 (.one 4 (.one 8 (.alt 10 .fin .stop))) .stop)) (.alt 4 (.alt 2 (.alt 7 (.one 8 (.alt 10 .fin .stop)) .stop) .stop) .stop)) .stop))) (.alt 9 (.alt 2 (.one 6 (.alt 4 (.alt 7 (.one 8 (.alt 10 .fin .stop)) .stop) (.alt 7 (.one 4 (.one 8 (.alt 10 .fin .stop))) .stop))) (.alt 4 (.alt 2 (.one 6 (.alt 7 (.one 8 (.alt 10 .fin .stop)) .stop)) (.alt 6 (.alt 2 (.alt 7 (.one 8 (.alt 10 .fin .stop)) .stop) .stop) .stop)) (.alt 6 (.alt 2 (.alt 4 (.alt 7 (.one 8 (.alt 10 .fin .stop)) .stop) (.alt 7 (.one 4 (.one 8 (.alt 10 .fin .stop))) .stop)) (.alt 4 (.alt 2 (.alt 7 (.one 8 (.alt 10 .fin .stop)) .stop) .stop) .stop)) .stop))) .stop)))) (.alt 6 (.alt 2 (.alt 3 (.alt 4 (.alt 7 (.one 8 (.alt 9 (.alt 10 .fin .stop) .stop)) (.alt 9 (.alt 7 (.one 8 (.alt 10 .fin .stop)) .stop) .stop)) (.alt 7 (.one 4 (.one 8 (.alt 9 (.alt 10 .fin .stop) .stop))) (.alt 9 (.alt 4 (.alt 7 (.one 8 (.alt 10 .fin .stop)) .stop) (.alt 7 (.one 4 (.one 8 (.alt 10 .fin .stop))) .stop)) .stop))) (.alt 7 (.one 3 (.one 4 (.one 8 (.alt 9 (.alt 10 .fin .stop) .stop)))) (.alt 9 (.alt 3 (.alt 4 (.alt 7 (.one 8 (.alt 10 .fin .stop)) .stop) (.alt 7 (.one 4 (.one 8 (.alt 10 .fin .stop))) .stop)) (.alt 7 (.one 3 (.one 4 (.one 8 (.alt 10 .fin .stop)))) .stop)) .stop))) (.alt 3 (.alt 2 (.alt 4 (.alt 7 (.one 8 (.alt 9 (.alt 10 .fin .stop) .stop)) (.alt 9 (.alt 7 (.one 8 (.alt 10 .fin .stop)) .stop) .stop)) (.alt 7 (.one 4 (.one 8 (.alt 9 (.alt 10 .fin .stop) .stop))) (.alt 9 (.alt 4 (.alt 7 (.one 8 (.alt 10 .fin .stop)) .stop) (.alt 7 (.one 4 (.one 8 (.alt 10 .fin .stop))) .stop)) .stop))) (.alt 4 (.alt 2 (.alt 7 (.one 8 (.alt 9 (.alt 10 .fin .stop) .stop)) (.alt 9 (.alt 7 (.one 8 (.alt 10 .fin .stop)) .stop) .stop)) (.alt 9 (.alt 2 (.alt 7 (.one 8 (.alt 10 .fin .stop)) .stop) .stop) .stop)) (.alt 9 (.alt 2 (.alt 4 (.alt 7 (.one 8 (.alt 10 .fin .stop)) .stop) (.alt 7 (.one 4 (.one 8 (.alt 10 .fin .stop))) .stop)) (.alt 4 (.alt 2 (.alt 7 (.one 8 (.alt 10 .fin .stop)) .stop) .stop) .stop)) .stop))) (.alt 9 (.alt 2 (.alt 3 (.alt 4 (.alt 7 (.one 8 (.alt 10 .fin .stop)) .stop) (.alt 7 (.one 4 (.one 8 (.alt 10 .fin .stop))) .stop)) (.alt 7 (.one 3 (.one 4 (.one 8 (.alt 10 .fin .stop)))) .stop)) (.alt 3 (.alt 2 (.alt 4 (.alt 7 (.one 8 (.alt 10 .fin .stop)) .stop) (.alt 7 (.one 4 (.one 8 (.alt 10 .fin .stop))) .stop)) (.alt 4 (.alt 2 (.alt 7 (.one 8 (.alt 10 .fin .stop)) .stop) .stop) .stop)) .stop)) .stop))) (.alt 9 (.alt 2 (.one 6 (.alt 3 (.alt 4 (.alt 7 (.one 8 (.alt 10 .fin .stop)) .stop) (.alt 7 (.one 4 (.one 8 (.alt 10 .fin .stop))) .stop)) (.alt 7 (.one 3 (.one 4 (.one 8 (.alt 10 .fin .stop)))) .stop))) (.alt 3 (.alt 2 (.one 6 (.alt 4 (.alt 7 (.one 8 (.alt 10 .fin .stop)) .stop) (.alt 7 (.one 4 (.one 8 (.alt 10 .fin .stop))) .stop))) (.alt 4 (.alt 2 (.one 6 (.alt 7 (.one 8 (.alt 10 .fin .stop)) .stop)) (.alt 6 (.alt 2 (.alt 7 (.one 8 (.alt 10 .fin .stop)) .stop) .stop) .stop)) (.alt 6 (.alt 2 (.alt 4 (.alt 7 (.one 8 (.alt 10 .fin .stop)) .stop) (.alt 7 (.one 4 (.one 8 (.alt 10 .fin .stop))) .stop)) (.alt 4 (.alt 2 (.alt 7 (.one 8 (.alt 10 .fin .stop)) .stop) .stop) .stop)) .stop))) (.alt 6 (.alt 2 (.alt 3 (.alt 4 (.alt 7 (.one 8 (.alt 10 .fin .stop)) .stop) (.alt 7 (.one 4 (.one 8 (.alt 10 .fin .stop))) .stop)) (.alt 7 (.one 3 (.one 4 (.one 8 (.alt 10 .fin .stop)))) .stop)) (.alt 3 (.alt 2 (.alt 4 (.alt 7 (.one 8 (.alt 10 .fin .stop)) .stop) (.alt 7 (.one 4 (.one 8 (.alt 10 .fin .stop))) .stop)) (.alt 4 (.alt 2 (.alt 7 (.one 8 (.alt 10 .fin .stop)) .stop) .stop) .stop)) .stop)) .stop))) .stop)))) (.alt 9 (.alt 2 (.one 5 (.one 6 (.alt 3 (.alt 4 (.alt 7 (.one 8 (.alt 10 .fin .stop)) .stop) (.alt 7 (.one 4 (.one 8 (.alt 10 .fin .stop))) .stop)) (.alt 7 (.one 3 (.one 4 (.one 8 (.alt 10 .fin .stop)))) .stop)))) (.alt 3 (.alt 2 (.one 5 (.one 6 (.alt 4 (.alt 7 (.one 8 (.alt 10 .fin .stop)) .stop) (.alt 7 (.one 4 (.one 8 (.alt 10 .fin .stop))) .stop)))) (.alt 4 (.alt 2 (.one 5 (.one 6 (.alt 7 (.one 8 (.alt 10 .fin .stop)) .stop))) (.alt 5 (.alt 2 (.one 6 (.alt 7 (.one 8 (.alt 10 .fin .stop)) .stop)) (.alt 6 (.alt 2 (.alt 7 (.one 8 (.alt 10 .fin .stop)) .stop) .stop) .stop)) .stop)) (.alt 5 (.alt 2 (.one 6 (.alt 4 (.alt 7 (.one 8 (.alt 10 .fin .stop)) .stop) (.alt 7 (.one 4 (.one 8 (.alt 10 .fin .stop))) .stop))) (.alt 4 (.alt 2 (.one 6 (.alt 7 (.one 8 (.alt 10 .fin .stop)) .stop)) (.alt 6 (.alt 2 (.alt 7 (.one 8 (.alt 10 .fin .stop)) .stop) .stop) .stop)) (.alt 6 (.alt 2 (.alt 4 (.alt 7 (.one 8 (.alt 10 .fin .stop)) .stop) (.alt 7 (.one 4 (.one 8 (.alt 10 .fin .stop))) .stop)) (.alt 4 (.alt 2 (.alt 7 (.one 8 (.alt 10 .fin .stop)) .stop) .stop) .stop)) .stop))) .stop))) (.alt 5 (.alt 2 (.one 6 (.alt 3 (.alt 4 (.alt 7 (.one 8 (.alt 10 .fin .stop)) .stop) (.alt 7 (.one 4 (.one 8 (.alt 10 .fin .stop))) .stop)) (.alt 7 (.one 3 (.one 4 (.one 8 (.alt 10 .fin .stop)))) .stop))) (.alt 3 (.alt 2 (.one 6 (.alt 4 (.alt 7 (.one 8 (.alt 10 .fin .stop)) .stop) (.alt 7 (.one 4 (.one 8 (.alt 10 .fin .stop))) .stop))) (.alt 4 (.alt 2 (.one 6 (.alt 7 (.one 8 (.alt 10 .fin .stop)) .stop)) (.alt 6 (.alt 2 (.alt 7 (.one 8 (.alt 10 .fin .stop)) .stop) .stop) .stop)) (.alt 6 (.alt 2 (.alt 4 (.alt 7 (.one 8 (.alt 10 .fin .stop)) .stop) (.alt 7 (.one 4 (.one 8 (.alt 10 .fin .stop))) .stop)) (.alt 4 (.alt 2 (.alt 7 (.one 8 (.alt 10 .fin .stop)) .stop) .stop) .stop)) .stop))) (.alt 6 (.alt 2 (.alt 3 (.alt 4 (.alt 7 (.one 8 (.alt 10 .fin .stop)) .stop) (.alt 7 (.one 4 (.one 8 (.alt 10 .fin .stop))) .stop)) (.alt 7 (.one 3 (.one 4 (.one 8 (.alt 10 .fin .stop)))) .stop)) (.alt 3 (.alt 2 (.alt 4 (.alt 7 (.one 8 (.alt 10 .fin .stop)) .stop) (.alt 7 (.one 4 (.one 8 (.alt 10 .fin .stop))) .stop)) (.alt 4 (.alt 2 (.alt 7 (.one 8 (.alt 10 .fin .stop)) .stop) .stop) .stop)) .stop)) .stop))) .stop))) .stop)))))) ⟨[(2, .bptr 0 0), (3, .bptr 1 0), (4, .bptr 2 0), (5, .bptr 5 0)], [(0, .bx [.l1 o, .int m, .l3 w]), (1, .bx [.l1 o', .int m, .l3 w']), (2, .bx [.nil, .int 0, .nil]), (3, .t1 o), (4, .t3 (wrC n f g 0 0 0)), (5, .bx [.ref 3 [], .int m, .ref 4 []])]⟩ (xO_ hcx) mixed (by kernel_rfl) (fun K hK => ?_) ?_
 ·simp only [go_sem, seval, Option.getD_some, and_true, true_and, and_self, List.contains_cons, List.contains_nil, Bool.or_false, Bool.or_true]
  repeat' (first | (refine hK _ (xr_ [] ?_ ?_); (focus (simp only [YO_, rnL, rn, rns, sw, xs_, St.get, xg_, List.map_cons, List.map_nil, seval, AV.int.injEq, AV.bool.injEq, AV.l1.injEq, AV.l2.injEq, AV.l3.injEq, true_and, and_true]; done)); (focus (simp only [zf_, YY_, YP_, rnH, rnT, rn, rns, sw, List.map_cons, List.map_nil, seval]; done))) | (refine hK _ (xr_ [(3, 4)] ?_ ?_); (focus (simp only [YO_, rnL, rn, rns, sw, xs_, St.get, xg_, List.map_cons, List.map_nil, seval, AV.int.injEq, AV.bool.injEq, AV.l1.injEq, AV.l2.injEq, AV.l3.injEq, true_and, and_true]; done)); (focus (simp only [zf_, YY_, YP_, rnH, rnT, rn, rns, sw, List.map_cons, List.map_nil, seval]; done))) | (refine hK _ (xr_ [(3, 5)] ?_ ?_); (focus (simp only [YO_, rnL, rn, rns, sw, xs_, St.get, xg_, List.map_cons, List.map_nil, seval, AV.int.injEq, AV.bool.injEq, AV.l1.injEq, AV.l2.injEq, AV.l3.injEq, true_and, and_true]; done)); (focus (simp only [zf_, YY_, YP_, rnH, rnT, rn, rns, sw, List.map_cons, List.map_nil, seval]; done))) | (refine hK _ (xr_ [(4, 5)] ?_ ?_); (focus (simp only [YO_, rnL, rn, rns, sw, xs_, St.get, xg_, List.map_cons, List.map_nil, seval, AV.int.injEq, AV.bool.injEq, AV.l1.injEq, AV.l2.injEq, AV.l3.injEq, true_and, and_true]; done)); (focus (simp only [zf_, YY_, YP_, rnH, rnT, rn, rns, sw, List.map_cons, List.map_nil, seval]; done))) | (refine hK _ (xr_ [(3, 4), (4, 5)] ?_ ?_); (focus (simp only [YO_, rnL, rn, rns, sw, xs_, St.get, xg_, List.map_cons, List.map_nil, seval, AV.int.injEq, AV.bool.injEq, AV.l1.injEq, AV.l2.injEq, AV.l3.injEq, true_and, and_true]; done)); (focus (simp only [zf_, YY_, YP_, rnH, rnT, rn, rns, sw, List.map_cons, List.map_nil, seval]; done))) | (refine hK _ (xr_ [(4, 5), (3, 4)] ?_ ?_); (focus (simp only [YO_, rnL, rn, rns, sw, xs_, St.get, xg_, List.map_cons, List.map_nil, seval, AV.int.injEq, AV.bool.injEq, AV.l1.injEq, AV.l2.injEq, AV.l3.injEq, true_and, and_true]; done)); (focus (simp only [zf_, YY_, YP_, rnH, rnT, rn, rns, sw, List.map_cons, List.map_nil, seval]; done))) | with_reducible refine And.intro ?_ ?_ | omega | (refine xq_ rfl (k1) rfl ?_; simp only [go_sem, seval, Option.getD_some, and_true, true_and, and_self, List.contains_cons, List.contains_nil, Bool.or_false, Bool.or_true]) | (refine xq_ rfl (k3) rfl ?_; simp only [go_sem, seval, Option.getD_some, and_true, true_and, and_self, List.contains_cons, List.contains_nil, Bool.or_false, Bool.or_true]))
 refine gB ?_
 (repeat refine xb_ ?_); refine gLp (fun i : Nat => ⟨[(2, .bptr 0 0), (3, .bptr 1 0), (4, .bptr 2 0), (5, .bptr 5 0), (6, .int i)], [(0, .bx [.l1 o, .int m, .l3 w]), (1, .bx [.l1 o', .int m, .l3 w']), (2, .bx [.nil, .int 0, .nil]), (3, .t1 o), (4, .t3 (wrC n f g i 0 0)), (5, .bx [.ref 3 [], .int m, .ref 4 []])]⟩) n fun i hi => ?_
 have l1 := wr_ (n := n) (f := f) (g := g) (i := i) (j := 0) (k := 0)
 refine gC fun K hK => ?_
 simp only [l1]
 refine gU ?_
 refine hK _ ?_; clear hK K
 refine gI (fun hi2 => ?_) fun hi2 => ?_
 ·have mi := hc.mat (show i < n by omega)
  have mi' := h'.mat (show i < n by omega)
  refine xe_ ?_
  refine gO ?_
  refine gB ?_
  (repeat refine xb_ ?_); refine gLp (fun j : Nat => ⟨[(2, .bptr 0 0), (3, .bptr 1 0), (4, .bptr 2 0), (5, .bptr 5 0), (6, .int i), (7, .int j)], [(0, .bx [.l1 o, .int m, .l3 w]), (1, .bx [.l1 o', .int m, .l3 w']), (2, .bx [.nil, .int 0, .nil]), (3, .t1 o), (4, .t3 (wrC n f g i j 0)), (5, .bx [.ref 3 [], .int m, .ref 4 []])]⟩) n fun j hj => ?_
  have l2 := wr_ (n := n) (f := f) (g := g) (i := i) (j := j) (k := 0)
  refine gC fun K hK => ?_
  simp only [l2]
  refine gU ?_
  refine hK _ ?_; clear hK K
  refine gI (fun hj2 => ?_) fun hj2 => ?_
  ·have rj := hc.row (show i < n by omega) (show j < n by omega)
   have rj' := h'.row (show i < n by omega) (show j < n by omega)
   refine xe_ ?_
   refine gO ?_
   refine gB ?_
   (repeat refine xb_ ?_); refine gLp (fun k : Nat => ⟨[(2, .bptr 0 0), (3, .bptr 1 0), (4, .bptr 2 0), (5, .bptr 5 0), (6, .int i), (7, .int j), (8, .int k)], [(0, .bx [.l1 o, .int m, .l3 w]), (1, .bx [.l1 o', .int m, .l3 w']), (2, .bx [.nil, .int 0, .nil]), (3, .t1 o), (4, .t3 (wrC n f g i j k)), (5, .bx [.ref 3 [], .int m, .ref 4 []])]⟩) n fun k hk => ?_
   have l3 := wr_ (n := n) (f := f) (g := g) (i := i) (j := j) (k := k)
   refine gC fun K hK => ?_
   simp only [l3]
   refine gU ?_
   refine hK _ ?_; clear hK K
   refine gI (fun hk2 => ?_) fun hk2 => ?_
   ·have l4 := Zm_ (n := n) (f := f) (g := g) (i := i) (j := j) (k := k) (x := i) (by omega)
    have l5 := Zn_ (n := n) (f := f) (g := g) (i := i) (j := j) (k := k) (x := i) (y := j) (by omega) (by omega)
    have v1 := hc.bd (show i < n by omega) (show j < n by omega) (show k < n by omega)
    have v2 := h'.bd (show i < n by omega) (show j < n by omega) (show k < n by omega)
    have ev : (e3 w i j k + e3 w' i j k).tmod m = f i j k := by rw [ef]; exact Int.tmod_eq_emod_of_nonneg (by omega)
    have bt : -m < (e3 w i j k + e3 w' i j k).tmod m := by rw [Int.tmod_eq_emod_of_nonneg (by omega)]; have := Int.emod_nonneg (e3 w i j k + e3 w' i j k) (show m ≠ 0 by omega); omega
    have bt2 : (e3 w i j k + e3 w' i j k).tmod m < m := Int.tmod_lt_of_pos _ (by omega)
    have sk := Xs_ (n := n) (f := f) (g := g) (i := i) (j := j) (k := k) (by omega) (by omega)
    simp only [e3] at v1 v2 ev bt bt2
    refine xe_ ?_
    refine gO ?_
    have mi := hc.mat (show i < n by omega)
    (repeat refine xb_ ?_); refine xI_ (xO_ hcx) mixed (by kernel_rfl) fun K hK => ?_; simp only [go_sem, seval, l3, l4, l5, mi, rj, mi', rj', ev, sk]
    refine gU ?_
    refine hK _ ?_; clear hK K
    refine gB ?_
    refine ⟨k + 1,  by omega, by omega, .inl ⟨gH,  rfl⟩⟩
   ·obtain rfl : k = n := by omega
    rw [Xt_]
    refine xh_ (x9_ ?_)
    refine gB ?_
    refine ⟨j + 1,  by omega, by omega, .inl ⟨gH,  rfl⟩⟩
  ·obtain rfl : j = n := by omega
   rw [Xu_]
   refine xh_ (x9_ ?_)
   refine gB ?_
   refine ⟨i + 1,  by omega, by omega, .inl ⟨gH,  rfl⟩⟩
 ·obtain rfl : i = n := by omega
  rw [Yj_]
  refine xh_ (x9_ ?_)
  refine gB ?_
  exact xf_ (RI_ (v := .agg [.ref 3 [], .int m, .ref 4 []]) (by simp only [go_sem, seval]) rfl (by simp))
end Go.Proofs.YtjbdiekkjegckaaGreat
namespace Go.Proofs.YtjbdiekkjegckaaGreat
open Go Go.Aw Go.Pl
def mxm (m : Int) : Int := if 1 ≤ m then m else 1
def w3_ (m : Int) (x : Nat) : Nat → Src → List Int × Src
 | 0, s => ([], s)
 | k + 1, s => if x = 0 ∨ k = 0 then ((w3_ m x k s).1 ++ [0], (w3_ m x k s).2) else ((w3_ m x k s).1 ++ [(nx (w3_ m x k s).2 (mxm m)).1], (nx (w3_ m x k s).2 (mxm m)).2)
def wn_ (n : Nat) (m : Int) : Nat → Src → List (List Int) × Src
 | 0, s => ([], s)
 | i + 1, s => ((wn_ n m i s).1 ++ [(w3_ m i n (wn_ n m i s).2).1], (w3_ m i n (wn_ n m i s).2).2)
theorem wl_ {α : Type} {l : List α} {a d : α} {k : Nat} : (l ++ [a]).getD k d = if k < l.length then l.getD k d else if k = l.length then a else d := by
 rw [List.getD_eq_getElem?_getD, List.getElem?_append]
 by_cases c : k < l.length
 ·rw [if_pos c, if_pos c, List.getD_eq_getElem?_getD]
 ·rw [if_neg c, if_neg c]
  by_cases e : k = l.length
  ·subst e; simp
  ·rw [if_neg e, List.getElem?_eq_none (by simp; omega)]; rfl
theorem aj7 (m : Int) : 1 ≤ mxm m := by unfold mxm; split <;> omega
theorem Yi_ {m : Int} {x : Nat} {s : Src} (hs : s.Ok) : ∀ k, (w3_ m x k s).2.Ok ∧ (w3_ m x k s).1.length = k ∧ (∀ j, j < k → 0 ≤ (w3_ m x k s).1.getD j 0 ∧ (w3_ m x k s).1.getD j 0 < mxm m) ∧ (1 ≤ k → (w3_ m x k s).1.getD 0 0 = 0) ∧ (x = 0 → ∀ j, (w3_ m x k s).1.getD j 0 = 0)
 | 0 => ⟨hs, rfl, fun j hj => absurd hj (Nat.not_lt_zero j), fun h => absurd h (by decide), fun _ j => rfl⟩
 | k + 1 => by
  obtain ⟨h1, h2, h3, h4, h5⟩ := Yi_ hs k
  have hm := aj7 m
  rw [w3_]
  by_cases c : x = 0 ∨ k = 0
  ·rw [if_pos c]
   refine ⟨h1, by rw [List.length_append, h2]; rfl, fun j hj => ?_, fun _ => ?_, fun hx j => ?_⟩
   ·rw [wl_, h2]
    by_cases c1 : j < k
    ·rw [if_pos c1]; exact h3 j c1
    ·rw [if_neg c1, if_pos (by omega)]; exact ⟨Int.le_refl _, by omega⟩
   ·rw [wl_, h2]
    by_cases c1 : 0 < k
    ·rw [if_pos c1]; exact h4 c1
    ·rw [if_neg c1]; split <;> rfl
   ·rw [wl_, h2]
    by_cases c1 : j < k
    ·rw [if_pos c1]; exact h5 hx j
    ·rw [if_neg c1]; split <;> rfl
  ·rw [if_neg c]
   have hb := yO_ (w3_ m x k s).2 hm
   refine ⟨yp_ h1 _, by rw [List.length_append, h2]; rfl, fun j hj => ?_, fun _ => ?_, fun hx => absurd (.inl hx) c⟩
   ·rw [wl_, h2]
    by_cases c1 : j < k
    ·rw [if_pos c1]; exact h3 j c1
    ·rw [if_neg c1, if_pos (by omega)]; exact hb
   ·rw [wl_, h2, if_pos (by omega)]; exact h4 (by omega)
theorem ze_ {n : Nat} {m : Int} {s : Src} (hs : s.Ok) : ∀ i, (wn_ n m i s).2.Ok ∧ (wn_ n m i s).1.length = i ∧ (∀ x, x < i → ((wn_ n m i s).1.getD x []).length = n ∧ (∀ y, y < n → 0 ≤ e2 (wn_ n m i s).1 x y ∧ e2 (wn_ n m i s).1 x y < mxm m) ∧ (1 ≤ n → e2 (wn_ n m i s).1 x 0 = 0) ∧ (x = 0 → ∀ y, e2 (wn_ n m i s).1 x y = 0))
 | 0 => ⟨hs, rfl, fun j hj => absurd hj (Nat.not_lt_zero j)⟩
 | i + 1 => by
  obtain ⟨h1, h2, h3⟩ := ze_ hs i
  obtain ⟨r1, r2, r3, r4, r5⟩ := Yi_ (m := m) (x := i) h1 n
  rw [wn_]
  refine ⟨r1, by rw [List.length_append, h2]; rfl, fun x hx => ?_⟩
  unfold e2
  dsimp only
  rw [wl_, h2]
  by_cases c1 : x < i
  ·rw [if_pos c1]; exact h3 x c1
  ·rw [if_neg c1, if_pos (by omega)]
   refine ⟨r2, r3, r4, fun hx0 => r5 (by omega)⟩
theorem w4_ {n : Nat} {m : Int} {s : Src} (hs : s.Ok) (m1 : 1 ≤ m) : wq_ n m (wn_ n m n s).1 := by
 obtain ⟨h1, h2, h3⟩ := ze_ (n := n) (m := m) hs n
 have em : mxm m = m := if_pos m1
 refine ⟨⟨h2, fun j hj => ⟨(h3 j hj).1, fun k hk => ?_⟩⟩, fun x hx => ⟨(h3 0 (by omega)).2.2.2 rfl x, (h3 x hx).2.2.1 (by omega)⟩⟩
 have := (h3 j hj).2.1 k hk
 rw [em] at this
 unfold e2 at this
 omega
set_option maxHeartbeats 4000000 in
theorem zu_ (s : Src) (hs : s.Ok) (n : Nat) (m : Int) (n8 : n ≤ 8) (m2 : m ≤ 2000) : OwnCall Tryz.prog 80 [.bptr 0 0, .int n, .int m] [(0, xv_ s)] [(0, xv_ (wn_ n m n s).2), (1, .t2 (wn_ n m n s).1)] (.ref 1 []) [0] := by
 have hm := aj7 m
 have hm2 : mxm m ≤ 2000 := by unfold mxm; split <;> omega
 have eMx : (if 1 < m then m else 1) = mxm m := by unfold mxm; split <;> split <;> omega
 have eMx2 : (if m > 1 then m else 1) = mxm m := eMx
 obtain ⟨P, eP⟩ : ∃ P : Nat → List (List Int) × Src, P = fun i => wn_ n m i s := ⟨_, rfl⟩
 have hP : ∀ i, P i = wn_ n m i s := fun i => by rw [eP]
 have hP0 : P 0 = ([], s) := by rw [eP]; rfl
 rw [← hP]
 refine OwnCall.intro (n := 44) (rs := [.tmp 6]) 3 [0, 1, 2] (X := [0]) Tryz.call80 Tryz.func80 rfl rfl rfl (by simp only [List.length_cons, List.length_nil]; omega) (by simp [Aw.ids, x3_, xQ_, xl_, xg_]) (fun cx hcx => AT.weakG (x2_ ?_)); refine gE ?_
 refine gBN ?_
 refine gBN ?_
 refine gBN ?_
 (repeat refine xb_ ?_); refine AT.ghost (st' := ⟨[(0, .bptr 0 0), (1, .int n), (2, .int m), (7, .ref 1 []), (8, .int 0)], [(0, xv_ s), (1, .t2 [])]⟩) (xr_ [] (by simp only [go_sem, seval, AV.int.injEq, AV.bool.injEq, AV.l1.injEq, AV.l2.injEq, AV.l3.injEq]) (by simp only [go_sem, seval])) ?_
 have e1 : xv_ s = xv_ (P 0).2 := by rw [hP0]
 have e2 : Tree.t2 [] = .t2 (P 0).1 := by rw [hP0]
 rw [e1, e2]
 (repeat refine xb_ ?_); refine gLp (fun i : Nat => ⟨[(0, .bptr 0 0), (1, .int n), (2, .int m), (7, .ref 1 []), (8, .int i)], [(0, xv_ (P i).2), (1, .t2 (P i).1)]⟩) n fun i hi => ?_
 refine gBN ?_
 refine gI (fun hc2 => ?_) fun hc2 => ?_
 ·have hi : i < n := by omega
  obtain ⟨ok, li, _⟩ := ze_ (n := n) (m := m) hs i
  have eS : wn_ n m (i + 1) s = ((wn_ n m i s).1 ++ [(w3_ m i n (wn_ n m i s).2).1], (w3_ m i n (wn_ n m i s).2).2) := rfl
  rw [← hP] at ok li
  rw [← hP, ← hP] at eS
  obtain ⟨q, eq⟩ : ∃ q, P i = q := ⟨_, rfl⟩
  rw [eq] at ok li eS ⊢
  obtain ⟨R, eR0⟩ : ∃ R : Nat → List Int × Src, R = fun j => w3_ m i j q.2 := ⟨_, rfl⟩
  have hR : ∀ j, R j = w3_ m i j q.2 := fun j => by rw [eR0]
  have hR0 : R 0 = ([], q.2) := by rw [eR0]; rfl
  rw [← hR] at eS
  refine xe_ ?_
  refine gO ?_
  refine gBN ?_
  refine gBN ?_
  (repeat refine xb_ ?_); refine AT.ghost (st' := ⟨[(0, .bptr 0 0), (1, .int n), (2, .int m), (7, .ref 1 []), (8, .int i), (9, .ref 2 []), (10, .int 0)], [(0, xv_ q.2), (1, .t2 q.1), (2, .t1 [])]⟩) (xr_ [] (by simp only [go_sem, seval, AV.int.injEq, AV.bool.injEq, AV.l1.injEq, AV.l2.injEq, AV.l3.injEq]) (by simp only [go_sem, seval])) ?_
  have e3 : xv_ q.2 = xv_ (R 0).2 := by rw [hR0]
  have e4 : Tree.t1 [] = .t1 (R 0).1 := by rw [hR0]
  rw [e3, e4]
  (repeat refine xb_ ?_); refine gLp (fun j : Nat => ⟨[(0, .bptr 0 0), (1, .int n), (2, .int m), (7, .ref 1 []), (8, .int i), (9, .ref 2 []), (10, .int j)], [(0, xv_ (R j).2), (1, .t2 q.1), (2, .t1 (R j).1)]⟩) n fun j hj => ?_
  refine gBN ?_
  refine gI (fun hc4 => ?_) fun hc4 => ?_
  ·have hj : j < n := by omega
   obtain ⟨ok2, lj, _⟩ := Yi_ (m := m) (x := i) ok j
   have eR : w3_ m i (j + 1) q.2 = if i = 0 ∨ j = 0 then ((w3_ m i j q.2).1 ++ [0], (w3_ m i j q.2).2) else ((w3_ m i j q.2).1 ++ [(nx (w3_ m i j q.2).2 (mxm m)).1], (nx (w3_ m i j q.2).2 (mxm m)).2) := rfl
   rw [← hR] at ok2 lj
   rw [← hR, ← hR] at eR
   obtain ⟨r, er⟩ : ∃ r, R j = r := ⟨_, rfl⟩
   rw [er] at ok2 lj eR ⊢
   have hN := xW_ r.2 ok2 (mxm m) (by omega)
   have bN := yO_ r.2 hm
   obtain ⟨t, et⟩ : ∃ t, nx r.2 (mxm m) = t := ⟨_, rfl⟩
   rw [et] at hN bN eR
   refine xe_ ?_
   refine gO ?_
   refine gBN ?_
   by_cases c : i = 0 ∨ j = 0
   ·rw [if_pos c] at eR
    refine gI (fun hc5 => ?_) fun hc5 => ?_
    ·refine gBN ?_
     refine gBN ?_
     refine ⟨j + 1, by omega, by omega, .inr ⟨[3], gK0, aG3 ?_⟩⟩; rw [eR]
    ·simp at hc5
     omega
   ·rw [if_neg c] at eR
    refine gI (fun hc5 => ?_) fun hc5 => ?_
    ·simp at hc5
     omega
    ·refine gCN fun K hK => ?_
     simp only [eMx, eMx2]
     refine gU ?_
     refine xp_ (hN) rfl rfl ?_; simp only [go_sem, seval]
     refine gU ?_
     refine hK _ ?_; clear hK K
     refine gBN ?_
     refine ⟨j + 1, by omega, by omega, .inr ⟨[3], gK0, aG3 ?_⟩⟩; rw [eR]
  ·obtain rfl : j = n := by omega
   refine xh_ (x9_ ?_)
   refine gBN ?_
   refine gBN ?_
   refine ⟨i + 1,  by omega, by omega, .inl ⟨gH,  by rw [eS]⟩⟩
 ·obtain rfl : i = n := by omega
  refine xh_ (x9_ ?_)
  refine gBN ?_
  refine xf_ ⟨⟨[(0, .bptr 0 0), (1, .int i), (2, .int m), (6, .ref 1 [])], [(0, xv_ (P i).2), (1, .t2 (P i).1)]⟩, xm_ [] [], .inr rfl, (by first | rfl | exact ⟨trivial, rfl⟩ | (simp only [y1_, zZ_, go_sem, seval]; done)), (by simp [St.get, xg_, xl_]), rfl⟩
end Go.Proofs.YtjbdiekkjegckaaGreat
