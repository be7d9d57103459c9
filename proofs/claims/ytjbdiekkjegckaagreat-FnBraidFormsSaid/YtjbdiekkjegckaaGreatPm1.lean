import Derived.Test.YtjbdiekkjegckaaGreatQd7
import Derived.Test.YtjbdiekkjegckaaGreatVx1
set_option linter.unusedSimpArgs false
set_option linter.unusedVariables false
namespace Go.Pl
open Go.Aw
def cbR (o : List Int) (f : List (List Int)) (x y z : Nat) : Int := e2 f y z - e2 f (ad o x y) z + e2 f x (ad o y z) - e2 f x y
def cbV (o : List Int) (m : Int) (f : List (List Int)) (x y z : Nat) : Int := cbR o f x y z % m
def Xl_ (o : List Int) (m : Int) (n : Nat) (f : List (List Int)) : List (List (List Int)) := z5_ n (cbV o m f)
theorem zt_ {o : List Int} {m : Int} {n : Nat} {f : List (List Int)} : (Xl_ o m n f).length = n := xL_ ..
theorem zd_ {o : List Int} {m : Int} {n : Nat} {f : List (List Int)} {x y z : Nat} (hx : x < n) (hy : y < n) (hz : z < n) : e3 (Xl_ o m n f) x y z = cbV o m f x y z := by
 unfold e3 Xl_
 rw [wv_ hx, yK_ hy, y4_ hz]
theorem YR_ {n : Nat} {m : Int} {F : Nat → Nat → Nat → Int} (h : ∀ x, x < n → ∀ y, y < n → ∀ z, z < n → 0 ≤ F x y z ∧ F x y z ≤ m - 1) : CubB n m (z5_ n F) := by
 refine ⟨xL_ .., fun i hi => ⟨TJ_ hi, fun j hj => ⟨TK_ hi hj, fun k hk => ?_⟩⟩⟩
 rw [wv_ hi, yK_ hj, y4_ hk]
 exact h i hi j hj k hk
theorem T6_ {o : List Int} {m : Int} {n : Nat} {f : List (List Int)} (m1 : 1 ≤ m) : CubB n m (Xl_ o m n f) :=
 YR_ fun x _ y _ z _ => by
  unfold cbV
  have h1 := Int.emod_nonneg (cbR o f x y z) (show m ≠ 0 by omega)
  have h2 := Int.emod_lt_of_pos (cbR o f x y z) (show 0 < m by omega)
  exact ⟨h1, by omega⟩
theorem ai5 {o : List Int} {m : Int} {n : Nat} {f : List (List Int)} (hp : PosO o) (h8 : xA_ o ≤ 8) (m1 : 1 ≤ m) (m2 : m ≤ 1000) (hn : (n : Int) = xA_ o) : CocS o m (Xl_ o m n f) :=
 ⟨hp, h8, m1, m2, by rw [zt_]; exact hn, by rw [zt_]; exact T6_ m1⟩
theorem nO {o : List Int} {n : Nat} (hn : (n : Int) = xA_ o) : (xA_ o).toNat = n := by omega
theorem af2 {o : List Int} {m : Int} {n : Nat} {f : List (List Int)} (hp : PosO o) (hn : (n : Int) = xA_ o) (hf : wq_ n m f) : Sx_ (Xl_ o m n f) := by
 have g := hp.grp
 rw [nO hn] at g
 intro i hi j hj
 rw [zt_] at hi hj
 have n0 : 0 < n := by omega
 rw [zd_ n0 hi hj, zd_ hi n0 hj, zd_ hi hj n0]
 unfold cbV cbR
 have a1 := hf.2 i hi
 have a2 := hf.2 j hj
 have a3 := hf.2 _ (g.lt i hi j hj)
 rw [g.zl i hi, g.zl j hj, g.zr i hi, g.zr j hj]
 refine ⟨?_, ?_, ?_⟩
 ·rw [a3.1, a1.1, show e2 f i j - e2 f i j + 0 - 0 = 0 by omega, Int.zero_emod]
 ·rw [a2.1, a1.2, show 0 - e2 f i j + e2 f i j - 0 = 0 by omega, Int.zero_emod]
 ·rw [a2.2, a3.2, show 0 - 0 + e2 f i j - e2 f i j = 0 by omega, Int.zero_emod]
theorem be5 {a b c d e m : Int} (h : a - b + c - d + e = 0) : (a % m - b % m + c % m - d % m + e % m) % m = 0 := by
 rw [Int.add_emod, Int.emod_emod, ← Int.add_emod]
 have key : ∀ {u v : Int}, u % m = v % m → ∀ w, (u + w) % m = (v + w) % m := fun h w => by rw [Int.add_emod, h, ← Int.add_emod]
 have h1 : (a % m) % m = a % m := Int.emod_emod ..
 have h2 : (a % m - b % m) % m = (a - b) % m := by rw [← Int.sub_emod]
 have h3 : (a % m - b % m + c % m) % m = (a - b + c) % m := by rw [Int.add_emod, h2, Int.emod_emod, ← Int.add_emod]
 have h4 : (a % m - b % m + c % m - d % m) % m = (a - b + c - d) % m := by rw [Int.sub_emod, h3, Int.emod_emod, ← Int.sub_emod]
 rw [Int.add_emod, h4, ← Int.add_emod, h, Int.zero_emod]
theorem aE8 {o : List Int} {m : Int} {n : Nat} {f : List (List Int)} (hp : PosO o) (hn : (n : Int) = xA_ o) : cfF o m (Xl_ o m n f) = none := by
 have g := hp.grp
 rw [nO hn] at g
 unfold cfF
 rw [zt_]
 refine xB_ fun x hx => xB_ fun y hy => xB_ fun z hz => xB_ fun t ht => ?_
 have xy := g.lt x hx y hy
 have yz := g.lt y hy z hz
 have zt := g.lt z hz t ht
 unfold cfG
 rw [if_neg]
 intro h
 refine h ?_
 unfold cfV
 rw [zd_ hy hz ht, zd_ xy hz ht, zd_ hx yz ht, zd_ hx hy zt, zd_ hx hy hz]
 unfold cbV
 refine be5 ?_
 unfold cbR
 rw [g.as x hx y hy z hz, g.as y hy z hz t ht]
 omega
theorem aE9 {o : List Int} {m : Int} {n : Nat} {f : List (List Int)} (hp : PosO o) (h8 : xA_ o ≤ 8) (m1 : 1 ≤ m) (m2 : m ≤ 1000) (hn : (n : Int) = xA_ o) (hf : wq_ n m f) : wM_ o m (Xl_ o m n f) :=
 ⟨ai5 hp h8 m1 m2 hn, af2 hp hn hf, aE8 hp hn⟩
end Go.Pl
namespace Go.Pl
open Go
def SmP (p : Int) : Prop := p = 2 ∨ p = 3 ∨ p = 5 ∨ p = 7
theorem SmP.two {p : Int} (h : SmP p) : 2 ≤ p ∧ p ≤ 7 := by unfold SmP at h; omega
def ld (l : List Int) : Nat → Int := fun k => l.getD k 0
end Go.Pl
namespace Go.Pl
open Go
end Go.Pl
namespace Go.Pl
open Go Go.Aw
theorem at7 {o : List Int} {p : Int} {f : List (List Int)} (h : 1 ≤ p) (x y z : Nat) : 0 ≤ cbV o p f x y z ∧ cbV o p f x y z < p := ⟨Int.emod_nonneg _ (by omega), Int.emod_lt_of_pos _ (by omega)⟩
end Go.Pl
