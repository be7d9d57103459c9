import Derived.Test.YtjbdiekkjegckaaGreatPm1
set_option linter.unusedSimpArgs false
set_option linter.unusedVariables false
namespace Go.Pl
open Go.Aw
structure BrP (o : List Int) (m : Int) (n : Nat) (w : List (List (List Int))) (c : List (List Int)) : Prop where
 coc : wM_ o m w
 len : w.length = n
 num : wq_ n m c
 h1 : ∀ x, x < n → ∀ y, y < n → ∀ z, z < n → m ∣ br1 o w c x y z
 h2 : ∀ x, x < n → ∀ y, y < n → ∀ z, z < n → m ∣ br2 o w c x y z
theorem as9 {o : List Int} {m : Int} {w : List (List (List Int))} {c : List (List Int)} : bfF o m w c = none ↔ ∀ x, x < w.length → ∀ y, y < w.length → ∀ z, z < w.length → m ∣ br1 o w c x y z ∧ m ∣ br2 o w c x y z := by
 unfold bfF
 rw [first_none_iff]
 constructor
 ·intro h x hx y hy z hz
  have k := fun q hq => first_none_iff.1 (first_none_iff.1 (first_none_iff.1 (h q hq) x hx) y hy) z hz
  have k0 := k 0 (by omega)
  have k1 := k 1 (by omega)
  unfold bfG at k0 k1
  refine ⟨Int.dvd_of_emod_eq_zero (Classical.byContradiction fun hh => ?_), Int.dvd_of_emod_eq_zero (Classical.byContradiction fun hh => ?_)⟩
  ·rw [if_pos (show brV o w c 0 x y z % m ≠ 0 from hh)] at k0; cases k0
  ·rw [if_pos (show brV o w c 1 x y z % m ≠ 0 from hh)] at k1; cases k1
 ·intro h q hq
  refine xB_ fun x hx => xB_ fun y hy => xB_ fun z hz => ?_
  unfold bfG
  refine if_neg fun hh => hh ?_
  obtain ⟨a, b⟩ := h x hx y hy z hz
  rcases (show q = 0 ∨ q = 1 by omega) with rfl | rfl
  ·exact Int.emod_eq_zero_of_dvd a
  ·exact Int.emod_eq_zero_of_dvd b
theorem isBr_iff {o : List Int} {m : Int} {w : List (List (List Int))} {c : List (List Int)} : Zl_ o m w c = true ↔ BrP o m w.length w c := by
 unfold Zl_
 rw [bd_iff, as9]
 exact ⟨fun h => ⟨h.1.1, rfl, h.1.2, fun x hx y hy z hz => (h.2 x hx y hy z hz).1, fun x hx y hy z hz => (h.2 x hx y hy z hz).2⟩, fun h => ⟨⟨h.coc, h.num⟩, fun x hx y hy z hz => ⟨h.h1 x hx y hy z hz, h.h2 x hx y hy z hz⟩⟩⟩
theorem Ks_ {o : List Int} {m : Int} {w : List (List (List Int))} (h : cfF o m w = none) {x y z t : Nat} (hx : x < w.length) (hy : y < w.length) (hz : z < w.length) (ht : t < w.length) : m ∣ cfV o w x y z t := by
 unfold cfF at h
 have k := first_none_iff.1 (first_none_iff.1 (first_none_iff.1 (first_none_iff.1 h x hx) y hy) z hz) t ht
 unfold cfG at k
 refine Int.dvd_of_emod_eq_zero (Classical.byContradiction fun hh => ?_)
 rw [if_pos hh] at k
 cases k
section
variable {o : List Int} {m : Int} {n : Nat} {w : List (List (List Int))} {c : List (List Int)}
theorem BrP.grp (h : BrP o m n w c) : GrpP n (ad o) (ngO o) := by
 have g := h.coc.1.1.grp
 have := h.coc.1.2.2.2.2.1
 rw [h.len] at this
 rwa [nO this] at g
theorem BrP.com (h : BrP o m n w c) (x y : Nat) : ad o x y = ad o y x := Z6_ h.coc.1.1 x y
theorem BrP.form (h : BrP o m n w c) {x y : Nat} (hx : x < n) (hy : y < n) : m ∣ (e2 c (ad o x y) (ad o x y) - e2 c x x - e2 c y y) - (e2 c x y + e2 c y x) := by
 have g := h.grp
 have hs := g.lt x hx y hy
 have A := h.h2 x hx y hy _ hs
 have B := h.h1 x hx x hx y hy
 have C := h.h1 y hy x hx y hy
 have hl := h.len
 have E := Ks_ h.coc.2.2 (x := x) (y := y) (z := x) (t := y) (by omega) (by omega) (by omega) (by omega)
 unfold br2 at A
 unfold br1 at B C
 unfold cfV at E
 rw [← h.com x y] at E
 generalize ad o x y = s at *
 have e : (e2 c s s - e2 c x x - e2 c y y) - (e2 c x y + e2 c y x) = (e2 c s s - e3 w s x y - e3 w x y s - e2 c x s - e2 c y s + e3 w x s y) + (e3 w x y x + e2 c x s + e3 w x x y - e2 c x y - e3 w x x y - e2 c x x) + (e3 w x y y + e2 c y s + e3 w y x y - e2 c y y - e3 w x y y - e2 c y x) - (e3 w y x y - e3 w s x y + e3 w x s y - e3 w x y s + e3 w x y x) := by omega
 rw [e]
 exact Int.dvd_sub (Int.dvd_add (Int.dvd_add A B) C) E
theorem BrP.lin (h : BrP o m n w c) {x y z : Nat} (hx : x < n) (hy : y < n) (hz : z < n) : m ∣ (e2 c (ad o x y) z + e2 c z (ad o x y)) - (e2 c x z + e2 c z x) - (e2 c y z + e2 c z y) := by
 have A := h.h2 x hx y hy z hz
 have B := h.h1 z hz x hx y hy
 unfold br2 at A
 unfold br1 at B
 generalize ad o x y = s at *
 have e : (e2 c s z + e2 c z s) - (e2 c x z + e2 c z x) - (e2 c y z + e2 c z y) = (e2 c s z - e3 w z x y - e3 w x y z - e2 c x z - e2 c y z + e3 w x z y) + (e3 w x y z + e2 c z s + e3 w z x y - e2 c z y - e3 w x z y - e2 c z x) := by omega
 rw [e]
 exact Int.dvd_add A B
theorem BrP.neg (h : BrP o m n w c) {x u : Nat} (hx : x < n) (hu : u < n) (e0 : ad o x u = 0) : m ∣ e2 c x x - e2 c u u := by
 have A := h.form hx hu
 have B := h.lin hx hu hx
 have z1 := h.num.2 x hx
 have z0 := h.num.2 0 (by omega)
 rw [e0] at A B
 have e : e2 c x x - e2 c u u = (e2 c 0 0 - e2 c x x - e2 c u u - (e2 c x u + e2 c u x)) - (e2 c 0 x + e2 c x 0 - (e2 c x x + e2 c x x) - (e2 c u x + e2 c x u)) := by
  rw [z1.1, z1.2, z0.1]
  omega
 rw [e]
 exact Int.dvd_sub A B
end
theorem VB_ {m a b : Int} (h : m ∣ a - b) : a % m = b % m := sub_zero.1 (Int.emod_eq_zero_of_dvd h)
theorem x6_ {m a : Int} : m ∣ a % m - a := ⟨-(a / m), by have := Int.emod_add_mul_ediv a m; rw [Int.mul_neg]; omega⟩
end Go.Pl
namespace Go.Pl
open Go.Aw
def Z3_ (m : Int) (n : Nat) (f : List (List Int)) : List (List Int) := yW_ n n fun x y => (e2 f y x - e2 f x y) % m
theorem wG_ {m : Int} {n : Nat} {f : List (List Int)} {x y : Nat} (hx : x < n) (hy : y < n) : e2 (Z3_ m n f) x y = (e2 f y x - e2 f x y) % m := Yk_ hx hy
theorem Kt_ {m : Int} {n : Nat} {f : List (List Int)} (m1 : 1 ≤ m) (hf : wq_ n m f) : wq_ n m (Z3_ m n f) := by
 refine ⟨⟨ya_ .., fun j hj => ?_⟩, fun x hx => ?_⟩
 ·unfold Z3_
  rw [yK_ hj]
  refine ⟨xT_ .., fun k hk => ?_⟩
  rw [y4_ hk]
  have := Int.emod_nonneg (e2 f k j - e2 f j k) (show m ≠ 0 by omega)
  have := Int.emod_lt_of_pos (e2 f k j - e2 f j k) (show 0 < m by omega)
  omega
 ·have n0 : 0 < n := by omega
  rw [wG_ n0 hx, wG_ hx n0, (hf.2 x hx).1, (hf.2 x hx).2, Int.sub_self, Int.zero_emod]
  exact ⟨rfl, rfl⟩
theorem av4 {m a b c d e f a' b' c' d' e' f' : Int} (ha : m ∣ a' - a) (hb : m ∣ b' - b) (hc : m ∣ c' - c) (hd : m ∣ d' - d) (he : m ∣ e' - e) (hf : m ∣ f' - f) (h : m ∣ a + b + c - d - e - f) : m ∣ a' + b' + c' - d' - e' - f' := by
 have e1 : a' + b' + c' - d' - e' - f' = (a + b + c - d - e - f) + (a' - a) + (b' - b) + (c' - c) - (d' - d) - (e' - e) - (f' - f) := by omega
 rw [e1]
 exact Int.dvd_sub (Int.dvd_sub (Int.dvd_sub (Int.dvd_add (Int.dvd_add (Int.dvd_add h ha) hb) hc) hd) he) hf
theorem aE4 {o : List Int} {m : Int} {n : Nat} {f : List (List Int)} (hp : PosO o) (h8 : xA_ o ≤ 8) (m1 : 1 ≤ m) (m2 : m ≤ 1000) (hn : (n : Int) = xA_ o) (hf : wq_ n m f) : BrP o m n (Xl_ o m n f) (Z3_ m n f) := by
 have g := hp.grp
 rw [nO hn] at g
 refine ⟨aE9 hp h8 m1 m2 hn hf, zt_, Kt_ m1 hf, fun x hx y hy z hz => ?_, fun x hx y hy z hz => ?_⟩
 ·have yz := g.lt y hy z hz
  unfold br1
  rw [zd_ hy hz hx, zd_ hx hy hz, zd_ hy hx hz, wG_ hx yz, wG_ hx hz, wG_ hx hy]
  unfold cbV
  have e : ∀ a b c d e f : Int, a + b + c - d - e - f = a + b + c - d - e - f := fun _ _ _ _ _ _ => rfl
  refine av4 x6_ x6_ x6_ x6_ x6_ x6_ ?_
  unfold cbR
  rw [Z6_ hp z x, Z6_ hp y x]
  refine ⟨0, ?_⟩
  rw [Int.mul_zero]
  omega
 ·have xy := g.lt x hx y hy
  unfold br2
  rw [zd_ hz hx hy, zd_ hx hy hz, zd_ hx hz hy, wG_ xy hz, wG_ hx hz, wG_ hy hz]
  unfold cbV
  have key : ∀ a b c d e f : Int, m ∣ a + (0 - b) + (0 - c) - d - e - (0 - f) → m ∣ a - b - c - d - e + f := fun a b c d e f h => by
   have : a - b - c - d - e + f = a + (0 - b) + (0 - c) - d - e - (0 - f) := by omega
   rw [this]; exact h
  refine key _ _ _ _ _ _ ?_
  have dn : ∀ a : Int, m ∣ (0 - a % m) - (0 - a) := fun a => by
   have e : (0 - a % m) - (0 - a) = -(a % m - a) := by omega
   rw [e]
   exact (Int.dvd_neg).2 x6_
  refine av4 x6_ (dn _) (dn _) x6_ x6_ (dn _) ?_
  unfold cbR
  rw [Z6_ hp z x, Z6_ hp z y]
  refine ⟨0, ?_⟩
  rw [Int.mul_zero]
  omega
theorem wH_ {m : Int} {n : Nat} {c d : List (List Int)} {x y : Nat} (hx : x < n) (hy : y < n) : e2 (Wd_ m n c d) x y = (e2 c x y + e2 d x y) % m := Yk_ hx hy
theorem zc_ {m : Int} {n : Nat} {v w : List (List (List Int))} {x y z : Nat} (hx : x < n) (hy : y < n) (hz : z < n) : e3 (sumW m n v w) x y z = (e3 v x y z + e3 w x y z) % m := by
 unfold sumW e3
 rw [wv_ hx, yK_ hy, y4_ hz]
theorem bf5 {m a b c d e a' b' c' d' e' : Int} (ha : m ∣ a' - a) (hb : m ∣ b' - b) (hc : m ∣ c' - c) (hd : m ∣ d' - d) (he : m ∣ e' - e) (h : m ∣ a - b + c - d + e) : m ∣ a' - b' + c' - d' + e' := by
 have e1 : a' - b' + c' - d' + e' = (a - b + c - d + e) + (a' - a) - (b' - b) + (c' - c) - (d' - d) + (e' - e) := by omega
 rw [e1]
 exact Int.dvd_add (Int.dvd_sub (Int.dvd_add (Int.dvd_sub (Int.dvd_add h ha) hb) hc) hd) he
theorem at1 {o : List Int} {m : Int} {n : Nat} {v w : List (List (List Int))} (hv : wM_ o m v) (hw : wM_ o m w) (lv : v.length = n) (lw : w.length = n) : wM_ o m (sumW m n v w) := by
 obtain ⟨⟨p1, p2, m1, m2, p5, p6⟩, nv, cv⟩ := hv
 obtain ⟨⟨_, _, _, _, _, q6⟩, nw, cw⟩ := hw
 have ls : (sumW m n v w).length = n := xL_ ..
 have g := p1.grp
 rw [lv] at p5
 rw [nO p5] at g
 refine ⟨⟨p1, p2, m1, m2, by rw [ls]; exact p5, ?_⟩, ?_, ?_⟩
 ·rw [ls]
  unfold sumW
  refine YR_ fun x _ y _ z _ => ?_
  have := Int.emod_nonneg (e3 v x y z + e3 w x y z) (show m ≠ 0 by omega)
  have := Int.emod_lt_of_pos (e3 v x y z + e3 w x y z) (show 0 < m by omega)
  omega
 ·intro i hi j hj
  rw [ls] at hi hj
  have n0 : 0 < n := by omega
  have a := nv i (by omega) j (by omega)
  have b := nw i (by omega) j (by omega)
  rw [zc_ n0 hi hj, zc_ hi n0 hj, zc_ hi hj n0, a.1, a.2.1, a.2.2, b.1, b.2.1, b.2.2]
  refine ⟨?_, ?_, ?_⟩ <;> rw [Int.zero_add, Int.zero_emod]
 ·unfold cfF
  rw [ls]
  refine xB_ fun x hx => xB_ fun y hy => xB_ fun z hz => xB_ fun t ht => ?_
  unfold cfG
  refine if_neg fun h => h (Int.emod_eq_zero_of_dvd ?_)
  have xy := g.lt x hx y hy
  have yz := g.lt y hy z hz
  have zt := g.lt z hz t ht
  have a := Ks_ cv (x := x) (y := y) (z := z) (t := t) (by omega) (by omega) (by omega) (by omega)
  have b := Ks_ cw (x := x) (y := y) (z := z) (t := t) (by omega) (by omega) (by omega) (by omega)
  unfold cfV at a b ⊢
  rw [zc_ hy hz ht, zc_ xy hz ht, zc_ hx yz ht, zc_ hx hy zt, zc_ hx hy hz]
  refine bf5 x6_ x6_ x6_ x6_ x6_ ?_
  have c := Int.dvd_add a b
  have e1 : ∀ a1 a2 a3 a4 a5 b1 b2 b3 b4 b5 : Int, (a1 + b1) - (a2 + b2) + (a3 + b3) - (a4 + b4) + (a5 + b5) = (a1 - a2 + a3 - a4 + a5) + (b1 - b2 + b3 - b4 + b5) := fun _ _ _ _ _ _ _ _ _ _ => by omega
  rw [e1]
  exact c
theorem aE5 {o : List Int} {m : Int} {n : Nat} {v w : List (List (List Int))} {c d : List (List Int)} (hv : BrP o m n v c) (hw : BrP o m n w d) : BrP o m n (sumW m n v w) (Wd_ m n c d) := by
 have m1 := hv.coc.1.2.2.1
 have g := hv.grp
 refine ⟨at1 hv.coc hw.coc hv.len hw.len, xL_ .., ⟨⟨ya_ .., fun j hj => ?_⟩, fun x hx => ?_⟩, fun x hx y hy z hz => ?_, fun x hx y hy z hz => ?_⟩
 ·unfold Wd_
  rw [yK_ hj]
  refine ⟨xT_ .., fun k hk => ?_⟩
  rw [y4_ hk]
  have := Int.emod_nonneg (e2 c j k + e2 d j k) (show m ≠ 0 by omega)
  have := Int.emod_lt_of_pos (e2 c j k + e2 d j k) (show 0 < m by omega)
  omega
 ·have n0 : 0 < n := by omega
  have a := hv.num.2 x hx
  have b := hw.num.2 x hx
  rw [wH_ n0 hx, wH_ hx n0, a.1, a.2, b.1, b.2, Int.zero_add, Int.zero_emod]
  exact ⟨rfl, rfl⟩
 ·have yz := g.lt y hy z hz
  have a := hv.h1 x hx y hy z hz
  have b := hw.h1 x hx y hy z hz
  unfold br1 at a b ⊢
  rw [zc_ hy hz hx, zc_ hx hy hz, zc_ hy hx hz, wH_ hx yz, wH_ hx hz, wH_ hx hy]
  refine av4 x6_ x6_ x6_ x6_ x6_ x6_ ?_
  have e1 : ∀ a1 a2 a3 a4 a5 a6 b1 b2 b3 b4 b5 b6 : Int, (a1 + b1) + (a2 + b2) + (a3 + b3) - (a4 + b4) - (a5 + b5) - (a6 + b6) = (a1 + a2 + a3 - a4 - a5 - a6) + (b1 + b2 + b3 - b4 - b5 - b6) := fun _ _ _ _ _ _ _ _ _ _ _ _ => by omega
  rw [e1]
  exact Int.dvd_add a b
 ·have xy := g.lt x hx y hy
  have a := hv.h2 x hx y hy z hz
  have b := hw.h2 x hx y hy z hz
  unfold br2 at a b ⊢
  rw [zc_ hz hx hy, zc_ hx hy hz, zc_ hx hz hy, wH_ xy hz, wH_ hx hz, wH_ hy hz]
  have key : ∀ a b c d e f : Int, m ∣ a + (0 - b) + (0 - c) - d - e - (0 - f) → m ∣ a - b - c - d - e + f := fun a b c d e f h => by
   have : a - b - c - d - e + f = a + (0 - b) + (0 - c) - d - e - (0 - f) := by omega
   rw [this]; exact h
  refine key _ _ _ _ _ _ ?_
  have dn : ∀ a : Int, m ∣ (0 - a % m) - (0 - a) := fun a => by
   have e : (0 - a % m) - (0 - a) = -(a % m - a) := by omega
   rw [e]
   exact (Int.dvd_neg).2 x6_
  refine av4 x6_ (dn _) (dn _) x6_ x6_ (dn _) ?_
  have e1 : ∀ a1 a2 a3 a4 a5 a6 b1 b2 b3 b4 b5 b6 : Int, (a1 + b1) + (0 - (a2 + b2)) + (0 - (a3 + b3)) - (a4 + b4) - (a5 + b5) - (0 - (a6 + b6)) = (a1 - a2 - a3 - a4 - a5 + a6) + (b1 - b2 - b3 - b4 - b5 + b6) := fun _ _ _ _ _ _ _ _ _ _ _ _ => by omega
  rw [e1]
  exact Int.dvd_add a b
theorem af1 {m : Int} {n : Nat} {c f : List (List Int)} (h : GridB n m c) {x : Nat} (hx : x < n) : e2 (Wd_ m n c (Z3_ m n f)) x x = e2 c x x := by
 rw [wH_ hx hx, wG_ hx hx, Int.sub_self, Int.zero_emod, Int.add_zero]
 have := h.bd hx hx
 exact Int.emod_eq_of_lt this.1 (by omega)
end Go.Pl
namespace Go.Pl
open Go.Aw
def kpc (n y z : Nat) : Int := if n ≤ y + z then 1 else 0
theorem Ku_ {n y z : Nat} : kpc n y z = kpc n z y := by unfold kpc; rw [Nat.add_comm]
theorem Z4_ {n x y : Nat} (hx : x < n) (hy : y < n) : ((ad [(n : Int)] x y : Nat) : Int) = x + y - n * kpc n x y := by
 have hp : PosO [(n : Int)] := ⟨by simp, fun i hi => by
  obtain rfl : i = 0 := by simp at hi; omega
  show 1 ≤ (n : Int)
  omega⟩
 rw [UU_ hp]
 show 0 + ((x : Int) % n + (y : Int) % n) % n * 1 = _
 rw [Int.zero_add, Int.mul_one, Int.emod_eq_of_lt (show (0 : Int) ≤ x by omega) (by omega), Int.emod_eq_of_lt (show (0 : Int) ≤ y by omega) (by omega)]
 unfold kpc
 by_cases h : n ≤ x + y
 ·rw [if_pos h, Int.mul_one]
  have e : ((x : Int) + y) % n = ((x : Int) + y - n) % n := by rw [Int.sub_emod, Int.emod_self, Int.sub_zero, Int.emod_emod]
  rw [e, Int.emod_eq_of_lt (by omega) (by omega)]
 ·rw [if_neg h, Int.mul_zero, Int.sub_zero, Int.emod_eq_of_lt (by omega) (by omega)]
def sdF (n : Nat) (a : Int) (x y z : Nat) : Int := if n ≤ y + z then a * n * x % (2 * n) else 0
def sdW (n : Nat) (a : Int) : List (List (List Int)) := z5_ n (sdF n a)
def sdC (n : Nat) (a : Int) : List (List Int) := yW_ n n fun x y => a * x * y % (2 * n)
theorem z4_ {n : Nat} {a : Int} {x y z : Nat} (hx : x < n) (hy : y < n) (hz : z < n) : e3 (sdW n a) x y z = sdF n a x y z := by
 unfold sdW e3
 rw [wv_ hx, yK_ hy, y4_ hz]
theorem Yd_ {n : Nat} {a : Int} {x y : Nat} (hx : x < n) (hy : y < n) : e2 (sdC n a) x y = a * x * y % (2 * n) := Yk_ hx hy
theorem wI_ (n : Nat) (a : Int) (x y z : Nat) : (2 * (n : Int)) ∣ sdF n a x y z - a * n * x * kpc n y z := by
 unfold sdF kpc
 by_cases h : n ≤ y + z
 ·rw [if_pos h, if_pos h, Int.mul_one]
  exact x6_
 ·rw [if_neg h, if_neg h, Int.mul_zero]
  exact ⟨0, by omega⟩
theorem at6 {n b c d : Nat} (hb : b < n) (hc : c < n) (hd : d < n) : kpc n b c + kpc n (ad [(n : Int)] b c) d = kpc n c d + kpc n b (ad [(n : Int)] c d) := by
 have e1 := Z4_ hb hc
 have e2 := Z4_ hc hd
 unfold kpc at e1 e2 ⊢
 split at e1 <;> split at e2 <;> simp only [Int.mul_one, Int.mul_zero] at e1 e2 <;> split <;> split <;> omega
theorem aH4 {n : Nat} {a : Int} (n1 : 1 ≤ n) (n8 : n ≤ 8) : CocS [(n : Int)] (2 * n) (sdW n a) := by
 have hp : PosO [(n : Int)] := ⟨by simp, fun i hi => by
  obtain rfl : i = 0 := by simp at hi; omega
  show 1 ≤ (n : Int)
  omega⟩
 have e : xA_ [(n : Int)] = n := by show (n : Int) * 1 = n; omega
 have l : (sdW n a).length = n := xL_ ..
 refine ⟨hp, by omega, by omega, by omega, by rw [l]; omega, ?_⟩
 rw [l]
 unfold sdW
 refine YR_ fun x _ y _ z _ => ?_
 unfold sdF
 split
 ·have := Int.emod_nonneg (a * n * x) (show 2 * (n : Int) ≠ 0 by omega)
  have := Int.emod_lt_of_pos (a * n * x) (show 0 < 2 * (n : Int) by omega)
  omega
 ·omega
theorem aE6 {n : Nat} {a : Int} (n1 : 1 ≤ n) (n8 : n ≤ 8) (h2 : a * n % 2 = 0) : wM_ [(n : Int)] (2 * n) (sdW n a) := by
 have hS := aH4 (a := a) n1 n8
 have l : (sdW n a).length = n := xL_ ..
 have g := hS.1.grp
 have en : (xA_ [(n : Int)]).toNat = n := by
  have e : xA_ [(n : Int)] = n := by show (n : Int) * 1 = n; omega
  rw [e, Int.toNat_natCast]
 rw [en] at g
 refine ⟨hS, fun i hi j hj => ?_, ?_⟩
 ·rw [l] at hi hj
  have n0 : 0 < n := by omega
  rw [z4_ n0 hi hj, z4_ hi n0 hj, z4_ hi hj n0]
  unfold sdF
  refine ⟨?_, ?_, ?_⟩
  ·split
   ·rw [show a * n * ((0 : Nat) : Int) = 0 by simp, Int.zero_emod]
   ·rfl
  ·rw [if_neg (by omega)]
  ·rw [if_neg (by omega)]
 ·unfold cfF
  rw [l]
  refine xB_ fun x hx => xB_ fun y hy => xB_ fun z hz => xB_ fun t ht => ?_
  unfold cfG
  refine if_neg fun h => h (Int.emod_eq_zero_of_dvd ?_)
  have xy := g.lt x hx y hy
  have yz := g.lt y hy z hz
  have zt := g.lt z hz t ht
  unfold cfV
  rw [z4_ hy hz ht, z4_ xy hz ht, z4_ hx yz ht, z4_ hx hy zt, z4_ hx hy hz]
  refine bf5 (wI_ n a y z t) (wI_ n a (ad [(n : Int)] x y) z t) (wI_ n a x (ad [(n : Int)] y z) t) (wI_ n a x y (ad [(n : Int)] z t)) (wI_ n a x y z) ?_
  have e1 := Z4_ hx hy
  have e2 := at6 hy hz ht
  rw [e1]
  have e3 : kpc n y (ad [(n : Int)] z t) = kpc n y z + kpc n (ad [(n : Int)] y z) t - kpc n z t := by omega
  rw [e3]
  obtain ⟨k, hk⟩ := Int.dvd_of_emod_eq_zero h2
  refine ⟨k * kpc n x y * kpc n z t, ?_⟩
  generalize kpc n x y = p
  generalize kpc n z t = q
  generalize kpc n y z = r
  generalize kpc n (ad [(n : Int)] y z) t = s
  have key : a * n * y * q - a * n * (x + y - n * p) * q + a * n * x * s - a * n * x * (r + s - q) + a * n * x * r = (a * n) * (n * p * q) := by grind
  rw [key, hk]
  clear key hk e1 e2 e3 h h2 hS
  grind
theorem aE7 {n : Nat} {a : Int} (n1 : 1 ≤ n) (n8 : n ≤ 8) (h2 : a * n % 2 = 0) : BrP [(n : Int)] (2 * n) n (sdW n a) (sdC n a) := by
 have hC := aE6 n1 n8 h2
 have g := hC.1.1.grp
 have en : (xA_ [(n : Int)]).toNat = n := by
  have e : xA_ [(n : Int)] = n := by show (n : Int) * 1 = n; omega
  rw [e, Int.toNat_natCast]
 rw [en] at g
 refine ⟨hC, xL_ .., ⟨⟨ya_ .., fun j hj => ?_⟩, fun x hx => ?_⟩, fun x hx y hy z hz => ?_, fun x hx y hy z hz => ?_⟩
 ·unfold sdC
  rw [yK_ hj]
  refine ⟨xT_ .., fun k hk => ?_⟩
  rw [y4_ hk]
  have := Int.emod_nonneg (a * j * k) (show 2 * (n : Int) ≠ 0 by omega)
  have := Int.emod_lt_of_pos (a * j * k) (show 0 < 2 * (n : Int) by omega)
  omega
 ·rw [Yd_ (by omega) hx, Yd_ hx (by omega)]
  constructor
  ·rw [show a * ((0 : Nat) : Int) * x = 0 by simp, Int.zero_emod]
  ·rw [show a * x * ((0 : Nat) : Int) = 0 by simp, Int.zero_emod]
 ·have yz := g.lt y hy z hz
  unfold br1
  rw [z4_ hy hz hx, z4_ hx hy hz, z4_ hy hx hz, Yd_ hx yz, Yd_ hx hz, Yd_ hx hy]
  refine av4 (wI_ n a y z x) x6_ (wI_ n a x y z) x6_ (wI_ n a y x z) x6_ ?_
  rw [Z4_ hy hz, Ku_ (y := z) (z := x)]
  refine ⟨0, ?_⟩
  generalize kpc n y z = p
  generalize kpc n x z = q
  grind
 ·have xy := g.lt x hx y hy
  unfold br2
  rw [z4_ hz hx hy, z4_ hx hy hz, z4_ hx hz hy, Yd_ xy hz, Yd_ hx hz, Yd_ hy hz]
  have key : ∀ a b c d e f : Int, (2 * (n : Int)) ∣ a + (0 - b) + (0 - c) - d - e - (0 - f) → (2 * (n : Int)) ∣ a - b - c - d - e + f := fun a b c d e f h => by
   have : a - b - c - d - e + f = a + (0 - b) + (0 - c) - d - e - (0 - f) := by omega
   rw [this]; exact h
  refine key _ _ _ _ _ _ ?_
  have dn : ∀ x y z, (2 * (n : Int)) ∣ (0 - sdF n a x y z) - (0 - a * n * x * kpc n y z) := fun x y z => by
   have e : (0 - sdF n a x y z) - (0 - a * n * x * kpc n y z) = -(sdF n a x y z - a * n * x * kpc n y z) := by omega
   rw [e]
   exact (Int.dvd_neg).2 (wI_ n a x y z)
  refine av4 x6_ (dn _ _ _) (dn _ _ _) x6_ x6_ (dn _ _ _) ?_
  rw [Z4_ hx hy, Ku_ (y := z) (z := y)]
  refine ⟨-(a * z * kpc n x y), ?_⟩
  generalize kpc n x y = p
  generalize kpc n y z = q
  grind
end Go.Pl
namespace Go.Pl
open Go.Aw
def chG (o : List Int) (m : Int) (i k : Nat) : Nat := Nat.gcd (Nat.gcd (o.getD i 0).toNat (o.getD k 0).toNat) m.toNat
def XE_ (o : List Int) (m : Int) (i : Nat) : Nat → Src → List Int × Src
 | 0, s => ([], s)
 | k + 1, s => ((XE_ o m i k s).1 ++ [m / (chG o m i k : Nat) * (nx (XE_ o m i k s).2 (chG o m i k : Nat)).1], (nx (XE_ o m i k s).2 (chG o m i k : Nat)).2)
def Ye_ (o : List Int) (m : Int) (n : Nat) : Nat → Src → List (List Int) × Src
 | 0, s => ([], s)
 | i + 1, s => ((Ye_ o m n i s).1 ++ [(XE_ o m i n (Ye_ o m n i s).2).1], (XE_ o m i n (Ye_ o m n i s).2).2)
theorem Kv_ {o : List Int} {m : Int} {i k : Nat} (m1 : 1 ≤ m) : 1 ≤ chG o m i k ∧ ((chG o m i k : Nat) : Int) ≤ m := by
 have h0 : 0 < m.toNat := by omega
 have h1 : 0 < chG o m i k := Nat.gcd_pos_of_pos_right _ h0
 have h2 : chG o m i k ≤ m.toNat := Nat.le_of_dvd h0 (Nat.gcd_dvd_right _ _)
 omega
theorem ai4 {m g r : Int} (m1 : 1 ≤ m) (g1 : 1 ≤ g) (r0 : 0 ≤ r) (r1 : r < g) : 0 ≤ m / g ∧ m / g ≤ m ∧ 0 ≤ m / g * r ∧ m / g * r < m := by
 have h0 : 0 ≤ m / g := Int.ediv_nonneg (by omega) (by omega)
 have h1 : m / g * r ≤ m / g * (g - 1) := Int.mul_le_mul_of_nonneg_left (by omega) h0
 have h2 : m / g * g ≤ m := Int.ediv_mul_le m (by omega)
 rw [Int.mul_sub, Int.mul_one] at h1
 have h3 := Int.ediv_le_self g (show 0 ≤ m by omega)
 have h4 : 0 ≤ m / g * r := Int.mul_nonneg h0 r0
 refine ⟨h0, h3, h4, ?_⟩
 rcases (show m / g = 0 ∨ 1 ≤ m / g by omega) with h | h
 ·rw [h, Int.zero_mul]; omega
 ·omega
theorem T5_ {α : Type} {l : List α} {a d : α} {k : Nat} : (l ++ [a]).getD k d = if k < l.length then l.getD k d else if k = l.length then a else d := by
 rw [List.getD_eq_getElem?_getD, List.getElem?_append]
 by_cases c : k < l.length
 ·rw [if_pos c, if_pos c, List.getD_eq_getElem?_getD]
 ·rw [if_neg c, if_neg c]
  by_cases e : k = l.length
  ·subst e; simp
  ·rw [if_neg e, List.getElem?_eq_none (by simp; omega)]; rfl
theorem YB_ {o : List Int} {m : Int} (m1 : 1 ≤ m) {i : Nat} {s : Src} (hs : s.Ok) : ∀ k, (XE_ o m i k s).2.Ok ∧ (XE_ o m i k s).1.length = k ∧ ∀ j, j < k → 0 ≤ (XE_ o m i k s).1.getD j 0 ∧ (XE_ o m i k s).1.getD j 0 < m
 | 0 => ⟨hs, rfl, fun j hj => absurd hj (Nat.not_lt_zero j)⟩
 | k + 1 => by
  obtain ⟨h1, h2, h3⟩ := YB_ m1 hs k
  have g := Kv_ (o := o) (i := i) (k := k) m1
  have hb := yO_ (XE_ o m i k s).2 (n := (chG o m i k : Nat)) (by omega)
  rw [XE_]
  refine ⟨yp_ h1 _, by rw [List.length_append, h2]; rfl, fun j hj => ?_⟩
  dsimp only
  rw [T5_, h2]
  by_cases c : j < k
  ·rw [if_pos c]; exact h3 j c
  ·rw [if_neg c, if_pos (by omega)]
   exact (ai4 m1 (by omega) hb.1 hb.2).2.2
theorem YC_ {o : List Int} {m : Int} (m1 : 1 ≤ m) {n : Nat} {s : Src} (hs : s.Ok) : ∀ i, (Ye_ o m n i s).2.Ok ∧ (Ye_ o m n i s).1.length = i ∧ ∀ x, x < i → ((Ye_ o m n i s).1.getD x []).length = n ∧ ∀ y, y < n → 0 ≤ e2 (Ye_ o m n i s).1 x y ∧ e2 (Ye_ o m n i s).1 x y < m
 | 0 => ⟨hs, rfl, fun j hj => absurd hj (Nat.not_lt_zero j)⟩
 | i + 1 => by
  obtain ⟨h1, h2, h3⟩ := YC_ m1 hs i
  obtain ⟨r1, r2, r3⟩ := YB_ (o := o) m1 (i := i) h1 n
  rw [Ye_]
  refine ⟨r1, by rw [List.length_append, h2]; rfl, fun x hx => ?_⟩
  unfold e2
  dsimp only
  rw [T5_, h2]
  by_cases c : x < i
  ·rw [if_pos c]; exact h3 x c
  ·rw [if_neg c, if_pos (by omega)]
   exact ⟨r2, r3⟩
def chT (T : List (List Int)) (u v : List Int) (i k : Nat) : Int := sumTo (fun k => e2 T i k * u.getD i 0 * v.getD k 0) k
def chS (T : List (List Int)) (u v : List Int) (n i : Nat) : Int := sumTo (fun i => chT T u v i n) i
end Go.Pl
