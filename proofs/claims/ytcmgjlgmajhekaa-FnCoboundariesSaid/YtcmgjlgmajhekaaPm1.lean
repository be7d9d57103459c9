import Derived.Test.YtcmgjlgmajhekaaQd7
import Derived.Test.YtcmgjlgmajhekaaPl6
import Derived.Test.YtcmgjlgmajhekaaVx1
import Derived.Test.YtcmgjlgmajhekaaPl1
set_option linter.unusedSimpArgs false
set_option linter.unusedVariables false
namespace Go.Pl
open Go.Aw
def cbR (o : List Int) (f : List (List Int)) (x y z : Nat) : Int := e2 f y z - e2 f (ad o x y) z + e2 f x (ad o y z) - e2 f x y
def cbV (o : List Int) (m : Int) (f : List (List Int)) (x y z : Nat) : Int := cbR o f x y z % m
def cobW (o : List Int) (m : Int) (n : Nat) (f : List (List Int)) : List (List (List Int)) := cubF n (cbV o m f)
theorem cobW_len {o : List Int} {m : Int} {n : Nat} {f : List (List Int)} : (cobW o m n f).length = n := cubF_length ..
theorem cobW_e3 {o : List Int} {m : Int} {n : Nat} {f : List (List Int)} {x y z : Nat} (hx : x < n) (hy : y < n) (hz : z < n) : e3 (cobW o m n f) x y z = cbV o m f x y z := by
 unfold e3 cobW
 rw [cubF_get hx, matF_get hy, rowF_get hz]
theorem cubF_B {n : Nat} {m : Int} {F : Nat → Nat → Nat → Int} (h : ∀ x, x < n → ∀ y, y < n → ∀ z, z < n → 0 ≤ F x y z ∧ F x y z ≤ m - 1) : CubB n m (cubF n F) := by
 refine ⟨cubF_length .., fun i hi => ⟨cubF_mat hi, fun j hj => ⟨cubF_row hi hj, fun k hk => ?_⟩⟩⟩
 rw [cubF_get hi, matF_get hj, rowF_get hk]
 exact h i hi j hj k hk
theorem cobW_B {o : List Int} {m : Int} {n : Nat} {f : List (List Int)} (m1 : 1 ≤ m) : CubB n m (cobW o m n f) :=
 cubF_B fun x _ y _ z _ => by
  unfold cbV
  have h1 := Int.emod_nonneg (cbR o f x y z) (show m ≠ 0 by omega)
  have h2 := Int.emod_lt_of_pos (cbR o f x y z) (show 0 < m by omega)
  exact ⟨h1, by omega⟩
theorem cobW_S {o : List Int} {m : Int} {n : Nat} {f : List (List Int)} (hp : PosO o) (h8 : prodO o ≤ 8) (m1 : 1 ≤ m) (m2 : m ≤ 1000) (hn : (n : Int) = prodO o) : CocS o m (cobW o m n f) :=
 ⟨hp, h8, m1, m2, by rw [cobW_len]; exact hn, by rw [cobW_len]; exact cobW_B m1⟩
theorem nO {o : List Int} {n : Nat} (hn : (n : Int) = prodO o) : (prodO o).toNat = n := by omega
theorem cob_norm {o : List Int} {m : Int} {n : Nat} {f : List (List Int)} (hp : PosO o) (hn : (n : Int) = prodO o) (hf : PairB n m f) : NormW (cobW o m n f) := by
 have g := hp.grp
 rw [nO hn] at g
 intro i hi j hj
 rw [cobW_len] at hi hj
 have n0 : 0 < n := by omega
 rw [cobW_e3 n0 hi hj, cobW_e3 hi n0 hj, cobW_e3 hi hj n0]
 unfold cbV cbR
 have a1 := hf.2 i hi
 have a2 := hf.2 j hj
 have a3 := hf.2 _ (g.lt i hi j hj)
 rw [g.zl i hi, g.zl j hj, g.zr i hi, g.zr j hj]
 refine ⟨?_, ?_, ?_⟩
 ·rw [a3.1, a1.1, show e2 f i j - e2 f i j + 0 - 0 = 0 by omega, Int.zero_emod]
 ·rw [a2.1, a1.2, show 0 - e2 f i j + e2 f i j - 0 = 0 by omega, Int.zero_emod]
 ·rw [a2.2, a3.2, show 0 - 0 + e2 f i j - e2 f i j = 0 by omega, Int.zero_emod]
theorem emod5 {a b c d e m : Int} (h : a - b + c - d + e = 0) : (a % m - b % m + c % m - d % m + e % m) % m = 0 := by
 rw [Int.add_emod, Int.emod_emod, ← Int.add_emod]
 have key : ∀ {u v : Int}, u % m = v % m → ∀ w, (u + w) % m = (v + w) % m := fun h w => by rw [Int.add_emod, h, ← Int.add_emod]
 have h1 : (a % m) % m = a % m := Int.emod_emod ..
 have h2 : (a % m - b % m) % m = (a - b) % m := by rw [← Int.sub_emod]
 have h3 : (a % m - b % m + c % m) % m = (a - b + c) % m := by rw [Int.add_emod, h2, Int.emod_emod, ← Int.add_emod]
 have h4 : (a % m - b % m + c % m - d % m) % m = (a - b + c - d) % m := by rw [Int.sub_emod, h3, Int.emod_emod, ← Int.sub_emod]
 rw [Int.add_emod, h4, ← Int.add_emod, h, Int.zero_emod]
theorem cob_cf {o : List Int} {m : Int} {n : Nat} {f : List (List Int)} (hp : PosO o) (hn : (n : Int) = prodO o) : cfF o m (cobW o m n f) = none := by
 have g := hp.grp
 rw [nO hn] at g
 unfold cfF
 rw [cobW_len]
 refine first_none fun x hx => first_none fun y hy => first_none fun z hz => first_none fun t ht => ?_
 have xy := g.lt x hx y hy
 have yz := g.lt y hy z hz
 have zt := g.lt z hz t ht
 unfold cfG
 rw [if_neg]
 intro h
 refine h ?_
 unfold cfV
 rw [cobW_e3 hy hz ht, cobW_e3 xy hz ht, cobW_e3 hx yz ht, cobW_e3 hx hy zt, cobW_e3 hx hy hz]
 unfold cbV
 refine emod5 ?_
 unfold cbR
 rw [g.as x hx y hy z hz, g.as y hy z hz t ht]
 omega
theorem cob_ok {o : List Int} {m : Int} {n : Nat} {f : List (List Int)} (hp : PosO o) (h8 : prodO o ≤ 8) (m1 : 1 ≤ m) (m2 : m ≤ 1000) (hn : (n : Int) = prodO o) (hf : PairB n m f) : CocOk o m (cobW o m n f) :=
 ⟨cobW_S hp h8 m1 m2 hn, cob_norm hp hn hf, cob_cf hp hn⟩
def kxo (o : List Int) (x : Nat) : Nat → Nat
 | 0 => 0
 | k + 1 => ad o (kxo o x k) x
theorem kxo_lt {o : List Int} {n x : Nat} (hp : PosO o) (hn : (n : Int) = prodO o) (hx : x < n) : ∀ k, kxo o x k < n
 | 0 => by
  show 0 < n
  omega
 | k + 1 => by
  have g := hp.grp
  rw [nO hn] at g
  exact g.lt _ (kxo_lt hp hn hx k) _ hx
def ivS (o : List Int) (w : List (List (List Int))) (x r : Nat) : Int := sumTo (fun k => e3 w x (kxo o x k) x) r
theorem emod_acc {a b c d m : Int} (h : a % m = c % m) (h2 : b % m = d % m) : (a + b) % m = (c + d) % m := by rw [Int.add_emod, h, h2, ← Int.add_emod]
theorem cob_tele {o : List Int} {m : Int} {n x : Nat} {f : List (List Int)} (hp : PosO o) (hn : (n : Int) = prodO o) (hx : x < n) : ∀ r, ivS o (cobW o m n f) x r % m = (e2 f 0 x - e2 f (kxo o x r) x + e2 f x (kxo o x r) - e2 f x 0) % m
 | 0 => by
  show (0 : Int) % m = _
  congr 1
  show (0 : Int) = e2 f 0 x - e2 f 0 x + e2 f x 0 - e2 f x 0
  omega
 | r + 1 => by
  have ih := cob_tele (m := m) (f := f) hp hn hx r
  have hk := kxo_lt hp hn hx r
  show (ivS o (cobW o m n f) x r + e3 (cobW o m n f) x (kxo o x r) x) % m = _
  have e : e3 (cobW o m n f) x (kxo o x r) x % m = cbR o f x (kxo o x r) x % m := by
   rw [cobW_e3 hx hk hx]
   exact Int.emod_emod ..
  rw [emod_acc ih e]
  congr 1
  unfold cbR
  have e3 : ad o x (kxo o x r) = kxo o x (r + 1) := ad_comm hp _ _
  have e4 : ad o (kxo o x r) x = kxo o x (r + 1) := rfl
  rw [e3, e4]
  omega
theorem cob_inv {o : List Int} {m : Int} {n x r : Nat} {f : List (List Int)} (hp : PosO o) (hn : (n : Int) = prodO o) (hx : x < n) (hr : kxo o x r = 0) : ivS o (cobW o m n f) x r % m = 0 := by
 rw [cob_tele hp hn hx, hr, show e2 f 0 x - e2 f 0 x + e2 f x 0 - e2 f x 0 = 0 by omega, Int.zero_emod]
theorem kxo_zero {o : List Int} {n x : Nat} (hp : PosO o) (hn : (n : Int) = prodO o) (hx : x < n) : ∃ r, 1 ≤ r ∧ r ≤ n ∧ kxo o x r = 0 ∧ ∀ k, 1 ≤ k → k < r → kxo o x k ≠ 0 := by
 have g := hp.grp
 rw [nO hn] at g
 have hex : ∃ r, 1 ≤ r ∧ r ≤ n ∧ kxo o x r = 0 := by
  refine Classical.byContradiction fun hno => ?_
  -- no two of the first n + 1 multiples are alike
  have hne : ∀ d a, 1 ≤ d → a + d ≤ n → kxo o x a ≠ kxo o x (a + d) := by
   intro d a hd
   induction a with
   | zero => intro hl e; exact hno ⟨d, hd, by omega, by rw [Nat.zero_add] at e; rw [← e]; rfl⟩
   | succ a ih =>
    intro hl e
    refine ih (by omega) ?_
    have e2 : ad o (kxo o x a) x = ad o (kxo o x (a + d)) x := by rw [show a + 1 + d = a + d + 1 by omega] at e; exact e
    have h1 := g.as _ (kxo_lt hp hn hx a) x hx _ (g.ilt x hx)
    have h2 := g.as _ (kxo_lt hp hn hx (a + d)) x hx _ (g.ilt x hx)
    rw [g.ir x hx, g.zr _ (kxo_lt hp hn hx _)] at h1 h2
    rw [← h1, ← h2, e2]
  have hnd : ((List.range (n + 1)).map (kxo o x)).Nodup := by
   unfold List.Nodup
   rw [List.pairwise_map]
   refine List.Pairwise.imp_of_mem (R := fun a b => a ≠ b) (fun {a b} ha hb hne' e => ?_) List.nodup_range
   rw [List.mem_range] at ha hb
   rcases Nat.lt_or_gt_of_ne hne' with c | c
   ·have := hne (b - a) a (by omega) (by omega)
    rw [show a + (b - a) = b by omega] at this
    exact this e
   ·have := hne (a - b) b (by omega) (by omega)
    rw [show b + (a - b) = a by omega] at this
    exact this e.symm
  have hle := List.Nodup.length_le_of_subset (l₂ := List.range n) hnd fun v hv => by
   obtain ⟨a, _, rfl⟩ := List.mem_map.1 hv
   exact List.mem_range.2 (kxo_lt hp hn hx a)
  rw [List.length_map, List.length_range, List.length_range] at hle
  omega
 obtain ⟨r, hr, hmin⟩ := exMin (p := fun r => 1 ≤ r ∧ r ≤ n ∧ kxo o x r = 0) _ hex.choose_spec
 exact ⟨r, hr.1, hr.2.1, hr.2.2, fun k k1 k2 e => by have := hmin k ⟨k1, by omega, e⟩; omega⟩
def slV (m : Int) (w : List (List (List Int))) (x y z : Nat) : Int := (e3 w x y z - e3 w y x z + e3 w y z x) % m
theorem sl_zero {m : Int} {w : List (List (List Int))} (h : NormW w) {x y : Nat} (hx : x < w.length) (hy : y < w.length) : slV m w x 0 y = 0 ∧ slV m w x y 0 = 0 := by
 have h1 := h x hx y hy
 have h2 := h y hy x hx
 unfold slV
 rw [h1.1, h1.2.1, h2.1, h2.2.1, h1.2.2, h2.2.2]
 exact ⟨by rw [show (0 : Int) - 0 + 0 = 0 by omega, Int.zero_emod], by rw [show (0 : Int) - 0 + 0 = 0 by omega, Int.zero_emod]⟩
end Go.Pl
namespace Go.Pl
open Go
def SmP (p : Int) : Prop := p = 2 ∨ p = 3 ∨ p = 5 ∨ p = 7
def iv1 (p d : Int) : Nat → Nat → Nat
 | 0, e => e
 | c + 1, e => if (e : Int) * d % p = 1 then e else iv1 p d c (e + 1)
def inP (p d : Int) : Nat := iv1 p d 7 1
theorem inP_ok {p d : Int} (hp : SmP p) (h0 : 1 ≤ d) (h1 : d < p) : 1 ≤ inP p d ∧ inP p d < 7 ∧ (inP p d : Int) < p ∧ (inP p d : Int) * d % p = 1 ∧ ∀ k, 1 ≤ k → k < inP p d → ¬ (k : Int) * d % p = 1 := by
 have key : ∀ q ∈ [2, 3, 5, 7], ∀ e ∈ List.range 7, 1 ≤ e → e < q → (1 ≤ inP (q : Nat) (e : Nat) ∧ inP (q : Nat) (e : Nat) < 7 ∧ inP (q : Nat) (e : Nat) < q ∧ (inP (q : Nat) (e : Nat) : Int) * (e : Nat) % (q : Nat) = 1 ∧ ∀ k ∈ List.range 7, 1 ≤ k → k < inP (q : Nat) (e : Nat) → ¬ (k : Int) * (e : Nat) % (q : Nat) = 1) := by decide
 obtain ⟨e, rfl⟩ : ∃ e : Nat, d = e := ⟨d.toNat, by omega⟩
 have hq : ∃ q : Nat, q ∈ [2, 3, 5, 7] ∧ p = (q : Int) := by
  rcases hp with h | h | h | h
  ·exact ⟨2, by simp, h⟩
  ·exact ⟨3, by simp, h⟩
  ·exact ⟨5, by simp, h⟩
  ·exact ⟨7, by simp, h⟩
 obtain ⟨q, hm, rfl⟩ := hq
 have q7 : q ≤ 7 := by
  simp only [List.mem_cons, List.mem_nil_iff, or_false] at hm
  omega
 obtain ⟨a1, a2, a3, a4, a5⟩ := key q hm e (List.mem_range.2 (by omega)) (by omega) (by omega)
 exact ⟨a1, a2, by omega, a4, fun k k1 k2 => a5 k (List.mem_range.2 (by omega)) k1 k2⟩
theorem SmP.two {p : Int} (h : SmP p) : 2 ≤ p ∧ p ≤ 7 := by unfold SmP at h; omega
theorem sum_mdp {p : Int} {f g : Nat → Int} : ∀ {n : Nat}, (∀ k, k < n → f k % p = g k % p) → sumTo f n % p = sumTo g n % p
 | 0, _ => rfl
 | n + 1, h => by
  show (sumTo f n + f n) % p = (sumTo g n + g n) % p
  rw [Int.add_emod, sum_mdp (fun k hk => h k (by omega)), h n (by omega), ← Int.add_emod]
def dt (r : Nat → Int) (x : Nat → Int) (n : Nat) : Int := sumTo (fun k => r k * x k) n
theorem dt_mod {p : Int} {r s x : Nat → Int} {n : Nat} (h : ∀ k, k < n → r k % p = s k % p) : dt r x n % p = dt s x n % p :=
 sum_mdp fun k hk => by rw [Int.mul_emod, h k hk, ← Int.mul_emod]
theorem dt_lin {r s x : Nat → Int} {c : Int} {n : Nat} : dt (fun k => r k + c * s k) x n = dt r x n + c * dt s x n := by
 unfold dt
 rw [← sum_mul_l, ← sum_add]
 exact sum_congr fun k _ => by rw [Int.add_mul, Int.mul_assoc]
theorem em0 {p a c : Int} (h : a % p = 0) : (c * a) % p = 0 := by rw [Int.mul_emod, h, Int.mul_zero, Int.zero_emod]
theorem tri {p : Int} {d : Nat} {T : Nat → Nat → Int} {y : Nat → Int} (hz : ∀ i, i < d → ∀ j, j < i → T i j = 0) (hu : ∀ i, i < d → ∃ e : Int, e * T i i % p = 1)
  (h : ∀ i, i < d → sumTo (fun j => T i j * y j) d % p = 0) : ∀ k i, i < d → d ≤ i + k → y i % p = 0
 | 0, i, hi, hk => absurd hk (by omega)
 | k + 1, i, hi, hk => by
  have ih : ∀ j, i < j → j < d → y j % p = 0 := fun j hj hd => tri hz hu h k j hd (by omega)
  have e1 : sumTo (fun j => T i j * y j) d % p = sumTo (fun j => if j = i then T i i * y i else 0) d % p := sum_mdp fun j hj => by
   by_cases c : j = i
   ·rw [if_pos c, c]
   ·rw [if_neg c]
    by_cases c2 : j < i
    ·rw [hz i hi j c2, Int.zero_mul]
    ·rw [em0 (ih j (by omega) hj)]; rfl
  have e2 : sumTo (fun j => if j = i then T i i * y i else 0) d = T i i * y i := sum_one (f := fun j => T i i * y i) hi
  rw [e2, h i hi] at e1
  obtain ⟨e, he⟩ := hu i hi
  have h2 : e * (T i i * y i) % p = 0 := em0 e1.symm
  rw [← Int.mul_assoc, Int.mul_emod, he, Int.one_mul, Int.emod_emod] at h2
  exact h2
abbrev Rk := List (List Int) × List Nat
def lessL (p : Int) (n : Nat) (a b : List Int) (c : Int) : List Int := rowF n fun i => (a.getD i 0 + (p - c) * b.getD i 0) % p
def redR (p : Int) (n : Nat) (s : Rk) : Nat → List Int → List Int
 | 0, l => l
 | k + 1, l => if (redR p n s k l).getD (s.2.getD k 0) 0 ≠ 0 then lessL p n (redR p n s k l) (s.1.getD k []) ((redR p n s k l).getD (s.2.getD k 0) 0) else redR p n s k l
def fnz (l : List Int) : Nat → Nat → Nat
 | 0, i => i
 | c + 1, i => if l.getD i 0 = 0 then fnz l c (i + 1) else i
theorem fnz_fact (l : List Int) : ∀ c i, i ≤ fnz l c i ∧ fnz l c i ≤ i + c ∧ (∀ k, i ≤ k → k < fnz l c i → l.getD k 0 = 0) ∧ (fnz l c i < i + c → l.getD (fnz l c i) 0 ≠ 0)
 | 0, i => ⟨Nat.le_refl _, Nat.le_refl _, fun k h1 h2 => by unfold fnz at h2; omega, fun h => by unfold fnz at h; omega⟩
 | c + 1, i => by
  unfold fnz
  by_cases h : l.getD i 0 = 0
  ·rw [if_pos h]
   obtain ⟨h1, h2, h3, h4⟩ := fnz_fact l c (i + 1)
   refine ⟨by omega, by omega, fun k i1 i2 => ?_, fun hl => h4 (by omega)⟩
   by_cases e : k = i
   ·rw [e]; exact h
   ·exact h3 k (by omega) i2
  ·rw [if_neg h]
   exact ⟨Nat.le_refl _, by omega, fun k h1 h2 => by omega, fun _ => h⟩
def nrmL (p : Int) (n : Nat) (l : List Int) (a : Nat) : List Int := lessL p n (List.replicate n 0) l (p - inP p (l.getD a 0))
def stpR (p : Int) (n : Nat) (s : Rk) (l : List Int) : Rk :=
 if fnz (redR p n s s.1.length l) n 0 = n then s else (s.1 ++ [nrmL p n (redR p n s s.1.length l) (fnz (redR p n s s.1.length l) n 0)], s.2 ++ [fnz (redR p n s s.1.length l) n 0])
def rkR (p : Int) (n : Nat) (L : List (List Int)) : Nat → Rk
 | 0 => ([], [])
 | i + 1 => stpR p n (rkR p n L i) (L.getD i [])
def Lst (p : Int) (n : Nat) (l : List Int) : Prop := l.length = n ∧ ∀ k, k < n → 0 ≤ l.getD k 0 ∧ l.getD k 0 < p
def ld (l : List Int) : Nat → Int := fun k => l.getD k 0
structure RkP (p : Int) (n : Nat) (L : List (List Int)) (i : Nat) (s : Rk) : Prop where
 len : s.2.length = s.1.length
 le : s.1.length ≤ i
 row : ∀ k, k < s.1.length → Lst p n (s.1.getD k [])
 pv : ∀ k, k < s.1.length → s.2.getD k 0 < n
 one : ∀ k, k < s.1.length → (s.1.getD k []).getD (s.2.getD k 0) 0 = 1
 zero : ∀ k, k < s.1.length → ∀ j, j < k → (s.1.getD k []).getD (s.2.getD j 0) 0 = 0
 sol : ∀ x, (∀ k, k < s.1.length → dt (ld (s.1.getD k [])) x n % p = 0) ↔ ∀ k, k < i → dt (ld (L.getD k [])) x n % p = 0
theorem lessL_get {p : Int} {n : Nat} {a b : List Int} {c : Int} {k : Nat} (hk : k < n) : (lessL p n a b c).getD k 0 = (a.getD k 0 + (p - c) * b.getD k 0) % p := rowF_get hk
theorem lessL_Lst {p : Int} {n : Nat} {a b : List Int} {c : Int} (hp : 2 ≤ p) : Lst p n (lessL p n a b c) :=
 ⟨rowF_length .., fun k hk => by rw [lessL_get hk]; exact ⟨Int.emod_nonneg _ (by omega), Int.emod_lt_of_pos _ (by omega)⟩⟩
theorem lessL_dt {p : Int} {n : Nat} {a b : List Int} {c : Int} {x : Nat → Int} : dt (ld (lessL p n a b c)) x n % p = (dt (ld a) x n + (p - c) * dt (ld b) x n) % p := by
 rw [← dt_lin]
 refine dt_mod fun k hk => ?_
 show (lessL p n a b c).getD k 0 % p = _
 rw [lessL_get hk, Int.emod_emod]
 rfl
theorem less_at {p v : Int} : (v + (p - v) * 1) % p = 0 := by rw [Int.mul_one, show v + (p - v) = p by omega, Int.emod_self]
theorem redR_P {p : Int} {n : Nat} {L : List (List Int)} {i : Nat} {s : Rk} (hp : 2 ≤ p) (h : RkP p n L i s) {l : List Int} (hl : Lst p n l) : ∀ k, k ≤ s.1.length →
  Lst p n (redR p n s k l) ∧ (∀ j, j < k → (redR p n s k l).getD (s.2.getD j 0) 0 = 0) ∧ ∀ x, (∀ k, k < s.1.length → dt (ld (s.1.getD k [])) x n % p = 0) → dt (ld (redR p n s k l)) x n % p = dt (ld l) x n % p
 | 0, _ => ⟨hl, fun j hj => absurd hj (by omega), fun _ _ => rfl⟩
 | k + 1, hk => by
  obtain ⟨h1, h2, h3⟩ := redR_P hp h hl k (by omega)
  rw [redR]
  by_cases c : (redR p n s k l).getD (s.2.getD k 0) 0 ≠ 0
  ·rw [if_pos c]
   refine ⟨lessL_Lst hp, fun j hj => ?_, fun x hx => ?_⟩
   ·rw [lessL_get (h.pv j (by omega))]
    by_cases e : j = k
    ·subst e
     rw [h.one j (by omega)]
     exact less_at
    ·rw [h2 j (by omega), h.zero k (by omega) j (by omega), Int.mul_zero, Int.add_zero, Int.zero_emod]
   ·rw [lessL_dt, Int.add_emod, em0 (hx k (by omega)), Int.add_zero, Int.emod_emod, h3 x hx]
  ·rw [if_neg c]
   refine ⟨h1, fun j hj => ?_, h3⟩
   by_cases e : j = k
   ·subst e
    exact Classical.byContradiction fun hh => c hh
   ·exact h2 j (by omega)
theorem getD_app {α : Type} {l : List α} {a d : α} {k : Nat} : (l ++ [a]).getD k d = if k < l.length then l.getD k d else if k = l.length then a else d := by
 rw [List.getD_eq_getElem?_getD, List.getElem?_append]
 by_cases h : k < l.length
 ·rw [if_pos h, if_pos h, List.getD_eq_getElem?_getD]
 ·rw [if_neg h, if_neg h]
  by_cases e : k = l.length
  ·rw [if_pos e, e, Nat.sub_self]; rfl
  ·rw [if_neg e, List.getElem?_eq_none (l := [a]) (by simp only [List.length_cons, List.length_nil]; omega)]; rfl
theorem dt_zero {p : Int} {l : List Int} {n : Nat} {x : Nat → Int} (h : ∀ k, k < n → l.getD k 0 = 0) : dt (ld l) x n % p = 0 := by
 have : dt (ld l) x n = 0 := by
  unfold dt
  rw [← sum_zero (n := n)]
  exact sum_congr fun k hk => by show l.getD k 0 * x k = 0; rw [h k hk, Int.zero_mul]
 rw [this, Int.zero_emod]
theorem rkR_P {p : Int} {n : Nat} {L : List (List Int)} (hp : SmP p) (hL : ∀ k, k < L.length → Lst p n (L.getD k [])) : ∀ i, i ≤ L.length → RkP p n L i (rkR p n L i)
 | 0, _ => ⟨rfl, Nat.le_refl _, fun k hk => absurd hk (by simp [rkR]), fun k hk => absurd hk (by simp [rkR]), fun k hk => absurd hk (by simp [rkR]), fun k hk => absurd hk (by simp [rkR]), fun x => ⟨fun _ k hk => absurd hk (by omega), fun _ k hk => absurd hk (by simp [rkR])⟩⟩
 | i + 1, hi => by
  have ih := rkR_P hp hL i (by omega)
  have h2 := hp.two
  have hl := hL i (by omega)
  rw [rkR]
  generalize rkR p n L i = s at ih
  obtain ⟨r1, r2, r3⟩ := redR_P h2.1 ih hl s.1.length (Nat.le_refl _)
  unfold stpR
  generalize redR p n s s.1.length (L.getD i []) = l at r1 r2 r3
  obtain ⟨f1, f2, f3, f4⟩ := fnz_fact l n 0
  generalize fnz l n 0 = a at f1 f2 f3 f4
  rw [Nat.zero_add] at f2 f4
  by_cases c : a = n
  ·rw [if_pos c]
   refine ⟨ih.len, by have := ih.le; omega, ih.row, ih.pv, ih.one, ih.zero, fun x => ⟨fun h k hk => ?_, fun h => (ih.sol x).2 fun k hk => h k (by omega)⟩⟩
   by_cases e : k = i
   ·rw [e, ← r3 x h]
    exact dt_zero fun k hk => f3 k (by omega) (by omega)
   ·exact (ih.sol x).1 h k (by omega)
  ·rw [if_neg c]
   have ha : a < n := by omega
   have hv := r1.2 a ha
   have hv0 := f4 ha
   obtain ⟨i1, i2, i3, i4, _⟩ := inP_ok hp (d := l.getD a 0) (by omega) (by omega)
   have hn : ∀ k, k < n → (nrmL p n l a).getD k 0 = inP p (l.getD a 0) * l.getD k 0 % p := fun k hk => by
    unfold nrmL
    rw [lessL_get hk]
    have : (List.replicate n (0 : Int)).getD k 0 = 0 := by
     rw [List.getD_eq_getElem?_getD, List.getElem?_replicate, if_pos hk]; rfl
    rw [this, Int.zero_add, show p - (p - (inP p (l.getD a 0) : Int)) = inP p (l.getD a 0) by omega]
   have hdt : ∀ x, dt (ld (nrmL p n l a)) x n % p = inP p (l.getD a 0) * dt (ld l) x n % p := fun x => by
    have e1 : inP p (l.getD a 0) * dt (ld l) x n = dt (fun k => 0 + (inP p (l.getD a 0) : Int) * ld l k) x n := by
     rw [dt_lin (r := fun _ => 0)]
     have : dt (fun _ => 0) x n = 0 := by
      unfold dt
      exact (sum_congr (g := fun _ => 0) (fun k _ => Int.zero_mul _)).trans sum_zero
     rw [this, Int.zero_add]
    rw [e1]
    refine dt_mod fun k hk => ?_
    show (nrmL p n l a).getD k 0 % p = _
    rw [hn k hk, Int.emod_emod, Int.zero_add]
    rfl
   have hle := ih.le
   refine ⟨by simp [ih.len], by simp only [List.length_append, List.length_cons, List.length_nil]; omega, fun k hk => ?_, fun k hk => ?_, fun k hk => ?_, fun k hk j hj => ?_, fun x => ?_⟩
   ·rw [getD_app]
    by_cases c1 : k < s.1.length
    ·rw [if_pos c1]; exact ih.row k c1
    ·rw [if_neg c1, if_pos (by simp only [List.length_append, List.length_cons, List.length_nil] at hk; omega)]
     exact lessL_Lst h2.1
   ·rw [getD_app, ih.len]
    by_cases c1 : k < s.1.length
    ·rw [if_pos c1]; exact ih.pv k c1
    ·rw [if_neg c1, if_pos (by simp only [List.length_append, List.length_cons, List.length_nil] at hk; omega)]
     exact ha
   ·rw [getD_app, getD_app, ih.len]
    by_cases c1 : k < s.1.length
    ·rw [if_pos c1, if_pos c1]; exact ih.one k c1
    ·have e : k = s.1.length := by simp only [List.length_append, List.length_cons, List.length_nil] at hk; omega
     rw [if_neg c1, if_pos e, if_neg c1, if_pos e, hn a ha]
     exact i4
   ·simp only [List.length_append, List.length_cons, List.length_nil] at hk
    rw [getD_app, getD_app, ih.len]
    by_cases c1 : k < s.1.length
    ·rw [if_pos c1, if_pos (by omega)]; exact ih.zero k c1 j hj
    ·rw [if_neg c1, if_pos (by omega), if_pos (by omega), hn _ (ih.pv j (by omega)), r2 j (by omega), Int.mul_zero, Int.zero_emod]
   ·simp only [List.length_append, List.length_cons, List.length_nil]
    have sp : (∀ k, k < s.1.length + (0 + 1) → dt (ld ((s.1 ++ [nrmL p n l a]).getD k [])) x n % p = 0) ↔ (∀ k, k < s.1.length → dt (ld (s.1.getD k [])) x n % p = 0) ∧ dt (ld (nrmL p n l a)) x n % p = 0 := by
     constructor
     ·intro h
      refine ⟨fun k hk => ?_, ?_⟩
      ·have := h k (by omega)
       rwa [getD_app, if_pos hk] at this
      ·have := h s.1.length (by omega)
       rwa [getD_app, if_neg (by omega), if_pos rfl] at this
     ·intro h k hk
      rw [getD_app]
      by_cases c1 : k < s.1.length
      ·rw [if_pos c1]; exact h.1 k c1
      ·rw [if_neg c1, if_pos (by omega)]; exact h.2
    rw [sp, hdt]
    constructor
    ·rintro ⟨g1, g2⟩ k hk
     by_cases e : k = i
     ·rw [e, ← r3 x g1]
      have g3 := em0 (c := l.getD a 0) g2
      rw [← Int.mul_assoc, Int.mul_emod, Int.mul_comm (l.getD a 0), i4, Int.one_mul, Int.emod_emod] at g3
      exact g3
     ·exact (ih.sol x).1 g1 k (by omega)
    ·intro g
     have g1 := (ih.sol x).2 fun k hk => g k (by omega)
     refine ⟨g1, em0 ?_⟩
     rw [r3 x g1]
     exact g i (by omega)
def rkA (p : Int) (n : Nat) (L : List (List Int)) : Nat := (rkR p n L L.length).1.length
end Go.Pl
namespace Go.Pl
open Go
def TriP (p : Int) (n m : Nat) (B : Nat → Nat → Int) : Prop := ∃ pv : Nat → Nat, (∀ i, i < m → pv i < n) ∧ (∀ i, i < m → ∀ j, j < i → B i (pv j) = 0) ∧ ∀ i, i < m → ∃ e : Int, e * B i (pv i) % p = 1
theorem tri_le {p : Int} {n m1 m2 : Nat} {A B : Nat → Nat → Int} (hp : 2 ≤ p) (hB : TriP p n m2 B) (hS : ∀ x, (∀ i, i < m1 → dt (A i) x n % p = 0) → ∀ i, i < m2 → dt (B i) x n % p = 0) : m2 ≤ m1 := by
 obtain ⟨q, rfl⟩ : ∃ q : Nat, p = q := ⟨p.toNat, by omega⟩
 obtain ⟨pv, h1, h2, h3⟩ := hB
 exact rank_le (p := q) (A := A) (B := B) (pv := pv) (n := n) (by omega) h1 (fun y hy i hi => tri (T := fun i j => B i (pv j)) h2 h3 hy m2 i hi (by omega)) hS
def elB (p : Int) (G : Nat → Nat → Int) (d c : Nat) (v : Int) : Nat → Nat → Int := fun i k => if d < i ∧ c ≤ k then (G i k - (G i c * v % p) * G d k) % p else G i k
def stpB (p : Int) (m : Nat) (s : (Nat → Nat → Int) × Nat) (c : Nat) : (Nat → Nat → Int) × Nat :=
 if fndF s.1 c (m - s.2) s.2 < m then (elB p (swF s.1 s.2 (fndF s.1 c (m - s.2) s.2)) s.2 c (inP p (s.1 (fndF s.1 c (m - s.2) s.2) c)), s.2 + 1) else s
def rkG (p : Int) (m : Nat) (G : Nat → Nat → Int) : Nat → (Nat → Nat → Int) × Nat
 | 0 => (G, 0)
 | c + 1 => stpB p m (rkG p m G c) c
structure RbP (p : Int) (m n : Nat) (G0 : Nat → Nat → Int) (c : Nat) (s : (Nat → Nat → Int) × Nat) (pv : Nat → Nat) : Prop where
 dm : s.2 ≤ m
 dc : s.2 ≤ c
 rng : ∀ i, i < m → ∀ k, k < n → 0 ≤ s.1 i k ∧ s.1 i k < p
 pvc : ∀ i, i < s.2 → pv i < c
 ne : ∀ i, i < s.2 → s.1 i (pv i) ≠ 0
 zero : ∀ j, j < s.2 → ∀ i, j < i → i < m → s.1 i (pv j) = 0
 low : ∀ i, s.2 ≤ i → i < m → ∀ k, k < c → s.1 i k = 0
 sol : ∀ x, (∀ i, i < m → dt (s.1 i) x n % p = 0) ↔ ∀ i, i < m → dt (G0 i) x n % p = 0
theorem swF_row {G : Nat → Nat → Int} {d f i : Nat} : swF G d f i = if i = d then G f else if i = f then G d else G i := by
 funext c; unfold swF; split; rfl; split; rfl; rfl
theorem sol_swp {p : Int} {m n d f : Nat} {G : Nat → Nat → Int} {x : Nat → Int} (hd : d < m) (hf : f < m) : (∀ i, i < m → dt (swF G d f i) x n % p = 0) ↔ ∀ i, i < m → dt (G i) x n % p = 0 := by
 constructor
 ·intro h i hi
  by_cases e1 : i = f
  ·have := h d hd
   rw [swF_row, if_pos rfl] at this
   rw [e1]; exact this
  ·by_cases e2 : i = d
   ·have := h f hf
    rw [swF_row] at this
    by_cases e3 : f = d
    ·exact absurd (e2.trans e3.symm) e1
    ·rw [if_neg e3, if_pos rfl] at this
     rw [e2]; exact this
   ·have := h i hi
    rw [swF_row, if_neg e2, if_neg e1] at this
    exact this
 ·intro h i hi
  rw [swF_row]
  split
  ·exact h f hf
  ·split
   ·exact h d hd
   ·exact h i hi
theorem el_at {p a g v : Int} (h : v * g % p = 1) : (a - (a * v % p) * g) % p = 0 := by
 have e1 : (a * v % p) * g % p = a % p := by
  rw [Int.mul_emod, Int.emod_emod, ← Int.mul_emod, Int.mul_assoc, Int.mul_emod, h, Int.mul_one, Int.emod_emod]
 rw [Int.sub_emod, e1, Int.sub_self, Int.zero_emod]
theorem rkG_P {p : Int} {m n : Nat} {G0 : Nat → Nat → Int} (hp : SmP p) (hG : ∀ i, i < m → ∀ k, k < n → 0 ≤ G0 i k ∧ G0 i k < p) : ∀ c, c ≤ n → ∃ pv, RbP p m n G0 c (rkG p m G0 c) pv
 | 0, _ => ⟨fun _ => 0, Nat.zero_le _, Nat.le_refl _, hG, fun i hi => absurd hi (Nat.not_lt_zero _), fun i hi => absurd hi (Nat.not_lt_zero _), fun i hi => absurd hi (Nat.not_lt_zero _), fun i _ _ k hk => absurd hk (Nat.not_lt_zero _), fun x => Iff.rfl⟩
 | c + 1, hc => by
  obtain ⟨pv, ih⟩ := rkG_P hp hG c (by omega)
  have h2 := hp.two
  rw [rkG]
  generalize rkG p m G0 c = s at ih
  obtain ⟨G, d⟩ := s
  obtain ⟨dm, dc, rng, pvc, ne, zero, low, sol⟩ := ih
  dsimp only at dm dc rng pvc ne zero low sol
  unfold stpB
  dsimp only
  obtain ⟨f1, f2, f3, f4⟩ := fndF_fact G c (m - d) d
  generalize fndF G c (m - d) d = f at f1 f2 f3 f4
  rw [show d + (m - d) = m by omega] at f2 f4
  by_cases hf : f < m
  ·rw [if_pos hf]
   have hfc := f4 hf
   obtain ⟨g1, g2⟩ := rng f hf c (by omega)
   obtain ⟨i1, i2, i3, i4, _⟩ := inP_ok hp (d := G f c) (by omega) g2
   obtain ⟨v, ev⟩ : ∃ v : Int, v = inP p (G f c) := ⟨_, rfl⟩
   rw [← ev] at i4
   rw [← ev]
   have hd : d < m := by omega
   obtain ⟨G1, eG1⟩ : ∃ G1, G1 = swF G d f := ⟨_, rfl⟩
   rw [← eG1]
   have row1 : ∀ i, G1 i = if i = d then G f else if i = f then G d else G i := fun i => by rw [eG1]; exact swF_row
   have d1 : G1 d = G f := by rw [row1, if_pos rfl]
   have lo1 : ∀ i, i < d → G1 i = G i := fun i hi => by rw [row1, if_neg (by omega), if_neg (by omega)]
   have hi1 : ∀ i, d ≤ i → i < m → ∃ i', d ≤ i' ∧ i' < m ∧ G1 i = G i' := fun i h h' => by
    rw [row1]
    split
    ·exact ⟨f, f1, hf, rfl⟩
    ·split
     ·exact ⟨d, Nat.le_refl _, hd, rfl⟩
     ·exact ⟨i, h, h', rfl⟩
   have rng1 : ∀ i, i < m → ∀ k, k < n → 0 ≤ G1 i k ∧ G1 i k < p := fun i hi k hk => by
    by_cases c1 : i < d
    ·rw [lo1 i c1]; exact rng i hi k hk
    ·obtain ⟨i', _, h', e⟩ := hi1 i (by omega) hi
     rw [e]; exact rng i' h' k hk
   have low1 : ∀ i, d ≤ i → i < m → ∀ k, k < c → G1 i k = 0 := fun i h h' k hk => by
    obtain ⟨i', a, b, e⟩ := hi1 i h h'
    rw [e]; exact low i' a b k hk
   have zero1 : ∀ j, j < d → ∀ i, j < i → i < m → G1 i (pv j) = 0 := fun j hj i hji hi => by
    by_cases c1 : i < d
    ·rw [lo1 i c1]; exact zero j hj i hji hi
    ·exact low1 i (by omega) hi _ (pvc j hj)
   have full : ∀ i, d < i → i < m → ∀ k, elB p G1 d c v i k = (G1 i k - (G1 i c * v % p) * G1 d k) % p ∨ (k < c ∧ elB p G1 d c v i k = G1 i k) := fun i h _ k => by
    unfold elB
    by_cases ck : c ≤ k
    ·rw [if_pos ⟨h, ck⟩]; exact .inl rfl
    ·rw [if_neg (fun hh => ck hh.2)]; exact .inr ⟨by omega, rfl⟩
   have fullE : ∀ i, d < i → i < m → ∀ k, k < n → elB p G1 d c v i k = (G1 i k - (G1 i c * v % p) * G1 d k) % p := fun i h h' k _ => by
    rcases full i h h' k with e | ⟨hk, e⟩
    ·exact e
    ·rw [e, low1 i (by omega) h' k hk, low1 d (Nat.le_refl _) hd k hk, Int.mul_zero, Int.sub_zero, Int.zero_emod]
   have same : ∀ i, ¬ d < i → elB p G1 d c v i = G1 i := fun i h => by
    funext k; unfold elB; rw [if_neg (fun hh => h hh.1)]
   refine ⟨fun i => if i = d then c else pv i, by dsimp only; omega, by dsimp only; omega, fun i hi k hk => ?_, fun i hi => ?_, fun i hi => ?_, fun j hj i hji hi => ?_, fun i h h' k hk => ?_, fun x => ?_⟩
   ·dsimp only
    by_cases c1 : d < i
    ·rw [fullE i c1 hi k hk]; exact ⟨Int.emod_nonneg _ (by omega), Int.emod_lt_of_pos _ (by omega)⟩
    ·rw [same i c1]; exact rng1 i hi k hk
   ·dsimp only at hi ⊢
    by_cases e : i = d
    ·rw [if_pos e]; omega
    ·rw [if_neg e]; have := pvc i (by omega); omega
   ·dsimp only at hi ⊢
    rw [same i (by omega)]
    by_cases e : i = d
    ·rw [if_pos e, e, d1]; exact hfc
    ·rw [if_neg e, lo1 i (by omega)]; exact ne i (by omega)
   ·dsimp only at hj ⊢
    by_cases e : j = d
    ·rw [if_pos e, fullE i (by omega) hi c (by omega), d1]
     exact el_at i4
    ·rw [if_neg e]
     have hpj := pvc j (by omega)
     by_cases c1 : d < i
     ·rw [fullE i c1 hi _ (by omega), zero1 j (by omega) i hji hi, zero1 j (by omega) d (by omega) hd, Int.mul_zero, Int.sub_zero, Int.zero_emod]
     ·rw [same i c1]; exact zero1 j (by omega) i hji hi
   ·dsimp only at h ⊢
    rw [fullE i (by omega) h' k (by omega)]
    by_cases e : k = c
    ·rw [e, d1]; exact el_at i4
    ·rw [low1 i (by omega) h' k (by omega), low1 d (Nat.le_refl _) hd k (by omega), Int.mul_zero, Int.sub_zero, Int.zero_emod]
   ·dsimp only
    have s1 := sol_swp (p := p) (n := n) (G := G) (x := x) hd hf
    rw [← eG1] at s1
    rw [← sol x, ← s1]
    have edt : ∀ i, d < i → i < m → dt (elB p G1 d c v i) x n % p = (dt (G1 i) x n + (-(G1 i c * v % p)) * dt (G1 d) x n) % p := fun i h h' => by
     rw [← dt_lin]
     refine dt_mod fun k hk => ?_
     rw [fullE i h h' k hk, Int.emod_emod, Int.neg_mul, Int.sub_eq_add_neg]
    constructor
    ·intro h i hi
     have hdd := h d hd
     rw [same d (by omega)] at hdd
     by_cases c1 : d < i
     ·have := h i hi
      rw [edt i c1 hi, Int.add_emod, em0 hdd, Int.add_zero, Int.emod_emod] at this
      exact this
     ·have := h i hi
      rwa [same i c1] at this
    ·intro h i hi
     by_cases c1 : d < i
     ·rw [edt i c1 hi, Int.add_emod, em0 (h d hd), Int.add_zero, Int.emod_emod]
      exact h i hi
     ·rw [same i c1]; exact h i hi
  ·rw [if_neg hf]
   refine ⟨pv, dm, by dsimp only; omega, rng, fun i hi => by have := pvc i hi; omega, ne, zero, fun i h h' k hk => ?_, sol⟩
   by_cases e : k = c
   ·rw [e]; exact f3 i h (by omega)
   ·exact low i h h' k (by omega)
def rkB (p : Int) (n : Nat) (L : List (List Int)) : Nat := (rkG p L.length (e2 L) n).2
theorem rkR_tri {p : Int} {n : Nat} {L : List (List Int)} (hp : SmP p) (hL : ∀ k, k < L.length → Lst p n (L.getD k [])) : TriP p n (rkA p n L) (fun i k => ((rkR p n L L.length).1.getD i []).getD k 0) := by
 have h := rkR_P hp hL L.length (Nat.le_refl _)
 exact ⟨fun i => (rkR p n L L.length).2.getD i 0, h.pv, h.zero, fun i hi => ⟨1, by
  dsimp only
  rw [h.one i hi, Int.one_mul]
  have := hp.two
  exact Int.emod_eq_of_lt (by omega) (by omega)⟩⟩
theorem rk_both {p : Int} {n : Nat} {L : List (List Int)} (hp : SmP p) (hL : ∀ k, k < L.length → Lst p n (L.getD k [])) : rkA p n L = rkB p n L := by
 have h2 := hp.two
 have ha := rkR_P hp hL L.length (Nat.le_refl _)
 obtain ⟨pv, hb⟩ := rkG_P (m := L.length) (n := n) (G0 := e2 L) hp (fun i hi k hk => (hL i hi).2 k hk) n (Nat.le_refl _)
 have tb : TriP p n (rkB p n L) (rkG p L.length (e2 L) n).1 := by
  refine ⟨pv, hb.pvc, fun i hi j hj => hb.zero j (by unfold rkB at hi; omega) i hj (by have := hb.dm; unfold rkB at hi; omega), fun i hi => ?_⟩
  have hm : i < L.length := by have := hb.dm; unfold rkB at hi; omega
  have hr := hb.rng i hm (pv i) (hb.pvc i hi)
  have hn := hb.ne i hi
  exact ⟨inP p _, (inP_ok hp (d := (rkG p L.length (e2 L) n).1 i (pv i)) (by omega) hr.2).2.2.2.1⟩
 have rest : ∀ x, (∀ i, i < rkB p n L → dt ((rkG p L.length (e2 L) n).1 i) x n % p = 0) → ∀ i, i < L.length → dt ((rkG p L.length (e2 L) n).1 i) x n % p = 0 := fun x h i hi => by
  by_cases c : i < rkB p n L
  ·exact h i c
  ·have : dt ((rkG p L.length (e2 L) n).1 i) x n = 0 := by
    unfold dt
    exact (sum_congr (g := fun _ => 0) (fun k hk => by rw [hb.low i (by unfold rkB at c; omega) hi k hk, Int.zero_mul])).trans sum_zero
   rw [this, Int.zero_emod]
 refine Nat.le_antisymm ?_ ?_
 ·refine tri_le (A := (rkG p L.length (e2 L) n).1) h2.1 (rkR_tri hp hL) fun x hx => ?_
  exact (ha.sol x).2 ((hb.sol x).1 (rest x hx))
 ·refine tri_le (A := fun i k => ((rkR p n L L.length).1.getD i []).getD k 0) h2.1 tb fun x hx i hi => ?_
  exact (hb.sol x).2 ((ha.sol x).1 hx) i (by have := hb.dm; unfold rkB at hi; omega)
theorem rk_same {p : Int} {n : Nat} {L K : List (List Int)} (hp : SmP p) (hL : ∀ k, k < L.length → Lst p n (L.getD k [])) (hK : ∀ k, k < K.length → Lst p n (K.getD k []))
  (h : ∀ x, (∀ k, k < L.length → dt (ld (L.getD k [])) x n % p = 0) ↔ ∀ k, k < K.length → dt (ld (K.getD k [])) x n % p = 0) : rkA p n L = rkA p n K := by
 have h2 := hp.two
 have ha := rkR_P hp hL L.length (Nat.le_refl _)
 have hb := rkR_P hp hK K.length (Nat.le_refl _)
 refine Nat.le_antisymm ?_ ?_
 ·exact tri_le (A := fun i k => ((rkR p n K K.length).1.getD i []).getD k 0) h2.1 (rkR_tri hp hL) fun x hx => (ha.sol x).2 ((h x).2 ((hb.sol x).1 hx))
 ·exact tri_le (A := fun i k => ((rkR p n L L.length).1.getD i []).getD k 0) h2.1 (rkR_tri hp hK) fun x hx => (hb.sol x).2 ((h x).1 ((ha.sol x).1 hx))
end Go.Pl
namespace Go.Pl
open Go Go.Aw
def flF (n : Nat) (F : Nat → Nat → Nat → Int) : List Int := rowF (n * n * n) fun k => F (k / (n * n)) (k / n % n) (k % n)
theorem flF_len {n : Nat} {F : Nat → Nat → Nat → Int} : (flF n F).length = n * n * n := rowF_length ..
theorem fl_ix {n x y z : Nat} (hy : y < n) (hz : z < n) : ((x * n + y) * n + z) / (n * n) = x ∧ ((x * n + y) * n + z) / n % n = y ∧ ((x * n + y) * n + z) % n = z := by
 have hn : 0 < n := by omega
 have e1 : ((x * n + y) * n + z) / n = x * n + y := by rw [Nat.mul_comm, Nat.mul_add_div hn, Nat.div_eq_of_lt hz, Nat.add_zero]
 have e2 : (x * n + y) / n = x := by rw [Nat.mul_comm, Nat.mul_add_div hn, Nat.div_eq_of_lt hy, Nat.add_zero]
 refine ⟨?_, ?_, ?_⟩
 ·rw [← Nat.div_div_eq_div_mul, e1, e2]
 ·rw [e1, Nat.mul_comm, Nat.mul_add_mod, Nat.mod_eq_of_lt hy]
 ·rw [Nat.mul_comm, Nat.mul_add_mod, Nat.mod_eq_of_lt hz]
theorem fl_bd {n k : Nat} (hk : k < n * n * n) : k / (n * n) < n ∧ k / n % n < n ∧ k % n < n := by
 have hn : 0 < n := by
  rcases Nat.eq_zero_or_pos n with h | h
  ·rw [h] at hk; omega
  ·exact h
 exact ⟨Nat.div_lt_of_lt_mul hk, Nat.mod_lt _ hn, Nat.mod_lt _ hn⟩
theorem rowF_app {a b : Nat} {f : Nat → Int} : rowF a f ++ rowF b (fun k => f (a + k)) = rowF (a + b) f := by
 unfold rowF
 rw [List.range_add, List.map_append, List.map_map]
 rfl
def flT (n : Nat) (F : Nat → Nat → Nat → Int) (x y : Nat) : List Int := rowF ((x * n + y) * n) fun k => F (k / (n * n)) (k / n % n) (k % n)
theorem flT_zero {n : Nat} {F : Nat → Nat → Nat → Int} : flT n F 0 0 = [] := by
 unfold flT
 rw [Nat.zero_mul, Nat.zero_add, Nat.zero_mul]
 rfl
theorem flT_row {n : Nat} {F : Nat → Nat → Nat → Int} {x y : Nat} (hy : y < n) : flT n F x y ++ rowF n (F x y) = flT n F x (y + 1) := by
 unfold flT
 have e : rowF n (F x y) = rowF n fun k => F (((x * n + y) * n + k) / (n * n)) (((x * n + y) * n + k) / n % n) (((x * n + y) * n + k) % n) := rowF_congr fun k hk => by
  obtain ⟨h1, h2, h3⟩ := fl_ix (x := x) hy hk
  rw [h1, h2, h3]
 rw [e, rowF_app (f := fun k => F (k / (n * n)) (k / n % n) (k % n))]
 congr 1
 rw [← Nat.add_assoc, Nat.succ_mul]
theorem flT_mat {n : Nat} {F : Nat → Nat → Nat → Int} {x : Nat} : flT n F x n = flT n F (x + 1) 0 := by
 unfold flT
 rw [Nat.succ_mul, Nat.add_zero]
theorem flT_end {n : Nat} {F : Nat → Nat → Nat → Int} : flT n F n 0 = flF n F := by
 unfold flT flF
 rw [Nat.add_zero]
theorem flT_rows {n : Nat} {F : Nat → Nat → Nat → Int} {x : Nat} : ∀ y, y ≤ n → flT n F x 0 ++ (matF y n (F x)).flatten = flT n F x y
 | 0, _ => by simp [matF]
 | y + 1, h => by
  have e : matF (y + 1) n (F x) = matF y n (F x) ++ [rowF n (F x y)] := by simp [matF, List.range_succ]
  rw [e, List.flatten_append, ← List.append_assoc, flT_rows y (by omega)]
  simp only [List.flatten_cons, List.flatten_nil, List.append_nil]
  exact flT_row (by omega)
theorem flF_Lst {n : Nat} {p : Int} {F : Nat → Nat → Nat → Int} (h : ∀ x, x < n → ∀ y, y < n → ∀ z, z < n → 0 ≤ F x y z ∧ F x y z < p) : Lst p (n * n * n) (flF n F) :=
 ⟨flF_len, fun k hk => by
  unfold flF
  rw [rowF_get hk]
  obtain ⟨h1, h2, h3⟩ := fl_bd hk
  exact h _ h1 _ h2 _ h3⟩
def unM (n x y : Nat) : List (List Int) := matF n n fun i j => if i = x ∧ j = y then 1 else 0
theorem unM_e2 {n x y i j : Nat} (hi : i < n) (hj : j < n) : e2 (unM n x y) i j = if i = x ∧ j = y then 1 else 0 := matF_e2 hi hj
theorem un_sum {n : Nat} {f : List (List Int)} {i j : Nat} (hi : i < n) (hj : j < n) : sumTo (fun x => sumTo (fun y => e2 f x y * e2 (unM n x y) i j) n) n = e2 f i j := by
 have h1 : ∀ x, x < n → sumTo (fun y => e2 f x y * e2 (unM n x y) i j) n = if x = i then e2 f x j else 0 := fun x hx => by
  by_cases c : x = i
  ·rw [if_pos c]
   rw [← sum_one (f := fun y => e2 f x y) hj]
   refine sum_congr fun y _ => ?_
   rw [unM_e2 hi hj]
   by_cases c2 : y = j
   ·rw [if_pos ⟨c.symm, c2.symm⟩, if_pos c2, Int.mul_one]
   ·rw [if_neg (fun h => c2 h.2.symm), if_neg c2, Int.mul_zero]
  ·rw [if_neg c]
   refine (sum_congr (g := fun _ => 0) fun y _ => ?_).trans sum_zero
   rw [unM_e2 hi hj, if_neg (fun h => c h.1.symm), Int.mul_zero]
 rw [sum_congr h1]
 exact sum_one (f := fun x => e2 f x j) hi
theorem cb_lin {o : List Int} {n : Nat} {f : List (List Int)} (g : GrpP n (ad o) (ngO o)) {a b c : Nat} (ha : a < n) (hb : b < n) (hc : c < n) :
  cbR o f a b c = sumTo (fun x => sumTo (fun y => e2 f x y * cbR o (unM n x y) a b c) n) n := by
 have e : sumTo (fun x => sumTo (fun y => e2 f x y * cbR o (unM n x y) a b c) n) n =
   sumTo (fun x => sumTo (fun y => e2 f x y * e2 (unM n x y) b c) n) n - sumTo (fun x => sumTo (fun y => e2 f x y * e2 (unM n x y) (ad o a b) c) n) n + sumTo (fun x => sumTo (fun y => e2 f x y * e2 (unM n x y) a (ad o b c)) n) n - sumTo (fun x => sumTo (fun y => e2 f x y * e2 (unM n x y) a b) n) n := by
  rw [← sum_sub2, ← sum_add, ← sum_sub2]
  refine sum_congr fun x _ => ?_
  rw [← sum_sub2, ← sum_add, ← sum_sub2]
  refine sum_congr fun y _ => ?_
  unfold cbR
  rw [Int.mul_sub, Int.mul_add, Int.mul_sub]
 rw [e, un_sum hb hc, un_sum (g.lt a ha b hb) hc, un_sum ha (g.lt b hb c hc), un_sum ha hb]
 rfl
def bdP (o : List Int) (p : Int) (n x y : Nat) : List (List Int) := ((List.range x).flatMap fun i => (List.range (n - 1)).map fun j => flF n (cbV o p (unM n (i + 1) (j + 1)))) ++ (List.range y).map fun j => flF n (cbV o p (unM n (x + 1) (j + 1)))
def bdL (o : List Int) (p : Int) (n : Nat) : List (List Int) := bdP o p n (n - 1) 0
theorem bdP_row {o : List Int} {p : Int} {n x y : Nat} : bdP o p n x y ++ [flF n (cbV o p (unM n (x + 1) (y + 1)))] = bdP o p n x (y + 1) := by
 unfold bdP
 rw [List.append_assoc, List.range_succ, List.map_append]
 rfl
theorem bdP_mat {o : List Int} {p : Int} {n x : Nat} : bdP o p n x (n - 1) = bdP o p n (x + 1) 0 := by
 unfold bdP
 rw [List.range_succ, List.flatMap_append]
 simp
theorem bdL_mem {o : List Int} {p : Int} {n : Nat} {l : List Int} (h : l ∈ bdL o p n) : ∃ i j, i < n - 1 ∧ j < n - 1 ∧ l = flF n (cbV o p (unM n (i + 1) (j + 1))) := by
 unfold bdL bdP at h
 rw [List.range_zero, List.map_nil, List.append_nil, List.mem_flatMap] at h
 obtain ⟨i, hi, h⟩ := h
 obtain ⟨j, hj, rfl⟩ := List.mem_map.1 h
 exact ⟨i, j, List.mem_range.1 hi, List.mem_range.1 hj, rfl⟩
theorem mem_bdL {o : List Int} {p : Int} {n i j : Nat} (hi : i < n - 1) (hj : j < n - 1) : flF n (cbV o p (unM n (i + 1) (j + 1))) ∈ bdL o p n := by
 unfold bdL bdP
 rw [List.range_zero, List.map_nil, List.append_nil, List.mem_flatMap]
 exact ⟨i, List.mem_range.2 hi, List.mem_map.2 ⟨j, List.mem_range.2 hj, rfl⟩⟩
theorem cbV_rng {o : List Int} {p : Int} {f : List (List Int)} (h : 1 ≤ p) (x y z : Nat) : 0 ≤ cbV o p f x y z ∧ cbV o p f x y z < p := ⟨Int.emod_nonneg _ (by omega), Int.emod_lt_of_pos _ (by omega)⟩
theorem bdL_Lst {o : List Int} {p : Int} {n : Nat} (h : 1 ≤ p) : ∀ k, k < (bdL o p n).length → Lst p (n * n * n) ((bdL o p n).getD k []) := fun k hk => by
 have hm : (bdL o p n).getD k [] ∈ bdL o p n := by
  rw [List.getD_eq_getElem?_getD, List.getElem?_eq_getElem hk]
  exact List.getElem_mem hk
 obtain ⟨i, j, _, _, e⟩ := bdL_mem hm
 rw [e]
 exact flF_Lst fun x _ y _ z _ => cbV_rng h x y z
theorem app_Lst {p : Int} {n : Nat} {L : List (List Int)} {l : List Int} (hL : ∀ k, k < L.length → Lst p n (L.getD k [])) (hl : Lst p n l) : ∀ k, k < (L ++ [l]).length → Lst p n ((L ++ [l]).getD k []) := fun k hk => by
 rw [List.length_append, List.length_cons, List.length_nil] at hk
 rw [getD_app]
 by_cases c : k < L.length
 ·rw [if_pos c]; exact hL k c
 ·rw [if_neg c, if_pos (by omega)]; exact hl
def isCob (o : List Int) (p : Int) (n : Nat) (w : List (List (List Int))) : Bool := decide (rkA p (n * n * n) (bdL o p n) = rkA p (n * n * n) (bdL o p n ++ [flF n (e3 w)]))
theorem dt_cb {o : List Int} {p : Int} {n : Nat} {f : List (List Int)} {X : Nat → Int} : dt (ld (flF n (cbV o p f))) X (n * n * n) % p = dt (fun k => cbR o f (k / (n * n)) (k / n % n) (k % n)) X (n * n * n) % p :=
 dt_mod fun k hk => by
  show (flF n (cbV o p f)).getD k 0 % p = _
  unfold flF
  rw [rowF_get hk]
  exact Int.emod_emod ..
theorem sum_m0 {p : Int} {f : Nat → Int} {n : Nat} (h : ∀ k, k < n → f k % p = 0) : sumTo f n % p = 0 := by
 rw [sum_mdp (g := fun _ => 0) (fun k hk => by rw [h k hk]; rfl), sum_zero, Int.zero_emod]
theorem cob_is {o : List Int} {p : Int} {n : Nat} {f : List (List Int)} (hp : PosO o) (hn : (n : Int) = prodO o) (hs : SmP p) (hf : PairB n p f) : isCob o p n (cobW o p n f) = true := by
 have g := hp.grp
 rw [nO hn] at g
 have h2 := hs.two
 have ew : flF n (e3 (cobW o p n f)) = flF n (cbV o p f) := by
  unfold flF
  refine rowF_congr fun k hk => ?_
  obtain ⟨h1, h3, h4⟩ := fl_bd hk
  exact cobW_e3 h1 h3 h4
 have hl : Lst p (n * n * n) (flF n (cbV o p f)) := flF_Lst fun x _ y _ z _ => cbV_rng (by omega) x y z
 unfold isCob
 rw [ew]
 refine decide_eq_true (rk_same hs (bdL_Lst (by omega)) (app_Lst (bdL_Lst (by omega)) hl) fun X => ⟨fun h k hk => ?_, fun h k hk => ?_⟩)
 ·rw [List.length_append, List.length_cons, List.length_nil] at hk
  rw [getD_app]
  by_cases c : k < (bdL o p n).length
  ·rw [if_pos c]; exact h k c
  ·rw [if_neg c, if_pos (by omega), dt_cb]
   have hmem : ∀ l ∈ bdL o p n, dt (ld l) X (n * n * n) % p = 0 := fun l hl => by
    obtain ⟨k, hk, rfl⟩ := List.mem_iff_getElem.1 hl
    have := h k hk
    rwa [List.getD_eq_getElem?_getD, List.getElem?_eq_getElem hk] at this
   have e1 : dt (fun k => cbR o f (k / (n * n)) (k / n % n) (k % n)) X (n * n * n) = sumTo (fun x => sumTo (fun y => e2 f x y * dt (fun k => cbR o (unM n x y) (k / (n * n)) (k / n % n) (k % n)) X (n * n * n)) n) n := by
    have e2' : ∀ x y, e2 f x y * dt (fun k => cbR o (unM n x y) (k / (n * n)) (k / n % n) (k % n)) X (n * n * n) = sumTo (fun k => e2 f x y * cbR o (unM n x y) (k / (n * n)) (k / n % n) (k % n) * X k) (n * n * n) := fun x y => by
     unfold dt
     rw [← sum_mul_l]
     exact sum_congr fun k _ => (Int.mul_assoc ..).symm
    have e3' : sumTo (fun x => sumTo (fun y => e2 f x y * dt (fun k => cbR o (unM n x y) (k / (n * n)) (k / n % n) (k % n)) X (n * n * n)) n) n = sumTo (fun x => sumTo (fun k => sumTo (fun y => e2 f x y * cbR o (unM n x y) (k / (n * n)) (k / n % n) (k % n) * X k) n) (n * n * n)) n := sum_congr fun x _ => by
     rw [← sum_comm]
     exact sum_congr fun y _ => e2' x y
    rw [e3', ← sum_comm]
    unfold dt
    refine sum_congr fun k hk => ?_
    obtain ⟨b1, b2, b3⟩ := fl_bd hk
    show cbR o f (k / (n * n)) (k / n % n) (k % n) * X k = _
    rw [cb_lin g b1 b2 b3, ← sum_mul]
    exact sum_congr fun x _ => (sum_mul ..).symm
   rw [e1]
   refine sum_m0 fun x hx => sum_m0 fun y hy => ?_
   by_cases c0 : x = 0 ∨ y = 0
   ·have : e2 f x y = 0 := by
     rcases c0 with c0 | c0
     ·rw [c0]; exact (hf.2 y hy).1
     ·rw [c0]; exact (hf.2 x hx).2
    rw [this, Int.zero_mul, Int.zero_emod]
   ·refine em0 ?_
    rw [← dt_cb]
    have hm := mem_bdL (o := o) (p := p) (show x - 1 < n - 1 by omega) (show y - 1 < n - 1 by omega)
    rw [show x - 1 + 1 = x by omega, show y - 1 + 1 = y by omega] at hm
    exact hmem _ hm
 ·have := h k (by rw [List.length_append]; omega)
  rwa [getD_app, if_pos hk] at this
end Go.Pl
