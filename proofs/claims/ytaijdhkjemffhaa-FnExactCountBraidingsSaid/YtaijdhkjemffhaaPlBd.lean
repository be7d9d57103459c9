import Derived.Test.YtaijdhkjemffhaaPlBb
import Derived.Test.YtaijdhkjemffhaaPlBc
set_option linter.unusedSimpArgs false
set_option linter.unusedVariables false
namespace Go.Pl
open Go.Aw
theorem getD_set' {α : Type} {l : List α} {i j : Nat} {v d : α} : (l.set i v).getD j d = if j = i ∧ i < l.length then v else l.getD j d := by
  simp only [List.getD_eq_getElem?_getD, List.getElem?_set]
  by_cases h : i = j
  · subst h
    by_cases h2 : i < l.length
    · simp [h2]
    · simp [h2]
  · rw [if_neg h, if_neg (fun h' => h h'.1.symm)]
theorem e2_set {A : List (List Int)} {i x y : Nat} {r : List Int} (hi : i < A.length) : e2 (A.set i r) x y = if x = i then r.getD y 0 else e2 A x y := by
  unfold e2
  rw [getD_set']
  by_cases h : x = i
  · rw [if_pos ⟨h, hi⟩, if_pos h]
  · rw [if_neg (fun h' => h h'.1), if_neg h]
def Sq (n : Nat) (A : List (List Int)) : Prop := A.length = n ∧ ∀ i, i < n → (A.getD i []).length = n
theorem Sq.set {n : Nat} {A : List (List Int)} (h : Sq n A) {i : Nat} {r : List Int} (hr : r.length = n) : Sq n (A.set i r) := by
  refine ⟨by rw [List.length_set]; exact h.1, fun j hj => ?_⟩
  rw [getD_set']
  split
  · exact hr
  · exact h.2 j hj
theorem Sq.zero (n : Nat) : Sq n (matF n n fun _ _ => 0) := ⟨matF_length .., fun i hi => by rw [matF_get hi, rowF_length]⟩
theorem Sq.ext {n : Nat} {A B : List (List Int)} (h : Sq n A) (h' : Sq n B) (e : ∀ x, x < n → ∀ y, y < n → e2 A x y = e2 B x y) : A = B := by
  apply List.ext_getElem
  · rw [h.1, h'.1]
  · intro i h1 h2
    have hi : i < n := by rw [← h.1]; exact h1
    have ea : A.getD i [] = A[i] := by simp [List.getD, h1]
    have eb : B.getD i [] = B[i] := by simp [List.getD, h2]
    have la := h.2 i hi
    have lb := h'.2 i hi
    rw [← ea, ← eb]
    apply List.ext_getElem
    · rw [la, lb]
    · intro j h3 h4
      have hj : j < n := by rw [← la]; exact h3
      have := e i hi j hj
      unfold e2 at this
      generalize A.getD i [] = P at *
      generalize B.getD i [] = Q at *
      simpa [List.getD, h3, h4] using this
theorem GridB.sq {n : Nat} {m : Int} {c : List (List Int)} (h : GridB n m c) : Sq n c := ⟨h.1, fun _ hi => h.row hi⟩
structure BrE (o : List Int) (m : Int) (w : List (List (List Int))) (c : List (List Int)) : Prop where
  gr : GridB w.length m c
  z0 : ∀ x, x < w.length → e2 c 0 x = 0 ∧ e2 c x 0 = 0
  q1 : ∀ x y z, x < w.length → y < w.length → z < w.length → br1 o w c x y z % m = 0
  q2 : ∀ x y z, x < w.length → y < w.length → z < w.length → br2 o w c x y z % m = 0
theorem isBr_E {o : List Int} {m : Int} {w : List (List (List Int))} {c : List (List Int)} (h : isBr o m w c = true) : BrE o m w c := by
  unfold isBr at h
  obtain ⟨⟨h1, h2⟩, h3⟩ := bd_iff.1 h
  unfold bfF at h3
  have k := fun q hq x hx y hy z hz => first_none_iff.1 (first_none_iff.1 (first_none_iff.1 (first_none_iff.1 h3 q hq) x hx) y hy) z hz
  have k2 : ∀ q, q < 2 → ∀ x, x < w.length → ∀ y, y < w.length → ∀ z, z < w.length → brV o w c q x y z % m = 0 := fun q hq x hx y hy z hz => by
    have := k q hq x hx y hy z hz
    unfold bfG at this
    by_cases e : brV o w c q x y z % m = 0
    · exact e
    · rw [if_pos e] at this; cases this
  exact ⟨h2.1, h2.2, fun x y z hx hy hz => k2 0 (by decide) x hx y hy z hz, fun x y z hx hy hz => k2 1 (by decide) x hx y hy z hz⟩
theorem mod_of {a b m : Int} (h0 : 0 ≤ a) (h1 : a ≤ m - 1) (h : (a - b) % m = 0) : a = b % m := by
  rw [← sub_zero.1 h, Int.emod_eq_of_lt h0 (by omega)]
section
variable {o : List Int} {m : Int} {w : List (List (List Int))} {c : List (List Int)}
theorem BrE.b1 (h : BrE o m w c) (hs : CocS o m w) {x y z : Nat} (hx : x < w.length) (hy : y < w.length) (hz : z < w.length) : e2 c x (ad o y z) = (e2 c x z - e3 w y z x - e3 w x y z + e3 w y x z + e2 c x y) % m := by
  have hb := h.gr.bd hx (hs.ad y z)
  refine mod_of hb.1 hb.2 ?_
  have := h.q1 x y z hx hy hz
  unfold br1 at this
  rw [← this]
  congr 1
  omega
theorem BrE.b2 (h : BrE o m w c) (hs : CocS o m w) {x y z : Nat} (hx : x < w.length) (hy : y < w.length) (hz : z < w.length) : e2 c (ad o x y) z = (e3 w z x y + e3 w x y z + e2 c x z + e2 c y z - e3 w x z y) % m := by
  have hb := h.gr.bd (hs.ad x y) hz
  refine mod_of hb.1 hb.2 ?_
  have := h.q2 x y z hx hy hz
  unfold br2 at this
  rw [← this]
  congr 1
  omega
theorem CocS.nE (hs : CocS o m w) : nE o = w.length := by
  have := hs.2.2.2.2.1
  unfold Pl.nE
  omega
def cl1 (o : List Int) (m : Int) (w : List (List (List Int))) (L : List Int) (i : Nat) (row : List Int) (x h k : Nat) : Int := (row.getD x 0 + L.getD (i * o.length + k) 0 + e3 w x (own o i) h - e3 w x h (own o i) - e3 w (own o i) x h) % m
def rowT (o : List Int) (m : Int) (w : List (List (List Int))) (L : List Int) (i : Nat) : Nat → List Int
  | 0 => List.replicate w.length 0
  | t + 1 => (rowT o m w L i t).set (t + 1) (cl1 o m w L i (rowT o m w L i t) (t + 1 - own o (kOf o (t + 1))) (own o (kOf o (t + 1))) (kOf o (t + 1)))
def rowsP (o : List Int) (m : Int) (w : List (List (List Int))) (L : List Int) : Nat → List (List Int)
  | 0 => matF w.length w.length fun _ _ => 0
  | i + 1 => (rowsP o m w L i).set (own o i) (rowT o m w L i (w.length - 1))
def cl2 (m : Int) (w : List (List (List Int))) (R A : List (List Int)) (x h z : Nat) : Int := (e2 A x z + e2 R h z - e3 w x z h + e3 w z x h + e3 w x h z) % m
def allT (o : List Int) (m : Int) (w : List (List (List Int))) (R : List (List Int)) : Nat → List (List Int)
  | 0 => matF w.length w.length fun _ _ => 0
  | t + 1 => (allT o m w R t).set (t + 1) (rowF w.length (cl2 m w R (allT o m w R t) (t + 1 - own o (kOf o (t + 1))) (own o (kOf o (t + 1)))))
def bLd (o : List Int) (m : Int) (w : List (List (List Int))) (L : List Int) : List (List Int) := allT o m w (rowsP o m w L o.length) (w.length - 1)
def Led (o : List Int) (L : List Int) (c : List (List Int)) : Prop := ∀ i, i < o.length → ∀ k, k < o.length → e2 c (own o i) (own o k) = L.getD (i * o.length + k) 0
theorem rowT_len {L : List Int} {i : Nat} : ∀ t, (rowT o m w L i t).length = w.length
  | 0 => List.length_replicate
  | t + 1 => by rw [rowT, List.length_set]; exact rowT_len t
theorem rowsP_sq {L : List Int} : ∀ i, Sq w.length (rowsP o m w L i)
  | 0 => Sq.zero _
  | i + 1 => (rowsP_sq i).set (rowT_len _)
theorem allT_sq {R : List (List Int)} : ∀ t, Sq w.length (allT o m w R t)
  | 0 => Sq.zero _
  | t + 1 => (allT_sq t).set (rowF_length ..)
theorem rowT_eq (hs : CocS o m w) (hk : chk o = true) (h : BrE o m w c) {L : List Int} (hl : Led o L c) {i : Nat} (hi : i < o.length) : ∀ t, t < w.length → ∀ y, y ≤ t → (rowT o m w L i t).getD y 0 = e2 c (own o i) y := by
  have en := hs.nE
  have hg := (getOwn hk hi).1
  rw [en] at hg
  intro t
  induction t with
  | zero =>
    intro ht y hy
    obtain rfl : y = 0 := by omega
    rw [(h.z0 _ hg).2]
    show (List.replicate w.length (0 : Int)).getD 0 0 = 0
    simp [List.getD, ht]
  | succ t ih =>
    intro ht y hy
    obtain ⟨k1, -, k3, k4, k5⟩ := getK hk (y := t + 1) (by rw [en]; exact ht) (by omega)
    have ih' := ih (by omega)
    rw [rowT, getD_set', rowT_len]
    by_cases e : y = t + 1
    · rw [if_pos ⟨e, ht⟩, e]
      have hh := (getOwn hk k1).1
      rw [en] at hh
      have b := h.b1 hs hg (y := t + 1 - own o (kOf o (t + 1))) (z := own o (kOf o (t + 1))) (by omega) hh
      rw [k5] at b
      rw [b]
      unfold cl1
      rw [ih' _ (by omega), ← hl i hi _ k1]
      congr 1
      omega
    · rw [if_neg (fun h => e h.1)]
      exact ih' y (by omega)
theorem rowsP_eq (hs : CocS o m w) (hk : chk o = true) (h : BrE o m w c) {L : List Int} (hl : Led o L c) : ∀ j, j ≤ o.length → ∀ i, i < j → ∀ y, y < w.length → e2 (rowsP o m w L j) (own o i) y = e2 c (own o i) y := by
  have en := hs.nE
  have n8 := hs.n8
  intro j
  induction j with
  | zero => intro _ i hi; omega
  | succ j ih =>
    intro hj i hi y hy
    have hg := (getOwn hk (i := j) (by omega)).1
    rw [en] at hg
    rw [rowsP, e2_set (by rw [(rowsP_sq j).1]; exact hg)]
    by_cases e : own o i = own o j
    · rw [if_pos e, rowT_eq hs hk h hl (by omega) _ (by omega) y (by omega), e]
    · rw [if_neg e]
      have : i ≠ j := fun h => e (by rw [h])
      exact ih (by omega) i (by omega) y hy
theorem allT_eq (hs : CocS o m w) (hk : chk o = true) (h : BrE o m w c) {R : List (List Int)} (hR : ∀ i, i < o.length → ∀ y, y < w.length → e2 R (own o i) y = e2 c (own o i) y) : ∀ t, t < w.length → ∀ x, x ≤ t → ∀ z, z < w.length → e2 (allT o m w R t) x z = e2 c x z := by
  have en := hs.nE
  intro t
  induction t with
  | zero =>
    intro ht x hx z hz
    obtain rfl : x = 0 := by omega
    rw [(h.z0 z hz).1]
    exact matF_e2 ht hz
  | succ t ih =>
    intro ht x hx z hz
    obtain ⟨k1, -, k3, k4, k5⟩ := getK hk (y := t + 1) (by rw [en]; exact ht) (by omega)
    have hh := (getOwn hk k1).1
    rw [en] at hh
    rw [allT, e2_set (by rw [(allT_sq t).1]; exact ht)]
    by_cases e : x = t + 1
    · rw [if_pos e, rowF_get hz, e]
      have b := h.b2 hs (x := t + 1 - own o (kOf o (t + 1))) (y := own o (kOf o (t + 1))) (z := z) (by omega) hh hz
      rw [k5] at b
      rw [b]
      unfold cl2
      rw [ih (by omega) _ (by omega) z hz, hR _ k1 z hz]
      congr 1
      omega
    · rw [if_neg e]
      exact ih (by omega) x (by omega) z hz
theorem bLd_eq (hs : CocS o m w) (hk : chk o = true) (h : BrE o m w c) {L : List Int} (hl : Led o L c) : bLd o m w L = c := by
  have n8 := hs.n8
  exact Sq.ext (allT_sq _) h.gr.sq fun x hx z hz => allT_eq hs hk h (rowsP_eq hs hk h hl _ (Nat.le_refl _)) _ (by omega) x (by omega) z hz
def Fine (o : List Int) (L : List Int) : Prop := ∀ j, j < o.length * o.length → L.getD j 0 = 0 ∨ (own o (j / o.length) ≠ 0 ∧ own o (j % o.length) ≠ 0)
theorem idx_lt {r i k : Nat} (hi : i < r) (hk : k < r) : i * r + k < r * r := by
  have : (i + 1) * r ≤ r * r := Nat.mul_le_mul_right r hi
  rw [Nat.add_mul, Nat.one_mul] at this
  omega
theorem idx_div {r i k : Nat} (hk : k < r) : (i * r + k) / r = i := by
  rw [Nat.add_comm, Nat.add_mul_div_right _ _ (by omega), Nat.div_eq_of_lt hk, Nat.zero_add]
theorem idx_mod {r i k : Nat} (hk : k < r) : (i * r + k) % r = k := by
  rw [Nat.add_comm, Nat.add_mul_mod_self_right, Nat.mod_eq_of_lt hk]
theorem rowT_keep {L : List Int} {i : Nat} : ∀ d t y, y ≤ t → (rowT o m w L i (t + d)).getD y 0 = (rowT o m w L i t).getD y 0
  | 0, _, _, _ => rfl
  | d + 1, t, y, h => by
    rw [← Nat.add_assoc, rowT, getD_set', if_neg (fun h' => by omega)]
    exact rowT_keep d t y h
theorem allT_keep {R : List (List Int)} : ∀ d t x y, x ≤ t → t + d < w.length → e2 (allT o m w R (t + d)) x y = e2 (allT o m w R t) x y
  | 0, _, _, _, _, _ => rfl
  | d + 1, t, x, y, h, hd => by
    rw [← Nat.add_assoc, allT, e2_set (by rw [(allT_sq _).1]; omega), if_neg (by omega)]
    exact allT_keep d t x y h (by omega)
theorem rowsP_keep (hk : chk o = true) (hn : nE o = w.length) {L : List Int} {i : Nat} (h0 : own o i ≠ 0) (hi : i < o.length) : ∀ d, i + 1 + d ≤ o.length → ∀ y, e2 (rowsP o m w L (i + 1 + d)) (own o i) y = (rowT o m w L i (w.length - 1)).getD y 0
  | 0, _, y => by
    have hg := (getOwn hk hi).1
    rw [Nat.add_zero, rowsP, e2_set (by rw [(rowsP_sq i).1]; omega), if_pos rfl]
  | d + 1, hd, y => by
    have hg := (getOwn hk (i := i + 1 + d) (by omega))
    have ho := (getOwn hk hi).2.resolve_left h0
    rw [← Nat.add_assoc, rowsP, e2_set (by rw [(rowsP_sq _).1]; omega), if_neg (fun e => by
      rcases hg.2 with h | h
      · exact h0 (by rw [e, h])
      · rw [← e, ho] at h; omega)]
    exact rowsP_keep hk hn h0 hi d (by omega) y
theorem led_bLd (hs : CocS o m w) (hn : NormW w) (hk : chk o = true) {L : List Int} (hL : ∀ j, j < o.length * o.length → 0 ≤ L.getD j 0 ∧ L.getD j 0 ≤ m - 1) (hf : Fine o L) (h : BrE o m w (bLd o m w L)) : Led o L (bLd o m w L) := by
  intro i hi k hkl
  have en := hs.nE
  have n8 := hs.n8
  have hg := getOwn hk hi
  have hh := getOwn hk hkl
  rw [en] at hg hh
  have hj := idx_lt hi hkl
  have f := hf _ hj
  rw [idx_div hkl, idx_mod hkl] at f
  have bL := hL _ hj
  by_cases g0 : own o i = 0
  · rw [g0, (h.z0 _ hh.1).1]
    exact (f.resolve_right fun h => h.1 g0).symm
  · by_cases h0 : own o k = 0
    · rw [h0, (h.z0 _ hg.1).2]
      exact (f.resolve_right fun h => h.2 h0).symm
    · have ki := hg.2.resolve_left g0
      have kk := hh.2.resolve_left h0
      obtain ⟨g, eg⟩ : ∃ g, own o i = g := ⟨_, rfl⟩
      obtain ⟨t, et⟩ : ∃ t, own o k = t := ⟨_, rfl⟩
      have r1 : e2 (rowsP o m w L o.length) g t = L.getD (i * o.length + k) 0 := by
        have a1 := rowsP_keep (m := m) (L := L) hk en g0 hi (o.length - (i + 1)) (by omega) t
        rw [show i + 1 + (o.length - (i + 1)) = o.length by omega, eg] at a1
        rw [a1]
        obtain ⟨t', rfl⟩ : ∃ t', t = t' + 1 := ⟨t - 1, by omega⟩
        have a2 := rowT_keep (o := o) (m := m) (w := w) (L := L) (i := i) (w.length - 1 - (t' + 1)) (t' + 1) (t' + 1) (Nat.le_refl _)
        rw [show t' + 1 + (w.length - 1 - (t' + 1)) = w.length - 1 by omega] at a2
        rw [a2, rowT, getD_set', rowT_len, if_pos ⟨rfl, by omega⟩]
        rw [et] at kk
        rw [kk, et, Nat.sub_self]
        unfold cl1
        have a3 := rowT_keep (o := o) (m := m) (w := w) (L := L) (i := i) t' 0 0 (Nat.le_refl _)
        rw [Nat.zero_add] at a3
        rw [a3, eg, (hn g (by omega) (t' + 1) (by omega)).1, (hn (t' + 1) (by omega) g (by omega)).1, (hn g (by omega) (t' + 1) (by omega)).2.1]
        have : (rowT o m w L i 0).getD 0 0 = 0 := by
          show (List.replicate w.length (0 : Int)).getD 0 0 = 0
          simp [List.getD, show 0 < w.length by omega]
        rw [this]
        rw [show (0 : Int) + L.getD (i * o.length + k) 0 + 0 - 0 - 0 = L.getD (i * o.length + k) 0 by omega]
        exact Int.emod_eq_of_lt bL.1 (by omega)
      rw [eg, et]
      unfold bLd
      obtain ⟨g', rfl⟩ : ∃ g', g = g' + 1 := ⟨g - 1, by omega⟩
      have a2 := allT_keep (o := o) (m := m) (w := w) (R := rowsP o m w L o.length) (w.length - 1 - (g' + 1)) (g' + 1) (g' + 1) t (Nat.le_refl _) (by omega)
      rw [show g' + 1 + (w.length - 1 - (g' + 1)) = w.length - 1 by omega] at a2
      rw [a2, allT, e2_set (by rw [(allT_sq _).1]; omega), if_pos rfl, rowF_get (by omega)]
      rw [eg] at ki
      rw [ki, eg, Nat.sub_self]
      unfold cl2
      have a3 := allT_keep (o := o) (m := m) (w := w) (R := rowsP o m w L o.length) g' 0 0 t (Nat.le_refl _) (by omega)
      rw [Nat.zero_add] at a3
      rw [a3, r1, (hn t (by omega) (g' + 1) (by omega)).1, (hn t (by omega) (g' + 1) (by omega)).2.1, (hn (g' + 1) (by omega) t (by omega)).1]
      have : e2 (allT o m w (rowsP o m w L o.length) 0) 0 t = 0 := matF_e2 (by omega) (by omega)
      rw [this]
      rw [show (0 : Int) + L.getD (i * o.length + k) 0 - 0 + 0 + 0 = L.getD (i * o.length + k) 0 by omega]
      exact Int.emod_eq_of_lt bL.1 (by omega)
end
end Go.Pl
