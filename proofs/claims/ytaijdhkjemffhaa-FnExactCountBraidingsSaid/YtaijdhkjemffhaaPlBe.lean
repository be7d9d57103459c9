import Derived.Test.YtaijdhkjemffhaaPlBd
import Derived.Test.YtaijdhkjemffhaaPlX
set_option linter.unusedSimpArgs false
set_option linter.unusedVariables false
namespace Go.Pl
open Go.Aw
section
variable {o : List Int} {m : Int} {w : List (List (List Int))} {c : List (List Int)}
def odN (o : List Int) (i : Nat) : Nat := ((odL o).getD i 0).toNat
def fmN (o : List Int) (i : Nat) : Nat := ((fmL o).getD i 0).toNat
def stN (o : List Int) (i : Nat) : Nat := ((stL o).getD i 0).toNat
def gV (o : List Int) (m : Int) (w : List (List (List Int))) (L : List Int) (j : Nat) (row : List Int) (i : Nat) : Int := (L.getD (j * o.length + stN o i) 0 + e3 w (fmN o i) (own o j) (own o (stN o i)) + row.getD (fmN o i) 0 - e3 w (fmN o i) (own o (stN o i)) (own o j) - e3 w (own o j) (fmN o i) (own o (stN o i))) % m
def gRow (o : List Int) (m : Int) (w : List (List (List Int))) (L : List Int) (j : Nat) (ρ : List Int) : Nat → List Int
  | 0 => ρ
  | t + 1 => (gRow o m w L j ρ t).set (odN o (t + 1)) (gV o m w L j (gRow o m w L j ρ t) (t + 1))
def matS (o : List Int) (m : Int) (w : List (List (List Int))) (L : List Int) : Nat → List (List Int)
  | 0 => matF w.length w.length fun _ _ => 0
  | j + 1 => (matS o m w L j).set (own o j) (gRow o m w L j ((matS o m w L j).getD (own o j) []) (w.length - 1))
def sV (m : Int) (w : List (List (List Int))) (A : List (List Int)) (f h z : Nat) : Int := (e2 A f z - e3 w f z h + e2 A h z + e3 w z f h + e3 w f h z) % m
def allS (o : List Int) (m : Int) (w : List (List (List Int))) (A : List (List Int)) : Nat → List (List Int)
  | 0 => A
  | t + 1 => if fmN o (t + 1) = 0 then allS o m w A t else (allS o m w A t).set (odN o (t + 1)) (rowF w.length (sV m w (allS o m w A t) (fmN o (t + 1)) (own o (stN o (t + 1)))))
def bS (o : List Int) (m : Int) (w : List (List (List Int))) (L : List Int) : List (List Int) := allS o m w (matS o m w L o.length) (w.length - 1)
theorem gRow_len {L : List Int} {j : Nat} {ρ : List Int} : ∀ t, (gRow o m w L j ρ t).length = ρ.length
  | 0 => rfl
  | t + 1 => by rw [gRow, List.length_set]; exact gRow_len t
theorem matS_sq (hn : nE o = w.length) (hk : chk o = true) {L : List Int} : ∀ j, j ≤ o.length → Sq w.length (matS o m w L j)
  | 0, _ => Sq.zero _
  | j + 1, h => by
    have ih := matS_sq hn hk (L := L) j (by omega)
    have hg := (getOwn hk (i := j) (by omega)).1
    exact ih.set (by rw [gRow_len]; exact ih.2 _ (by omega))
theorem allS_sq {A : List (List Int)} (hA : Sq w.length A) : ∀ t, Sq w.length (allS o m w A t)
  | 0 => hA
  | t + 1 => by
    unfold allS
    split
    · exact allS_sq hA t
    · exact (allS_sq hA t).set (rowF_length ..)
theorem Ord.od {o : List Int} (h : Ord o) {i : Nat} (hi : i < Pl.nE o) : ((odN o i : Nat) : Int) = (odL o).getD i 0 ∧ odN o i < Pl.nE o := by
  have := h.bo i hi
  unfold odN
  omega
theorem Ord.fN {o : List Int} (h : Ord o) {i : Nat} (hi : i < Pl.nE o) : ((fmN o i : Nat) : Int) = (fmL o).getD i 0 ∧ fmN o i < Pl.nE o := by
  have := h.bf i hi
  unfold fmN
  omega
theorem Ord.sN {o : List Int} (h : Ord o) {i : Nat} (hi : i < Pl.nE o) : ((stN o i : Nat) : Int) = (stL o).getD i 0 ∧ stN o i < o.length := by
  have := h.bs i hi
  unfold stN
  omega
theorem Ord.eqN {o : List Int} (h : Ord o) {i : Nat} (hi : i < Pl.nE o) (h0 : i ≠ 0) : ad o (fmN o i) (own o (stN o i)) = odN o i := by
  have := h.eq i hi h0
  have h2 := (h.od hi).1
  unfold fmN stN
  omega
theorem Ord.earN {o : List Int} (h : Ord o) {i : Nat} (hi : i < Pl.nE o) (h0 : i ≠ 0) : ∃ j, j < i ∧ odN o j = fmN o i := by
  obtain ⟨j, h1, h2⟩ := h.ear i hi h0
  refine ⟨j, h1, ?_⟩
  unfold odN fmN
  rw [h2]
theorem Ord.covN {o : List Int} (h : Ord o) {y : Nat} (hy : y < Pl.nE o) : ∃ i, i < Pl.nE o ∧ odN o i = y := by
  obtain ⟨i, h1, h2⟩ := h.cov y hy
  refine ⟨i, h1, ?_⟩
  unfold odN
  omega
theorem Ord.z {o : List Int} (h : Ord o) : odN o 0 = 0 := by
  unfold odN
  rw [h.o0]; rfl
theorem gRow_eq (hs : CocS o m w) (hk : chk o = true) (h : BrE o m w c) {L : List Int} (hl : Led o L c) {j : Nat} (hj : j < o.length) {ρ : List Int} (hρ : ρ.length = w.length) (h0 : ρ.getD 0 0 = 0) : ∀ t, t < w.length → ∀ i, i ≤ t → (gRow o m w L j ρ t).getD (odN o i) 0 = e2 c (own o j) (odN o i) := by
  have en := hs.nE
  have ho := getD' hk
  have hg := (getOwn hk hj).1
  rw [en] at hg
  intro t
  induction t with
  | zero =>
    intro ht i hi
    obtain rfl : i = 0 := by omega
    rw [ho.z, (h.z0 _ hg).2]
    exact h0
  | succ t ih =>
    intro ht i hi
    have ih' := ih (by omega)
    have o1 := (ho.od (i := t + 1) (by omega)).2
    rw [en] at o1
    have val : gV o m w L j (gRow o m w L j ρ t) (t + 1) = e2 c (own o j) (odN o (t + 1)) := by
      have f1 := (ho.fN (i := t + 1) (by omega)).2
      have s1 := (ho.sN (i := t + 1) (by omega)).2
      have hh := (getOwn hk s1).1
      rw [en] at f1 hh
      have b := h.b1 hs hg f1 hh
      rw [ho.eqN (by omega) (by omega)] at b
      rw [b]
      unfold gV
      obtain ⟨i', h1, h2⟩ := ho.earN (i := t + 1) (by omega) (by omega)
      have := ih' i' (by omega)
      rw [h2] at this
      rw [this, ← hl j hj _ s1]
      congr 1
      omega
    rw [gRow, getD_set', gRow_len, hρ]
    by_cases e : odN o i = odN o (t + 1)
    · rw [if_pos ⟨e, o1⟩, val, e]
    · rw [if_neg (fun h => e h.1)]
      have : i ≠ t + 1 := fun h => e (by rw [h])
      exact ih' i (by omega)
theorem matS_eq (hs : CocS o m w) (hk : chk o = true) (h : BrE o m w c) {L : List Int} (hl : Led o L c) : ∀ j, j ≤ o.length → (∀ i, i < j → ∀ y, y < w.length → e2 (matS o m w L j) (own o i) y = e2 c (own o i) y) ∧ (∀ x, x < w.length → e2 (matS o m w L j) x 0 = 0) ∧ ∀ y, y < w.length → e2 (matS o m w L j) 0 y = 0 := by
  have en := hs.nE
  have n8 := hs.n8
  have ho := getD' hk
  intro j
  induction j with
  | zero =>
    intro _
    exact ⟨fun i hi => by omega, fun x hx => matF_e2 hx (by omega), fun y hy => matF_e2 (by omega) hy⟩
  | succ j ih =>
    intro hj
    obtain ⟨a1, a2, a3⟩ := ih (by omega)
    have sq := matS_sq (m := m) (w := w) en hk (L := L) j (by omega)
    have hg := (getOwn hk (i := j) (by omega)).1
    rw [en] at hg
    have key : ∀ y, y < w.length → (gRow o m w L j ((matS o m w L j).getD (own o j) []) (w.length - 1)).getD y 0 = e2 c (own o j) y := fun y hy => by
      obtain ⟨i, h1, h2⟩ := ho.covN (y := y) (by omega)
      rw [← h2]
      exact gRow_eq hs hk h hl (by omega) (sq.2 _ hg) (a2 _ hg) _ (by omega) i (by omega)
    refine ⟨fun i hi y hy => ?_, fun x hx => ?_, fun y hy => ?_⟩
    · rw [matS, e2_set (by rw [sq.1]; exact hg)]
      by_cases e : own o i = own o j
      · rw [if_pos e, key y hy, e]
      · rw [if_neg e]
        have : i ≠ j := fun h => e (by rw [h])
        exact a1 i (by omega) y hy
    · rw [matS, e2_set (by rw [sq.1]; exact hg)]
      by_cases e : x = own o j
      · rw [if_pos e, key 0 (by omega)]
        exact (h.z0 _ hg).2
      · rw [if_neg e]; exact a2 x hx
    · rw [matS, e2_set (by rw [sq.1]; exact hg)]
      by_cases e : 0 = own o j
      · rw [if_pos e, key y hy, ← e]
        exact (h.z0 _ hy).1
      · rw [if_neg e]; exact a3 y hy
theorem allS_eq (hs : CocS o m w) (hk : chk o = true) (h : BrE o m w c) {A : List (List Int)} (sq : Sq w.length A) (h1 : ∀ i, i < o.length → ∀ y, y < w.length → e2 A (own o i) y = e2 c (own o i) y) (h0 : ∀ y, y < w.length → e2 A 0 y = 0) :
    ∀ t, t < w.length → (∀ i, i < o.length → ∀ y, y < w.length → e2 (allS o m w A t) (own o i) y = e2 c (own o i) y) ∧ ∀ i, i ≤ t → ∀ y, y < w.length → e2 (allS o m w A t) (odN o i) y = e2 c (odN o i) y := by
  have en := hs.nE
  have ho := getD' hk
  intro t
  induction t with
  | zero =>
    intro ht
    refine ⟨h1, fun i hi y hy => ?_⟩
    obtain rfl : i = 0 := by omega
    rw [ho.z, (h.z0 y hy).1]
    exact h0 y hy
  | succ t ih =>
    intro ht
    obtain ⟨a1, a2⟩ := ih (by omega)
    have o1 := (ho.od (i := t + 1) (by omega)).2
    have f1 := (ho.fN (i := t + 1) (by omega)).2
    have s1 := (ho.sN (i := t + 1) (by omega)).2
    have hh := (getOwn hk s1).1
    have eq := ho.eqN (i := t + 1) (by omega) (by omega)
    rw [en] at f1 hh o1
    by_cases e : fmN o (t + 1) = 0
    · rw [allS, if_pos e]
      refine ⟨a1, fun i hi y hy => ?_⟩
      by_cases ei : i = t + 1
      · rw [ei, ← eq, e, getZ hk (by omega)]
        exact a1 _ s1 y hy
      · exact a2 i (by omega) y hy
    · rw [allS, if_neg e]
      have val : ∀ y, y < w.length → (rowF w.length (sV m w (allS o m w A t) (fmN o (t + 1)) (own o (stN o (t + 1))))).getD y 0 = e2 c (odN o (t + 1)) y := fun y hy => by
        have b := h.b2 hs f1 hh hy
        rw [eq] at b
        rw [rowF_get hy, b]
        unfold sV
        obtain ⟨i', h1, h2⟩ := ho.earN (i := t + 1) (by omega) (by omega)
        have := a2 i' (by omega) y hy
        rw [h2] at this
        rw [this, a1 _ s1 y hy]
        congr 1
        omega
      refine ⟨fun i hi y hy => ?_, fun i hi y hy => ?_⟩
      · rw [e2_set (by rw [(allS_sq sq t).1]; exact o1)]
        by_cases ei : own o i = odN o (t + 1)
        · rw [if_pos ei, val y hy, ei]
        · rw [if_neg ei]; exact a1 i hi y hy
      · rw [e2_set (by rw [(allS_sq sq t).1]; exact o1)]
        by_cases ei : odN o i = odN o (t + 1)
        · rw [if_pos ei, val y hy, ei]
        · rw [if_neg ei]
          have : i ≠ t + 1 := fun h => ei (by rw [h])
          exact a2 i (by omega) y hy
theorem bS_eq (hs : CocS o m w) (hk : chk o = true) (h : BrE o m w c) {L : List Int} (hl : Led o L c) : bS o m w L = c := by
  have n8 := hs.n8
  have en := hs.nE
  have ho := getD' hk
  have sq := matS_sq (m := m) (w := w) en hk (L := L) o.length (Nat.le_refl _)
  obtain ⟨a1, -, a3⟩ := matS_eq hs hk h hl o.length (Nat.le_refl _)
  refine Sq.ext (allS_sq sq _) h.gr.sq fun x hx y hy => ?_
  obtain ⟨i, h1, rfl⟩ := ho.covN (y := x) (by omega)
  exact (allS_eq hs hk h sq a1 a3 _ (by omega)).2 i (by omega) y hy
def ledL (o : List Int) (c : List (List Int)) : List Int := rowF (o.length * o.length) fun j => e2 c (own o (j / o.length)) (own o (j % o.length))
theorem led_iff {L : List Int} (hL : L.length = o.length * o.length) : ledL o c = L ↔ Led o L c := by
  constructor
  · rintro rfl i hi k hk
    unfold ledL
    rw [rowF_get (idx_lt hi hk), idx_div hk, idx_mod hk]
  · intro h
    apply List.ext_getElem
    · rw [ledL, rowF_length, hL]
    · intro j h1 h2
      have hj : j < o.length * o.length := by rw [← hL]; exact h2
      have hr : 0 < o.length := by
        rcases Nat.eq_zero_or_pos o.length with e | e
        · rw [e] at hj; omega
        · exact e
      have hk := Nat.mod_lt j hr
      have hi : j / o.length < o.length := Nat.div_lt_of_lt_mul hj
      have := h _ hi _ hk
      have e : j / o.length * o.length + j % o.length = j := by rw [Nat.mul_comm]; exact Nat.div_add_mod j o.length
      rw [e] at this
      have g : (ledL o c).getD j 0 = L.getD j 0 := by rw [← this, ledL, rowF_get hj]
      simpa [List.getD, h1, h2] using g
open Classical in
noncomputable def sOk (o : List Int) (m : Int) (w : List (List (List Int))) (L : List Int) : Option (List (List Int)) := if isBr o m w (bS o m w L) = true ∧ ledL o (bS o m w L) = L then some (bS o m w L) else none
open Classical in
noncomputable def pOk (o : List Int) (m : Int) (w : List (List (List Int))) (L : List Int) : Option (List (List Int)) := if Fine o L ∧ isBr o m w (bLd o m w L) = true then some (bLd o m w L) else none
theorem fine_of (hr : 0 < o.length) (hs : CocS o m w) (hk : chk o = true) (h : BrE o m w c) {L : List Int} (hl : Led o L c) : Fine o L := by
  have en := hs.nE
  intro j hj
  have hm := Nat.mod_lt j hr
  have hi : j / o.length < o.length := Nat.div_lt_of_lt_mul hj
  have e : j / o.length * o.length + j % o.length = j := by rw [Nat.mul_comm]; exact Nat.div_add_mod j o.length
  have hL := hl _ hi _ hm
  rw [e] at hL
  have hg := (getOwn hk hi).1
  have hh := (getOwn hk hm).1
  rw [en] at hg hh
  by_cases g0 : own o (j / o.length) = 0
  · left; rw [← hL, g0]; exact (h.z0 _ hh).1
  · by_cases h0 : own o (j % o.length) = 0
    · left; rw [← hL, h0]; exact (h.z0 _ hg).2
    · exact .inr ⟨g0, h0⟩
theorem sOk_pOk (hs : CocS o m w) (hn : NormW w) (hk : chk o = true) {L : List Int} (hl : L.length = o.length * o.length) (hL : ∀ j, j < o.length * o.length → 0 ≤ L.getD j 0 ∧ L.getD j 0 ≤ m - 1) : sOk o m w L = pOk o m w L := by
  unfold sOk pOk
  by_cases h : isBr o m w (bS o m w L) = true ∧ ledL o (bS o m w L) = L
  · have hE := isBr_E h.1
    have hd := (led_iff hl).1 h.2
    have e := bLd_eq hs hk hE hd
    have hf := fine_of hs.1.1 hs hk hE hd
    rw [if_pos h, e, if_pos ⟨hf, h.1⟩]
  · rw [if_neg h]
    by_cases h' : Fine o L ∧ isBr o m w (bLd o m w L) = true
    · exfalso
      have hE := isBr_E h'.2
      have hd := led_bLd hs hn hk hL h'.1 hE
      have e := bS_eq hs hk hE hd
      exact h ⟨by rw [e]; exact h'.2, by rw [e]; exact (led_iff hl).2 hd⟩
    · rw [if_neg h']
end
def extA (B : Nat) : Nat → List Int → List (List Int)
  | 0, v => [v]
  | d + 1, v => (List.range B).flatMap fun (a : Nat) => extA B d (v ++ [(a : Int)])
def cdL (B d c : Nat) : List Int := rowF d fun x => dgt B c (d - 1 - x)
theorem cdL_cons {B d a r : Nat} (hB : 0 < B) (ha : a < B) (hr : r < B ^ d) : cdL B (d + 1) (a * B ^ d + r) = (a : Int) :: cdL B d r := by
  unfold cdL rowF
  rw [List.range_succ_eq_map, List.map_cons, List.map_map]
  congr 1
  · rw [show d + 1 - 1 - 0 = d by omega]
    exact dgt_top hB ha hr
  · apply List.map_congr_left
    intro x hx
    have hx : x < d := by simpa using hx
    show dgt B (a * B ^ d + r) (d + 1 - 1 - (x + 1)) = _
    rw [dgt_low hB (by omega), show d + 1 - 1 - (x + 1) = d - 1 - x by omega]
theorem extA_eq {B : Nat} (hB : 0 < B) : ∀ d v, extA B d v = (List.range (B ^ d)).map fun c => v ++ cdL B d c
  | 0, v => by simp [extA, cdL, rowF]
  | d + 1, v => by
    rw [extA, Nat.pow_succ, Nat.mul_comm, range_mul, List.map_flatMap]
    refine flatMap_congr_mem fun a ha => ?_
    have ha : a < B := by simpa using ha
    rw [extA_eq hB d, List.map_map]
    apply List.map_congr_left
    intro c hc
    have hc : c < B ^ d := by simpa using hc
    show v ++ [(a : Int)] ++ cdL B d c = v ++ cdL B (d + 1) (a * B ^ d + c)
    rw [cdL_cons hB ha hc, List.append_assoc]
    rfl
end Go.Pl
