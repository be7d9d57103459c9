import Derived.Test.YtaijdhkjemffhaaPlBa
set_option linter.unusedSimpArgs false
set_option linter.unusedVariables false
namespace Go.Pl
open Go.Aw
def nE (o : List Int) : Nat := (prodO o).toNat
def plc1 (o : List Int) (i : Nat) : Int := adP o (o.length - 1 - i)
def own (o : List Int) (i : Nat) : Nat := if o.getD i 0 = 1 then 0 else (plc1 o i).toNat
def gensL (o : List Int) : List Int := rowF o.length fun i => (own o i : Int)
def dgO (o : List Int) (y : Nat) (i : Nat) : Int := adX o y (o.length - 1 - i) % adQ o (o.length - 1 - i)
def kS (o : List Int) (y : Nat) : Nat → Nat
  | 0 => 0
  | i + 1 => if dgO o y i ≠ 0 then i else kS o y i
def kOf (o : List Int) (y : Nat) : Nat := kS o y o.length
structure Bf where
  kn : List Bool
  od : List Int
  fm : List Int
  st : List Int
deriving DecidableEq
def bStep (o : List Int) (i k : Nat) (s : Bf) : Bf :=
  if s.kn.getD (ad o (s.od.getD i 0).toNat (own o k)) false = true then s
  else ⟨s.kn.set (ad o (s.od.getD i 0).toNat (own o k)) true, s.od ++ [(ad o (s.od.getD i 0).toNat (own o k) : Int)], s.fm ++ [s.od.getD i 0], s.st ++ [(k : Int)]⟩
def bRow (o : List Int) (i : Nat) (s : Bf) : Nat → Bf
  | 0 => s
  | k + 1 => bStep o i k (bRow o i s k)
def bAll (o : List Int) : Nat → Bf
  | 0 => ⟨(List.replicate (nE o) false).set 0 true, [0], [0], [0]⟩
  | i + 1 => bRow o i (bAll o i) o.length
def odL (o : List Int) : List Int := (bAll o (nE o)).od
def fmL (o : List Int) : List Int := (bAll o (nE o)).fm
def stL (o : List Int) : List Int := (bAll o (nE o)).st
def chkA (o : List Int) : Bool := (List.range o.length).all fun i => decide (own o i < nE o) && (decide (own o i = 0) || decide (kOf o (own o i) = i))
def chkB (o : List Int) : Bool := (List.range (nE o)).all fun y => decide (y = 0) || (decide (kOf o y < o.length) && decide (dgO o y (kOf o y) ≠ 0) && decide (1 ≤ own o (kOf o y)) && decide (own o (kOf o y) ≤ y) && decide (ad o (y - own o (kOf o y)) (own o (kOf o y)) = y))
def okBf (o : List Int) (i : Nat) (s : Bf) : Bool := decide (s.kn.length = nE o) && decide (s.od.length ≤ nE o) && decide (i < s.od.length) && decide (s.fm.length = s.od.length) && decide (s.st.length = s.od.length) && s.od.all (fun x => decide (0 ≤ x) && decide (x < nE o))
def chkC (o : List Int) : Bool := (List.range (nE o)).all fun i => (List.range (o.length + 1)).all fun k => okBf o i (bRow o i (bAll o i) k)
def chkD (o : List Int) : Bool := decide ((odL o).length = nE o) && decide ((fmL o).length = nE o) && decide ((stL o).length = nE o) && decide ((odL o).getD 0 0 = 0) &&
  ((List.range (nE o)).all fun i => (decide (0 ≤ (odL o).getD i 0) && decide ((odL o).getD i 0 < nE o) && decide (0 ≤ (fmL o).getD i 0) && decide ((fmL o).getD i 0 < nE o) && decide (0 ≤ (stL o).getD i 0) && decide ((stL o).getD i 0 < o.length)) &&
    (decide (i = 0) || (decide ((ad o ((fmL o).getD i 0).toNat (own o ((stL o).getD i 0).toNat) : Int) = (odL o).getD i 0) && ((List.range i).any fun j => decide ((odL o).getD j 0 = (fmL o).getD i 0))))) &&
  ((List.range (nE o)).all fun y => (List.range (nE o)).any fun i => decide ((odL o).getD i 0 = (y : Int)))
def chkE (o : List Int) : Bool := (List.range (nE o)).all fun y => decide (ad o 0 y = y)
def chk (o : List Int) : Bool := chkA o && chkB o && chkC o && chkD o && chkE o
theorem chk1 : ∀ a : Nat, a < 9 → 1 ≤ a → chk [(a : Int)] = true := by decide +kernel
theorem chk2 : ∀ a : Nat, a < 9 → ∀ b : Nat, b < 9 → 1 ≤ a → 1 ≤ b → a * b ≤ 8 → chk [(a : Int), (b : Int)] = true := by decide +kernel
theorem chk3' : ((List.range 9).all fun a => (List.range 9).all fun b => (List.range 9).all fun c => decide (a * (b * c) = 0) || decide (8 < a * (b * c)) || chk [(a : Int), (b : Int), (c : Int)]) = true := by decide +kernel
theorem chk3 {a b c : Nat} (ha : a < 9) (hb : b < 9) (hc : c < 9) (h1 : 1 ≤ a) (h2 : 1 ≤ b) (h3 : 1 ≤ c) (h : a * (b * c) ≤ 8) : chk [(a : Int), (b : Int), (c : Int)] = true := by
  have h0 := chk3'
  have k1 := List.all_eq_true.1 h0 a (List.mem_range.2 ha)
  have k2 := List.all_eq_true.1 k1 b (List.mem_range.2 hb)
  have k3 := List.all_eq_true.1 k2 c (List.mem_range.2 hc)
  have hp : a * (b * c) ≠ 0 := by
    have : 0 < a * (b * c) := Nat.mul_pos h1 (Nat.mul_pos h2 h3)
    omega
  simpa [hp, Nat.not_lt.2 h] using k3
theorem chk_ok {o : List Int} (hp : PosO o) (h8 : prodO o ≤ 8) (h3 : o.length ≤ 3) : chk o = true := by
  have e : ∀ i, i < o.length → ∃ a : Nat, o.getD i 0 = a ∧ 1 ≤ a ∧ a < 9 := fun i hi => ⟨(o.getD i 0).toNat, by have := hp.2 i hi; omega, by have := hp.2 i hi; omega, by have := entry_le hp hi; have := hp.2 i hi; omega⟩
  have h1 := hp.1
  match o, h1, h3 with
  | [x], _, _ =>
    obtain ⟨a, ea, a1, a9⟩ := e 0 (by simp)
    simp at ea
    rw [ea]
    exact chk1 a a9 a1
  | [x, y], _, _ =>
    obtain ⟨a, ea, a1, a9⟩ := e 0 (by simp)
    obtain ⟨b, eb, b1, b9⟩ := e 1 (by simp)
    simp at ea eb
    subst ea; subst eb
    simp only [prodO] at h8
    refine chk2 a a9 b b9 a1 b1 ?_
    have : ((a * b : Nat) : Int) ≤ 8 := by rw [Int.natCast_mul]; rw [Int.mul_one] at h8; exact h8
    omega
  | [x, y, z], _, _ =>
    obtain ⟨a, ea, a1, a9⟩ := e 0 (by simp)
    obtain ⟨b, eb, b1, b9⟩ := e 1 (by simp)
    obtain ⟨c, ec, c1, c9⟩ := e 2 (by simp)
    simp at ea eb ec
    subst ea; subst eb; subst ec
    simp only [prodO] at h8
    refine chk3 a9 b9 c9 a1 b1 c1 ?_
    have : ((a * (b * c) : Nat) : Int) ≤ 8 := by rw [Int.natCast_mul, Int.natCast_mul]; rw [Int.mul_one] at h8; exact h8
    omega
theorem getOwn {o : List Int} (h : chk o = true) {i : Nat} (hi : i < o.length) : own o i < nE o ∧ (own o i = 0 ∨ kOf o (own o i) = i) := by
  simp only [chk, Bool.and_eq_true] at h
  have := List.all_eq_true.1 h.1.1.1.1 i (List.mem_range.2 hi)
  simpa using this
theorem getK {o : List Int} (h : chk o = true) {y : Nat} (hy : y < nE o) (h0 : y ≠ 0) : kOf o y < o.length ∧ dgO o y (kOf o y) ≠ 0 ∧ 1 ≤ own o (kOf o y) ∧ own o (kOf o y) ≤ y ∧ ad o (y - own o (kOf o y)) (own o (kOf o y)) = y := by
  simp only [chk, Bool.and_eq_true] at h
  have := List.all_eq_true.1 h.1.1.1.2 y (List.mem_range.2 hy)
  simp only [h0, decide_false, Bool.false_or, Bool.and_eq_true, decide_eq_true_eq] at this
  exact ⟨this.1.1.1.1, this.1.1.1.2, this.1.1.2, this.1.2, this.2⟩
theorem getZ {o : List Int} (h : chk o = true) {y : Nat} (hy : y < nE o) : ad o 0 y = y := by
  simp only [chk, Bool.and_eq_true] at h
  have := List.all_eq_true.1 h.2 y (List.mem_range.2 hy)
  simpa using this
theorem kS_last {o : List Int} {y : Nat} : ∀ i j, kS o y i < j → j < i → dgO o y j = 0
  | 0, j, _, h => absurd h (Nat.not_lt_zero _)
  | i + 1, j, h1, h2 => by
    unfold kS at h1
    split at h1
    · omega
    · rename_i hh
      by_cases e : j = i
      · subst e; exact Classical.not_not.1 hh
      · exact kS_last i j h1 (by omega)
structure BfOk (o : List Int) (i : Nat) (s : Bf) : Prop where
  kn : s.kn.length = nE o
  od : s.od.length ≤ nE o
  lt : i < s.od.length
  fm : s.fm.length = s.od.length
  st : s.st.length = s.od.length
  el : ∀ j, j < s.od.length → 0 ≤ s.od.getD j 0 ∧ s.od.getD j 0 < nE o
theorem getC {o : List Int} (h : chk o = true) {i k : Nat} (hi : i < nE o) (hk : k ≤ o.length) : BfOk o i (bRow o i (bAll o i) k) := by
  simp only [chk, Bool.and_eq_true] at h
  have h1 := List.all_eq_true.1 h.1.1.2 i (List.mem_range.2 hi)
  have h2 := List.all_eq_true.1 h1 k (List.mem_range.2 (by omega))
  simp only [okBf, Bool.and_eq_true, decide_eq_true_eq] at h2
  obtain ⟨⟨⟨⟨⟨a1, a2⟩, a3⟩, a4⟩, a5⟩, a6⟩ := h2
  refine ⟨a1, a2, a3, a4, a5, fun j hj => ?_⟩
  have := List.all_eq_true.1 a6 ((bRow o i (bAll o i) k).od.getD j 0) (by rw [List.getD_eq_getElem?_getD, List.getElem?_eq_getElem hj]; exact List.getElem_mem hj)
  simpa using this
structure Ord (o : List Int) : Prop where
  lo : (odL o).length = nE o
  lf : (fmL o).length = nE o
  ls : (stL o).length = nE o
  o0 : (odL o).getD 0 0 = 0
  bo : ∀ i, i < nE o → 0 ≤ (odL o).getD i 0 ∧ (odL o).getD i 0 < nE o
  bf : ∀ i, i < nE o → 0 ≤ (fmL o).getD i 0 ∧ (fmL o).getD i 0 < nE o
  bs : ∀ i, i < nE o → 0 ≤ (stL o).getD i 0 ∧ (stL o).getD i 0 < o.length
  eq : ∀ i, i < nE o → i ≠ 0 → (ad o ((fmL o).getD i 0).toNat (own o ((stL o).getD i 0).toNat) : Int) = (odL o).getD i 0
  ear : ∀ i, i < nE o → i ≠ 0 → ∃ j, j < i ∧ (odL o).getD j 0 = (fmL o).getD i 0
  cov : ∀ y, y < nE o → ∃ i, i < nE o ∧ (odL o).getD i 0 = (y : Int)
theorem getD' {o : List Int} (h : chk o = true) : Ord o := by
  simp only [chk, Bool.and_eq_true] at h
  have h := h.1.2
  simp only [chkD, Bool.and_eq_true, decide_eq_true_eq, List.all_eq_true, List.mem_range, Bool.or_eq_true, List.any_eq_true] at h
  obtain ⟨⟨⟨⟨⟨a1, a2⟩, a3⟩, a4⟩, a5⟩, a6⟩ := h
  refine ⟨a1, a2, a3, a4, fun i hi => ⟨(a5 i hi).1.1.1.1.1.1, (a5 i hi).1.1.1.1.1.2⟩, fun i hi => ⟨(a5 i hi).1.1.1.1.2, (a5 i hi).1.1.1.2⟩, fun i hi => ⟨(a5 i hi).1.1.2, (a5 i hi).1.2⟩, fun i hi h0 => ((a5 i hi).2.resolve_left h0).1, fun i hi h0 => ?_, fun y hy => ?_⟩
  · obtain ⟨j, h1, h2⟩ := ((a5 i hi).2.resolve_left h0).2
    exact ⟨j, h1, h2⟩
  · obtain ⟨i, h1, h2⟩ := a6 y hy
    exact ⟨i, h1, h2⟩
end Go.Pl
