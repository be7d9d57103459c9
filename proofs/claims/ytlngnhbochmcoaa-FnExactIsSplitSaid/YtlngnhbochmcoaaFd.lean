import Derived.Test.YtlngnhbochmcoaaFz1
set_option linter.unusedSimpArgs false
set_option linter.unusedVariables false
namespace Go.Proofs.Ytlngnhbochmcoaa
open Go Go.Aw Go.Pl
theorem as1 (t : List (List (List Int))) (hc : Cube t) (x : List Int) : PureCall Try.prog 29 [.agg [.l3 t], .l1 x] (.bool (bd (ListP t x ∧ wX_ t x))) := by
 have h1 := hc.1
 have h16 := hc.2.1
 have hn := Vb_ x
 refine gPC 57 [.tmp 4] Try.call29 Try.func29 fun cx hcx => gE ?_
 refine gA ?_
 refine gB ?_
 refine gC fun K hK => ?_
 first | refine xe_ (fun _ => xg_ (hn) rfl) ?_ | refine xe_ (xg_ (hn) rfl) ?_
 refine gW ?_
 refine hK _ ?_; clear hK K
 refine gI (fun hc1 => ?_) fun hc1 => ?_
 ·refine gA ?_
  refine xd_ (yZ_ rfl ?_)
  refine (yn_ (fun h => ?_)).symm
  obtain ⟨⟨g1, g2⟩, g3, g4⟩ := h
  simp [g1, g2] at hc1
  exact hc1 (by simpa [List.getD] using g4)
 ·have hx : ListP t x := by
   simp at hc1
   exact ⟨by omega, hc1.1.2⟩
  have h0 : x.getD 0 0 = 1 := by
   simp at hc1
   simpa [List.getD] using hc1.2
  have lx := hx.1
  refine xb_ ?_
  refine gA ?_
  (repeat refine xa_ ?_); refine xo_ (fun i : Nat => ⟨[(1, .l1 x), (2, .bptr 0 0), (5, .int t.length), (6, .int i)], [(0, .bx [.l3 t])]⟩) (fun i => i ≤ t.length ∧ ∀ p, p < i → ∀ q, q < t.length → Ti_ ((t.getD p []).getD q []) x t.length = x.getD p 0 * x.getD q 0 % 55441) (fun i => t.length - i) 0 ⟨Nat.zero_le _, fun a h => absurd h (Nat.not_lt_zero a)⟩ (by
   refine And.intro ?_ rfl; simp only [leS, Nat.reduceEqDiff, ↓reduceIte, true_and, and_true]
   rfl) (fun i hi => ?_)
  obtain ⟨hi, hI⟩ := hi
  refine gB ?_
  refine gI (fun h2 => ?_) fun h2 => ?_
  ·have mi := (hc.2.2 i (by omega)).1
   refine xb_ ?_
   refine gO ?_
   refine gB ?_
   (repeat refine xa_ ?_); refine xo_ (fun j : Nat => ⟨[(1, .l1 x), (2, .bptr 0 0), (5, .int t.length), (6, .int i), (7, .int j)], [(0, .bx [.l3 t])]⟩) (fun j => j ≤ t.length ∧ ∀ q, q < j → Ti_ ((t.getD i []).getD q []) x t.length = x.getD i 0 * x.getD q 0 % 55441) (fun j => t.length - j) 0 ⟨Nat.zero_le _, fun a h => absurd h (Nat.not_lt_zero a)⟩ (by
    refine And.intro ?_ rfl; simp only [leS, Nat.reduceEqDiff, ↓reduceIte, true_and, and_true]
    rfl) (fun j hj => ?_)
   obtain ⟨hj, hJ⟩ := hj
   refine gB ?_
   refine gI (fun h3 => ?_) fun h3 => ?_
   ·have hr := hc.rowP (i := i) (j := j) (by omega) (by omega)
    have hd := QX_ ((t.getD i []).getD j []) x t.length (by omega) hr.1 lx hr.2 (fun i hi => hx.inP i hi)
    have bm : 0 ≤ x.getD i 0 * x.getD j 0 ∧ x.getD i 0 * x.getD j 0 ≤ 3073593600 := Wv_ (hx.inP i (by omega)) (hx.inP j (by omega))
    refine xb_ ?_
    refine gO ?_
    (repeat refine xa_ ?_); refine xV_ (xZ_ hcx) mixed (by kernel_rfl) fun K hK => ?_; simp only [go_sem, seval]
    try simp (disch := omega) only [tmP, tdP]
    refine gU ?_
    first | refine xi_ (hd) rfl ?_ | refine xe_ (xg_ (hd) rfl) ?_
    refine gV ?_
    try simp (disch := omega) only [tmP, tdP]
    refine gU ?_
    refine hK _ ?_; clear hK K
    refine gI (fun h4 => ?_) fun h4 => ?_
    ·refine gA ?_
     refine xd_ (yZ_ rfl ?_)
     exact (yn_ (fun h => h4 (h.2.1 i (by omega) j (by omega)).symm)).symm
    ·refine xb_ ?_
     refine gB ?_
     refine ⟨j + 1,  ⟨by omega, fun q hq => by rcases Nat.lt_succ_iff_lt_or_eq.1 hq with h | rfl; exact hJ q h; exact h4.symm⟩, by omega, .inl ⟨?_, rfl⟩⟩; simp only [leS, Nat.reduceEqDiff, ↓reduceIte, true_and, and_true]
     omega
   ·refine xf_ (ye_ ?_)
    refine gB ?_
    refine ⟨i + 1,  ⟨by omega, fun p hp q hq => by rcases Nat.lt_succ_iff_lt_or_eq.1 hp with h | rfl; exact hI p h q hq; exact hJ q (by omega)⟩, by omega, .inl ⟨?_, rfl⟩⟩; simp only [leS, Nat.reduceEqDiff, ↓reduceIte, true_and, and_true]
    omega
  ·refine xf_ (ye_ ?_)
   refine gB ?_
   refine xd_ (yZ_ rfl ?_)
   exact (zj_ ⟨hx, fun i hi j hj => hI i (by omega) j hj, h0⟩).symm
end Go.Proofs.Ytlngnhbochmcoaa
