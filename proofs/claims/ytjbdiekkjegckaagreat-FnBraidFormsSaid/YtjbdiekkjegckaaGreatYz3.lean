import Derived.Test.YtjbdiekkjegckaaGreatYz2
set_option linter.unusedSimpArgs false
set_option linter.unusedVariables false
namespace Go.Proofs.YtjbdiekkjegckaaGreat
open Go Go.Aw Go.Pl
theorem sq_one {k : Nat} (h : k * k = 1) : k = 1 := by
 rcases Nat.lt_or_ge k 1 with h1 | h1
 ·have : k = 0 := by omega
  rw [this] at h
  omega
 ·rcases Nat.lt_or_ge k 2 with h2 | h2
  ·omega
  ·have := Nat.mul_le_mul h2 h2
   omega
open Go.Pl
theorem au7 (o : List Int) : PureCall Tryz.prog 71 [.l1 o, .int 8] (.int (if bd (PosO o) = true then (if xA_ o ≤ 8 then 0 else 3) else 1)) := by
 have hg := yv_ o
 unfold gsz at hg
 by_cases h : PosO o
 ·have hp := yk_ h
  have b : 1 ≤ yG_ (xA_ o) ∧ yG_ (xA_ o) ≤ 17 := by unfold yG_; split <;> omega
  have hgt : (8 < yG_ (xA_ o)) ↔ ¬ xA_ o ≤ 8 := by unfold yG_; split <;> omega
  rw [xS_ h, if_pos rfl] at hg ⊢
  generalize yG_ (xA_ o) = z at *
  refine gPC 13 [.tmp 4] Tryz.call71 Tryz.func71 fun cx hcx => gE ?_
  refine gB ?_
  refine gC fun K hK => ?_
  first | refine xc_ (hg) rfl ?_ | refine xd_ (xa_ (hg) rfl) ?_
  refine gV ?_
  refine hK _ ?_; clear hK K
  refine gB ?_
  refine gI (fun hc1 => ?_) fun hc1 => ?_
  ·omega
  ·refine xe_ ?_
   refine gB ?_
   refine gI (fun hc2 => ?_) fun hc2 => ?_
   ·refine gB ?_
    refine xf_ (zY_ rfl ?_)
    rw [if_neg (by omega)]
   ·refine xe_ ?_
    refine gB ?_
    refine xf_ (zY_ rfl ?_)
    rw [if_pos (by omega)]
 ·rw [xz_ h] at hg ⊢
  refine gPC 13 [.tmp 4] Tryz.call71 Tryz.func71 fun cx hcx => gE ?_
  refine gB ?_
  refine gC fun K hK => ?_
  first | refine xc_ (hg) rfl ?_ | refine xd_ (xa_ (hg) rfl) ?_
  refine gV ?_
  refine hK _ ?_; clear hK K
  refine gB ?_
  refine gR ?_
  refine gB ?_
  refine xf_ (zY_ rfl ?_)
  rfl
theorem aG2 {o : List Int} {n : Nat} (hp : PosO o) (h8 : xA_ o ≤ 8) (hn : (n : Int) = xA_ o) : gsz o = n := by
 unfold gsz
 rw [if_pos (xS_ hp)]
 unfold yG_
 rw [if_pos (by omega)]
 exact hn.symm
theorem Wq_ (o : List Int) (m : Int) (q : List (List Int)) : PureCall Tryz.prog 43 [.l1 o, .int m, .l2 q] (.int (Si_ o m q)) := by
 have hO := au7 o
 unfold Si_
 by_cases hp : PosO o
 ·have hpb := xS_ hp
  rw [hpb, if_pos rfl] at hO ⊢
  have hS := yv_ o
  by_cases h8 : xA_ o ≤ 8
  ·obtain ⟨n, hn⟩ : ∃ n : Nat, (n : Int) = xA_ o := ⟨(xA_ o).toNat, by have := yk_ hp; omega⟩
   have hnn : (xA_ o).toNat = n := by omega
   rw [aG2 hp h8 hn] at hS
   rw [if_pos h8] at hO ⊢
   rw [hnn]
   have hI := wP_ m
   by_cases hm : 1 ≤ m ∧ m ≤ 1000
   ·rw [decide_eq_true hm.1, decide_eq_true hm.2] at hI
    have hPr := YH_ n m q (by omega) hm.1 hm.2
    cases hq : bd (wq_ n m q) with
    | true =>
     rw [hq] at hPr
     rw [if_pos ⟨hm.1, hm.2, rfl⟩]
     refine gPC 24 [.tmp 6] Tryz.call43 Tryz.func43 fun cx hcx => gE ?_
     refine gB ?_
     refine gC fun K hK => ?_
     first | refine xc_ (hO) rfl ?_ | refine xd_ (xa_ (hO) rfl) ?_
     refine gV ?_
     refine hK _ ?_; clear hK K
     refine gB ?_
     refine gQ ?_
     refine xe_ ?_
     refine gC fun K hK => ?_
     first | refine xc_ (hI) rfl ?_ | refine xd_ (xa_ (hI) rfl) ?_
     refine gV ?_
     first | refine xc_ (hS) rfl ?_ | refine xd_ (xa_ (hS) rfl) ?_
     refine gV ?_
     first | refine xc_ (hPr) rfl ?_ | refine xd_ (xa_ (hPr) rfl) ?_
     refine gV ?_
     refine hK _ ?_; clear hK K
     refine gQ ?_
     refine xe_ ?_
     refine gB ?_
     refine xf_ (zY_ rfl ?_)
     rfl
    | false =>
     rw [hq] at hPr
     rw [if_neg (fun h => by cases h.2.2)]
     refine gPC 24 [.tmp 6] Tryz.call43 Tryz.func43 fun cx hcx => gE ?_
     refine gB ?_
     refine gC fun K hK => ?_
     first | refine xc_ (hO) rfl ?_ | refine xd_ (xa_ (hO) rfl) ?_
     refine gV ?_
     refine hK _ ?_; clear hK K
     refine gB ?_
     refine gQ ?_
     refine xe_ ?_
     refine gC fun K hK => ?_
     first | refine xc_ (hI) rfl ?_ | refine xd_ (xa_ (hI) rfl) ?_
     refine gV ?_
     first | refine xc_ (hS) rfl ?_ | refine xd_ (xa_ (hS) rfl) ?_
     refine gV ?_
     first | refine xc_ (hPr) rfl ?_ | refine xd_ (xa_ (hPr) rfl) ?_
     refine gV ?_
     refine hK _ ?_; clear hK K
     refine gR ?_
     refine gB ?_
     refine xf_ (zY_ rfl ?_)
     rfl
   ·have hd : (decide (1 ≤ m) && decide (m ≤ 1000)) = false := by
     rw [← Bool.not_eq_true, Bool.and_eq_true, decide_eq_true_eq, decide_eq_true_eq]; exact hm
    rw [hd] at hI
    rw [if_neg (fun h => hm ⟨h.1, h.2.1⟩)]
    refine gPC 24 [.tmp 6] Tryz.call43 Tryz.func43 fun cx hcx => gE ?_
    refine gB ?_
    refine gC fun K hK => ?_
    first | refine xc_ (hO) rfl ?_ | refine xd_ (xa_ (hO) rfl) ?_
    refine gV ?_
    refine hK _ ?_; clear hK K
    refine gB ?_
    refine gQ ?_
    refine xe_ ?_
    refine gC fun K hK => ?_
    first | refine xc_ (hI) rfl ?_ | refine xd_ (xa_ (hI) rfl) ?_
    refine gV ?_
    refine xd_ (v := .int 0) (by first | trivial | (intro h; cases h)) ?_
    refine gV ?_
    refine xd_ (v := .bool false) (by first | trivial | (intro h; cases h)) ?_
    refine gV ?_
    refine hK _ ?_; clear hK K
    refine gR ?_
    refine gB ?_
    refine xf_ (zY_ rfl ?_)
    rfl
  ·rw [if_neg h8] at hO ⊢
   refine gPC 24 [.tmp 6] Tryz.call43 Tryz.func43 fun cx hcx => gE ?_
   refine gB ?_
   refine gC fun K hK => ?_
   first | refine xc_ (hO) rfl ?_ | refine xd_ (xa_ (hO) rfl) ?_
   refine gV ?_
   refine hK _ ?_; clear hK K
   refine gB ?_
   refine gR ?_
   refine gB ?_
   refine xf_ (zY_ rfl ?_)
   rfl
 ·rw [xz_ hp] at hO ⊢
  refine gPC 24 [.tmp 6] Tryz.call43 Tryz.func43 fun cx hcx => gE ?_
  refine gB ?_
  refine gC fun K hK => ?_
  first | refine xc_ (hO) rfl ?_ | refine xd_ (xa_ (hO) rfl) ?_
  refine gV ?_
  refine hK _ ?_; clear hK K
  refine gB ?_
  refine gR ?_
  refine gB ?_
  refine xf_ (zY_ rfl ?_)
  rfl
noncomputable def slC (o : List Int) (m : Int) (w : List (List (List Int))) (x : Int) : Int := if UV_ o m w = true then (if 0 ≤ x ∧ x ≤ (w.length : Int) - 1 then 0 else 2) else 1
theorem UH_ (o : List Int) (m : Int) (w : List (List (List Int))) (x : Int) (hl : w.length ≤ 1048576) : PureCall Tryz.prog 42 [.agg [.l1 o, .int m, .l3 w], .int x] (.bool (decide (0 ≤ x) && decide (x ≤ (w.length : Int) - 1))) := by
 have hw := yf_ x 0 ((w.length : Int) - 1)
 generalize (decide (0 ≤ x) && decide (x ≤ (w.length : Int) - 1)) = b at *
 refine gPC 11 [.tmp 4] Tryz.call42 Tryz.func42 fun cx hcx => gE ?_
 refine gB ?_
 refine gC fun K hK => ?_
 refine gU ?_
 first | refine xc_ (hw) rfl ?_ | refine xd_ (xa_ (hw) rfl) ?_
 refine gV ?_
 refine hK _ ?_; clear hK K
 refine xf_ (yu_ rfl ?_)
 rfl
end Go.Proofs.YtjbdiekkjegckaaGreat
