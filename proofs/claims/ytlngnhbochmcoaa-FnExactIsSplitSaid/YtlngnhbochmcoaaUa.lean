import Derived.Test.YtlngnhbochmcoaaDp
import Derived.Test.YtlngnhbochmcoaaPlIf
set_option linter.unusedSimpArgs false
set_option linter.unusedVariables false
namespace Go.Proofs.Ytlngnhbochmcoaa
open Go Go.Aw Go.Pl
theorem av1 (n : Int) : -55441 < n.tmod 55441 ∧ n.tmod 55441 < 55441 ∧ (n.tmod 55441 + 55441).tmod 55441 = n % 55441 := by
 have h1 := Int.tmod_lt_of_pos n (show (0 : Int) < 55441 by omega)
 have h2 := Int.lt_tmod_of_pos n (show (0 : Int) < 55441 by omega)
 have h3 := Int.tmod_add_mul_tdiv n 55441
 refine ⟨by omega, h1, ?_⟩
 rw [tmP (by omega)]
 omega
theorem X9_ (n : Int) (h1 : -10000000000 ≤ n) (h2 : n ≤ 10000000000) : PureCall Try.prog 48 [.int n] (.int (n % 55441)) := by
 obtain ⟨e1, e2, e⟩ := av1 n
 refine gPC 7 [.tmp 2] Try.call48 Try.func48 fun cx hcx => gE ?_
 refine gB ?_
 (repeat refine xa_ ?_); refine xr_ (xZ_ hcx) fun K hK => ?_; simp only [go_sem, seval, e]
 refine gU ?_
 refine hK _ ?_; clear hK K
 refine xd_ (zW_ rfl ?_)
 rfl
theorem S9_ (n : Int) (h1 : -10000000000 ≤ n) (h2 : n ≤ 10000000000) : PureCall Try.prog 59 [.int n] (.int (n % 55441)) := by
 obtain ⟨e1, e2, e⟩ := av1 n
 refine gPC 7 [.tmp 2] Try.call59 Try.func59 fun cx hcx => gE ?_
 refine gB ?_
 (repeat refine xa_ ?_); refine xr_ (xZ_ hcx) fun K hK => ?_; simp only [go_sem, seval, e]
 refine gU ?_
 refine hK _ ?_; clear hK K
 refine xd_ (zW_ rfl ?_)
 rfl
end Go.Proofs.Ytlngnhbochmcoaa
