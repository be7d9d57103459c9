import Derived.Test.YtjbdiekkjegckaaGreatWx4
import Derived.Test.YtjbdiekkjegckaaGreatPl2
import Derived.Test.YtjbdiekkjegckaaGreatLib5
set_option linter.unusedSimpArgs false
set_option linter.unusedVariables false
namespace Go.Proofs.YtjbdiekkjegckaaGreat
open Go Go.Aw Go.Pl
open Go.Pl
theorem zn_ (n : Nat) (h16 : n ≤ 16) : FreshCall Tryz.prog 98 [.int n] (.l3 (List.replicate n (List.replicate n (List.replicate n 0)))) := by
 refine gFC 29 [.tmp 2] Tryz.call98 Tryz.func98 fun cx hcx => gE ?_
 refine gA ?_
 refine gA ?_
 refine gA ?_
 (repeat refine xb_ ?_); refine gLp (fun i : Nat => ⟨[(0, .int n), (3, .ref 0 []), (4, .int i)], [(0, .t3 (List.replicate i (List.replicate n (List.replicate n 0))))]⟩) n fun i hi => ?_
 have hl : (List.replicate i (List.replicate n (List.replicate n (0 : Int)))).length = i := List.length_replicate
 refine gA ?_
 refine gI (fun hli => ?_) fun hli => ?_
 ·refine xe_ ?_
  refine gO ?_
  refine gA ?_
  refine gA ?_
  (repeat refine xb_ ?_); refine gLp (fun j : Nat => ⟨[(0, .int n), (3, .ref 0 []), (4, .int i), (5, .ref 1 []), (6, .int j)], [(0, .t3 (List.replicate i (List.replicate n (List.replicate n 0)))), (1, .t2 (List.replicate j (List.replicate n 0)))]⟩) n fun j hj => ?_
  have hl2 : (List.replicate j (List.replicate n (0 : Int))).length = j := List.length_replicate
  refine gA ?_
  refine gI (fun hlj => ?_) fun hlj => ?_
  ·refine xe_ ?_
   refine gO ?_
   refine gC fun K hK => ?_
   simp only [hl2]
   refine gU ?_
   refine hK _ ?_; clear hK K
   refine gB ?_
   refine ⟨j + 1,  by omega, by omega, .inl ⟨gH,  by simp only [List.replicate_succ']⟩⟩
  ·obtain rfl : j = n := by omega
   refine xh_ (x9_ ?_)
   refine gC fun K hK => ?_
   (repeat refine And.intro (by (first | omega | (rw [hl]; omega))) ?_)
   refine hK _ ?_; clear hK K
   refine gB ?_
   refine ⟨i + 1,  by omega, by omega, .inl ⟨gH,  by simp only [List.replicate_succ' (n := i)]⟩⟩
 ·obtain rfl : i = n := by omega
  refine xh_ (x9_ ?_)
  refine gA ?_
  exact xf_ (ai1 (is := [0]) rfl ⟨rfl, trivial⟩ rfl (by simp))
end Go.Proofs.YtjbdiekkjegckaaGreat
