import Derived.Test.YtmjcbgpbhlheoaaDoorWx2
import Derived.Test.YtmjcbgpbhlheoaaDoorWx4
import Derived.Test.YtmjcbgpbhlheoaaDoorPl2
import Derived.Test.YtmjcbgpbhlheoaaDoorLib4
import Derived.Test.YtmjcbgpbhlheoaaDoorWx3
import Derived.Test.YtmjcbgpbhlheoaaDoorLib5
set_option linter.unusedSimpArgs false
set_option linter.unusedVariables false
namespace Go.Proofs.YtmjcbgpbhlheoaaDoor
open Go Go.Aw Go.Pl
end Go.Proofs.YtmjcbgpbhlheoaaDoor
namespace Go.Proofs.YtmjcbgpbhlheoaaDoor
open Go Go.Aw Go.Pl
end Go.Proofs.YtmjcbgpbhlheoaaDoor
namespace Go.Proofs.YtmjcbgpbhlheoaaDoor
open Go Go.Aw Go.Pl
end Go.Proofs.YtmjcbgpbhlheoaaDoor
namespace Go.Proofs.YtmjcbgpbhlheoaaDoor
open Go Go.Aw Go.Pl
theorem l06Empty_ok (n : Nat) (h16 : n ≤ 16) : FreshCall Tryd.prog 37 [.int n] (.l3 (List.replicate n (List.replicate n (List.replicate n 0)))) := by
 refine FreshCall.intro (n := 29) (rs := [.tmp 2]) Tryd.call37 Tryd.func37 rfl rfl rfl (by simp only [List.length_cons, List.length_nil]; omega) (fun cx hcx => ats_of ?_); simp only [argSlots, Nat.zero_add, Nat.reduceAdd]
 refine gA ?_
 refine gA ?_
 refine gA ?_
 (repeat refine ats_seq ?_); refine ats_loop (fun i : Nat => ⟨[(0, .int n), (3, .ref 0 []), (4, .int i)], [(0, .t3 (List.replicate i (List.replicate n (List.replicate n 0))))]⟩) (fun i => i ≤ n) (fun i => n - i) 0 (Nat.zero_le _) (by refine And.intro ?_ rfl; simp only [leS, Nat.reduceEqDiff, ↓reduceIte, true_and, and_true]; repeat' (first | rfl | with_reducible refine And.intro ?_ ?_ | omega)) (fun i hi => ?_)
 have hl : (List.replicate i (List.replicate n (List.replicate n (0 : Int)))).length = i := List.length_replicate
 refine gA ?_
 refine gI (fun hli => ?_) fun hli => ?_
 ·refine ats_skip ?_
  (repeat refine ats_seq ?_); refine ats_block ?_
  refine gA ?_
  refine gA ?_
  (repeat refine ats_seq ?_); refine ats_loop (fun j : Nat => ⟨[(0, .int n), (3, .ref 0 []), (4, .int i), (5, .ref 1 []), (6, .int j)], [(0, .t3 (List.replicate i (List.replicate n (List.replicate n 0)))), (1, .t2 (List.replicate j (List.replicate n 0)))]⟩) (fun j => j ≤ n) (fun j => n - j) 0 (Nat.zero_le _) (by refine And.intro ?_ rfl; simp only [leS, Nat.reduceEqDiff, ↓reduceIte, true_and, and_true]; repeat' (first | rfl | with_reducible refine And.intro ?_ ?_ | omega)) (fun j hj => ?_)
  have hl2 : (List.replicate j (List.replicate n (0 : Int))).length = j := List.length_replicate
  refine gA ?_
  refine gI (fun hlj => ?_) fun hlj => ?_
  ·refine ats_skip ?_
   (repeat refine ats_seq ?_); refine ats_block ?_
   refine gC fun K hK => ?_
   simp only [hl2]
   (repeat refine aI (hb := ?_))
   refine hK _ ?_; clear hK K
   refine gB ?_
   refine ⟨j + 1,  by omega, by omega, .inl ⟨by simp only [leS, Nat.reduceEqDiff, ↓reduceIte, true_and, and_true]; omega,  by simp only [List.replicate_succ']⟩⟩
  ·obtain rfl : j = n := by omega
   refine ats_exit (lq_x ?_)
   refine gC fun K hK => ?_
   (repeat refine And.intro (by (first | omega | (rw [hl]; omega))) ?_)
   refine hK _ ?_; clear hK K
   refine gB ?_
   refine ⟨i + 1,  by omega, by omega, .inl ⟨by simp only [leS, Nat.reduceEqDiff, ↓reduceIte, true_and, and_true]; omega,  by simp only [List.replicate_succ' (n := i)]⟩⟩
 ·obtain rfl : i = n := by omega
  refine ats_exit (lq_x ?_)
  refine gA ?_
  exact ats_ret (ownV (is := [0]) rfl ⟨rfl, trivial⟩ rfl (by simp))
end Go.Proofs.YtmjcbgpbhlheoaaDoor
namespace Go.Proofs.YtmjcbgpbhlheoaaDoor
open Go Go.Aw Go.Pl
end Go.Proofs.YtmjcbgpbhlheoaaDoor
namespace Go.Proofs.YtmjcbgpbhlheoaaDoor
open Go Go.Aw Go.Pl
end Go.Proofs.YtmjcbgpbhlheoaaDoor
namespace Go.Proofs.YtmjcbgpbhlheoaaDoor
open Go Go.Aw Go.Pl
end Go.Proofs.YtmjcbgpbhlheoaaDoor
namespace Go.Proofs.YtmjcbgpbhlheoaaDoor
open Go Go.Aw Go.Pl
end Go.Proofs.YtmjcbgpbhlheoaaDoor
namespace Go.Proofs.YtmjcbgpbhlheoaaDoor
open Go Go.Aw Go.Pl
attribute [local go_sem] pl_fin pl_stop pl_one pl_alt PK_ap pickO List.getElem?_toArray List.getElem?_cons_zero List.getElem?_cons_succ
theorem emptyCube_ok (n : Nat) (h1 : 1 ≤ n) (h16 : n ≤ 16) : FreshCall Tryd.prog 36 [.int n] (.agg [.l3 (List.replicate n (List.replicate n (List.replicate n 0)))]) := by
 refine FreshCall.intro (n := 18) (rs := [.cell 2 27]) Tryd.call36 Tryd.func36 rfl rfl rfl (by simp only [List.length_cons, List.length_nil]; omega) (fun cx hcx => ats_of ?_); simp only [argSlots, Nat.zero_add, Nat.reduceAdd]
 refine gA ?_
 refine gA ?_
 refine gA ?_
 (repeat refine ats_seq ?_)
 refine ats_loop (fun o : Option Nat => match o with
  | none => ⟨[(6, .int 0), (5, .int n), (3, .bptr 1 0), (2, .bptr 0 0), (0, .int n)], [(0, .bx [.nil]), (1, .bx [.nil])]⟩
  | some i => ⟨[(6, .int i), (5, .int n), (3, .bptr 1 0), (2, .bptr 0 0), (0, .int n)], [(0, .bx [.nil]), (1, .bx [.ref 4 []]), (4, .t3 (List.replicate i (List.replicate n (List.replicate n 0))))]⟩) (fun o => match o with
  | none => True
  | some i => 1 ≤ i ∧ i ≤ n) (fun o => match o with
  | none => n + 1
  | some i => n - i) none trivial ⟨by simp only [SlotsLe, St.get, slotGet, Nat.reduceEqDiff, ↓reduceIte, true_and, and_true], rfl⟩ (fun o ho => ?_)
 cases o with
 | none =>
  dsimp only at ho ⊢
  refine gA ?_
  refine gI (fun hli => ?_) fun hli => ?_
  ·refine ats_skip ?_
   (repeat refine ats_seq ?_); refine ats_block ?_
   (repeat refine ats_seq ?_)
   refine ats_plan [4] (.one 2 (.one 3 (.alt 0 (.alt 1 (.alt 4 (.alt 5 (.alt 6 (.one 7 (.alt 8 .fin .stop)) .stop) .stop) .stop) (.alt 4 (.alt 1 (.alt 5 (.alt 6 (.one 7 (.alt 8 .fin .stop)) .stop) .stop) (.alt 5 (.one 1 (.alt 6 (.one 7 (.alt 8 .fin .stop)) .stop)) .stop)) .stop)) (.alt 4 (.alt 0 (.alt 1 (.alt 5 (.alt 6 (.one 7 (.alt 8 .fin .stop)) .stop) .stop) (.alt 5 (.one 1 (.alt 6 (.one 7 (.alt 8 .fin .stop)) .stop)) .stop)) (.alt 5 (.one 0 (.one 1 (.alt 6 (.one 7 (.alt 8 .fin .stop)) .stop))) .stop)) .stop)))) ⟨[(6, .int 0), (5, .int n), (3, .bptr 1 0), (2, .bptr 0 0), (0, .int n)], [(0, .bx [.nil]), (1, .bx [.ref 4 []]), (4, .t3 [List.replicate n (List.replicate n 0)])]⟩ (fix0 hcx) mixed (by kernel_rfl) (fun K hK => ?_) ?_
   ·simp only [go_sem, seval, Option.getD_some, and_true, true_and, and_self, List.contains_cons, List.contains_nil, Bool.or_false, Bool.or_true]
    repeat' (first | exact hK _ (by refine And.intro ?_ rfl; simp only [leS, Nat.reduceEqDiff, ↓reduceIte, true_and, and_true])  | with_reducible refine And.intro ?_ ?_ | omega | (refine fcall_own rfl (zeros_ok n n (by omega) (by omega)) rfl ?_; simp only [go_sem, seval, Option.getD_some, and_true, true_and, and_self, List.contains_cons, List.contains_nil, Bool.or_false, Bool.or_true]))
   refine gB ?_
   refine ⟨some 1, ⟨Nat.le_refl _, by omega⟩, by show n - 1 < n + 1; omega, .inl ⟨?_, rfl⟩⟩
   simp only [SlotsLe, St.get, slotGet, Nat.reduceEqDiff, ↓reduceIte, AV.int.injEq, true_and, and_true]
   omega
  ·omega
 | some i =>
  dsimp only at ho ⊢
  have hl : (List.replicate i (List.replicate n (List.replicate n (0 : Int)))).length = i := List.length_replicate
  refine gA ?_
  refine gI (fun hli => ?_) fun hli => ?_
  ·refine ats_skip ?_
   (repeat refine ats_seq ?_); refine ats_block ?_
   (repeat refine ats_seq ?_)
   refine ats_plan [4] (.one 2 (.one 3 (.alt 0 (.alt 1 (.alt 4 (.alt 5 (.alt 6 (.one 7 (.alt 8 .fin .stop)) .stop) .stop) .stop) (.alt 4 (.alt 1 (.alt 5 (.alt 6 (.one 7 (.alt 8 .fin .stop)) .stop) .stop) (.alt 5 (.one 1 (.alt 6 (.one 7 (.alt 8 .fin .stop)) .stop)) .stop)) .stop)) (.alt 4 (.alt 0 (.alt 1 (.alt 5 (.alt 6 (.one 7 (.alt 8 .fin .stop)) .stop) .stop) (.alt 5 (.one 1 (.alt 6 (.one 7 (.alt 8 .fin .stop)) .stop)) .stop)) (.alt 5 (.one 0 (.one 1 (.alt 6 (.one 7 (.alt 8 .fin .stop)) .stop))) .stop)) .stop)))) ⟨[(6, .int i), (5, .int n), (3, .bptr 1 0), (2, .bptr 0 0), (0, .int n)], [(0, .bx [.nil]), (1, .bx [.ref 4 []]), (4, .t3 (List.replicate i (List.replicate n (List.replicate n 0)) ++ [List.replicate n (List.replicate n 0)]))]⟩ (fix0 hcx) mixed (by kernel_rfl) (fun K hK => ?_) ?_
   ·simp only [go_sem, seval, Option.getD_some, and_true, true_and, and_self, List.contains_cons, List.contains_nil, Bool.or_false, Bool.or_true]
    repeat' (first | exact hK _ (by refine And.intro ?_ rfl; simp only [leS, Nat.reduceEqDiff, ↓reduceIte, true_and, and_true])  | with_reducible refine And.intro ?_ ?_ | omega | (refine fcall_own rfl (zeros_ok n n (by omega) (by omega)) rfl ?_; simp only [go_sem, seval, Option.getD_some, and_true, true_and, and_self, List.contains_cons, List.contains_nil, Bool.or_false, Bool.or_true]) | ((rw [hl]; omega)))
   refine gB ?_
   refine ⟨some (i + 1), ⟨by omega, by omega⟩, by show n - (i + 1) < n - i; omega, .inl ⟨?_, by simp only [List.replicate_succ']⟩⟩
   simp only [SlotsLe, St.get, slotGet, Nat.reduceEqDiff, ↓reduceIte, AV.int.injEq, true_and, and_true]
   omega
  ·obtain rfl : i = n := by omega
   refine ats_exit (lq_x ?_)
   refine gA ?_
   exact ats_ret (ownC (v := .agg [.ref 4 []]) (by simp only [go_sem, seval]) rfl (by simp))
end Go.Proofs.YtmjcbgpbhlheoaaDoor
namespace Go.Proofs.YtmjcbgpbhlheoaaDoor
open Go Go.Aw Go.Pl
end Go.Proofs.YtmjcbgpbhlheoaaDoor
