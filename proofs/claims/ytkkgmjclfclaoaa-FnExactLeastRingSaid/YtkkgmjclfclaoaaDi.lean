import Derived.Test.YtkkgmjclfclaoaaDh
import Derived.Test.YtkkgmjclfclaoaaLib5
import Derived.Test.YtkkgmjclfclaoaaLib4
import Derived.Test.YtkkgmjclfclaoaaWx2
set_option linter.unusedSimpArgs false
set_option linter.unusedVariables false
namespace Go.Proofs.Ytkkgmjclfclaoaa
open Go Go.Aw Go.Pl
theorem emptyCube_ok (n : Nat) (h1 : 1 ≤ n) (h16 : n ≤ 16) : FreshCall Try.prog 122 [.int n] (.agg [.l3 (List.replicate n (List.replicate n (List.replicate n 0)))]) := by
  refine FreshCall.intro (n := 18) (rs := [.cell 2 29]) Try.call122 Try.func122 rfl rfl rfl (by simp only [List.length_cons, List.length_nil]; omega) (fun cx hcx => ats_of ?_); simp only [argSlots, Nat.zero_add, Nat.reduceAdd]
  (repeat refine ats_seq ?_); refine ats_go (by first | exact fix0 hcx | exact fix1 hcx rfl) fun K hK => ?_; simp only [go_sem, seval]; refine hK _ ?_; clear hK K
  (repeat refine ats_seq ?_); refine ats_go (by first | exact fix0 hcx | exact fix1 hcx rfl) fun K hK => ?_; simp only [go_sem, seval]; refine hK _ ?_; clear hK K
  (repeat refine ats_seq ?_); refine ats_go (by first | exact fix0 hcx | exact fix1 hcx rfl) fun K hK => ?_; simp only [go_sem, seval]; refine hK _ ?_; clear hK K
  (repeat refine ats_seq ?_)
  refine ats_loop (fun o : Option Nat => match o with
    | none => ⟨[(6, .int 0), (5, .int n), (3, .bptr 1 0), (2, .bptr 0 0), (0, .int n)], [(0, .bx [.nil]), (1, .bx [.nil])]⟩
    | some i => ⟨[(6, .int i), (5, .int n), (3, .bptr 1 0), (2, .bptr 0 0), (0, .int n)], [(0, .bx [.nil]), (1, .bx [.ref 4 []]), (4, .t3 (List.replicate i (List.replicate n (List.replicate n 0))))]⟩) (fun o => match o with
    | none => True
    | some i => 1 ≤ i ∧ i ≤ n) (fun o => match o with
    | none => n + 1
    | some i => n - i) none trivial ⟨by simp only [SlotsLe, St.get, slotGet, Nat.reduceEqDiff, ↓reduceIte, true_and, and_true], rfl⟩ (fun o ho => ?_)
  cases o with
  | none =>
    dsimp only at ho ⊢
    (repeat refine ats_seq ?_); refine ats_go (by first | exact fix0 hcx | exact fix1 hcx rfl) fun K hK => ?_; simp only [go_sem, seval]; refine hK _ ?_; clear hK K
    (repeat refine ats_seq ?_); first | refine ats_ifn (p := _) rfl trivial (fun hli => ?_) (fun hli => ?_) | refine ats_ifp (p := _) rfl trivial (fun hli => ?_) (fun hli => ?_) | refine ats_cond rfl trivial (fun hli => ?_) (fun hli => ?_)
    · refine ats_skip ?_
      (repeat refine ats_seq ?_); refine ats_block ?_
      (repeat refine ats_seq ?_)
      refine ats_plan [4] (.one 2 (.one 3 (.alt 0 (.alt 1 (.alt 4 (.alt 5 (.alt 6 (.one 7 (.alt 8 .fin .stop)) .stop) .stop) .stop) (.alt 4 (.alt 1 (.alt 5 (.alt 6 (.one 7 (.alt 8 .fin .stop)) .stop) .stop) (.alt 5 (.one 1 (.alt 6 (.one 7 (.alt 8 .fin .stop)) .stop)) .stop)) .stop)) (.alt 4 (.alt 0 (.alt 1 (.alt 5 (.alt 6 (.one 7 (.alt 8 .fin .stop)) .stop) .stop) (.alt 5 (.one 1 (.alt 6 (.one 7 (.alt 8 .fin .stop)) .stop)) .stop)) (.alt 5 (.one 0 (.one 1 (.alt 6 (.one 7 (.alt 8 .fin .stop)) .stop))) .stop)) .stop)))) ⟨[(6, .int 0), (5, .int n), (3, .bptr 1 0), (2, .bptr 0 0), (0, .int n)], [(0, .bx [.nil]), (1, .bx [.ref 4 []]), (4, .t3 [List.replicate n (List.replicate n 0)])]⟩ (fix0 hcx) mixed (by kernel_rfl) (fun K hK => ?_) ?_
      · simp only [go_sem, seval, pl_fin, pl_stop, pl_one, pl_alt, PK_ap, pickO, List.getElem?_toArray, List.getElem?_cons_zero, List.getElem?_cons_succ, Option.getD_some, and_true, true_and, and_self, List.contains_cons, List.contains_nil, Bool.or_false, Bool.or_true]
        repeat' (first | exact hK _ (by refine And.intro ?_ rfl; simp only [SlotsLe, St.get, slotGet, Nat.reduceEqDiff, ↓reduceIte, AV.int.injEq, AV.bool.injEq, AV.l1.injEq, AV.l2.injEq, AV.l3.injEq, true_and, and_true])  | omega | refine And.intro ?_ ?_ | (refine fcall_own rfl (zeros_ok n n (by omega) (by omega)) rfl ?_; simp only [go_sem, seval, pl_fin, pl_stop, pl_one, pl_alt, PK_ap, pickO, List.getElem?_toArray, List.getElem?_cons_zero, List.getElem?_cons_succ, Option.getD_some, and_true, true_and, and_self, List.contains_cons, List.contains_nil, Bool.or_false, Bool.or_true]))
      (repeat refine ats_seq ?_); refine ats_go (by first | exact fix0 hcx | exact fix1 hcx rfl) fun K hK => ?_; simp only [go_sem, seval]; (repeat refine And.intro (by first | omega | (intro hq; first | omega | (simp at hq <;> omega) | (simp_all <;> omega))) ?_); refine hK _ ?_; clear hK K
      refine ⟨some 1, ⟨Nat.le_refl _, by omega⟩, by show n - 1 < n + 1; omega, .inl ⟨?_, rfl⟩⟩
      simp only [SlotsLe, St.get, slotGet, Nat.reduceEqDiff, ↓reduceIte, AV.int.injEq, true_and, and_true]
      omega
    · omega
  | some i =>
    dsimp only at ho ⊢
    have hl : (List.replicate i (List.replicate n (List.replicate n (0 : Int)))).length = i := List.length_replicate
    (repeat refine ats_seq ?_); refine ats_go (by first | exact fix0 hcx | exact fix1 hcx rfl) fun K hK => ?_; simp only [go_sem, seval]; refine hK _ ?_; clear hK K
    (repeat refine ats_seq ?_); first | refine ats_ifn (p := _) rfl trivial (fun hli => ?_) (fun hli => ?_) | refine ats_ifp (p := _) rfl trivial (fun hli => ?_) (fun hli => ?_) | refine ats_cond rfl trivial (fun hli => ?_) (fun hli => ?_)
    · refine ats_skip ?_
      (repeat refine ats_seq ?_); refine ats_block ?_
      (repeat refine ats_seq ?_)
      refine ats_plan [4] (.one 2 (.one 3 (.alt 0 (.alt 1 (.alt 4 (.alt 5 (.alt 6 (.one 7 (.alt 8 .fin .stop)) .stop) .stop) .stop) (.alt 4 (.alt 1 (.alt 5 (.alt 6 (.one 7 (.alt 8 .fin .stop)) .stop) .stop) (.alt 5 (.one 1 (.alt 6 (.one 7 (.alt 8 .fin .stop)) .stop)) .stop)) .stop)) (.alt 4 (.alt 0 (.alt 1 (.alt 5 (.alt 6 (.one 7 (.alt 8 .fin .stop)) .stop) .stop) (.alt 5 (.one 1 (.alt 6 (.one 7 (.alt 8 .fin .stop)) .stop)) .stop)) (.alt 5 (.one 0 (.one 1 (.alt 6 (.one 7 (.alt 8 .fin .stop)) .stop))) .stop)) .stop)))) ⟨[(6, .int i), (5, .int n), (3, .bptr 1 0), (2, .bptr 0 0), (0, .int n)], [(0, .bx [.nil]), (1, .bx [.ref 4 []]), (4, .t3 (List.replicate i (List.replicate n (List.replicate n 0)) ++ [List.replicate n (List.replicate n 0)]))]⟩ (fix0 hcx) mixed (by kernel_rfl) (fun K hK => ?_) ?_
      · simp only [go_sem, seval, pl_fin, pl_stop, pl_one, pl_alt, PK_ap, pickO, List.getElem?_toArray, List.getElem?_cons_zero, List.getElem?_cons_succ, Option.getD_some, and_true, true_and, and_self, List.contains_cons, List.contains_nil, Bool.or_false, Bool.or_true]
        repeat' (first | exact hK _ (by refine And.intro ?_ rfl; simp only [SlotsLe, St.get, slotGet, Nat.reduceEqDiff, ↓reduceIte, AV.int.injEq, AV.bool.injEq, AV.l1.injEq, AV.l2.injEq, AV.l3.injEq, true_and, and_true])  | omega | refine And.intro ?_ ?_ | (refine fcall_own rfl (zeros_ok n n (by omega) (by omega)) rfl ?_; simp only [go_sem, seval, pl_fin, pl_stop, pl_one, pl_alt, PK_ap, pickO, List.getElem?_toArray, List.getElem?_cons_zero, List.getElem?_cons_succ, Option.getD_some, and_true, true_and, and_self, List.contains_cons, List.contains_nil, Bool.or_false, Bool.or_true]) | ((rw [hl]; omega)))
      (repeat refine ats_seq ?_); refine ats_go (by first | exact fix0 hcx | exact fix1 hcx rfl) fun K hK => ?_; simp only [go_sem, seval]; (repeat refine And.intro (by first | omega | (intro hq; first | omega | (simp at hq <;> omega) | (simp_all <;> omega))) ?_); refine hK _ ?_; clear hK K
      refine ⟨some (i + 1), ⟨by omega, by omega⟩, by show n - (i + 1) < n - i; omega, .inl ⟨?_, by simp only [List.replicate_succ']⟩⟩
      simp only [SlotsLe, St.get, slotGet, Nat.reduceEqDiff, ↓reduceIte, AV.int.injEq, true_and, and_true]
      omega
    · obtain rfl : i = n := by omega
      refine ats_exit (lq_x ?_)
      (repeat refine ats_seq ?_); refine ats_go (by first | exact fix0 hcx | exact fix1 hcx rfl) fun K hK => ?_; simp only [go_sem, seval]; refine hK _ ?_; clear hK K
      exact ats_ret (ownC (v := .agg [.ref 4 []]) (by simp only [go_sem, seval]) rfl (by simp))
end Go.Proofs.Ytkkgmjclfclaoaa
