/-
  Renumbered points, the visitor of LeastAction.
-/
import Derived.Test.YtkkgmjclfclaoaaFe
import Derived.Test.YtkkgmjclfclaoaaFf
import Derived.Test.YtkkgmjclfclaoaaWo
set_option linter.unusedSimpArgs false
set_option linter.unusedVariables false
namespace Go.Proofs.Ytkkgmjclfclaoaa
open Go Go.Aw Go.Pl

set_option maxHeartbeats 8000000 in
theorem renumber_ok (a : List (List (List Int))) (n : Nat) (p : List Int) (hp : IsP n p) (hm : ∀ i, i < a.length → MatOk n (a.getD i [])) (h16 : n ≤ 16) (ha : 0 < a.length) (ha16 : a.length ≤ 16) :
    FreshCall Try.prog 58 [.agg [.l3 a], .l1 p] (.agg [.l3 (reL a n p a.length)]) := by
  have en := hp.len
  have hz := zeros_ok n n (by omega) (by omega)
  refine FreshCall.intro (n := 63) (rs := [.cell 4 43]) Try.call58 Try.func58 rfl rfl rfl (by simp only [List.length_cons, List.length_nil]; omega) (fun cx hcx => ats_of ?_); simp only [argSlots, Nat.zero_add, Nat.reduceAdd]
  (repeat refine ats_seq ?_); refine ats_go (by first | exact fix0 hcx | exact fix1 hcx rfl | exact fixN hcx rfl) fun K hK => ?_; simp only [go_sem, seval]; refine hK _ ?_; clear hK K
  (repeat refine ats_seq ?_); refine ats_go (by first | exact fix0 hcx | exact fix1 hcx rfl | exact fixN hcx rfl) fun K hK => ?_; simp only [go_sem, seval]; refine hK _ ?_; clear hK K
  (repeat refine ats_seq ?_); refine ats_go (by first | exact fix0 hcx | exact fix1 hcx rfl | exact fixN hcx rfl) fun K hK => ?_; simp only [go_sem, seval]; (repeat refine And.intro (by first | omega | (intro hq; first | omega | (simp at hq <;> omega) | (simp_all <;> omega))) ?_); refine hK _ ?_; clear hK K
  (repeat refine ats_seq ?_)
  refine ats_loop (fun o : Option Nat => match o with
    | none => ⟨[(1, .l1 p), (4, .bptr 1 0), (5, .bptr 2 0), (15, .l3 a), (16, .int a.length), (17, .int 0)], [(0, .bx [.l3 a]), (1, .bx [.nil]), (2, .bx [.nil])]⟩
    | some i => ⟨[(1, .l1 p), (4, .bptr 1 0), (5, .bptr 2 0), (15, .l3 a), (16, .int a.length), (17, .int i)], [(0, .bx [.l3 a]), (1, .bx [.nil]), (2, .bx [.ref 5 []]), (5, .t3 (reL a n p i))]⟩) (fun o => match o with
    | none => True
    | some i => 1 ≤ i ∧ i ≤ a.length) (fun o => match o with
    | none => a.length + 1
    | some i => a.length - i) none trivial ⟨by simp only [SlotsLe, St.get, slotGet, Nat.reduceEqDiff, ↓reduceIte, true_and, and_true], rfl⟩ (fun o ho => ?_)
  cases o with
  | none =>
    dsimp only at ho ⊢
    (repeat refine ats_seq ?_); refine ats_go (by first | exact fix0 hcx | exact fix1 hcx rfl | exact fixN hcx rfl) fun K hK => ?_; simp only [go_sem, seval]; refine hK _ ?_; clear hK K
    (repeat refine ats_seq ?_); first | refine ats_ifn (p := _) rfl trivial (fun hli => ?_) (fun hli => ?_) | refine ats_ifp (p := _) rfl trivial (fun hli => ?_) (fun hli => ?_) | refine ats_cond rfl trivial (fun hli => ?_) (fun hli => ?_)
    · have mi := hm 0 (by omega)
      have li := mi.1
      refine ats_skip ?_
      (repeat refine ats_seq ?_); refine ats_block ?_
      (repeat refine ats_seq ?_); refine ats_go (by first | exact fix0 hcx | exact fix1 hcx rfl | exact fixN hcx rfl) fun K hK => ?_; simp only [go_sem, seval]; (repeat refine And.intro (by first | omega | (intro hq; first | omega | (simp at hq <;> omega) | (simp_all <;> omega))) ?_); refine hK _ ?_; clear hK K
      (repeat refine ats_seq ?_); refine ats_go (by first | exact fix0 hcx | exact fix1 hcx rfl | exact fixN hcx rfl) fun K hK => ?_; simp only [go_sem, seval]
      simp only [en]
      (repeat refine And.intro (by first | omega | (intro hq; first | omega | (simp at hq <;> omega) | (simp_all <;> omega))) ?_)
      refine fcall_own rfl (hz) rfl ?_; simp only [go_sem, seval]
      refine hK _ ?_; clear hK K
      rw [wS_zero (m := a.getD 0 []) (p := p)]
      (repeat refine ats_seq ?_); refine ats_go (by first | exact fix0 hcx | exact fix1 hcx rfl | exact fixN hcx rfl) fun K hK => ?_; simp only [go_sem, seval]; (repeat refine And.intro (by first | omega | (intro hq; first | omega | (simp at hq <;> omega) | (simp_all <;> omega))) ?_); refine hK _ ?_; clear hK K
      (repeat refine ats_seq ?_); refine ats_loop (fun j : Nat => ⟨[(1, .l1 p), (4, .bptr 1 0), (5, .bptr 2 0), (7, .l2 (a.getD 0 [])), (8, .ref 3 []), (15, .l3 a), (16, .int a.length), (17, .int 0), (26, .l1 p), (27, .int p.length), (28, .int j)], [(3, .t2 (wS (a.getD 0 []) n p j 0)), (0, .bx [.l3 a]), (1, .bx [.nil]), (2, .bx [.nil])]⟩) (fun j => j ≤ n) (fun j => n - j) 0 (Nat.zero_le _) (by refine And.intro ?_ rfl; simp only [SlotsLe, St.get, slotGet, Nat.reduceEqDiff, ↓reduceIte, true_and, and_true, AV.int.injEq, AV.bool.injEq, AV.l1.injEq, AV.l2.injEq, AV.l3.injEq]; repeat' (first | rfl | omega | refine And.intro ?_ ?_)) (fun j hj => ?_)
      (repeat refine ats_seq ?_); refine ats_go (by first | exact fix0 hcx | exact fix1 hcx rfl | exact fixN hcx rfl) fun K hK => ?_; simp only [go_sem, seval]; (repeat refine And.intro (by first | omega | (intro hq; first | omega | (simp at hq <;> omega) | (simp_all <;> omega))) ?_); refine hK _ ?_; clear hK K
      (repeat refine ats_seq ?_); first | refine ats_ifn (p := _) rfl trivial (fun hlj => ?_) (fun hlj => ?_) | refine ats_ifp (p := _) rfl trivial (fun hlj => ?_) (fun hlj => ?_) | refine ats_cond rfl trivial (fun hlj => ?_) (fun hlj => ?_)
      · have hj := hp.q j (by omega)
        have rj := mi.row (show j < n by omega)
        refine ats_skip ?_
        (repeat refine ats_seq ?_); refine ats_block ?_
        (repeat refine ats_seq ?_); refine ats_go (by first | exact fix0 hcx | exact fix1 hcx rfl | exact fixN hcx rfl) fun K hK => ?_; simp only [go_sem, seval]; (repeat refine And.intro (by first | omega | (intro hq; first | omega | (simp at hq <;> omega) | (simp_all <;> omega))) ?_); refine hK _ ?_; clear hK K
        (repeat refine ats_seq ?_); refine ats_go (by first | exact fix0 hcx | exact fix1 hcx rfl | exact fixN hcx rfl) fun K hK => ?_; simp only [go_sem, seval]; (repeat refine And.intro (by first | omega | (intro hq; first | omega | (simp at hq <;> omega) | (simp_all <;> omega))) ?_); refine hK _ ?_; clear hK K
        (repeat refine ats_seq ?_); refine ats_loop (fun k : Nat => ⟨[(1, .l1 p), (4, .bptr 1 0), (5, .bptr 2 0), (7, .l2 (a.getD 0 [])), (8, .ref 3 []), (9, .int j), (10, .int (p.getD j 0)), (15, .l3 a), (16, .int a.length), (17, .int 0), (26, .l1 p), (27, .int p.length), (28, .int j), (33, .l1 p), (34, .int p.length), (35, .int k)], [(3, .t2 (wS (a.getD 0 []) n p j k)), (0, .bx [.l3 a]), (1, .bx [.nil]), (2, .bx [.nil])]⟩) (fun k => k ≤ n) (fun k => n - k) 0 (Nat.zero_le _) (by refine And.intro ?_ rfl; simp only [SlotsLe, St.get, slotGet, Nat.reduceEqDiff, ↓reduceIte, true_and, and_true, AV.int.injEq, AV.bool.injEq, AV.l1.injEq, AV.l2.injEq, AV.l3.injEq]; repeat' (first | rfl | omega | refine And.intro ?_ ?_)) (fun k hk => ?_)
        have lk : (wS (a.getD 0 []) n p j k).length = n := matF_length ..
        have lr : ((wS (a.getD 0 []) n p j k).getD (p.getD j 0).toNat []).length = n := by unfold wS; rw [matF_get (by omega), rowF_length]
        (repeat refine ats_seq ?_); refine ats_go (by first | exact fix0 hcx | exact fix1 hcx rfl | exact fixN hcx rfl) fun K hK => ?_; simp only [go_sem, seval]; (repeat refine And.intro (by first | omega | (intro hq; first | omega | (simp at hq <;> omega) | (simp_all <;> omega))) ?_); refine hK _ ?_; clear hK K
        (repeat refine ats_seq ?_); first | refine ats_ifn (p := _) rfl trivial (fun hlk => ?_) (fun hlk => ?_) | refine ats_ifp (p := _) rfl trivial (fun hlk => ?_) (fun hlk => ?_) | refine ats_cond rfl trivial (fun hlk => ?_) (fun hlk => ?_)
        · have hk := hp.q k (by omega)
          have sk := wS_set (m := a.getD 0 []) hp (j := j) (k := k) (by omega) (by omega)
          refine ats_skip ?_
          (repeat refine ats_seq ?_); refine ats_block ?_
          (repeat refine ats_seq ?_); refine ats_go (by first | exact fix0 hcx | exact fix1 hcx rfl | exact fixN hcx rfl) fun K hK => ?_; simp only [go_sem, seval]; (repeat refine And.intro (by first | omega | (intro hq; first | omega | (simp at hq <;> omega) | (simp_all <;> omega))) ?_); refine hK _ ?_; clear hK K
          (repeat refine ats_seq ?_)
          refine ats_plan [] (.one 0 (.one 1 (.one 2 (.one 3 (.one 4 (.one 5 (.one 6 (.one 7 (.one 8 (.one 9 (.one 10 (.one 11 (.one 12 (.alt 13 .fin .stop)))))))))))))) ⟨[(1, .l1 p), (4, .bptr 1 0), (5, .bptr 2 0), (7, .l2 (a.getD 0 [])), (8, .ref 3 []), (9, .int j), (10, .int (p.getD j 0)), (15, .l3 a), (16, .int a.length), (17, .int 0), (26, .l1 p), (27, .int p.length), (28, .int j), (33, .l1 p), (34, .int p.length), (35, .int k)], [(3, .t2 ((wS (a.getD 0 []) n p j k).set (p.getD j 0).toNat (((wS (a.getD 0 []) n p j k).getD (p.getD j 0).toNat []).set (p.getD k 0).toNat (e2 (a.getD 0 []) j k)))), (0, .bx [.l3 a]), (1, .bx [.nil]), (2, .bx [.nil])]⟩ (by first | exact fix0 hcx | exact fixN hcx rfl) mixed (by kernel_rfl) (fun K hK => ?_) ?_
          · simp only [go_sem, seval, pl_fin, pl_stop, pl_one, pl_alt, PK_ap, pickO, List.getElem?_toArray, List.getElem?_cons_zero, List.getElem?_cons_succ, Option.getD_some, and_true, true_and, and_self, List.contains_cons, List.contains_nil, Bool.or_false, Bool.or_true]
            repeat' (first | exact hK _ (by refine And.intro ?_ rfl; simp only [SlotsLe, St.get, slotGet, Nat.reduceEqDiff, ↓reduceIte, AV.int.injEq, AV.bool.injEq, AV.l1.injEq, AV.l2.injEq, AV.l3.injEq, true_and, and_true])  | omega | refine And.intro ?_ ?_)
          rw [sk]
          (repeat refine ats_seq ?_); refine ats_go (by first | exact fix0 hcx | exact fix1 hcx rfl | exact fixN hcx rfl) fun K hK => ?_; simp only [go_sem, seval]; (repeat refine And.intro (by first | omega | (intro hq; first | omega | (simp at hq <;> omega) | (simp_all <;> omega))) ?_); refine hK _ ?_; clear hK K
          refine ⟨k + 1,  by omega, by omega, .inl ⟨by simp only [SlotsLe, St.get, slotGet, Nat.reduceEqDiff, ↓reduceIte, AV.int.injEq, AV.bool.injEq, AV.l1.injEq, AV.l2.injEq, AV.l3.injEq, true_and, and_true]; omega,  rfl⟩⟩
        · obtain rfl : k = n := by omega
          rw [wS_row hp]
          refine ats_exit (lq_x ?_)
          (repeat refine ats_seq ?_); refine ats_go (by first | exact fix0 hcx | exact fix1 hcx rfl | exact fixN hcx rfl) fun K hK => ?_; simp only [go_sem, seval]; (repeat refine And.intro (by first | omega | (intro hq; first | omega | (simp at hq <;> omega) | (simp_all <;> omega))) ?_); refine hK _ ?_; clear hK K
          refine ⟨j + 1,  by omega, by omega, .inl ⟨by simp only [SlotsLe, St.get, slotGet, Nat.reduceEqDiff, ↓reduceIte, AV.int.injEq, AV.bool.injEq, AV.l1.injEq, AV.l2.injEq, AV.l3.injEq, true_and, and_true]; omega,  rfl⟩⟩
      · obtain rfl : j = n := by omega
        rw [wS_end hp]
        refine ats_exit (lq_x ?_)
        (repeat refine ats_seq ?_); refine ats_go (by first | exact fix0 hcx | exact fix1 hcx rfl | exact fixN hcx rfl) fun K hK => ?_; simp only [go_sem, seval]; (repeat refine And.intro (by first | omega | (intro hq; first | omega | (simp at hq <;> omega) | (simp_all <;> omega))) ?_); refine hK _ ?_; clear hK K
        (repeat refine ats_seq ?_); refine ats_go (by first | exact fix0 hcx | exact fix1 hcx rfl | exact fixN hcx rfl) fun K hK => ?_; simp only [go_sem, seval]; (repeat refine And.intro (by first | omega | (intro hq; first | omega | (simp at hq <;> omega) | (simp_all <;> omega))) ?_); refine hK _ ?_; clear hK K
        refine ⟨some (0 + 1), ⟨by omega, by omega⟩, by show a.length - (0 + 1) < a.length + 1; omega, .inl ⟨?_, ?_⟩⟩
        · simp only [SlotsLe, St.get, slotGet, Nat.reduceEqDiff, ↓reduceIte, AV.int.injEq, true_and, and_true]
          omega
        · have es : reL a j p (0 + 1) =  [reM (a.getD 0 []) j p] := by rw [reL_succ] <;> rfl
          dsimp only
          rw [es]
    · omega
  | some i =>
    dsimp only at ho ⊢
    have ls := reL_length (a := a) (n := n) (p := p) (i := i)
    (repeat refine ats_seq ?_); refine ats_go (by first | exact fix0 hcx | exact fix1 hcx rfl | exact fixN hcx rfl) fun K hK => ?_; simp only [go_sem, seval]; refine hK _ ?_; clear hK K
    (repeat refine ats_seq ?_); first | refine ats_ifn (p := _) rfl trivial (fun hli => ?_) (fun hli => ?_) | refine ats_ifp (p := _) rfl trivial (fun hli => ?_) (fun hli => ?_) | refine ats_cond rfl trivial (fun hli => ?_) (fun hli => ?_)
    · have mi := hm i (by omega)
      have li := mi.1
      refine ats_skip ?_
      (repeat refine ats_seq ?_); refine ats_block ?_
      (repeat refine ats_seq ?_); refine ats_go (by first | exact fix0 hcx | exact fix1 hcx rfl | exact fixN hcx rfl) fun K hK => ?_; simp only [go_sem, seval]; (repeat refine And.intro (by first | omega | (intro hq; first | omega | (simp at hq <;> omega) | (simp_all <;> omega))) ?_); refine hK _ ?_; clear hK K
      (repeat refine ats_seq ?_); refine ats_go (by first | exact fix0 hcx | exact fix1 hcx rfl | exact fixN hcx rfl) fun K hK => ?_; simp only [go_sem, seval]
      simp only [en]
      (repeat refine And.intro (by first | omega | (intro hq; first | omega | (simp at hq <;> omega) | (simp_all <;> omega))) ?_)
      refine fcall_own rfl (hz) rfl ?_; simp only [go_sem, seval]
      refine hK _ ?_; clear hK K
      rw [wS_zero (m := a.getD i []) (p := p)]
      (repeat refine ats_seq ?_); refine ats_go (by first | exact fix0 hcx | exact fix1 hcx rfl | exact fixN hcx rfl) fun K hK => ?_; simp only [go_sem, seval]; (repeat refine And.intro (by first | omega | (intro hq; first | omega | (simp at hq <;> omega) | (simp_all <;> omega))) ?_); refine hK _ ?_; clear hK K
      (repeat refine ats_seq ?_); refine ats_loop (fun j : Nat => ⟨[(1, .l1 p), (4, .bptr 1 0), (5, .bptr 2 0), (7, .l2 (a.getD i [])), (8, .ref 6 []), (15, .l3 a), (16, .int a.length), (17, .int i), (26, .l1 p), (27, .int p.length), (28, .int j)], [(6, .t2 (wS (a.getD i []) n p j 0)), (0, .bx [.l3 a]), (1, .bx [.nil]), (2, .bx [.ref 5 []]), (5, .t3 (reL a n p i))]⟩) (fun j => j ≤ n) (fun j => n - j) 0 (Nat.zero_le _) (by refine And.intro ?_ rfl; simp only [SlotsLe, St.get, slotGet, Nat.reduceEqDiff, ↓reduceIte, true_and, and_true, AV.int.injEq, AV.bool.injEq, AV.l1.injEq, AV.l2.injEq, AV.l3.injEq]; repeat' (first | rfl | omega | refine And.intro ?_ ?_)) (fun j hj => ?_)
      (repeat refine ats_seq ?_); refine ats_go (by first | exact fix0 hcx | exact fix1 hcx rfl | exact fixN hcx rfl) fun K hK => ?_; simp only [go_sem, seval]; (repeat refine And.intro (by first | omega | (intro hq; first | omega | (simp at hq <;> omega) | (simp_all <;> omega))) ?_); refine hK _ ?_; clear hK K
      (repeat refine ats_seq ?_); first | refine ats_ifn (p := _) rfl trivial (fun hlj => ?_) (fun hlj => ?_) | refine ats_ifp (p := _) rfl trivial (fun hlj => ?_) (fun hlj => ?_) | refine ats_cond rfl trivial (fun hlj => ?_) (fun hlj => ?_)
      · have hj := hp.q j (by omega)
        have rj := mi.row (show j < n by omega)
        refine ats_skip ?_
        (repeat refine ats_seq ?_); refine ats_block ?_
        (repeat refine ats_seq ?_); refine ats_go (by first | exact fix0 hcx | exact fix1 hcx rfl | exact fixN hcx rfl) fun K hK => ?_; simp only [go_sem, seval]; (repeat refine And.intro (by first | omega | (intro hq; first | omega | (simp at hq <;> omega) | (simp_all <;> omega))) ?_); refine hK _ ?_; clear hK K
        (repeat refine ats_seq ?_); refine ats_go (by first | exact fix0 hcx | exact fix1 hcx rfl | exact fixN hcx rfl) fun K hK => ?_; simp only [go_sem, seval]; (repeat refine And.intro (by first | omega | (intro hq; first | omega | (simp at hq <;> omega) | (simp_all <;> omega))) ?_); refine hK _ ?_; clear hK K
        (repeat refine ats_seq ?_); refine ats_loop (fun k : Nat => ⟨[(1, .l1 p), (4, .bptr 1 0), (5, .bptr 2 0), (7, .l2 (a.getD i [])), (8, .ref 6 []), (9, .int j), (10, .int (p.getD j 0)), (15, .l3 a), (16, .int a.length), (17, .int i), (26, .l1 p), (27, .int p.length), (28, .int j), (33, .l1 p), (34, .int p.length), (35, .int k)], [(6, .t2 (wS (a.getD i []) n p j k)), (0, .bx [.l3 a]), (1, .bx [.nil]), (2, .bx [.ref 5 []]), (5, .t3 (reL a n p i))]⟩) (fun k => k ≤ n) (fun k => n - k) 0 (Nat.zero_le _) (by refine And.intro ?_ rfl; simp only [SlotsLe, St.get, slotGet, Nat.reduceEqDiff, ↓reduceIte, true_and, and_true, AV.int.injEq, AV.bool.injEq, AV.l1.injEq, AV.l2.injEq, AV.l3.injEq]; repeat' (first | rfl | omega | refine And.intro ?_ ?_)) (fun k hk => ?_)
        have lk : (wS (a.getD i []) n p j k).length = n := matF_length ..
        have lr : ((wS (a.getD i []) n p j k).getD (p.getD j 0).toNat []).length = n := by unfold wS; rw [matF_get (by omega), rowF_length]
        (repeat refine ats_seq ?_); refine ats_go (by first | exact fix0 hcx | exact fix1 hcx rfl | exact fixN hcx rfl) fun K hK => ?_; simp only [go_sem, seval]; (repeat refine And.intro (by first | omega | (intro hq; first | omega | (simp at hq <;> omega) | (simp_all <;> omega))) ?_); refine hK _ ?_; clear hK K
        (repeat refine ats_seq ?_); first | refine ats_ifn (p := _) rfl trivial (fun hlk => ?_) (fun hlk => ?_) | refine ats_ifp (p := _) rfl trivial (fun hlk => ?_) (fun hlk => ?_) | refine ats_cond rfl trivial (fun hlk => ?_) (fun hlk => ?_)
        · have hk := hp.q k (by omega)
          have sk := wS_set (m := a.getD i []) hp (j := j) (k := k) (by omega) (by omega)
          refine ats_skip ?_
          (repeat refine ats_seq ?_); refine ats_block ?_
          (repeat refine ats_seq ?_); refine ats_go (by first | exact fix0 hcx | exact fix1 hcx rfl | exact fixN hcx rfl) fun K hK => ?_; simp only [go_sem, seval]; (repeat refine And.intro (by first | omega | (intro hq; first | omega | (simp at hq <;> omega) | (simp_all <;> omega))) ?_); refine hK _ ?_; clear hK K
          (repeat refine ats_seq ?_)
          refine ats_plan [] (.one 0 (.one 1 (.one 2 (.one 3 (.one 4 (.one 5 (.one 6 (.one 7 (.one 8 (.one 9 (.one 10 (.one 11 (.one 12 (.alt 13 .fin .stop)))))))))))))) ⟨[(1, .l1 p), (4, .bptr 1 0), (5, .bptr 2 0), (7, .l2 (a.getD i [])), (8, .ref 6 []), (9, .int j), (10, .int (p.getD j 0)), (15, .l3 a), (16, .int a.length), (17, .int i), (26, .l1 p), (27, .int p.length), (28, .int j), (33, .l1 p), (34, .int p.length), (35, .int k)], [(6, .t2 ((wS (a.getD i []) n p j k).set (p.getD j 0).toNat (((wS (a.getD i []) n p j k).getD (p.getD j 0).toNat []).set (p.getD k 0).toNat (e2 (a.getD i []) j k)))), (0, .bx [.l3 a]), (1, .bx [.nil]), (2, .bx [.ref 5 []]), (5, .t3 (reL a n p i))]⟩ (by first | exact fix0 hcx | exact fixN hcx rfl) mixed (by kernel_rfl) (fun K hK => ?_) ?_
          · simp only [go_sem, seval, pl_fin, pl_stop, pl_one, pl_alt, PK_ap, pickO, List.getElem?_toArray, List.getElem?_cons_zero, List.getElem?_cons_succ, Option.getD_some, and_true, true_and, and_self, List.contains_cons, List.contains_nil, Bool.or_false, Bool.or_true]
            repeat' (first | exact hK _ (by refine And.intro ?_ rfl; simp only [SlotsLe, St.get, slotGet, Nat.reduceEqDiff, ↓reduceIte, AV.int.injEq, AV.bool.injEq, AV.l1.injEq, AV.l2.injEq, AV.l3.injEq, true_and, and_true])  | omega | refine And.intro ?_ ?_)
          rw [sk]
          (repeat refine ats_seq ?_); refine ats_go (by first | exact fix0 hcx | exact fix1 hcx rfl | exact fixN hcx rfl) fun K hK => ?_; simp only [go_sem, seval]; (repeat refine And.intro (by first | omega | (intro hq; first | omega | (simp at hq <;> omega) | (simp_all <;> omega))) ?_); refine hK _ ?_; clear hK K
          refine ⟨k + 1,  by omega, by omega, .inl ⟨by simp only [SlotsLe, St.get, slotGet, Nat.reduceEqDiff, ↓reduceIte, AV.int.injEq, AV.bool.injEq, AV.l1.injEq, AV.l2.injEq, AV.l3.injEq, true_and, and_true]; omega,  rfl⟩⟩
        · obtain rfl : k = n := by omega
          rw [wS_row hp]
          refine ats_exit (lq_x ?_)
          (repeat refine ats_seq ?_); refine ats_go (by first | exact fix0 hcx | exact fix1 hcx rfl | exact fixN hcx rfl) fun K hK => ?_; simp only [go_sem, seval]; (repeat refine And.intro (by first | omega | (intro hq; first | omega | (simp at hq <;> omega) | (simp_all <;> omega))) ?_); refine hK _ ?_; clear hK K
          refine ⟨j + 1,  by omega, by omega, .inl ⟨by simp only [SlotsLe, St.get, slotGet, Nat.reduceEqDiff, ↓reduceIte, AV.int.injEq, AV.bool.injEq, AV.l1.injEq, AV.l2.injEq, AV.l3.injEq, true_and, and_true]; omega,  rfl⟩⟩
      · obtain rfl : j = n := by omega
        rw [wS_end hp]
        refine ats_exit (lq_x ?_)
        (repeat refine ats_seq ?_); refine ats_go (by first | exact fix0 hcx | exact fix1 hcx rfl | exact fixN hcx rfl) fun K hK => ?_; simp only [go_sem, seval]; (repeat refine And.intro (by first | omega | (intro hq; first | omega | (simp at hq <;> omega) | (simp_all <;> omega))) ?_); refine hK _ ?_; clear hK K
        (repeat refine ats_seq ?_); refine ats_go (by first | exact fix0 hcx | exact fix1 hcx rfl | exact fixN hcx rfl) fun K hK => ?_; simp only [go_sem, seval]; (repeat refine And.intro (by first | omega | (intro hq; first | omega | (simp at hq <;> omega) | (simp_all <;> omega))) ?_); refine hK _ ?_; clear hK K
        refine ⟨some (i + 1), ⟨by omega, by omega⟩, by show a.length - (i + 1) < a.length - i; omega, .inl ⟨?_, ?_⟩⟩
        · simp only [SlotsLe, St.get, slotGet, Nat.reduceEqDiff, ↓reduceIte, AV.int.injEq, true_and, and_true]
          omega
        · have es : reL a j p (i + 1) = reL a j p i ++ [reM (a.getD i []) j p] := by rw [reL_succ] <;> rfl
          dsimp only
          rw [es]
    · obtain rfl : i = a.length := by omega
      refine ats_exit (lq_x ?_)
      (repeat refine ats_seq ?_); refine ats_go (by first | exact fix0 hcx | exact fix1 hcx rfl | exact fixN hcx rfl) fun K hK => ?_; simp only [go_sem, seval]; refine hK _ ?_; clear hK K
      exact ats_ret (ownC (v := .agg [.ref 5 []]) (by simp only [go_sem, seval]) rfl (by simp))

/-- The best action so far has the shape of all. -/
def GoodB (k n : Nat) (s : Option (List (List (List Int)))) : Prop := ∀ M, s = some M → Sh k n M
set_option maxHeartbeats 8000000 in
theorem visit_ok (a : List (List (List Int))) (n : Nat) (p : List Int) (hp : IsP n p) (hm : ∀ i, i < a.length → MatOk n (a.getD i [])) (h16 : n ≤ 16) (ha : 0 < a.length) (ha16 : a.length ≤ 16) (s : Option (List (List (List Int)))) (hs : GoodB a.length n s) :
    OwnCall Try.prog 57 [.ref 5 [], .bptr 1 0, .bptr 3 0] (TV a p s) (TV a p (visI a n p s)) (.tup []) [1, 3, 5] := by
  have hr := renumber_ok a n p hp hm h16 ha ha16
  cases s with
  | none =>
    simp only [TV, bxB, tlB, visI, List.cons_append, List.nil_append, List.append_nil]
    refine OwnCall.intro (n := 22) (rs := []) 3 [0, 1, 2] (X := [1, 3, 5]) Try.call57 Try.func57 rfl rfl rfl (by simp only [List.length_cons, List.length_nil]; omega) (by simp [Aw.ids, rootsA, rootsAs, argSlots, slotGet]) (fun cx hcx => AT.weakG (ats_of ?_)); simp only [argSlots, Nat.zero_add, Nat.reduceAdd]
    (repeat refine ats_seq ?_); refine ats_go (by first | exact fix0 hcx | exact fix1 hcx rfl | exact fixN hcx rfl) fun K hK => ?_; simp only [go_sem, seval]
    refine fcall_own rfl (hr) rfl ?_; simp only [go_sem, seval]
    (repeat refine And.intro (by first | omega | (intro hq; first | omega | (simp at hq <;> omega) | (simp_all <;> omega))) ?_)
    refine hK _ ?_; clear hK K
    (repeat refine ats_seq ?_); refine ats_go (by first | exact fix0 hcx | exact fix1 hcx rfl | exact fixN hcx rfl) fun K hK => ?_; simp only [go_sem, seval]
    refine YR_intro (v := .int 0) (fun h => h.elim) ?_
    simp only [go_sem, seval]
    refine hK _ ?_; clear hK K
    (repeat refine ats_seq ?_)
    (repeat refine ats_seq ?_); refine ats_yes rfl trivial ?_
    (repeat refine ats_seq ?_); refine ats_go (by first | exact fix0 hcx | exact fix1 hcx rfl | exact fixN hcx rfl) fun K hK => ?_; simp only [go_sem, seval]; (repeat refine And.intro (by first | omega | (intro hq; first | omega | (simp at hq <;> omega) | (simp_all <;> omega))) ?_); refine hK _ ?_; clear hK K
    refine id ⟨⟨[(0, .ref 5 []), (1, .bptr 1 0), (2, .bptr 3 0)], [(1, .bx [.l3 a]), (3, .bx [.ref 8 []]), (5, .t1 p), (8, .t3 (reL a n p a.length))]⟩, ghost_trans (ghost_drop [7]) (ghost_can [(6, 8)] (by simp only [killL, killA, killAs, qOf, rmT, killH, killT, List.filter_cons, List.filter_nil, List.contains_cons, List.contains_nil, Bool.or_false, Bool.or_true, Bool.false_and, Bool.not_true, Bool.not_false, Bool.false_eq_true, if_true, if_false, rnLs, rnL, rn, rns, sw, SlotsLe, St.get, slotGet, List.map_cons, List.map_nil, seval, AV.int.injEq, AV.bool.injEq, AV.l1.injEq, AV.l2.injEq, AV.l3.injEq, true_and, and_true]) (by simp only [killL, killA, killAs, qOf, rmT, killH, killT, List.filter_cons, List.filter_nil, List.contains_cons, List.contains_nil, Bool.or_false, Bool.or_true, Bool.false_and, Bool.not_true, Bool.not_false, Bool.false_eq_true, if_true, if_false, sortH, insH, rnHs, rnH, rnT, rn, rns, sw, List.map_cons, List.map_nil, seval])), .inl rfl, rfl, (by simp [St.get, slotGet, argSlots]), rfl⟩
  | some M =>
    have hsh := hs M rfl
    have hc := compareRings_ok a.length n (reL a n p a.length) M reL_Sh hsh
    have hcn := cmp_neg (tot3L a.length n) (a := reL a n p a.length) (b := M) reL_Sh
    have lM := hsh.1
    cases hlt : lt3 (reL a n p a.length) M with
    | true =>
      rw [hlt, decide_eq_true_eq] at hcn
      simp only [TV, bxB, tlB, visI, hlt, if_true, List.cons_append, List.nil_append, List.append_nil]
      refine OwnCall.intro (n := 22) (rs := []) 3 [0, 1, 2] (X := [1, 3, 5]) Try.call57 Try.func57 rfl rfl rfl (by simp only [List.length_cons, List.length_nil]; omega) (by simp [Aw.ids, rootsA, rootsAs, argSlots, slotGet]) (fun cx hcx => AT.weakG (ats_of ?_)); simp only [argSlots, Nat.zero_add, Nat.reduceAdd]
      (repeat refine ats_seq ?_); refine ats_go (by first | exact fix0 hcx | exact fix1 hcx rfl | exact fixN hcx rfl) fun K hK => ?_; simp only [go_sem, seval]
      refine fcall_own rfl (hr) rfl ?_; simp only [go_sem, seval]
      (repeat refine And.intro (by first | omega | (intro hq; first | omega | (simp at hq <;> omega) | (simp_all <;> omega))) ?_)
      refine hK _ ?_; clear hK K
      (repeat refine ats_seq ?_); refine ats_go (by first | exact fix0 hcx | exact fix1 hcx rfl | exact fixN hcx rfl) fun K hK => ?_; simp only [go_sem, seval]
      (repeat refine And.intro (by first | omega | (intro hq; first | omega | (simp at hq <;> omega) | (simp_all <;> omega))) ?_)
      first | refine YR_intro (fun _ => acall_free rfl rfl (hc)) ?_ | refine YR_intro (acall_free rfl rfl (hc)) ?_
      simp only [go_sem, seval]
      (repeat refine And.intro (by first | omega | (intro hq; first | omega | (simp at hq <;> omega) | (simp_all <;> omega))) ?_)
      refine hK _ ?_; clear hK K
      (repeat refine ats_seq ?_); first | refine ats_ifn (p := _) rfl trivial (fun h1 => ?_) (fun h1 => ?_) | refine ats_ifp (p := _) rfl trivial (fun h1 => ?_) (fun h1 => ?_) | refine ats_cond rfl trivial (fun h1 => ?_) (fun h1 => ?_)
      · (repeat refine ats_seq ?_); refine ats_go (by first | exact fix0 hcx | exact fix1 hcx rfl | exact fixN hcx rfl) fun K hK => ?_; simp only [go_sem, seval]; (repeat refine And.intro (by first | omega | (intro hq; first | omega | (simp at hq <;> omega) | (simp_all <;> omega))) ?_); refine hK _ ?_; clear hK K
        refine id ⟨⟨[(0, .ref 5 []), (1, .bptr 1 0), (2, .bptr 3 0)], [(1, .bx [.l3 a]), (3, .bx [.ref 8 []]), (5, .t1 p), (8, .t3 (reL a n p a.length))]⟩, ghost_trans (ghost_drop [8, 10]) (ghost_can [(9, 8)] (by simp only [killL, killA, killAs, qOf, rmT, killH, killT, List.filter_cons, List.filter_nil, List.contains_cons, List.contains_nil, Bool.or_false, Bool.or_true, Bool.false_and, Bool.not_true, Bool.not_false, Bool.false_eq_true, if_true, if_false, rnLs, rnL, rn, rns, sw, SlotsLe, St.get, slotGet, List.map_cons, List.map_nil, seval, AV.int.injEq, AV.bool.injEq, AV.l1.injEq, AV.l2.injEq, AV.l3.injEq, true_and, and_true]) (by simp only [killL, killA, killAs, qOf, rmT, killH, killT, List.filter_cons, List.filter_nil, List.contains_cons, List.contains_nil, Bool.or_false, Bool.or_true, Bool.false_and, Bool.not_true, Bool.not_false, Bool.false_eq_true, if_true, if_false, sortH, insH, rnHs, rnH, rnT, rn, rns, sw, List.map_cons, List.map_nil, seval])), .inl rfl, rfl, (by simp [St.get, slotGet, argSlots]), rfl⟩
      · exact absurd hcn h1
    | false =>
      rw [hlt, decide_eq_false_iff_not] at hcn
      simp only [TV, bxB, tlB, visI, hlt, Bool.false_eq_true, if_false, List.cons_append, List.nil_append, List.append_nil]
      refine OwnCall.intro (n := 22) (rs := []) 3 [0, 1, 2] (X := [1, 3, 5]) Try.call57 Try.func57 rfl rfl rfl (by simp only [List.length_cons, List.length_nil]; omega) (by simp [Aw.ids, rootsA, rootsAs, argSlots, slotGet]) (fun cx hcx => AT.weakG (ats_of ?_)); simp only [argSlots, Nat.zero_add, Nat.reduceAdd]
      (repeat refine ats_seq ?_); refine ats_go (by first | exact fix0 hcx | exact fix1 hcx rfl | exact fixN hcx rfl) fun K hK => ?_; simp only [go_sem, seval]
      refine fcall_own rfl (hr) rfl ?_; simp only [go_sem, seval]
      (repeat refine And.intro (by first | omega | (intro hq; first | omega | (simp at hq <;> omega) | (simp_all <;> omega))) ?_)
      refine hK _ ?_; clear hK K
      (repeat refine ats_seq ?_); refine ats_go (by first | exact fix0 hcx | exact fix1 hcx rfl | exact fixN hcx rfl) fun K hK => ?_; simp only [go_sem, seval]
      (repeat refine And.intro (by first | omega | (intro hq; first | omega | (simp at hq <;> omega) | (simp_all <;> omega))) ?_)
      first | refine YR_intro (fun _ => acall_free rfl rfl (hc)) ?_ | refine YR_intro (acall_free rfl rfl (hc)) ?_
      simp only [go_sem, seval]
      (repeat refine And.intro (by first | omega | (intro hq; first | omega | (simp at hq <;> omega) | (simp_all <;> omega))) ?_)
      refine hK _ ?_; clear hK K
      (repeat refine ats_seq ?_); first | refine ats_ifn (p := _) rfl trivial (fun h1 => ?_) (fun h1 => ?_) | refine ats_ifp (p := _) rfl trivial (fun h1 => ?_) (fun h1 => ?_) | refine ats_cond rfl trivial (fun h1 => ?_) (fun h1 => ?_)
      · exact absurd h1 hcn
      · refine ats_skip ?_
        refine id ⟨⟨[(0, .ref 5 []), (1, .bptr 1 0), (2, .bptr 3 0)], [(1, .bx [.l3 a]), (3, .bx [.ref 8 []]), (5, .t1 p), (8, .t3 M)]⟩, ghost_trans (ghost_drop [9, 10]) (ghost_can [] (by simp only [killL, killA, killAs, qOf, rmT, killH, killT, List.filter_cons, List.filter_nil, List.contains_cons, List.contains_nil, Bool.or_false, Bool.or_true, Bool.false_and, Bool.not_true, Bool.not_false, Bool.false_eq_true, if_true, if_false, rnLs, rnL, rn, rns, sw, SlotsLe, St.get, slotGet, List.map_cons, List.map_nil, seval, AV.int.injEq, AV.bool.injEq, AV.l1.injEq, AV.l2.injEq, AV.l3.injEq, true_and, and_true]) (by simp only [killL, killA, killAs, qOf, rmT, killH, killT, List.filter_cons, List.filter_nil, List.contains_cons, List.contains_nil, Bool.or_false, Bool.or_true, Bool.false_and, Bool.not_true, Bool.not_false, Bool.false_eq_true, if_true, if_false, sortH, insH, rnHs, rnH, rnT, rn, rns, sw, List.map_cons, List.map_nil, seval])), .inl rfl, rfl, (by simp [St.get, slotGet, argSlots]), rfl⟩
end Go.Proofs.Ytkkgmjclfclaoaa
