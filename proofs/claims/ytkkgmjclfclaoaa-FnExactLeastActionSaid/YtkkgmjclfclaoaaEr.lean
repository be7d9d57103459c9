/-
  The reference's PartAt.
-/
import Derived.Test.YtkkgmjclfclaoaaEx1
import Derived.Test.YtkkgmjclfclaoaaPlS
import Derived.Test.YtkkgmjclfclaoaaWp
set_option linter.unusedSimpArgs false
set_option linter.unusedVariables false
namespace Go.Proofs.Ytkkgmjclfclaoaa
open Go Go.Aw Go.Pl

set_option maxHeartbeats 8000000 in
theorem l09Some_ok (a : List (List (List Int))) (L : List Int) (m : Nat) (hm : ∀ i, i < a.length → MatOk m (a.getD i [])) (h16 : m ≤ 16) (ha : 0 < a.length) (ha16 : a.length ≤ 16) (hL : QOk m L) (hl : L.length ≤ 16) :
    FreshCall Try.prog 53 [.agg [.l3 a], .l1 L] (.agg [.l3 (paL a L a.length)]) := by
  obtain ⟨n, en⟩ : ∃ n, L.length = n := ⟨_, rfl⟩
  refine FreshCall.intro (n := 64) (rs := [.cell 4 43]) Try.call53 Try.func53 rfl rfl rfl (by simp only [List.length_cons, List.length_nil]; omega) (fun cx hcx => ats_of ?_); simp only [argSlots, Nat.zero_add, Nat.reduceAdd]
  (repeat refine ats_seq ?_); refine ats_go (by first | exact fix0 hcx | exact fix1 hcx rfl) fun K hK => ?_; simp only [go_sem, seval]; refine hK _ ?_; clear hK K
  (repeat refine ats_seq ?_); refine ats_go (by first | exact fix0 hcx | exact fix1 hcx rfl) fun K hK => ?_; simp only [go_sem, seval]; refine hK _ ?_; clear hK K
  (repeat refine ats_seq ?_); refine ats_go (by first | exact fix0 hcx | exact fix1 hcx rfl) fun K hK => ?_; simp only [go_sem, seval]; refine hK _ ?_; clear hK K
  (repeat refine ats_seq ?_)
  refine ats_loop (fun o : Option Nat => match o with
    | none => ⟨[(1, .l1 L), (2, .bptr 0 0), (4, .bptr 1 0), (5, .bptr 2 0), (6, .int 0)], [(0, .bx [.l3 a]), (1, .bx [.nil]), (2, .bx [.nil])]⟩
    | some i => ⟨[(1, .l1 L), (2, .bptr 0 0), (4, .bptr 1 0), (5, .bptr 2 0), (6, .int i)], [(0, .bx [.l3 a]), (1, .bx [.nil]), (2, .bx [.ref 5 []]), (5, .t3 (paL a L i))]⟩) (fun o => match o with
    | none => True
    | some i => 1 ≤ i ∧ i ≤ a.length) (fun o => match o with
    | none => a.length + 1
    | some i => a.length - i) none trivial ⟨by simp only [SlotsLe, St.get, slotGet, Nat.reduceEqDiff, ↓reduceIte, true_and, and_true], rfl⟩ (fun o ho => ?_)
  cases o with
  | none =>
    dsimp only at ho ⊢
    (repeat refine ats_seq ?_); refine ats_go (by first | exact fix0 hcx | exact fix1 hcx rfl) fun K hK => ?_; simp only [go_sem, seval]; refine hK _ ?_; clear hK K
    (repeat refine ats_seq ?_); first | refine ats_ifn (p := _) rfl trivial (fun hli => ?_) (fun hli => ?_) | refine ats_ifp (p := _) rfl trivial (fun hli => ?_) (fun hli => ?_) | refine ats_cond rfl trivial (fun hli => ?_) (fun hli => ?_)
    · have mi := hm 0 (by omega)
      refine ats_skip ?_
      (repeat refine ats_seq ?_); refine ats_block ?_
      (repeat refine ats_seq ?_); refine ats_go (by first | exact fix0 hcx | exact fix1 hcx rfl) fun K hK => ?_; simp only [go_sem, seval]; refine hK _ ?_; clear hK K
      (repeat refine ats_seq ?_); refine ats_go (by first | exact fix0 hcx | exact fix1 hcx rfl) fun K hK => ?_; simp only [go_sem, seval]; refine hK _ ?_; clear hK K
      (repeat refine ats_seq ?_); refine ats_loop (fun j : Nat => ⟨[(1, .l1 L), (2, .bptr 0 0), (4, .bptr 1 0), (5, .bptr 2 0), (6, .int 0), (7, .ref 3 []), (8, .int j)], [(0, .bx [.l3 a]), (1, .bx [.nil]), (2, .bx [.nil]), (3, .t2 (matF j n (subF (a.getD 0 []) L)))]⟩) (fun j => j ≤ n) (fun j => n - j) 0 (Nat.zero_le _) (by refine And.intro ?_ rfl; simp only [SlotsLe, St.get, slotGet, Nat.reduceEqDiff, ↓reduceIte, true_and, and_true, AV.int.injEq, AV.bool.injEq, AV.l1.injEq, AV.l2.injEq, AV.l3.injEq]; repeat' (first | rfl | omega | refine And.intro ?_ ?_)) (fun j hj => ?_)
      have lj := matF_length j n (subF (a.getD 0 []) L)
      (repeat refine ats_seq ?_); refine ats_go (by first | exact fix0 hcx | exact fix1 hcx rfl) fun K hK => ?_; simp only [go_sem, seval]; (repeat refine And.intro (by first | omega | (intro hq; first | omega | (simp at hq <;> omega) | (simp_all <;> omega))) ?_); refine hK _ ?_; clear hK K
      (repeat refine ats_seq ?_); first | refine ats_ifn (p := _) rfl trivial (fun hlj => ?_) (fun hlj => ?_) | refine ats_ifp (p := _) rfl trivial (fun hlj => ?_) (fun hlj => ?_) | refine ats_cond rfl trivial (fun hlj => ?_) (fun hlj => ?_)
      · have hLj := hL j (by omega)
        have rj := mi.row (show (L.getD j 0).toNat < m by omega)
        have mj := mi.1
        refine ats_skip ?_
        (repeat refine ats_seq ?_); refine ats_block ?_
        (repeat refine ats_seq ?_); refine ats_go (by first | exact fix0 hcx | exact fix1 hcx rfl) fun K hK => ?_; simp only [go_sem, seval]; refine hK _ ?_; clear hK K
        (repeat refine ats_seq ?_); refine ats_go (by first | exact fix0 hcx | exact fix1 hcx rfl) fun K hK => ?_; simp only [go_sem, seval]; refine hK _ ?_; clear hK K
        (repeat refine ats_seq ?_); refine ats_loop (fun k : Nat => ⟨[(1, .l1 L), (2, .bptr 0 0), (4, .bptr 1 0), (5, .bptr 2 0), (6, .int 0), (7, .ref 3 []), (8, .int j), (9, .ref 4 []), (10, .int k)], [(0, .bx [.l3 a]), (1, .bx [.nil]), (2, .bx [.nil]), (3, .t2 (matF j n (subF (a.getD 0 []) L))), (4, .t1 (rowF k (subF (a.getD 0 []) L j)))]⟩) (fun k => k ≤ n) (fun k => n - k) 0 (Nat.zero_le _) (by refine And.intro ?_ rfl; simp only [SlotsLe, St.get, slotGet, Nat.reduceEqDiff, ↓reduceIte, true_and, and_true, AV.int.injEq, AV.bool.injEq, AV.l1.injEq, AV.l2.injEq, AV.l3.injEq]; repeat' (first | rfl | omega | refine And.intro ?_ ?_)) (fun k hk => ?_)
        have lk := rowF_length k (subF (a.getD 0 []) L j)
        have sk := rowF_succ (k := k) (f := subF (a.getD 0 []) L j)
        (repeat refine ats_seq ?_); refine ats_go (by first | exact fix0 hcx | exact fix1 hcx rfl) fun K hK => ?_; simp only [go_sem, seval]; (repeat refine And.intro (by first | omega | (intro hq; first | omega | (simp at hq <;> omega) | (simp_all <;> omega))) ?_); refine hK _ ?_; clear hK K
        (repeat refine ats_seq ?_); first | refine ats_ifn (p := _) rfl trivial (fun hlk => ?_) (fun hlk => ?_) | refine ats_ifp (p := _) rfl trivial (fun hlk => ?_) (fun hlk => ?_) | refine ats_cond rfl trivial (fun hlk => ?_) (fun hlk => ?_)
        · have hLk := hL k (by omega)
          refine ats_skip ?_
          (repeat refine ats_seq ?_); refine ats_block ?_
          (repeat refine ats_seq ?_)
          refine ats_plan [] (.one 1 (.one 2 (.one 3 (.one 4 (.one 5 (.one 6 (.one 7 (.one 8 (.one 9 (.one 10 (.one 11 (.one 12 (.one 13 (.one 14 (.one 15 (.one 16 (.one 17 (.alt 0 (.alt 18 (.alt 19 (.one 20 .fin) .stop) .stop) (.alt 18 (.one 0 (.alt 19 (.one 20 .fin) .stop)) .stop))))))))))))))))))) ⟨[(1, .l1 L), (2, .bptr 0 0), (4, .bptr 1 0), (5, .bptr 2 0), (6, .int 0), (7, .ref 3 []), (8, .int j), (9, .ref 4 []), (10, .int k)], [(0, .bx [.l3 a]), (1, .bx [.nil]), (2, .bx [.nil]), (3, .t2 (matF j n (subF (a.getD 0 []) L))), (4, .t1 (rowF k (subF (a.getD 0 []) L j) ++ [subF (a.getD 0 []) L j k])), (5, .t1 [subF (a.getD 0 []) L j k])]⟩ (fix0 hcx) mixed (by kernel_rfl) (fun K hK => ?_) ?_
          · simp only [go_sem, seval, pl_fin, pl_stop, pl_one, pl_alt, PK_ap, pickO, List.getElem?_toArray, List.getElem?_cons_zero, List.getElem?_cons_succ, Option.getD_some, and_true, true_and, and_self, List.contains_cons, List.contains_nil, Bool.or_false, Bool.or_true]
            repeat' (first | exact hK _ (by refine And.intro ?_ rfl; simp only [SlotsLe, St.get, slotGet, Nat.reduceEqDiff, ↓reduceIte, AV.int.injEq, AV.bool.injEq, AV.l1.injEq, AV.l2.injEq, AV.l3.injEq, true_and, and_true])  | omega | refine And.intro ?_ ?_ | ((rw [lk]; omega)))
          (repeat refine ats_seq ?_); refine ats_go (by first | exact fix0 hcx | exact fix1 hcx rfl) fun K hK => ?_; simp only [go_sem, seval]; (repeat refine And.intro (by first | omega | (intro hq; first | omega | (simp at hq <;> omega) | (simp_all <;> omega))) ?_); refine hK _ ?_; clear hK K
          refine ⟨k + 1, by omega, by omega, .inr ⟨[5], by simp only [killL, List.map_cons, List.map_nil, killA, killAs, qOf, rmT, killH, killT, List.filter_cons, List.filter_nil, List.contains_cons, List.contains_nil, SlotsLe, St.get, slotGet, Nat.reduceEqDiff, Nat.reduceBEq, Bool.or_false, Bool.or_true, Bool.false_and, Bool.not_true, Bool.not_false, Bool.false_eq_true, ↓reduceIte, if_true, if_false, AV.int.injEq, AV.bool.injEq, AV.l1.injEq, AV.l2.injEq, AV.l3.injEq, true_and, and_true]; omega, by simp only [killL, List.map_cons, List.map_nil, killA, killAs, qOf, rmT, killH, killT, List.filter_cons, List.filter_nil, List.contains_cons, List.contains_nil, SlotsLe, St.get, slotGet, Nat.reduceEqDiff, Nat.reduceBEq, Bool.or_false, Bool.or_true, Bool.false_and, Bool.not_true, Bool.not_false, Bool.false_eq_true, ↓reduceIte, if_true, if_false, AV.int.injEq, AV.bool.injEq, AV.l1.injEq, AV.l2.injEq, AV.l3.injEq, true_and, and_true]; rw [sk]⟩⟩
        · obtain rfl : k = n := by omega
          have sj := matF_succ (j := j) (n := k) (f := subF (a.getD 0 []) L)
          refine ats_exit (lq_x ?_)
          (repeat refine ats_seq ?_); refine ats_go (by first | exact fix0 hcx | exact fix1 hcx rfl) fun K hK => ?_; simp only [go_sem, seval]; (repeat refine And.intro (by first | omega | (intro hq; first | omega | (simp at hq <;> omega) | (simp_all <;> omega))) ?_); refine hK _ ?_; clear hK K
          (repeat refine ats_seq ?_); refine ats_go (by first | exact fix0 hcx | exact fix1 hcx rfl) fun K hK => ?_; simp only [go_sem, seval]; (repeat refine And.intro (by first | omega | (intro hq; first | omega | (simp at hq <;> omega) | (simp_all <;> omega))) ?_); refine hK _ ?_; clear hK K
          refine ⟨j + 1,  by omega, by omega, .inl ⟨by simp only [SlotsLe, St.get, slotGet, Nat.reduceEqDiff, ↓reduceIte, AV.int.injEq, AV.bool.injEq, AV.l1.injEq, AV.l2.injEq, AV.l3.injEq, true_and, and_true]; omega,  by rw [sj]⟩⟩
      · obtain rfl : j = n := by omega
        refine ats_exit (lq_x ?_)
        (repeat refine ats_seq ?_); refine ats_go (by first | exact fix0 hcx | exact fix1 hcx rfl) fun K hK => ?_; simp only [go_sem, seval]; (repeat refine And.intro (by first | omega | (intro hq; first | omega | (simp at hq <;> omega) | (simp_all <;> omega))) ?_); refine hK _ ?_; clear hK K
        (repeat refine ats_seq ?_); refine ats_go (by first | exact fix0 hcx | exact fix1 hcx rfl) fun K hK => ?_; simp only [go_sem, seval]; (repeat refine And.intro (by first | omega | (intro hq; first | omega | (simp at hq <;> omega) | (simp_all <;> omega))) ?_); refine hK _ ?_; clear hK K
        refine ⟨some (0 + 1), ⟨by omega, by omega⟩, by show a.length - (0 + 1) < a.length + 1; omega, .inl ⟨?_, ?_⟩⟩
        · simp only [SlotsLe, St.get, slotGet, Nat.reduceEqDiff, ↓reduceIte, AV.int.injEq, true_and, and_true]
          omega
        · have es : paL a L (0 + 1) =  [subM (a.getD 0 []) L] := by rw [paL_succ] <;> rfl
          dsimp only
          rw [es]
          unfold subM
          rw [en]
    · omega
  | some i =>
    dsimp only at ho ⊢
    have ls := paL_length (a := a) (L := L) (i := i)
    (repeat refine ats_seq ?_); refine ats_go (by first | exact fix0 hcx | exact fix1 hcx rfl) fun K hK => ?_; simp only [go_sem, seval]; refine hK _ ?_; clear hK K
    (repeat refine ats_seq ?_); first | refine ats_ifn (p := _) rfl trivial (fun hli => ?_) (fun hli => ?_) | refine ats_ifp (p := _) rfl trivial (fun hli => ?_) (fun hli => ?_) | refine ats_cond rfl trivial (fun hli => ?_) (fun hli => ?_)
    · have mi := hm i (by omega)
      refine ats_skip ?_
      (repeat refine ats_seq ?_); refine ats_block ?_
      (repeat refine ats_seq ?_); refine ats_go (by first | exact fix0 hcx | exact fix1 hcx rfl) fun K hK => ?_; simp only [go_sem, seval]; refine hK _ ?_; clear hK K
      (repeat refine ats_seq ?_); refine ats_go (by first | exact fix0 hcx | exact fix1 hcx rfl) fun K hK => ?_; simp only [go_sem, seval]; refine hK _ ?_; clear hK K
      (repeat refine ats_seq ?_); refine ats_loop (fun j : Nat => ⟨[(1, .l1 L), (2, .bptr 0 0), (4, .bptr 1 0), (5, .bptr 2 0), (6, .int i), (7, .ref 6 []), (8, .int j)], [(0, .bx [.l3 a]), (1, .bx [.nil]), (2, .bx [.ref 5 []]), (5, .t3 (paL a L i)), (6, .t2 (matF j n (subF (a.getD i []) L)))]⟩) (fun j => j ≤ n) (fun j => n - j) 0 (Nat.zero_le _) (by refine And.intro ?_ rfl; simp only [SlotsLe, St.get, slotGet, Nat.reduceEqDiff, ↓reduceIte, true_and, and_true, AV.int.injEq, AV.bool.injEq, AV.l1.injEq, AV.l2.injEq, AV.l3.injEq]; repeat' (first | rfl | omega | refine And.intro ?_ ?_)) (fun j hj => ?_)
      have lj := matF_length j n (subF (a.getD i []) L)
      (repeat refine ats_seq ?_); refine ats_go (by first | exact fix0 hcx | exact fix1 hcx rfl) fun K hK => ?_; simp only [go_sem, seval]; (repeat refine And.intro (by first | omega | (intro hq; first | omega | (simp at hq <;> omega) | (simp_all <;> omega))) ?_); refine hK _ ?_; clear hK K
      (repeat refine ats_seq ?_); first | refine ats_ifn (p := _) rfl trivial (fun hlj => ?_) (fun hlj => ?_) | refine ats_ifp (p := _) rfl trivial (fun hlj => ?_) (fun hlj => ?_) | refine ats_cond rfl trivial (fun hlj => ?_) (fun hlj => ?_)
      · have hLj := hL j (by omega)
        have rj := mi.row (show (L.getD j 0).toNat < m by omega)
        have mj := mi.1
        refine ats_skip ?_
        (repeat refine ats_seq ?_); refine ats_block ?_
        (repeat refine ats_seq ?_); refine ats_go (by first | exact fix0 hcx | exact fix1 hcx rfl) fun K hK => ?_; simp only [go_sem, seval]; refine hK _ ?_; clear hK K
        (repeat refine ats_seq ?_); refine ats_go (by first | exact fix0 hcx | exact fix1 hcx rfl) fun K hK => ?_; simp only [go_sem, seval]; refine hK _ ?_; clear hK K
        (repeat refine ats_seq ?_); refine ats_loop (fun k : Nat => ⟨[(1, .l1 L), (2, .bptr 0 0), (4, .bptr 1 0), (5, .bptr 2 0), (6, .int i), (7, .ref 6 []), (8, .int j), (9, .ref 7 []), (10, .int k)], [(0, .bx [.l3 a]), (1, .bx [.nil]), (2, .bx [.ref 5 []]), (5, .t3 (paL a L i)), (6, .t2 (matF j n (subF (a.getD i []) L))), (7, .t1 (rowF k (subF (a.getD i []) L j)))]⟩) (fun k => k ≤ n) (fun k => n - k) 0 (Nat.zero_le _) (by refine And.intro ?_ rfl; simp only [SlotsLe, St.get, slotGet, Nat.reduceEqDiff, ↓reduceIte, true_and, and_true, AV.int.injEq, AV.bool.injEq, AV.l1.injEq, AV.l2.injEq, AV.l3.injEq]; repeat' (first | rfl | omega | refine And.intro ?_ ?_)) (fun k hk => ?_)
        have lk := rowF_length k (subF (a.getD i []) L j)
        have sk := rowF_succ (k := k) (f := subF (a.getD i []) L j)
        (repeat refine ats_seq ?_); refine ats_go (by first | exact fix0 hcx | exact fix1 hcx rfl) fun K hK => ?_; simp only [go_sem, seval]; (repeat refine And.intro (by first | omega | (intro hq; first | omega | (simp at hq <;> omega) | (simp_all <;> omega))) ?_); refine hK _ ?_; clear hK K
        (repeat refine ats_seq ?_); first | refine ats_ifn (p := _) rfl trivial (fun hlk => ?_) (fun hlk => ?_) | refine ats_ifp (p := _) rfl trivial (fun hlk => ?_) (fun hlk => ?_) | refine ats_cond rfl trivial (fun hlk => ?_) (fun hlk => ?_)
        · have hLk := hL k (by omega)
          refine ats_skip ?_
          (repeat refine ats_seq ?_); refine ats_block ?_
          (repeat refine ats_seq ?_)
          refine ats_plan [] (.one 1 (.one 2 (.one 3 (.one 4 (.one 5 (.one 6 (.one 7 (.one 8 (.one 9 (.one 10 (.one 11 (.one 12 (.one 13 (.one 14 (.one 15 (.one 16 (.one 17 (.alt 0 (.alt 18 (.alt 19 (.one 20 .fin) .stop) .stop) (.alt 18 (.one 0 (.alt 19 (.one 20 .fin) .stop)) .stop))))))))))))))))))) ⟨[(1, .l1 L), (2, .bptr 0 0), (4, .bptr 1 0), (5, .bptr 2 0), (6, .int i), (7, .ref 6 []), (8, .int j), (9, .ref 7 []), (10, .int k)], [(0, .bx [.l3 a]), (1, .bx [.nil]), (2, .bx [.ref 5 []]), (5, .t3 (paL a L i)), (6, .t2 (matF j n (subF (a.getD i []) L))), (7, .t1 (rowF k (subF (a.getD i []) L j) ++ [subF (a.getD i []) L j k])), (8, .t1 [subF (a.getD i []) L j k])]⟩ (fix0 hcx) mixed (by kernel_rfl) (fun K hK => ?_) ?_
          · simp only [go_sem, seval, pl_fin, pl_stop, pl_one, pl_alt, PK_ap, pickO, List.getElem?_toArray, List.getElem?_cons_zero, List.getElem?_cons_succ, Option.getD_some, and_true, true_and, and_self, List.contains_cons, List.contains_nil, Bool.or_false, Bool.or_true]
            repeat' (first | exact hK _ (by refine And.intro ?_ rfl; simp only [SlotsLe, St.get, slotGet, Nat.reduceEqDiff, ↓reduceIte, AV.int.injEq, AV.bool.injEq, AV.l1.injEq, AV.l2.injEq, AV.l3.injEq, true_and, and_true])  | omega | refine And.intro ?_ ?_ | ((rw [lk]; omega)))
          (repeat refine ats_seq ?_); refine ats_go (by first | exact fix0 hcx | exact fix1 hcx rfl) fun K hK => ?_; simp only [go_sem, seval]; (repeat refine And.intro (by first | omega | (intro hq; first | omega | (simp at hq <;> omega) | (simp_all <;> omega))) ?_); refine hK _ ?_; clear hK K
          refine ⟨k + 1, by omega, by omega, .inr ⟨[8], by simp only [killL, List.map_cons, List.map_nil, killA, killAs, qOf, rmT, killH, killT, List.filter_cons, List.filter_nil, List.contains_cons, List.contains_nil, SlotsLe, St.get, slotGet, Nat.reduceEqDiff, Nat.reduceBEq, Bool.or_false, Bool.or_true, Bool.false_and, Bool.not_true, Bool.not_false, Bool.false_eq_true, ↓reduceIte, if_true, if_false, AV.int.injEq, AV.bool.injEq, AV.l1.injEq, AV.l2.injEq, AV.l3.injEq, true_and, and_true]; omega, by simp only [killL, List.map_cons, List.map_nil, killA, killAs, qOf, rmT, killH, killT, List.filter_cons, List.filter_nil, List.contains_cons, List.contains_nil, SlotsLe, St.get, slotGet, Nat.reduceEqDiff, Nat.reduceBEq, Bool.or_false, Bool.or_true, Bool.false_and, Bool.not_true, Bool.not_false, Bool.false_eq_true, ↓reduceIte, if_true, if_false, AV.int.injEq, AV.bool.injEq, AV.l1.injEq, AV.l2.injEq, AV.l3.injEq, true_and, and_true]; rw [sk]⟩⟩
        · obtain rfl : k = n := by omega
          have sj := matF_succ (j := j) (n := k) (f := subF (a.getD i []) L)
          refine ats_exit (lq_x ?_)
          (repeat refine ats_seq ?_); refine ats_go (by first | exact fix0 hcx | exact fix1 hcx rfl) fun K hK => ?_; simp only [go_sem, seval]; (repeat refine And.intro (by first | omega | (intro hq; first | omega | (simp at hq <;> omega) | (simp_all <;> omega))) ?_); refine hK _ ?_; clear hK K
          (repeat refine ats_seq ?_); refine ats_go (by first | exact fix0 hcx | exact fix1 hcx rfl) fun K hK => ?_; simp only [go_sem, seval]; (repeat refine And.intro (by first | omega | (intro hq; first | omega | (simp at hq <;> omega) | (simp_all <;> omega))) ?_); refine hK _ ?_; clear hK K
          refine ⟨j + 1,  by omega, by omega, .inl ⟨by simp only [SlotsLe, St.get, slotGet, Nat.reduceEqDiff, ↓reduceIte, AV.int.injEq, AV.bool.injEq, AV.l1.injEq, AV.l2.injEq, AV.l3.injEq, true_and, and_true]; omega,  by rw [sj]⟩⟩
      · obtain rfl : j = n := by omega
        refine ats_exit (lq_x ?_)
        (repeat refine ats_seq ?_); refine ats_go (by first | exact fix0 hcx | exact fix1 hcx rfl) fun K hK => ?_; simp only [go_sem, seval]; (repeat refine And.intro (by first | omega | (intro hq; first | omega | (simp at hq <;> omega) | (simp_all <;> omega))) ?_); refine hK _ ?_; clear hK K
        (repeat refine ats_seq ?_); refine ats_go (by first | exact fix0 hcx | exact fix1 hcx rfl) fun K hK => ?_; simp only [go_sem, seval]; (repeat refine And.intro (by first | omega | (intro hq; first | omega | (simp at hq <;> omega) | (simp_all <;> omega))) ?_); refine hK _ ?_; clear hK K
        refine ⟨some (i + 1), ⟨by omega, by omega⟩, by show a.length - (i + 1) < a.length - i; omega, .inl ⟨?_, ?_⟩⟩
        · simp only [SlotsLe, St.get, slotGet, Nat.reduceEqDiff, ↓reduceIte, AV.int.injEq, true_and, and_true]
          omega
        · have es : paL a L (i + 1) = paL a L i ++ [subM (a.getD i []) L] := by rw [paL_succ] <;> rfl
          dsimp only
          rw [es]
          unfold subM
          rw [en]
    · obtain rfl : i = a.length := by omega
      refine ats_exit (lq_x ?_)
      (repeat refine ats_seq ?_); refine ats_go (by first | exact fix0 hcx | exact fix1 hcx rfl) fun K hK => ?_; simp only [go_sem, seval]; refine hK _ ?_; clear hK K
      exact ats_ret (ownC (v := .agg [.ref 5 []]) (by simp only [go_sem, seval]) rfl (by simp))

/-- The points of a point's part. -/
theorem own_ok {a : List (List (List Int))} {x : Nat} : QOk (a.getD 0 []).length (ownL a x) ∧ (ownL a x).length ≤ (a.getD 0 []).length := ownF_ok _

theorem paA_shape (t a : List (List (List Int))) (x : Int) : ∃ (u : Option (List (List (List Int)))) (c : Int), paA t a x = .tup [.agg [optT u], .int c] ∧ ∀ v, u = some v → tot3 v ≤ 1048576 := by
  unfold paA
  split
  · rename_i hc
    split
    · rename_i e
      refine ⟨some (paL a (ownL a x.toNat) a.length), 0, rfl, fun v hv => ?_⟩
      cases hv
      have fa := isAct_fam hc
      have h16 := (isAct_ring hc).1.2.1
      have la := fa.1
      have pa := fa.2.2.2.1
      have ln : (ownL a x.toNat).length ≤ 16 := by
        have := (ownF_ok (P := partsL a) (v := (partsL a).getD x.toNat 0) (a.getD 0 []).length).2
        unfold ownL
        omega
      have h2 := tot_le (n := tot List.length) (B := 256) (paL a (ownL a x.toNat) a.length) (fun m hm => by
        simp only [paL, List.mem_map, List.mem_range] at hm
        obtain ⟨k, hk, rfl⟩ := hm
        have h3 := tot_le (n := List.length) (B := 16) (subM (a.getD k []) (ownL a x.toNat)) (fun r hr => by
          simp only [subM, matF, List.mem_map, List.mem_range] at hr
          obtain ⟨i, hi, rfl⟩ := hr
          rw [rowF_length]
          exact ln)
        have h4 : (subM (a.getD k []) (ownL a x.toNat)).length ≤ 16 := by unfold subM; rw [matF_length]; exact ln
        have := Nat.mul_le_mul_right 16 h4
        omega)
      rw [paL_length] at h2
      have := Nat.mul_le_mul_right 256 (show a.length ≤ 16 by omega)
      unfold tot3
      omega
    · exact ⟨none, 2, rfl, fun v hv => by cases hv⟩
  · exact ⟨none, 1, rfl, fun v hv => by cases hv⟩
end Go.Proofs.Ytkkgmjclfclaoaa
