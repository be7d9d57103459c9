/-
  The program's sum of braidings.
-/
import Derived.Test.YtjfiahmadnijhaaHn
set_option linter.unusedSimpArgs false
set_option linter.unusedVariables false
namespace Go.Proofs.Ytjfiahmadnijhaa
open Go Go.Aw Go.Pl
attribute [local go_sem] pl_fin pl_stop pl_one pl_alt PK_ap pickO List.getElem?_toArray List.getElem?_cons_zero List.getElem?_cons_succ

theorem addB1_ok (n : Nat) (o : List Int) (m : Int) (w : List (List (List Int))) (c : List (List Int)) (o' : List Int) (w' : List (List (List Int))) (c' : List (List Int)) (m2 : m ≤ 1000) (h : GridB n m c) (h' : GridB n m c') (x y : Nat) (hx : x < n) (hy : y < n) : PureCall Try.prog 22 [.int x, .int y, .cptr [.l1 o, .int m, .l3 w, .l2 c] 0, .cptr [.l1 o', .int m, .l3 w', .l2 c'] 0] (.int (e2 c x y + e2 c' x y)) := by
  have l1 := h.1
  have l2 := h'.1
  have rx := h.row hx
  have rx' := h'.row hx
  have v1 := h.bd hx hy
  have v2 := h'.bd hx hy
  simp only [e2] at v1 v2 ⊢
  refine PureCall.intro (n := 24) (rs := [.tmp 6]) Try.call22 Try.func22 rfl rfl rfl (by simp only [List.length_cons, List.length_nil]; omega) (fun cx hcx => ats_of ?_); simp only [argSlots, Nat.zero_add, Nat.reduceAdd]
  (repeat refine ats_seq ?_); refine ats_go (by first | exact fix0 hcx | exact fixN hcx rfl) fun K hK => ?_; simp only [go_sem, seval]; refine hK _ ?_; clear hK K
  (repeat refine ats_seq ?_); refine ats_pick (by first | exact fix0 hcx | exact fixN hcx rfl) mixed (by kernel_rfl) fun K hK => ?_; simp only [go_sem, seval]; (repeat refine And.intro (by first | omega | (intro hq; first | omega | (simp at hq <;> omega) | (simp_all <;> omega))) ?_); refine hK _ ?_; clear hK K
  refine ats_ret (finI rfl ?_)
  rfl

set_option maxRecDepth 100000 in
set_option maxHeartbeats 8000000 in
theorem braidingBy_ok (n : Nat) (W : List (List (List Int))) (o : List Int) (m : Int) (w : List (List (List Int))) (c : List (List Int)) (o' : List Int) (w' : List (List (List Int))) (c' : List (List Int)) (hW : W.length = n) (n8 : n ≤ 8) (m1 : 1 ≤ m) (m2 : m ≤ 1000) (h : GridB n m c) (h' : GridB n m c') :
    OwnCall Try.prog 20 [.agg [.ref 3 [], .int m, .ref 4 []], .fn 22 [.bptr 0 0, .bptr 1 0]]
      [(0, .bx [.l1 o, .int m, .l3 w, .l2 c]), (1, .bx [.l1 o', .int m, .l3 w', .l2 c']), (3, .t1 o), (4, .t3 W)]
      [(0, .bx [.l1 o, .int m, .l3 w, .l2 c]), (1, .bx [.l1 o', .int m, .l3 w', .l2 c']), (3, .t1 o), (4, .t3 W), (5, .t2 (sumC m n c c')), (6, .bx [.ref 3 [], .int m, .ref 4 [], .ref 5 []])]
      (.agg [.ref 3 [], .int m, .ref 4 [], .ref 5 []]) [0, 1] := by
  have hz := zeros_ok n n (by omega) (by omega)
  obtain ⟨f, ef⟩ : ∃ f : Nat → Nat → Int, f = fun i j => (e2 c i j + e2 c' i j) % m := ⟨_, rfl⟩
  have es : sumC m n c c' = matF n n f := by unfold sumC; rw [ef]
  rw [es]
  obtain ⟨g, eg⟩ : ∃ g : Nat → Nat → Int, g = fun _ _ => 0 := ⟨_, rfl⟩
  have z0 : List.replicate n (List.replicate n (0 : Int)) = wrM n f g 0 0 := by rw [wrM_zero, eg, zeros_matF]
  rw [z0] at hz
  have hz' : FreshCall Try.prog 39 [.int W.length, .int W.length] (.l2 (wrM n f g 0 0)) := by rw [hW]; exact hz
  refine OwnCall.intro (n := 45) (rs := [.cell 4 32]) 2 [0, 1] (X := [0, 1]) Try.call20 Try.func20 rfl rfl rfl (by simp only [List.length_cons, List.length_nil]; omega) (by simp [Aw.ids, rootsA, rootsAs, argSlots, slotGet]) (fun cx hcx => AT.weakG (ats_of ?_)); simp only [argSlots, Nat.zero_add, Nat.reduceAdd]
  (repeat refine ats_seq ?_); refine ats_go (by first | exact fix0 hcx | exact fix1 hcx rfl | exact fixN hcx rfl) fun K hK => ?_; simp only [go_sem, seval]; (repeat refine And.intro (by first | omega | (intro hq; first | omega | (simp at hq <;> omega) | (simp_all <;> omega))) ?_); refine hK _ ?_; clear hK K
  (repeat refine ats_seq ?_)
  refine ats_planG [7] (.one 1 (.one 2 (.one 3 (.one 4 (.one 5 (.one 6 (.alt 0 (.alt 7 (.one 8 (.alt 9 (.alt 10 .fin .stop) .stop)) (.alt 9 (.alt 7 (.one 8 (.alt 10 .fin .stop)) .stop) .stop)) (.alt 7 (.one 0 (.one 8 (.alt 9 (.alt 10 .fin .stop) .stop))) (.alt 9 (.alt 0 (.alt 7 (.one 8 (.alt 10 .fin .stop)) .stop) (.alt 7 (.one 0 (.one 8 (.alt 10 .fin .stop))) .stop)) .stop))))))))) ⟨[(0, .agg [.ref 3 [], .int m, .ref 4 []]), (1, .fn 22 [.bptr 0 0, .bptr 1 0]), (2, .bptr 5 0), (4, .bptr 6 0), (5, .bptr 8 0)], [(0, .bx [.l1 o, .int m, .l3 w, .l2 c]), (1, .bx [.l1 o', .int m, .l3 w', .l2 c']), (3, .t1 o), (4, .t3 W), (5, .bx [.ref 3 [], .int m, .ref 4 []]), (6, .bx [.nil, .int 0, .nil, .nil]), (7, .t2 (wrM n f g 0 0)), (8, .bx [.ref 3 [], .int m, .ref 4 [], .ref 7 []])]⟩ (by first | exact fix0 hcx | exact fixN hcx rfl) mixed (by kernel_rfl) (fun K hK => ?_) ?_
  · simp only [go_sem, seval, Option.getD_some, and_true, true_and, and_self, List.contains_cons, List.contains_nil, Bool.or_false, Bool.or_true]
    repeat' (first | (refine hK _ (ghost_can [] ?_ ?_); (focus (simp only [rnLs, rnL, rn, rns, sw, SlotsLe, St.get, slotGet, List.map_cons, List.map_nil, seval, AV.int.injEq, AV.bool.injEq, AV.l1.injEq, AV.l2.injEq, AV.l3.injEq, true_and, and_true]; done)); (focus (simp only [sortH, insH, rnHs, rnH, rnT, rn, rns, sw, List.map_cons, List.map_nil, seval]; done))) | (refine hK _ (ghost_can [(7, 8)] ?_ ?_); (focus (simp only [rnLs, rnL, rn, rns, sw, SlotsLe, St.get, slotGet, List.map_cons, List.map_nil, seval, AV.int.injEq, AV.bool.injEq, AV.l1.injEq, AV.l2.injEq, AV.l3.injEq, true_and, and_true]; done)); (focus (simp only [sortH, insH, rnHs, rnH, rnT, rn, rns, sw, List.map_cons, List.map_nil, seval]; done))) | omega | refine And.intro ?_ ?_ | (refine fcall_own rfl (hz') rfl ?_; simp only [go_sem, seval, Option.getD_some, and_true, true_and, and_self, List.contains_cons, List.contains_nil, Bool.or_false, Bool.or_true]))
  have l1 := wrM_len (n := n) (f := f) (g := g) (i := 0) (j := 0)
  (repeat refine ats_seq ?_); refine ats_go (by first | exact fix0 hcx | exact fix1 hcx rfl | exact fixN hcx rfl) fun K hK => ?_; simp only [go_sem, seval]
  simp only [l1]
  (repeat refine And.intro (by first | omega | (intro hq; first | omega | (simp at hq <;> omega) | (simp_all <;> omega))) ?_)
  refine hK _ ?_; clear hK K
  (repeat refine ats_seq ?_); refine ats_loop (fun i : Nat => ⟨[(0, .agg [.ref 3 [], .int m, .ref 4 []]), (1, .fn 22 [.bptr 0 0, .bptr 1 0]), (2, .bptr 5 0), (4, .bptr 6 0), (5, .bptr 8 0), (19, .int n), (20, .int i)], [(0, .bx [.l1 o, .int m, .l3 w, .l2 c]), (1, .bx [.l1 o', .int m, .l3 w', .l2 c']), (3, .t1 o), (4, .t3 W), (5, .bx [.ref 3 [], .int m, .ref 4 []]), (6, .bx [.nil, .int 0, .nil, .nil]), (7, .t2 (wrM n f g i 0)), (8, .bx [.ref 3 [], .int m, .ref 4 [], .ref 7 []])]⟩) (fun i => i ≤ n) (fun i => n - i) 0 (Nat.zero_le _) (by refine And.intro ?_ rfl; simp only [SlotsLe, St.get, slotGet, Nat.reduceEqDiff, ↓reduceIte, true_and, and_true, AV.int.injEq, AV.bool.injEq, AV.l1.injEq, AV.l2.injEq, AV.l3.injEq]; repeat' (first | rfl | omega | refine And.intro ?_ ?_)) (fun i hi => ?_)
  (repeat refine ats_seq ?_); refine ats_go (by first | exact fix0 hcx | exact fix1 hcx rfl | exact fixN hcx rfl) fun K hK => ?_; simp only [go_sem, seval]; (repeat refine And.intro (by first | omega | (intro hq; first | omega | (simp at hq <;> omega) | (simp_all <;> omega))) ?_); refine hK _ ?_; clear hK K
  (repeat refine ats_seq ?_); first | refine ats_ifn (p := _) rfl trivial (fun hli => ?_) (fun hli => ?_) | refine ats_ifp (p := _) rfl trivial (fun hli => ?_) (fun hli => ?_) | refine ats_cond rfl trivial (fun hli => ?_) (fun hli => ?_)
  · have l2 := wrM_len (n := n) (f := f) (g := g) (i := i) (j := 0)
    refine ats_skip ?_
    (repeat refine ats_seq ?_); refine ats_block ?_
    (repeat refine ats_seq ?_); refine ats_go (by first | exact fix0 hcx | exact fix1 hcx rfl | exact fixN hcx rfl) fun K hK => ?_; simp only [go_sem, seval]; (repeat refine And.intro (by first | omega | (intro hq; first | omega | (simp at hq <;> omega) | (simp_all <;> omega))) ?_); refine hK _ ?_; clear hK K
    (repeat refine ats_seq ?_); refine ats_go (by first | exact fix0 hcx | exact fix1 hcx rfl | exact fixN hcx rfl) fun K hK => ?_; simp only [go_sem, seval]
    simp only [l2]
    (repeat refine And.intro (by first | omega | (intro hq; first | omega | (simp at hq <;> omega) | (simp_all <;> omega))) ?_)
    refine hK _ ?_; clear hK K
    (repeat refine ats_seq ?_); refine ats_loop (fun j : Nat => ⟨[(0, .agg [.ref 3 [], .int m, .ref 4 []]), (1, .fn 22 [.bptr 0 0, .bptr 1 0]), (2, .bptr 5 0), (4, .bptr 6 0), (5, .bptr 8 0), (6, .int i), (19, .int n), (20, .int i), (25, .int n), (26, .int j)], [(0, .bx [.l1 o, .int m, .l3 w, .l2 c]), (1, .bx [.l1 o', .int m, .l3 w', .l2 c']), (3, .t1 o), (4, .t3 W), (5, .bx [.ref 3 [], .int m, .ref 4 []]), (6, .bx [.nil, .int 0, .nil, .nil]), (7, .t2 (wrM n f g i j)), (8, .bx [.ref 3 [], .int m, .ref 4 [], .ref 7 []])]⟩) (fun j => j ≤ n) (fun j => n - j) 0 (Nat.zero_le _) (by refine And.intro ?_ rfl; simp only [SlotsLe, St.get, slotGet, Nat.reduceEqDiff, ↓reduceIte, true_and, and_true, AV.int.injEq, AV.bool.injEq, AV.l1.injEq, AV.l2.injEq, AV.l3.injEq]; repeat' (first | rfl | omega | refine And.intro ?_ ?_)) (fun j hj => ?_)
    (repeat refine ats_seq ?_); refine ats_go (by first | exact fix0 hcx | exact fix1 hcx rfl | exact fixN hcx rfl) fun K hK => ?_; simp only [go_sem, seval]; (repeat refine And.intro (by first | omega | (intro hq; first | omega | (simp at hq <;> omega) | (simp_all <;> omega))) ?_); refine hK _ ?_; clear hK K
    (repeat refine ats_seq ?_); first | refine ats_ifn (p := _) rfl trivial (fun hlj => ?_) (fun hlj => ?_) | refine ats_ifp (p := _) rfl trivial (fun hlj => ?_) (fun hlj => ?_) | refine ats_cond rfl trivial (fun hlj => ?_) (fun hlj => ?_)
    · have l3 := wrM_len (n := n) (f := f) (g := g) (i := i) (j := j)
      have l4 := wrM_l2 (n := n) (f := f) (g := g) (i := i) (j := j) (x := i) (by omega)
      have hA := addB1_ok n o m w c o' w' c' m2 h h' i j (by omega) (by omega)
      have hR := rest_ok o m W (e2 c i j + e2 c' i j) m1 m2
      have ev : (e2 c i j + e2 c' i j) % m = f i j := by rw [ef]
      have b1 := Int.emod_nonneg (e2 c i j + e2 c' i j) (show m ≠ 0 by omega)
      have b2 := Int.emod_lt_of_pos (e2 c i j + e2 c' i j) (show 0 < m by omega)
      rw [ev] at hR b1 b2
      have sk := wrM_set (n := n) (f := f) (g := g) (i := i) (j := j) (by omega)
      refine ats_skip ?_
      (repeat refine ats_seq ?_); refine ats_block ?_
      (repeat refine ats_seq ?_); refine ats_go (by first | exact fix0 hcx | exact fix1 hcx rfl | exact fixN hcx rfl) fun K hK => ?_; simp only [go_sem, seval]; (repeat refine And.intro (by first | omega | (intro hq; first | omega | (simp at hq <;> omega) | (simp_all <;> omega))) ?_); refine hK _ ?_; clear hK K
      (repeat refine ats_seq ?_)
      refine ats_plan [] (.one 0 (.one 1 (.one 2 (.one 3 (.one 4 (.one 5 (.one 6 (.one 7 (.one 8 (.one 9 (.one 10 (.one 11 (.one 12 (.alt 13 .fin .stop)))))))))))))) ⟨[(0, .agg [.ref 3 [], .int m, .ref 4 []]), (1, .fn 22 [.bptr 0 0, .bptr 1 0]), (2, .bptr 5 0), (4, .bptr 6 0), (5, .bptr 8 0), (6, .int i), (19, .int n), (20, .int i), (25, .int n), (26, .int j)], [(0, .bx [.l1 o, .int m, .l3 w, .l2 c]), (1, .bx [.l1 o', .int m, .l3 w', .l2 c']), (3, .t1 o), (4, .t3 W), (5, .bx [.ref 3 [], .int m, .ref 4 []]), (6, .bx [.nil, .int 0, .nil, .nil]), (7, .t2 ((wrM n f g i j).set i (((wrM n f g i j).getD i []).set j (f i j)))), (8, .bx [.ref 3 [], .int m, .ref 4 [], .ref 7 []])]⟩ (by first | exact fix0 hcx | exact fixN hcx rfl) mixed (by kernel_rfl) (fun K hK => ?_) ?_
      · simp only [go_sem, seval, Option.getD_some, and_true, true_and, and_self, List.contains_cons, List.contains_nil, Bool.or_false, Bool.or_true]
        repeat' (first | exact hK _ (by refine And.intro ?_ rfl; simp only [SlotsLe, St.get, slotGet, Nat.reduceEqDiff, ↓reduceIte, AV.int.injEq, AV.bool.injEq, AV.l1.injEq, AV.l2.injEq, AV.l3.injEq, true_and, and_true])  | omega | refine And.intro ?_ ?_ | ((first | refine fcall_free rfl rfl (hA) ?_ | refine YR_intro (acall_free rfl rfl (hA)) ?_); simp only [go_sem, seval, Option.getD_some, and_true, true_and, and_self, List.contains_cons, List.contains_nil, Bool.or_false, Bool.or_true]) | ((first | refine fcall_free rfl rfl (hR) ?_ | refine YR_intro (acall_free rfl rfl (hR)) ?_); simp only [go_sem, seval, Option.getD_some, and_true, true_and, and_self, List.contains_cons, List.contains_nil, Bool.or_false, Bool.or_true]))
      rw [sk]
      (repeat refine ats_seq ?_); refine ats_go (by first | exact fix0 hcx | exact fix1 hcx rfl | exact fixN hcx rfl) fun K hK => ?_; simp only [go_sem, seval]; (repeat refine And.intro (by first | omega | (intro hq; first | omega | (simp at hq <;> omega) | (simp_all <;> omega))) ?_); refine hK _ ?_; clear hK K
      refine ⟨j + 1,  by omega, by omega, .inl ⟨by simp only [SlotsLe, St.get, slotGet, Nat.reduceEqDiff, ↓reduceIte, AV.int.injEq, AV.bool.injEq, AV.l1.injEq, AV.l2.injEq, AV.l3.injEq, true_and, and_true]; omega,  rfl⟩⟩
    · obtain rfl : j = n := by omega
      rw [wrM_row]
      refine ats_exit (lq_x ?_)
      (repeat refine ats_seq ?_); refine ats_go (by first | exact fix0 hcx | exact fix1 hcx rfl | exact fixN hcx rfl) fun K hK => ?_; simp only [go_sem, seval]; (repeat refine And.intro (by first | omega | (intro hq; first | omega | (simp at hq <;> omega) | (simp_all <;> omega))) ?_); refine hK _ ?_; clear hK K
      refine ⟨i + 1,  by omega, by omega, .inl ⟨by simp only [SlotsLe, St.get, slotGet, Nat.reduceEqDiff, ↓reduceIte, AV.int.injEq, AV.bool.injEq, AV.l1.injEq, AV.l2.injEq, AV.l3.injEq, true_and, and_true]; omega,  rfl⟩⟩
  · obtain rfl : i = n := by omega
    rw [wrM_end]
    refine ats_exit (lq_x ?_)
    (repeat refine ats_seq ?_); refine ats_go (by first | exact fix0 hcx | exact fix1 hcx rfl | exact fixN hcx rfl) fun K hK => ?_; simp only [go_sem, seval]; (repeat refine And.intro (by first | omega | (intro hq; first | omega | (simp at hq <;> omega) | (simp_all <;> omega))) ?_); refine hK _ ?_; clear hK K
    refine ats_ret ⟨⟨[(0, .agg [.ref 3 [], .int m, .ref 4 []]), (1, .fn 22 [.bptr 0 0, .bptr 1 0]), (4, .bptr 6 0)], [(0, .bx [.l1 o, .int m, .l3 w, .l2 c]), (1, .bx [.l1 o', .int m, .l3 w', .l2 c']), (3, .t1 o), (4, .t3 W), (5, .t2 (matF i i f)), (6, .bx [.ref 3 [], .int m, .ref 4 [], .ref 5 []])]⟩, ghost_trans (ghost_drop [5, 8]) (ghost_can [(5, 7)] (by simp only [killL, killA, killAs, qOf, rmT, killH, killT, List.filter_cons, List.filter_nil, List.contains_cons, List.contains_nil, Bool.or_false, Bool.or_true, Bool.false_and, Bool.not_true, Bool.not_false, Bool.false_eq_true, if_true, if_false, rnLs, rnL, rn, rns, sw, SlotsLe, St.get, slotGet, List.map_cons, List.map_nil, seval, AV.int.injEq, AV.bool.injEq, AV.l1.injEq, AV.l2.injEq, AV.l3.injEq, true_and, and_true]) (by simp only [killL, killA, killAs, qOf, rmT, killH, killT, List.filter_cons, List.filter_nil, List.contains_cons, List.contains_nil, Bool.or_false, Bool.or_true, Bool.false_and, Bool.not_true, Bool.not_false, Bool.false_eq_true, if_true, if_false, sortH, insH, rnHs, rnH, rnT, rn, rns, sw, List.map_cons, List.map_nil, seval])), .inr rfl, (by first | rfl | exact ⟨trivial, rfl⟩ | (simp only [resL, resA, go_sem, seval]; done)), (by simp [St.get, slotGet, argSlots]), rfl⟩
end Go.Proofs.Ytjfiahmadnijhaa
