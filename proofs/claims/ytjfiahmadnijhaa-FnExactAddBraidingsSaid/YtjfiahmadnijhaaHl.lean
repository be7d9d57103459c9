/-
  The reference's sum of braidings.
-/
import Derived.Test.YtjfiahmadnijhaaHk
set_option linter.unusedSimpArgs false
set_option linter.unusedVariables false
namespace Go.Proofs.Ytjfiahmadnijhaa
open Go Go.Aw Go.Pl

set_option maxRecDepth 100000 in
set_option maxHeartbeats 8000000 in
theorem l18Sum_ok (o : List Int) (m : Int) (w : List (List (List Int))) (c : List (List Int)) (o' : List Int) (w' : List (List (List Int))) (c' : List (List Int)) (h : CocS o m w) (hn : w'.length = w.length) (h' : CubB w.length m w') (hl : o.length ≤ 1048576) (hb : GridB w.length m c) (hb' : GridB w.length m c') : PureCall Try.prog 15 [.agg [.l1 o, .int m, .l3 w, .l2 c], .agg [.l1 o', .int m, .l3 w', .l2 c']] (.agg [.l1 o, .int m, .l3 (sumW m w.length w w'), .l2 (sumC m w.length c c')]) := by
  have n8 := h.n8
  have m1 := h.2.2.1
  have m2 := h.2.2.2.1
  have hS := l17Sum_ok o m w o' w' h hn h' hl
  obtain ⟨W, eW⟩ : ∃ W, sumW m w.length w w' = W := ⟨_, rfl⟩
  rw [eW] at hS ⊢
  obtain ⟨n, en⟩ : ∃ n, w.length = n := ⟨_, rfl⟩
  rw [en] at n8 hn hb hb' ⊢
  have lc := hb.1
  have lc' := hb'.1
  obtain ⟨f, ef⟩ : ∃ f : Nat → Nat → Int, f = fun i j => (e2 c i j + e2 c' i j) % m := ⟨_, rfl⟩
  have es : sumC m n c c' = matF n n f := by unfold sumC; rw [ef]
  rw [es]
  refine PureCall.intro (n := 61) (rs := [.cell 4 32]) Try.call15 Try.func15 rfl rfl rfl (by simp only [List.length_cons, List.length_nil]; omega) (fun cx hcx => ats_of ?_); simp only [argSlots, Nat.zero_add, Nat.reduceAdd]
  (repeat refine ats_seq ?_); refine ats_go (fix0 hcx) fun K hK => ?_; simp only [go_sem, seval]; refine hK _ ?_; clear hK K
  (repeat refine ats_seq ?_); refine ats_go (fix0 hcx) fun K hK => ?_; simp only [go_sem, seval]
  (repeat refine And.intro (by first | omega | (intro hq; first | omega | (simp at hq <;> omega) | (simp_all <;> omega))) ?_)
  first | refine fcall_data (hS) rfl ?_ | refine YR_intro (acall_data (hS) rfl) ?_
  simp only [go_sem, seval]
  (repeat refine And.intro (by first | omega | (intro hq; first | omega | (simp at hq <;> omega) | (simp_all <;> omega))) ?_)
  refine hK _ ?_; clear hK K
  (repeat refine ats_seq ?_); refine ats_go (fix0 hcx) fun K hK => ?_; simp only [go_sem, seval]; (repeat refine And.intro (by first | omega | (intro hq; first | omega | (simp at hq <;> omega) | (simp_all <;> omega))) ?_); refine hK _ ?_; clear hK K
  (repeat refine ats_seq ?_)
  refine ats_loop (fun q : Option Nat => match q with
    | none => ⟨[(2, .bptr 0 0), (3, .bptr 1 0), (4, .bptr 2 0), (5, .bptr 3 0), (6, .int 0)], [(0, .bx [.l1 o, .int m, .l3 w, .l2 c]), (1, .bx [.l1 o', .int m, .l3 w', .l2 c']), (2, .bx [.nil, .int 0, .nil, .nil]), (3, .bx [.l1 o, .int m, .l3 W, .nil])]⟩
    | some i => ⟨[(2, .bptr 0 0), (3, .bptr 1 0), (4, .bptr 2 0), (5, .bptr 3 0), (6, .int i)], [(0, .bx [.l1 o, .int m, .l3 w, .l2 c]), (1, .bx [.l1 o', .int m, .l3 w', .l2 c']), (2, .bx [.nil, .int 0, .nil, .nil]), (3, .bx [.l1 o, .int m, .l3 W, .ref 6 []]), (6, .t2 (matF i n f))]⟩) (fun q => match q with
    | none => True
    | some i => 1 ≤ i ∧ i ≤ n) (fun q => match q with
    | none => n + 1
    | some i => n - i) none trivial ⟨by simp only [SlotsLe, St.get, slotGet, Nat.reduceEqDiff, ↓reduceIte, true_and, and_true], rfl⟩ (fun q hq => ?_)
  cases q with
  | none =>
    dsimp only at hq ⊢
    (repeat refine ats_seq ?_); refine ats_go (fix0 hcx) fun K hK => ?_; simp only [go_sem, seval]; (repeat refine And.intro (by first | omega | (intro hq; first | omega | (simp at hq <;> omega) | (simp_all <;> omega))) ?_); refine hK _ ?_; clear hK K
    (repeat refine ats_seq ?_); first | refine ats_ifn (p := _) rfl trivial (fun hli => ?_) (fun hli => ?_) | refine ats_ifp (p := _) rfl trivial (fun hli => ?_) (fun hli => ?_) | refine ats_cond rfl trivial (fun hli => ?_) (fun hli => ?_)
    · have ri := hb.row (show 0 < n by omega)
      have ri' := hb'.row (show 0 < n by omega)
      refine ats_skip ?_
      (repeat refine ats_seq ?_); refine ats_block ?_
      (repeat refine ats_seq ?_); refine ats_go (fix0 hcx) fun K hK => ?_; simp only [go_sem, seval]; (repeat refine And.intro (by first | omega | (intro hq; first | omega | (simp at hq <;> omega) | (simp_all <;> omega))) ?_); refine hK _ ?_; clear hK K
      (repeat refine ats_seq ?_); refine ats_go (fix0 hcx) fun K hK => ?_; simp only [go_sem, seval]; (repeat refine And.intro (by first | omega | (intro hq; first | omega | (simp at hq <;> omega) | (simp_all <;> omega))) ?_); refine hK _ ?_; clear hK K
      (repeat refine ats_seq ?_); refine ats_loop (fun j : Nat => ⟨[(2, .bptr 0 0), (3, .bptr 1 0), (4, .bptr 2 0), (5, .bptr 3 0), (6, .int 0), (7, .ref 4 []), (8, .int j)], [(0, .bx [.l1 o, .int m, .l3 w, .l2 c]), (1, .bx [.l1 o', .int m, .l3 w', .l2 c']), (2, .bx [.nil, .int 0, .nil, .nil]), (3, .bx [.l1 o, .int m, .l3 W, .nil]), (4, .t1 (rowF j (f 0)))]⟩) (fun j => j ≤ n) (fun j => n - j) 0 (Nat.zero_le _) (by refine And.intro ?_ rfl; simp only [SlotsLe, St.get, slotGet, Nat.reduceEqDiff, ↓reduceIte, true_and, and_true, AV.int.injEq, AV.bool.injEq, AV.l1.injEq, AV.l2.injEq, AV.l3.injEq]; repeat' (first | rfl | omega | refine And.intro ?_ ?_)) (fun j hj => ?_)
      have hlr := rowF_length j (f 0)
      have hlm := matF_length 0 n f
      (repeat refine ats_seq ?_); refine ats_go (fix0 hcx) fun K hK => ?_; simp only [go_sem, seval]; (repeat refine And.intro (by first | omega | (intro hq; first | omega | (simp at hq <;> omega) | (simp_all <;> omega))) ?_); refine hK _ ?_; clear hK K
      (repeat refine ats_seq ?_); first | refine ats_ifn (p := _) rfl trivial (fun hlj => ?_) (fun hlj => ?_) | refine ats_ifp (p := _) rfl trivial (fun hlj => ?_) (fun hlj => ?_) | refine ats_cond rfl trivial (fun hlj => ?_) (fun hlj => ?_)
      · have v1 := hb.bd (show 0 < n by omega) (show j < n by omega)
        have v2 := hb'.bd (show 0 < n by omega) (show j < n by omega)
        have ev : (e2 c 0 j + e2 c' 0 j).tmod m = f 0 j := by rw [ef]; exact Int.tmod_eq_emod_of_nonneg (by omega)
        have bt : -m < (e2 c 0 j + e2 c' 0 j).tmod m := by rw [Int.tmod_eq_emod_of_nonneg (by omega)]; have := Int.emod_nonneg (e2 c 0 j + e2 c' 0 j) (show m ≠ 0 by omega); omega
        have bt2 : (e2 c 0 j + e2 c' 0 j).tmod m < m := Int.tmod_lt_of_pos _ (by omega)
        simp only [e2] at v1 v2 ev bt bt2
        rw [ev] at bt bt2
        refine ats_skip ?_
        (repeat refine ats_seq ?_); refine ats_block ?_
        (repeat refine ats_seq ?_); refine ats_pickP [0, 1, 2, 3, 4, 5, 6, 7, 8, 9, 10, 11, 12, 13, 14, 15, 16, 17, 18, 19, 20, 21, 22, 23, 24] (fix0 hcx) mixed (by kernel_rfl) fun K hK => ?_; simp only [pickL, pickO, List.map_cons, List.map_nil, List.getElem?_toArray, List.getElem?_cons_zero, List.getElem?_cons_succ, Option.getD_some]; simp only [go_sem, seval]
        simp only [ev, hlr]
        (repeat refine And.intro (by first | omega | (intro hq; first | omega | (simp at hq <;> omega) | (simp_all <;> omega))) ?_)
        refine hK _ ?_; clear hK K
        (repeat refine ats_seq ?_); refine ats_go (fix0 hcx) fun K hK => ?_; simp only [go_sem, seval]; (repeat refine And.intro (by first | omega | (intro hq; first | omega | (simp at hq <;> omega) | (simp_all <;> omega))) ?_); refine hK _ ?_; clear hK K
        refine ⟨j + 1, by omega, by omega, .inr ⟨[5], by simp only [killL, List.map_cons, List.map_nil, killA, killAs, qOf, rmT, killH, killT, List.filter_cons, List.filter_nil, List.contains_cons, List.contains_nil, SlotsLe, St.get, slotGet, Nat.reduceEqDiff, Nat.reduceBEq, Bool.or_false, Bool.or_true, Bool.false_and, Bool.not_true, Bool.not_false, Bool.false_eq_true, ↓reduceIte, if_true, if_false, AV.int.injEq, AV.bool.injEq, AV.l1.injEq, AV.l2.injEq, AV.l3.injEq, true_and, and_true]; omega, by simp only [killL, List.map_cons, List.map_nil, killA, killAs, qOf, rmT, killH, killT, List.filter_cons, List.filter_nil, List.contains_cons, List.contains_nil, SlotsLe, St.get, slotGet, Nat.reduceEqDiff, Nat.reduceBEq, Bool.or_false, Bool.or_true, Bool.false_and, Bool.not_true, Bool.not_false, Bool.false_eq_true, ↓reduceIte, if_true, if_false, AV.int.injEq, AV.bool.injEq, AV.l1.injEq, AV.l2.injEq, AV.l3.injEq, true_and, and_true]; rw [rowP_succ]⟩⟩
      · obtain rfl : j = n := by omega
        refine ats_exit (lq_x ?_)
        (repeat refine ats_seq ?_); refine ats_go (fix0 hcx) fun K hK => ?_; simp only [go_sem, seval]
        try simp only [hlm]
        (repeat refine And.intro (by first | omega | (intro hq; first | omega | (simp at hq <;> omega) | (simp_all <;> omega))) ?_)
        refine hK _ ?_; clear hK K
        (repeat refine ats_seq ?_); refine ats_go (fix0 hcx) fun K hK => ?_; simp only [go_sem, seval]; (repeat refine And.intro (by first | omega | (intro hq; first | omega | (simp at hq <;> omega) | (simp_all <;> omega))) ?_); refine hK _ ?_; clear hK K
        refine ⟨some (0 + 1), ⟨by omega, by omega⟩, by show j - (0 + 1) < j + 1; omega, .inl ⟨?_, ?_⟩⟩
        · simp only [SlotsLe, St.get, slotGet, Nat.reduceEqDiff, ↓reduceIte, AV.int.injEq, true_and, and_true]
          omega
        · dsimp only
          rw [matP_succ]
          try rfl
    · omega
  | some i =>
    dsimp only at hq ⊢
    (repeat refine ats_seq ?_); refine ats_go (fix0 hcx) fun K hK => ?_; simp only [go_sem, seval]; (repeat refine And.intro (by first | omega | (intro hq; first | omega | (simp at hq <;> omega) | (simp_all <;> omega))) ?_); refine hK _ ?_; clear hK K
    (repeat refine ats_seq ?_); first | refine ats_ifn (p := _) rfl trivial (fun hli => ?_) (fun hli => ?_) | refine ats_ifp (p := _) rfl trivial (fun hli => ?_) (fun hli => ?_) | refine ats_cond rfl trivial (fun hli => ?_) (fun hli => ?_)
    · have ri := hb.row (show i < n by omega)
      have ri' := hb'.row (show i < n by omega)
      refine ats_skip ?_
      (repeat refine ats_seq ?_); refine ats_block ?_
      (repeat refine ats_seq ?_); refine ats_go (fix0 hcx) fun K hK => ?_; simp only [go_sem, seval]; (repeat refine And.intro (by first | omega | (intro hq; first | omega | (simp at hq <;> omega) | (simp_all <;> omega))) ?_); refine hK _ ?_; clear hK K
      (repeat refine ats_seq ?_); refine ats_go (fix0 hcx) fun K hK => ?_; simp only [go_sem, seval]; (repeat refine And.intro (by first | omega | (intro hq; first | omega | (simp at hq <;> omega) | (simp_all <;> omega))) ?_); refine hK _ ?_; clear hK K
      (repeat refine ats_seq ?_); refine ats_loop (fun j : Nat => ⟨[(2, .bptr 0 0), (3, .bptr 1 0), (4, .bptr 2 0), (5, .bptr 3 0), (6, .int i), (7, .ref 7 []), (8, .int j)], [(0, .bx [.l1 o, .int m, .l3 w, .l2 c]), (1, .bx [.l1 o', .int m, .l3 w', .l2 c']), (2, .bx [.nil, .int 0, .nil, .nil]), (3, .bx [.l1 o, .int m, .l3 W, .ref 6 []]), (6, .t2 (matF i n f)), (7, .t1 (rowF j (f i)))]⟩) (fun j => j ≤ n) (fun j => n - j) 0 (Nat.zero_le _) (by refine And.intro ?_ rfl; simp only [SlotsLe, St.get, slotGet, Nat.reduceEqDiff, ↓reduceIte, true_and, and_true, AV.int.injEq, AV.bool.injEq, AV.l1.injEq, AV.l2.injEq, AV.l3.injEq]; repeat' (first | rfl | omega | refine And.intro ?_ ?_)) (fun j hj => ?_)
      have hlr := rowF_length j (f i)
      have hlm := matF_length i n f
      (repeat refine ats_seq ?_); refine ats_go (fix0 hcx) fun K hK => ?_; simp only [go_sem, seval]; (repeat refine And.intro (by first | omega | (intro hq; first | omega | (simp at hq <;> omega) | (simp_all <;> omega))) ?_); refine hK _ ?_; clear hK K
      (repeat refine ats_seq ?_); first | refine ats_ifn (p := _) rfl trivial (fun hlj => ?_) (fun hlj => ?_) | refine ats_ifp (p := _) rfl trivial (fun hlj => ?_) (fun hlj => ?_) | refine ats_cond rfl trivial (fun hlj => ?_) (fun hlj => ?_)
      · have v1 := hb.bd (show i < n by omega) (show j < n by omega)
        have v2 := hb'.bd (show i < n by omega) (show j < n by omega)
        have ev : (e2 c i j + e2 c' i j).tmod m = f i j := by rw [ef]; exact Int.tmod_eq_emod_of_nonneg (by omega)
        have bt : -m < (e2 c i j + e2 c' i j).tmod m := by rw [Int.tmod_eq_emod_of_nonneg (by omega)]; have := Int.emod_nonneg (e2 c i j + e2 c' i j) (show m ≠ 0 by omega); omega
        have bt2 : (e2 c i j + e2 c' i j).tmod m < m := Int.tmod_lt_of_pos _ (by omega)
        simp only [e2] at v1 v2 ev bt bt2
        rw [ev] at bt bt2
        refine ats_skip ?_
        (repeat refine ats_seq ?_); refine ats_block ?_
        (repeat refine ats_seq ?_); refine ats_pickP [0, 1, 2, 3, 4, 5, 6, 7, 8, 9, 10, 11, 12, 13, 14, 15, 16, 17, 18, 19, 20, 21, 22, 23, 24] (fix0 hcx) mixed (by kernel_rfl) fun K hK => ?_; simp only [pickL, pickO, List.map_cons, List.map_nil, List.getElem?_toArray, List.getElem?_cons_zero, List.getElem?_cons_succ, Option.getD_some]; simp only [go_sem, seval]
        simp only [ev, hlr]
        (repeat refine And.intro (by first | omega | (intro hq; first | omega | (simp at hq <;> omega) | (simp_all <;> omega))) ?_)
        refine hK _ ?_; clear hK K
        (repeat refine ats_seq ?_); refine ats_go (fix0 hcx) fun K hK => ?_; simp only [go_sem, seval]; (repeat refine And.intro (by first | omega | (intro hq; first | omega | (simp at hq <;> omega) | (simp_all <;> omega))) ?_); refine hK _ ?_; clear hK K
        refine ⟨j + 1, by omega, by omega, .inr ⟨[8], by simp only [killL, List.map_cons, List.map_nil, killA, killAs, qOf, rmT, killH, killT, List.filter_cons, List.filter_nil, List.contains_cons, List.contains_nil, SlotsLe, St.get, slotGet, Nat.reduceEqDiff, Nat.reduceBEq, Bool.or_false, Bool.or_true, Bool.false_and, Bool.not_true, Bool.not_false, Bool.false_eq_true, ↓reduceIte, if_true, if_false, AV.int.injEq, AV.bool.injEq, AV.l1.injEq, AV.l2.injEq, AV.l3.injEq, true_and, and_true]; omega, by simp only [killL, List.map_cons, List.map_nil, killA, killAs, qOf, rmT, killH, killT, List.filter_cons, List.filter_nil, List.contains_cons, List.contains_nil, SlotsLe, St.get, slotGet, Nat.reduceEqDiff, Nat.reduceBEq, Bool.or_false, Bool.or_true, Bool.false_and, Bool.not_true, Bool.not_false, Bool.false_eq_true, ↓reduceIte, if_true, if_false, AV.int.injEq, AV.bool.injEq, AV.l1.injEq, AV.l2.injEq, AV.l3.injEq, true_and, and_true]; rw [rowP_succ]⟩⟩
      · obtain rfl : j = n := by omega
        refine ats_exit (lq_x ?_)
        (repeat refine ats_seq ?_); refine ats_go (fix0 hcx) fun K hK => ?_; simp only [go_sem, seval]
        try simp only [hlm]
        (repeat refine And.intro (by first | omega | (intro hq; first | omega | (simp at hq <;> omega) | (simp_all <;> omega))) ?_)
        refine hK _ ?_; clear hK K
        (repeat refine ats_seq ?_); refine ats_go (fix0 hcx) fun K hK => ?_; simp only [go_sem, seval]; (repeat refine And.intro (by first | omega | (intro hq; first | omega | (simp at hq <;> omega) | (simp_all <;> omega))) ?_); refine hK _ ?_; clear hK K
        refine ⟨some (i + 1), ⟨by omega, by omega⟩, by show j - (i + 1) < j - i; omega, .inl ⟨?_, ?_⟩⟩
        · simp only [SlotsLe, St.get, slotGet, Nat.reduceEqDiff, ↓reduceIte, AV.int.injEq, true_and, and_true]
          omega
        · dsimp only
          rw [matP_succ]
          try rfl
    · obtain rfl : i = n := by omega
      refine ats_exit (lq_x ?_)
      (repeat refine ats_seq ?_); refine ats_go (fix0 hcx) fun K hK => ?_; simp only [go_sem, seval]; (repeat refine And.intro (by first | omega | (intro hq; first | omega | (simp at hq <;> omega) | (simp_all <;> omega))) ?_); refine hK _ ?_; clear hK K
      exact ats_ret (finC (v := .agg [.l1 o, .int m, .l3 W, .ref 6 []]) (by simp only [go_sem, seval]) rfl)
end Go.Proofs.Ytjfiahmadnijhaa
