import Derived.Test.YtakhnoenhmpfpaaGreatDd
import Derived.Test.YtakhnoenhmpfpaaGreatPl2
set_option linter.unusedSimpArgs false
set_option linter.unusedVariables false
namespace Go.Proofs.YtakhnoenhmpfpaaGreat
open Go Go.Aw Go.Pl
theorem l12Numbers_ok (s : List (List Int)) (t c : List Int) (hs : Shape s t) (hc : c.length = t.length) (hC : ∀ k, k < t.length → 0 ≤ c.getD k 0 ∧ c.getD k 0 < t.length) : PureCall Tryz.prog 39 [.agg [.l2 s, .l1 t], .l1 c] (.l3 (numD s t.length c)) := by
  have h16 := hs.2.1
  have h1 := hs.1
  have hm := hs.2.2.1
  have ls := hm.1
  have r0 := hm.row (show 0 < t.length by omega)
  have hW := l12Whole_ok s t hs
  have pW : InP (wholeD s t.length) := inP_md _
  have piW := inv_InP pW
  refine PureCall.intro (n := 111) (rs := [.tmp 4]) Tryz.call39 Tryz.func39 rfl rfl rfl (by simp only [List.length_cons, List.length_nil]; omega) (fun cx hcx => ats_of ?_); simp only [argSlots, Nat.zero_add, Nat.reduceAdd]
  (repeat refine ats_seq ?_); refine ats_go (fix0 hcx) fun K hK => ?_; simp only [go_sem, seval]; refine hK _ ?_; clear hK K
  (repeat refine ats_seq ?_); refine ats_go (fix0 hcx) fun K hK => ?_; simp only [go_sem, seval]; refine hK _ ?_; clear hK K
  (repeat refine ats_seq ?_); refine ats_go (fix0 hcx) fun K hK => ?_; simp only [go_sem, seval]
  first | refine fcall_free rfl rfl (hW) ?_ | refine YR_intro (acall_free rfl rfl (hW)) ?_
  simp only [go_sem, seval]
  first | refine fcall_free rfl rfl (l01Inv_ok (wholeD s t.length) pW) ?_ | refine YR_intro (acall_free rfl rfl (l01Inv_ok (wholeD s t.length) pW)) ?_
  simp only [go_sem, seval]
  refine hK _ ?_; clear hK K
  (repeat refine ats_seq ?_); refine ats_go (fix0 hcx) fun K hK => ?_; simp only [go_sem, seval]
  refine fcall_own rfl (l06Empty_ok t.length h16) rfl ?_; simp only [go_sem, seval]
  refine hK _ ?_; clear hK K
  (repeat refine ats_seq ?_); refine ats_go (fix0 hcx) fun K hK => ?_; simp only [go_sem, seval]; refine hK _ ?_; clear hK K
  (repeat refine ats_seq ?_); refine ats_go (fix0 hcx) fun K hK => ?_; simp only [go_sem, seval]; refine hK _ ?_; clear hK K
  (repeat refine ats_seq ?_); refine ats_loop (fun l : Nat => ⟨[(1, .l1 c), (2, .bptr 0 0), (5, .int t.length), (6, .int (inv (wholeD s t.length))), (7, .ref 1 []), (8, .ref 2 []), (9, .int l)], [(1, .t3 (List.replicate t.length (List.replicate t.length (List.replicate t.length 0)))), (0, .bx [.l2 s, .l1 t]), (2, .t1 ((List.range l).map (ivL s t.length)))]⟩) (fun l => l ≤ t.length) (fun l => t.length - l) 0 (Nat.zero_le _) (by refine And.intro ?_ rfl; simp only [SlotsLe, St.get, slotGet, Nat.reduceEqDiff, ↓reduceIte, true_and, and_true, AV.int.injEq, AV.bool.injEq, AV.l1.injEq, AV.l2.injEq, AV.l3.injEq]; repeat' (first | rfl | omega | refine And.intro ?_ ?_)) (fun l hl => ?_)
  have hl : ((List.range l).map (ivL s t.length)).length = l := by simp
  (repeat refine ats_seq ?_); refine ats_go (fix0 hcx) fun K hK => ?_; simp only [go_sem, seval]; refine hK _ ?_; clear hK K
  (repeat refine ats_seq ?_); first | refine ats_ifn (p := _) rfl trivial (fun hll => ?_) (fun hll => ?_) | refine ats_ifp (p := _) rfl trivial (fun hll => ?_) (fun hll => ?_) | refine ats_cond rfl trivial (fun hll => ?_) (fun hll => ?_)
  · have p0 := hm.inP (show 0 < t.length by omega) (show l < t.length by omega)
    have mp := mulP (inv_InP p0) piW
    have hI := l01Inv_ok _ p0
    simp only [e2] at mp hI
    refine ats_skip ?_
    (repeat refine ats_seq ?_); refine ats_block ?_
    (repeat refine ats_seq ?_); refine ats_go (fix0 hcx) fun K hK => ?_; simp only [go_sem, seval]
    (repeat refine And.intro (by first | omega | (intro hq; first | omega | (simp at hq <;> omega) | (simp_all <;> omega))) ?_)
    first | refine fcall_free rfl rfl (hI) ?_ | refine YR_intro (acall_free rfl rfl (hI)) ?_
    simp only [go_sem, seval]
    try simp (disch := omega) only [tmP, tdP]
    (repeat refine And.intro (by (first | omega | (rw [hl]; omega))) ?_)
    refine hK _ ?_; clear hK K
    (repeat refine ats_seq ?_); refine ats_go (fix0 hcx) fun K hK => ?_; simp only [go_sem, seval]; (repeat refine And.intro (by first | omega | (intro hq; first | omega | (simp at hq <;> omega) | (simp_all <;> omega))) ?_); refine hK _ ?_; clear hK K
    refine ⟨l + 1, by omega, by omega, .inr ⟨[3], by simp only [killL, List.map_cons, List.map_nil, killA, killAs, qOf, rmT, killH, killT, List.filter_cons, List.filter_nil, List.contains_cons, List.contains_nil, SlotsLe, St.get, slotGet, Nat.reduceEqDiff, Nat.reduceBEq, Bool.or_false, Bool.or_true, Bool.false_and, Bool.not_true, Bool.not_false, Bool.false_eq_true, ↓reduceIte, if_true, if_false, AV.int.injEq, AV.bool.injEq, AV.l1.injEq, AV.l2.injEq, AV.l3.injEq, true_and, and_true]; omega, by simp only [killL, List.map_cons, List.map_nil, killA, killAs, qOf, rmT, killH, killT, List.filter_cons, List.filter_nil, List.contains_cons, List.contains_nil, SlotsLe, St.get, slotGet, Nat.reduceEqDiff, Nat.reduceBEq, Bool.or_false, Bool.or_true, Bool.false_and, Bool.not_true, Bool.not_false, Bool.false_eq_true, ↓reduceIte, if_true, if_false, AV.int.injEq, AV.bool.injEq, AV.l1.injEq, AV.l2.injEq, AV.l3.injEq, true_and, and_true]; simp only [List.range_succ, List.map_append, List.map_cons, List.map_nil]; rfl⟩⟩
  · obtain rfl : l = t.length := by omega
    have hlv : ((List.range t.length).map (ivL s t.length)).length = t.length := by simp
    refine ats_exit (lq_x ?_)
    rw [← cubL_zero (g := numV s t.length c)]
    (repeat refine ats_seq ?_); refine ats_go (fix0 hcx) fun K hK => ?_; simp only [go_sem, seval]; refine hK _ ?_; clear hK K
    (repeat refine ats_seq ?_); refine ats_loop (fun i : Nat => ⟨[(1, .l1 c), (2, .bptr 0 0), (5, .int t.length), (7, .ref 1 []), (8, .ref 2 []), (10, .int i)], [(1, .t3 (cubL t.length (numV s t.length c) i 0 0)), (0, .bx [.l2 s, .l1 t]), (2, .t1 ((List.range t.length).map (ivL s t.length)))]⟩) (fun i => i ≤ t.length) (fun i => t.length - i) 0 (Nat.zero_le _) (by refine And.intro ?_ rfl; simp only [SlotsLe, St.get, slotGet, Nat.reduceEqDiff, ↓reduceIte, true_and, and_true, AV.int.injEq, AV.bool.injEq, AV.l1.injEq, AV.l2.injEq, AV.l3.injEq]; repeat' (first | rfl | omega | refine And.intro ?_ ?_)) (fun i hi => ?_)
    (repeat refine ats_seq ?_); refine ats_go (fix0 hcx) fun K hK => ?_; simp only [go_sem, seval]; refine hK _ ?_; clear hK K
    (repeat refine ats_seq ?_); first | refine ats_ifn (p := _) rfl trivial (fun hli => ?_) (fun hli => ?_) | refine ats_ifp (p := _) rfl trivial (fun hli => ?_) (fun hli => ?_) | refine ats_cond rfl trivial (fun hli => ?_) (fun hli => ?_)
    · have ri := hm.row (show i < t.length by omega)
      refine ats_skip ?_
      (repeat refine ats_seq ?_); refine ats_block ?_
      (repeat refine ats_seq ?_); refine ats_go (fix0 hcx) fun K hK => ?_; simp only [go_sem, seval]; refine hK _ ?_; clear hK K
      (repeat refine ats_seq ?_); refine ats_loop (fun j : Nat => ⟨[(1, .l1 c), (2, .bptr 0 0), (5, .int t.length), (7, .ref 1 []), (8, .ref 2 []), (10, .int i), (11, .int j)], [(1, .t3 (cubL t.length (numV s t.length c) i j 0)), (0, .bx [.l2 s, .l1 t]), (2, .t1 ((List.range t.length).map (ivL s t.length)))]⟩) (fun j => j ≤ t.length) (fun j => t.length - j) 0 (Nat.zero_le _) (by refine And.intro ?_ rfl; simp only [SlotsLe, St.get, slotGet, Nat.reduceEqDiff, ↓reduceIte, true_and, and_true, AV.int.injEq, AV.bool.injEq, AV.l1.injEq, AV.l2.injEq, AV.l3.injEq]; repeat' (first | rfl | omega | refine And.intro ?_ ?_)) (fun j hj => ?_)
      (repeat refine ats_seq ?_); refine ats_go (fix0 hcx) fun K hK => ?_; simp only [go_sem, seval]; refine hK _ ?_; clear hK K
      (repeat refine ats_seq ?_); first | refine ats_ifn (p := _) rfl trivial (fun hlj => ?_) (fun hlj => ?_) | refine ats_ifp (p := _) rfl trivial (fun hlj => ?_) (fun hlj => ?_) | refine ats_cond rfl trivial (fun hlj => ?_) (fun hlj => ?_)
      · have rj := hm.row (show j < t.length by omega)
        refine ats_skip ?_
        (repeat refine ats_seq ?_); refine ats_block ?_
        (repeat refine ats_seq ?_); refine ats_go (fix0 hcx) fun K hK => ?_; simp only [go_sem, seval]; refine hK _ ?_; clear hK K
        (repeat refine ats_seq ?_); refine ats_go (fix0 hcx) fun K hK => ?_; simp only [go_sem, seval]; refine hK _ ?_; clear hK K
        (repeat refine ats_seq ?_); refine ats_loop (fun l : Nat => ⟨[(1, .l1 c), (2, .bptr 0 0), (5, .int t.length), (7, .ref 1 []), (8, .ref 2 []), (10, .int i), (11, .int j), (12, .ref 3 []), (13, .int l)], [(1, .t3 (cubL t.length (numV s t.length c) i j 0)), (0, .bx [.l2 s, .l1 t]), (2, .t1 ((List.range t.length).map (ivL s t.length))), (3, .t1 ((List.range l).map (boF s t.length i j)))]⟩) (fun l => l ≤ t.length) (fun l => t.length - l) 0 (Nat.zero_le _) (by refine And.intro ?_ rfl; simp only [SlotsLe, St.get, slotGet, Nat.reduceEqDiff, ↓reduceIte, true_and, and_true, AV.int.injEq, AV.bool.injEq, AV.l1.injEq, AV.l2.injEq, AV.l3.injEq]; repeat' (first | rfl | omega | refine And.intro ?_ ?_)) (fun l hl => ?_)
        have hl : ((List.range l).map (boF s t.length i j)).length = l := by simp
        (repeat refine ats_seq ?_); refine ats_go (fix0 hcx) fun K hK => ?_; simp only [go_sem, seval]; refine hK _ ?_; clear hK K
        (repeat refine ats_seq ?_); first | refine ats_ifn (p := _) rfl trivial (fun hll => ?_) (fun hll => ?_) | refine ats_ifp (p := _) rfl trivial (fun hll => ?_) (fun hll => ?_) | refine ats_cond rfl trivial (fun hll => ?_) (fun hll => ?_)
        · have gl : ((List.range t.length).map (ivL s t.length)).getD l 0 = ivL s t.length l := map_get (by omega)
          have pl : InP (ivL s t.length l) := inP_md _
          have mp := mulP (hm.inP (show i < t.length by omega) (show l < t.length by omega)) (hm.inP (show j < t.length by omega) (show l < t.length by omega))
          have mq := mulP (inP_md (e2 s i l * e2 s j l)) pl
          simp only [e2] at mp mq
          refine ats_skip ?_
          (repeat refine ats_seq ?_); refine ats_block ?_
          (repeat refine ats_seq ?_); refine ats_pickP [0, 1, 2, 3, 4, 5, 6, 7, 8, 9, 10, 11, 12, 13, 14, 15, 16, 17, 18, 19, 20, 21, 22, 23, 24, 25, 26, 27] (fix0 hcx) mixed (by kernel_rfl) fun K hK => ?_; simp only [pickL, pickO, List.map_cons, List.map_nil, List.getElem?_toArray, List.getElem?_cons_zero, List.getElem?_cons_succ, Option.getD_some]; simp only [go_sem, seval]
          simp only [gl]
          try simp (disch := omega) only [tmP, tdP]
          (repeat refine And.intro (by (first | omega | (rw [hlv]; omega) | (rw [hl]; omega))) ?_)
          refine hK _ ?_; clear hK K
          (repeat refine ats_seq ?_); refine ats_go (fix0 hcx) fun K hK => ?_; simp only [go_sem, seval]; (repeat refine And.intro (by first | omega | (intro hq; first | omega | (simp at hq <;> omega) | (simp_all <;> omega))) ?_); refine hK _ ?_; clear hK K
          refine ⟨l + 1, by omega, by omega, .inr ⟨[4], by simp only [killL, List.map_cons, List.map_nil, killA, killAs, qOf, rmT, killH, killT, List.filter_cons, List.filter_nil, List.contains_cons, List.contains_nil, SlotsLe, St.get, slotGet, Nat.reduceEqDiff, Nat.reduceBEq, Bool.or_false, Bool.or_true, Bool.false_and, Bool.not_true, Bool.not_false, Bool.false_eq_true, ↓reduceIte, if_true, if_false, AV.int.injEq, AV.bool.injEq, AV.l1.injEq, AV.l2.injEq, AV.l3.injEq, true_and, and_true]; omega, by simp only [killL, List.map_cons, List.map_nil, killA, killAs, qOf, rmT, killH, killT, List.filter_cons, List.filter_nil, List.contains_cons, List.contains_nil, SlotsLe, St.get, slotGet, Nat.reduceEqDiff, Nat.reduceBEq, Bool.or_false, Bool.or_true, Bool.false_and, Bool.not_true, Bool.not_false, Bool.false_eq_true, ↓reduceIte, if_true, if_false, AV.int.injEq, AV.bool.injEq, AV.l1.injEq, AV.l2.injEq, AV.l3.injEq, true_and, and_true]; simp only [List.range_succ (n := l), List.map_append, List.map_cons, List.map_nil]; rfl⟩⟩
        · obtain rfl : l = t.length := by omega
          have hlb : ((List.range t.length).map (boF s t.length i j)).length = t.length := by simp
          refine ats_exit (lq_x ?_)
          (repeat refine ats_seq ?_); refine ats_go (fix0 hcx) fun K hK => ?_; simp only [go_sem, seval]; refine hK _ ?_; clear hK K
          (repeat refine ats_seq ?_); refine ats_loop (fun k : Nat => ⟨[(1, .l1 c), (2, .bptr 0 0), (5, .int t.length), (7, .ref 1 []), (8, .ref 2 []), (10, .int i), (11, .int j), (12, .ref 3 []), (14, .int k)], [(1, .t3 (cubL t.length (numV s t.length c) i j k)), (0, .bx [.l2 s, .l1 t]), (2, .t1 ((List.range t.length).map (ivL s t.length))), (3, .t1 ((List.range t.length).map (boF s t.length i j)))]⟩) (fun k => k ≤ t.length) (fun k => t.length - k) 0 (Nat.zero_le _) (by refine And.intro ?_ rfl; simp only [SlotsLe, St.get, slotGet, Nat.reduceEqDiff, ↓reduceIte, true_and, and_true, AV.int.injEq, AV.bool.injEq, AV.l1.injEq, AV.l2.injEq, AV.l3.injEq]; repeat' (first | rfl | omega | refine And.intro ?_ ?_)) (fun k hk => ?_)
          have hcl : (cubL t.length (numV s t.length c) i j k).length = t.length := cubL_length
          (repeat refine ats_seq ?_); refine ats_go (fix0 hcx) fun K hK => ?_; simp only [go_sem, seval]; refine hK _ ?_; clear hK K
          (repeat refine ats_seq ?_); first | refine ats_ifn (p := _) rfl trivial (fun hlk => ?_) (fun hlk => ?_) | refine ats_ifp (p := _) rfl trivial (fun hlk => ?_) (fun hlk => ?_) | refine ats_cond rfl trivial (fun hlk => ?_) (fun hlk => ?_)
          · have hck := hC k (by omega)
            have rk := hm.row (show (c.getD k 0).toNat < t.length by omega)
            have hd : PureCall Tryz.prog 60 [.l1 ((List.range t.length).map (boF s t.length i j)), .l1 (s.getD (c.getD k 0).toNat [])] (.int (numV s t.length c i j k)) := by
              rw [← spNum]
              exact l01Dot_ok _ _ t.length (by omega) hlb rk (fun l hl => by rw [map_get hl]; exact inP_md _) (fun l hl => hm.inP (by omega) hl)
            have c1 : ((cubL t.length (numV s t.length c) i j k).getD i []).length = t.length := cubF_mat (by omega)
            have c2 : (((cubL t.length (numV s t.length c) i j k).getD i []).getD j []).length = t.length := cubF_row (by omega) (by omega)
            refine ats_skip ?_
            (repeat refine ats_seq ?_); refine ats_block ?_
            (repeat refine ats_seq ?_); refine ats_pick (fix0 hcx) mixed (by kernel_rfl) fun K hK => ?_; simp only [go_sem, seval]
            simp only [hcl, c1, c2]
            (repeat refine And.intro (by first | omega | (intro hq; first | omega | (simp at hq <;> omega) | (simp_all <;> omega))) ?_)
            first | refine fcall_free rfl rfl (hd) ?_ | refine YR_intro (acall_free rfl rfl (hd)) ?_
            simp only [go_sem, seval]
            (repeat refine And.intro (by first | omega | (intro hq; first | omega | (simp at hq <;> omega) | (simp_all <;> omega))) ?_)
            refine hK _ ?_; clear hK K
            (repeat refine ats_seq ?_); refine ats_go (fix0 hcx) fun K hK => ?_; simp only [go_sem, seval]; (repeat refine And.intro (by first | omega | (intro hq; first | omega | (simp at hq <;> omega) | (simp_all <;> omega))) ?_); refine hK _ ?_; clear hK K
            refine ⟨k + 1,  by omega, by omega, .inl ⟨by simp only [SlotsLe, St.get, slotGet, Nat.reduceEqDiff, ↓reduceIte, AV.int.injEq, AV.bool.injEq, AV.l1.injEq, AV.l2.injEq, AV.l3.injEq, true_and, and_true]; omega,  by rw [← cubL_set (show i < t.length by omega) (show j < t.length by omega)]⟩⟩
          · obtain rfl : k = t.length := by omega
            refine ats_exit (lq_x (ats_nil (bq_n ?_)))
            (repeat refine ats_seq ?_); refine ats_go (fix0 hcx) fun K hK => ?_; simp only [go_sem, seval]; (repeat refine And.intro (by first | omega | (intro hq; first | omega | (simp at hq <;> omega) | (simp_all <;> omega))) ?_); refine hK _ ?_; clear hK K
            refine ⟨j + 1, by omega, by omega, .inr ⟨[3], by simp only [killL, List.map_cons, List.map_nil, killA, killAs, qOf, rmT, killH, killT, List.filter_cons, List.filter_nil, List.contains_cons, List.contains_nil, SlotsLe, St.get, slotGet, Nat.reduceEqDiff, Nat.reduceBEq, Bool.or_false, Bool.or_true, Bool.false_and, Bool.not_true, Bool.not_false, Bool.false_eq_true, ↓reduceIte, if_true, if_false, AV.int.injEq, AV.bool.injEq, AV.l1.injEq, AV.l2.injEq, AV.l3.injEq, true_and, and_true]; omega, by simp only [killL, List.map_cons, List.map_nil, killA, killAs, qOf, rmT, killH, killT, List.filter_cons, List.filter_nil, List.contains_cons, List.contains_nil, SlotsLe, St.get, slotGet, Nat.reduceEqDiff, Nat.reduceBEq, Bool.or_false, Bool.or_true, Bool.false_and, Bool.not_true, Bool.not_false, Bool.false_eq_true, ↓reduceIte, if_true, if_false, AV.int.injEq, AV.bool.injEq, AV.l1.injEq, AV.l2.injEq, AV.l3.injEq, true_and, and_true]; rw [cubL_row]⟩⟩
      · obtain rfl : j = t.length := by omega
        refine ats_exit (lq_x (ats_nil (bq_n ?_)))
        (repeat refine ats_seq ?_); refine ats_go (fix0 hcx) fun K hK => ?_; simp only [go_sem, seval]; (repeat refine And.intro (by first | omega | (intro hq; first | omega | (simp at hq <;> omega) | (simp_all <;> omega))) ?_); refine hK _ ?_; clear hK K
        refine ⟨i + 1,  by omega, by omega, .inl ⟨by simp only [SlotsLe, St.get, slotGet, Nat.reduceEqDiff, ↓reduceIte, AV.int.injEq, AV.bool.injEq, AV.l1.injEq, AV.l2.injEq, AV.l3.injEq, true_and, and_true]; omega,  by rw [cubL_mat]⟩⟩
    · obtain rfl : i = t.length := by omega
      refine ats_exit (lq_x ?_)
      rw [cubL_all]
      (repeat refine ats_seq ?_); refine ats_go (fix0 hcx) fun K hK => ?_; simp only [go_sem, seval]; refine hK _ ?_; clear hK K
      exact ats_ret (finV rfl ⟨rfl, trivial⟩ rfl)
end Go.Proofs.YtakhnoenhmpfpaaGreat
