import Derived.Test.YtakhnoenhmpfpaaGreatGg
import Derived.Test.YtakhnoenhmpfpaaGreatDj
set_option linter.unusedSimpArgs false
set_option linter.unusedVariables false
namespace Go.Proofs.YtakhnoenhmpfpaaGreat
open Go Go.Aw Go.Pl
attribute [local go_sem] pl_fin pl_stop pl_one pl_alt PK_ap pickO List.getElem?_toArray List.getElem?_cons_zero List.getElem?_cons_succ
def rfA (r : Option (List Int × List Int)) : AV := match r with
  | none => .tup [.nil, .nil, .bool false]
  | some (a, b) => .tup [.l1 a, .l1 b, .bool true]
set_option maxHeartbeats 16000000 in
theorem l12Refine_ok (n : Nat) (s : List (List Int)) (t : List Int) (s' : List (List Int)) (t' : List Int) (f0 g0 : List Int) (hs : Shape s t) (hs' : Shape s' t') (hn : t.length = n) (hn' : t'.length = n) (hf0 : ColOk n f0) (hg0 : ColOk n g0) :
    PureCall Tryz.prog 26 [.agg [.l2 s, .l1 t], .agg [.l2 s', .l1 t'], .l1 f0, .l1 g0] (rfA (refF n s t s' t' (2 * n + 2) 0 f0 g0)) := by
  have h16 : n ≤ 16 := by rw [← hn]; exact hs.2.1
  obtain ⟨R, hR⟩ : ∃ R, refF n s t s' t' (2 * n + 2) 0 f0 g0 = R := ⟨_, rfl⟩
  rw [hR]
  refine PureCall.intro (n := 109) (rs := [.tmp 8, .tmp 9, .tmp 10]) Tryz.call26 Tryz.func26 rfl rfl rfl (by simp only [List.length_cons, List.length_nil]; omega) (fun cx hcx => ats_of ?_); simp only [argSlots, Nat.zero_add, Nat.reduceAdd]
  (repeat refine ats_seq ?_); refine ats_go (fix0 hcx) fun K hK => ?_; simp only [go_sem, seval]; (repeat refine And.intro (by first | omega | (intro hq; first | omega | (simp at hq <;> omega) | (simp_all <;> omega))) ?_); refine hK _ ?_; clear hK K
  (repeat refine ats_seq ?_); refine ats_go (fix0 hcx) fun K hK => ?_; simp only [go_sem, seval]
  simp only [hn]
  (repeat refine And.intro (by first | omega | (intro hq; first | omega | (simp at hq <;> omega) | (simp_all <;> omega))) ?_)
  refine hK _ ?_; clear hK K
  (repeat refine ats_seq ?_); refine ats_go (fix0 hcx) fun K hK => ?_; simp only [go_sem, seval]; (repeat refine And.intro (by first | omega | (intro hq; first | omega | (simp at hq <;> omega) | (simp_all <;> omega))) ?_); refine hK _ ?_; clear hK K
  (repeat refine ats_seq ?_); refine ats_loop (fun p : Nat × List Int × List Int => ⟨[(2, .l1 p.2.1), (3, .l1 p.2.2), (4, .bptr 0 0), (5, .bptr 1 0), (11, .int n), (12, .int p.1)], [(0, .bx [.l2 s, .l1 t]), (1, .bx [.l2 s', .l1 t'])]⟩) (fun p => p.1 ≤ 2 * n ∧ ColOk n p.2.1 ∧ ColOk n p.2.2 ∧ UsedP n p.2.1 p.2.2 p.1 ∧ ∃ fu, 2 * n + 2 - p.1 ≤ fu ∧ refF n s t s' t' fu p.1 p.2.1 p.2.2 = R) (fun p => 2 * n + 1 - p.1) (0, f0, g0) ⟨Nat.zero_le _, hf0, hg0, fun c hc => absurd hc (Nat.not_lt_zero c), 2 * n + 2, Nat.le_refl _, hR⟩ (by
    refine And.intro ?_ rfl; simp only [SlotsLe, St.get, slotGet, Nat.reduceEqDiff, ↓reduceIte, AV.int.injEq, AV.bool.injEq, AV.l1.injEq, AV.l2.injEq, AV.l3.injEq, true_and, and_true]
    try rfl) (fun p hp => ?_)
  obtain ⟨number, f, g⟩ := p
  simp only at hp ⊢
  obtain ⟨hnum, hf, hg, hu, fu, hfu, hr⟩ := hp
  have lf := hf.1
  have lg := hg.1
  (repeat refine ats_seq ?_); refine ats_block ?_
  (repeat refine ats_seq ?_); refine ats_go (fix0 hcx) fun K hK => ?_; simp only [go_sem, seval]; (repeat refine And.intro (by first | omega | (intro hq; first | omega | (simp at hq <;> omega) | (simp_all <;> omega))) ?_); refine hK _ ?_; clear hK K
  (repeat refine ats_seq ?_); refine ats_go (fix0 hcx) fun K hK => ?_; simp only [go_sem, seval]; (repeat refine And.intro (by first | omega | (intro hq; first | omega | (simp at hq <;> omega) | (simp_all <;> omega))) ?_); refine hK _ ?_; clear hK K
  (repeat refine ats_seq ?_); refine ats_loop (fun i : Nat => ⟨[(2, .l1 f), (3, .l1 g), (4, .bptr 0 0), (5, .bptr 1 0), (11, .int n), (12, .int number), (13, .ref 2 []), (14, .int i)], [(0, .bx [.l2 s, .l1 t]), (1, .bx [.l2 s', .l1 t']), (2, .t2 (msF n s t s' t' f g i))]⟩) (fun i => i ≤ 2 * n) (fun i => 2 * n - i) 0 (Nat.zero_le _) (by
    refine And.intro ?_ rfl; simp only [SlotsLe, St.get, slotGet, Nat.reduceEqDiff, ↓reduceIte, AV.int.injEq, AV.bool.injEq, AV.l1.injEq, AV.l2.injEq, AV.l3.injEq, true_and, and_true]
    try rfl) (fun i hi => ?_)
  have lm := msF_len (n := n) (s := s) (t := t) (s' := s') (t' := t') (f := f) (g := g) (i := i)
  (repeat refine ats_seq ?_); refine ats_go (fix0 hcx) fun K hK => ?_; simp only [go_sem, seval]; (repeat refine And.intro (by first | omega | (intro hq; first | omega | (simp at hq <;> omega) | (simp_all <;> omega))) ?_); refine hK _ ?_; clear hK K
  (repeat refine ats_seq ?_); first | refine ats_ifn (p := _) rfl trivial (fun h1 => ?_) (fun h1 => ?_) | refine ats_ifp (p := _) rfl trivial (fun h1 => ?_) (fun h1 => ?_) | refine ats_cond rfl trivial (fun h1 => ?_) (fun h1 => ?_)
  · obtain ⟨x, S, T, F, hx, hS, hT, hF, hmk, hcase⟩ : ∃ (x : Nat) (S : List (List Int)) (T F : List Int), x < n ∧ Shape S T ∧ T.length = n ∧ ColOk n F ∧ (if i < n then mkF n s t f i else mkF n s' t' g (i - n)) = mkF n S T F x ∧ ((i < n ∧ x = i ∧ S = s ∧ T = t ∧ F = f) ∨ (n ≤ i ∧ x = i - n ∧ S = s' ∧ T = t' ∧ F = g)) := by
      by_cases c : i < n
      · exact ⟨i, s, t, f, c, hs, hn, hf, if_pos c, .inl ⟨c, rfl, rfl, rfl, rfl⟩⟩
      · exact ⟨i - n, s', t', g, by omega, hs', hn', hg, if_neg c, .inr ⟨by omega, rfl, rfl, rfl, rfl⟩⟩
    refine ats_skip ?_
    (repeat refine ats_seq ?_); refine ats_block ?_
    (repeat refine ats_seq ?_)
    refine ats_plan [] (.one 0 (.one 1 (.alt 2 (.alt 3 (.one 4 (.alt 5 (.one 6 .fin) .stop)) .stop) (.alt 3 (.one 4 (.alt 2 (.alt 5 (.one 6 .fin) .stop) (.alt 5 (.one 2 (.one 6 .fin)) .stop))) .stop)))) ⟨[(2, .l1 f), (3, .l1 g), (4, .bptr 0 0), (5, .bptr 1 0), (11, .int n), (12, .int number), (13, .ref 2 []), (14, .int i), (15, .int i), (16, .bptr 3 0), (17, .l1 f)], [(0, .bx [.l2 s, .l1 t]), (1, .bx [.l2 s', .l1 t']), (2, .t2 (msF n s t s' t' f g i)), (3, .bx [.l2 s, .l1 t])]⟩ (fix0 hcx) mixed (by kernel_rfl) (fun K hK => ?_) ?_
    · simp only [go_sem, seval, Option.getD_some, and_true, true_and, and_self, List.contains_cons, List.contains_nil, Bool.or_false, Bool.or_true]
      repeat' (first | exact hK _ (by refine And.intro ?_ rfl; simp only [SlotsLe, St.get, slotGet, Nat.reduceEqDiff, ↓reduceIte, AV.int.injEq, AV.bool.injEq, AV.l1.injEq, AV.l2.injEq, AV.l3.injEq, true_and, and_true])  | omega | refine And.intro ?_ ?_)
    (repeat refine ats_seq ?_); refine ats_go (fix0 hcx) fun K hK => ?_; simp only [go_sem, seval]; (repeat refine And.intro (by first | omega | (intro hq; first | omega | (simp at hq <;> omega) | (simp_all <;> omega))) ?_); refine hK _ ?_; clear hK K
    refine ats_upto ⟨[(2, .l1 f), (3, .l1 g), (4, .bptr 0 0), (5, .bptr 1 0), (11, .int n), (12, .int number), (13, .ref 2 []), (14, .int i), (15, .int x), (16, .bptr 3 0), (17, .l1 F)], [(0, .bx [.l2 s, .l1 t]), (1, .bx [.l2 s', .l1 t']), (2, .t2 (msF n s t s' t' f g i)), (3, .bx [.l2 S, .l1 T])]⟩ ?_ ?_
    · (repeat refine ats_seq ?_); first | refine ats_ifn (p := _) rfl trivial (fun h2 => ?_) (fun h2 => ?_) | refine ats_ifp (p := _) rfl trivial (fun h2 => ?_) (fun h2 => ?_) | refine ats_cond rfl trivial (fun h2 => ?_) (fun h2 => ?_)
      · obtain ⟨c, rfl, rfl, rfl, rfl⟩ : n ≤ i ∧ x = i - n ∧ S = s' ∧ T = t' ∧ F = g := by
          rcases hcase with h | h
          · omega
          · exact h
        rw [show ((i - n : Nat) : Int) = (i : Int) - n by omega]
        (repeat refine ats_seq ?_); refine ats_go (fix0 hcx) fun K hK => ?_; simp only [go_sem, seval]; (repeat refine And.intro (by first | omega | (intro hq; first | omega | (simp at hq <;> omega) | (simp_all <;> omega))) ?_); refine hK _ ?_; clear hK K
        (repeat refine ats_seq ?_); refine ats_go (fix0 hcx) fun K hK => ?_; simp only [go_sem, seval]; (repeat refine And.intro (by first | omega | (intro hq; first | omega | (simp at hq <;> omega) | (simp_all <;> omega))) ?_); refine hK _ ?_; clear hK K
        (repeat refine ats_seq ?_); refine ats_go (fix0 hcx) fun K hK => ?_; simp only [go_sem, seval]; (repeat refine And.intro (by first | omega | (intro hq; first | omega | (simp at hq <;> omega) | (simp_all <;> omega))) ?_); refine hK _ ?_; clear hK K
        refine ats_nil ?_; refine Or.inl ⟨rfl, ghost_trans (ghost_drop []) (ghost_can [] (by simp only [killL, killA, killAs, qOf, rmT, killH, killT, List.filter_cons, List.filter_nil, List.contains_cons, List.contains_nil, Bool.or_false, Bool.or_true, Bool.false_and, Bool.not_true, Bool.not_false, Bool.false_eq_true, if_true, if_false, rnLs, rnL, rn, rns, sw, SlotsLe, St.get, slotGet, List.map_cons, List.map_nil, seval, AV.int.injEq, AV.bool.injEq, AV.l1.injEq, AV.l2.injEq, AV.l3.injEq, true_and, and_true]) (by simp only [killL, killA, killAs, qOf, rmT, killH, killT, List.filter_cons, List.filter_nil, List.contains_cons, List.contains_nil, Bool.or_false, Bool.or_true, Bool.false_and, Bool.not_true, Bool.not_false, Bool.false_eq_true, if_true, if_false, sortH, insH, rnHs, rnH, rnT, rn, rns, sw, List.map_cons, List.map_nil, seval]))⟩
      · obtain ⟨c, rfl, rfl, rfl, rfl⟩ : i < n ∧ x = i ∧ S = s ∧ T = t ∧ F = f := by
          rcases hcase with h | h
          · exact h
          · omega
        refine ats_skip ?_
        refine ats_nil ?_; refine Or.inl ⟨rfl, ghost_trans (ghost_drop []) (ghost_can [] (by simp only [killL, killA, killAs, qOf, rmT, killH, killT, List.filter_cons, List.filter_nil, List.contains_cons, List.contains_nil, Bool.or_false, Bool.or_true, Bool.false_and, Bool.not_true, Bool.not_false, Bool.false_eq_true, if_true, if_false, rnLs, rnL, rn, rns, sw, SlotsLe, St.get, slotGet, List.map_cons, List.map_nil, seval, AV.int.injEq, AV.bool.injEq, AV.l1.injEq, AV.l2.injEq, AV.l3.injEq, true_and, and_true]) (by simp only [killL, killA, killAs, qOf, rmT, killH, killT, List.filter_cons, List.filter_nil, List.contains_cons, List.contains_nil, Bool.or_false, Bool.or_true, Bool.false_and, Bool.not_true, Bool.not_false, Bool.false_eq_true, if_true, if_false, sortH, insH, rnHs, rnH, rnT, rn, rns, sw, List.map_cons, List.map_nil, seval]))⟩
    clear hcase
    have hM := hS.2.2.1
    rw [hT] at hM
    have lS := hM.1
    have lrow := hM.row hx
    have lF := hF.1
    have hTx := hS.2.2.2 x (by omega)
    (repeat refine ats_seq ?_); refine ats_go (fix0 hcx) fun K hK => ?_; simp only [go_sem, seval]; (repeat refine And.intro (by first | omega | (intro hq; first | omega | (simp at hq <;> omega) | (simp_all <;> omega))) ?_); refine hK _ ?_; clear hK K
    (repeat refine ats_seq ?_); refine ats_go (fix0 hcx) fun K hK => ?_; simp only [go_sem, seval]; (repeat refine And.intro (by first | omega | (intro hq; first | omega | (simp at hq <;> omega) | (simp_all <;> omega))) ?_); refine hK _ ?_; clear hK K
    (repeat refine ats_seq ?_); refine ats_loop (fun y : Nat => ⟨[(2, .l1 f), (3, .l1 g), (4, .bptr 0 0), (5, .bptr 1 0), (11, .int n), (12, .int number), (13, .ref 2 []), (14, .int i), (15, .int x), (16, .bptr 3 0), (17, .l1 F), (18, .ref 4 []), (19, .int y)], [(0, .bx [.l2 s, .l1 t]), (1, .bx [.l2 s', .l1 t']), (2, .t2 (msF n s t s' t' f g i)), (3, .bx [.l2 S, .l1 T]), (4, .t1 (rowF y (fun y => e2 S x y * 64 + F.getD y 0)))]⟩) (fun y => y ≤ n) (fun y => n - y) 0 (Nat.zero_le _) (by
      refine And.intro ?_ rfl; simp only [SlotsLe, St.get, slotGet, Nat.reduceEqDiff, ↓reduceIte, AV.int.injEq, AV.bool.injEq, AV.l1.injEq, AV.l2.injEq, AV.l3.injEq, true_and, and_true]
      try rfl) (fun y hy => ?_)
    have lr : (rowF y (fun y => e2 S x y * 64 + F.getD y 0)).length = y := rowF_length ..
    (repeat refine ats_seq ?_); refine ats_go (fix0 hcx) fun K hK => ?_; simp only [go_sem, seval]; (repeat refine And.intro (by first | omega | (intro hq; first | omega | (simp at hq <;> omega) | (simp_all <;> omega))) ?_); refine hK _ ?_; clear hK K
    (repeat refine ats_seq ?_); first | refine ats_ifn (p := _) rfl trivial (fun h2 => ?_) (fun h2 => ?_) | refine ats_ifp (p := _) rfl trivial (fun h2 => ?_) (fun h2 => ?_) | refine ats_cond rfl trivial (fun h2 => ?_) (fun h2 => ?_)
    · have hin := hM.inP hx (show y < n by omega)
      have hFy := hF.2 y (by omega)
      unfold InP e2 at hin
      refine ats_skip ?_
      (repeat refine ats_seq ?_); refine ats_block ?_
      (repeat refine ats_seq ?_)
      refine ats_plan [] (.one 0 (.one 1 (.one 2 (.one 3 (.one 4 (.one 5 (.one 6 (.one 7 (.one 8 (.one 9 (.one 10 (.one 11 (.one 12 (.one 13 (.one 14 (.alt 15 (.alt 16 (.one 17 .fin) .stop) .stop)))))))))))))))) ⟨[(2, .l1 f), (3, .l1 g), (4, .bptr 0 0), (5, .bptr 1 0), (11, .int n), (12, .int number), (13, .ref 2 []), (14, .int i), (15, .int x), (16, .bptr 3 0), (17, .l1 F), (18, .ref 4 []), (19, .int y)], [(0, .bx [.l2 s, .l1 t]), (1, .bx [.l2 s', .l1 t']), (2, .t2 (msF n s t s' t' f g i)), (3, .bx [.l2 S, .l1 T]), (4, .t1 (rowF y (fun y => e2 S x y * 64 + F.getD y 0) ++ [(S.getD x []).getD y 0 * 64 + F.getD y 0])), (5, .t1 [(S.getD x []).getD y 0 * 64 + F.getD y 0])]⟩ (fix0 hcx) mixed (by kernel_rfl) (fun K hK => ?_) ?_
      · simp only [go_sem, seval, Option.getD_some, and_true, true_and, and_self, List.contains_cons, List.contains_nil, Bool.or_false, Bool.or_true]
        repeat' (first | exact hK _ (by refine And.intro ?_ rfl; simp only [SlotsLe, St.get, slotGet, Nat.reduceEqDiff, ↓reduceIte, AV.int.injEq, AV.bool.injEq, AV.l1.injEq, AV.l2.injEq, AV.l3.injEq, true_and, and_true])  | omega | refine And.intro ?_ ?_)
      (repeat refine ats_seq ?_); refine ats_go (fix0 hcx) fun K hK => ?_; simp only [go_sem, seval]; (repeat refine And.intro (by first | omega | (intro hq; first | omega | (simp at hq <;> omega) | (simp_all <;> omega))) ?_); refine hK _ ?_; clear hK K
      refine ⟨y + 1, by omega, by omega, .inr ⟨[5], by simp only [killL, List.map_cons, List.map_nil, killA, killAs, qOf, rmT, killH, killT, List.filter_cons, List.filter_nil, List.contains_cons, List.contains_nil, SlotsLe, St.get, slotGet, Nat.reduceEqDiff, Nat.reduceBEq, Bool.or_false, Bool.or_true, Bool.false_and, Bool.not_true, Bool.not_false, Bool.false_eq_true, ↓reduceIte, if_true, if_false, AV.int.injEq, AV.bool.injEq, AV.l1.injEq, AV.l2.injEq, AV.l3.injEq, true_and, and_true]; (try omega), by simp only [killL, List.map_cons, List.map_nil, killA, killAs, qOf, rmT, killH, killT, List.filter_cons, List.filter_nil, List.contains_cons, List.contains_nil, SlotsLe, St.get, slotGet, Nat.reduceEqDiff, Nat.reduceBEq, Bool.or_false, Bool.or_true, Bool.false_and, Bool.not_true, Bool.not_false, Bool.false_eq_true, ↓reduceIte, if_true, if_false, AV.int.injEq, AV.bool.injEq, AV.l1.injEq, AV.l2.injEq, AV.l3.injEq, true_and, and_true]; rw [rowF_succ]⟩⟩
    · obtain rfl : y = n := by omega
      have hso := l03Sorted_ok y (rowF y (fun y => e2 S x y * 64 + F.getD y 0)) (by omega) (by omega)
      have lso : (srt (rowF y (fun y => e2 S x y * 64 + F.getD y 0))).length = y := by rw [srt_length, lr]
      refine ats_exit (lq_x ?_)
      (repeat refine ats_seq ?_); refine AT.ghost (ghost_frz [4]) ?_; simp only [frzV, find, killA, killAs, qOf, rmT, killH, killT, List.map_cons, List.map_nil, List.filter_cons, List.filter_nil, List.contains_cons, List.contains_nil, Bool.or_false, Bool.or_true, Bool.false_and, Bool.not_true, Bool.not_false, Bool.false_eq_true, if_true, if_false, seval]
      (repeat refine ats_seq ?_)
      refine ats_plan [] (.one 1 (.one 2 (.one 3 (.one 4 (.one 5 (.one 6 (.one 7 (.one 8 (.one 9 (.one 10 (.one 11 (.one 12 (.one 13 (.one 14 (.one 15 (.one 16 (.one 17 (.one 19 (.one 20 (.alt 0 (.alt 18 (.alt 21 (.alt 22 (.alt 23 (.one 24 .fin) .stop) .stop) .stop) .stop) (.alt 18 (.alt 0 (.alt 21 (.alt 22 (.alt 23 (.one 24 .fin) .stop) .stop) .stop) (.alt 21 (.alt 0 (.alt 22 (.alt 23 (.one 24 .fin) .stop) .stop) (.alt 22 (.one 0 (.alt 23 (.one 24 .fin) .stop)) .stop)) .stop)) .stop))))))))))))))))))))) ⟨[(2, .l1 f), (3, .l1 g), (4, .bptr 0 0), (5, .bptr 1 0), (11, .int y), (12, .int number), (13, .ref 2 []), (14, .int i)], [(0, .bx [.l2 s, .l1 t]), (1, .bx [.l2 s', .l1 t']), (2, .t2 (msF y s t s' t' f g i ++ [[F.getD x 0, T.getD x 0, (S.getD x []).getD x 0] ++ srt (rowF y (fun y => e2 S x y * 64 + F.getD y 0))])), (3, .bx [.l2 S, .l1 T])]⟩ (fix0 hcx) mixed (by kernel_rfl) (fun K hK => ?_) ?_
      · simp only [go_sem, seval, Option.getD_some, and_true, true_and, and_self, List.contains_cons, List.contains_nil, Bool.or_false, Bool.or_true]
        repeat' (first | exact hK _ (by refine And.intro ?_ rfl; simp only [SlotsLe, St.get, slotGet, Nat.reduceEqDiff, ↓reduceIte, AV.int.injEq, AV.bool.injEq, AV.l1.injEq, AV.l2.injEq, AV.l3.injEq, true_and, and_true])  | omega | refine And.intro ?_ ?_ | ((first | refine fcall_data (hso) rfl ?_ | refine YR_intro (acall_data (hso) rfl) ?_); simp only [go_sem, seval, Option.getD_some, and_true, true_and, and_self, List.contains_cons, List.contains_nil, Bool.or_false, Bool.or_true]))
      (repeat refine ats_seq ?_); refine ats_go (fix0 hcx) fun K hK => ?_; simp only [go_sem, seval]; (repeat refine And.intro (by first | omega | (intro hq; first | omega | (simp at hq <;> omega) | (simp_all <;> omega))) ?_); refine hK _ ?_; clear hK K
      have hms : msF y s t s' t' f g i ++ [F.getD x 0 :: T.getD x 0 :: (S.getD x []).getD x 0 :: srt (rowF y (fun y => e2 S x y * 64 + F.getD y 0))] = msF y s t s' t' f g (i + 1) := by
        rw [msF_succ, hmk]
        rfl
      refine ⟨i + 1, by omega, by omega, .inr ⟨[3], by simp only [killL, List.map_cons, List.map_nil, killA, killAs, qOf, rmT, killH, killT, List.filter_cons, List.filter_nil, List.contains_cons, List.contains_nil, SlotsLe, St.get, slotGet, Nat.reduceEqDiff, Nat.reduceBEq, Bool.or_false, Bool.or_true, Bool.false_and, Bool.not_true, Bool.not_false, Bool.false_eq_true, ↓reduceIte, if_true, if_false, AV.int.injEq, AV.bool.injEq, AV.l1.injEq, AV.l2.injEq, AV.l3.injEq, true_and, and_true]; (try omega), by simp only [killL, List.map_cons, List.map_nil, killA, killAs, qOf, rmT, killH, killT, List.filter_cons, List.filter_nil, List.contains_cons, List.contains_nil, SlotsLe, St.get, slotGet, Nat.reduceEqDiff, Nat.reduceBEq, Bool.or_false, Bool.or_true, Bool.false_and, Bool.not_true, Bool.not_false, Bool.false_eq_true, ↓reduceIte, if_true, if_false, AV.int.injEq, AV.bool.injEq, AV.l1.injEq, AV.l2.injEq, AV.l3.injEq, true_and, and_true]; rw [hms]⟩⟩
  · obtain rfl : i = 2 * n := by omega
    have hkd := l03Kinds_ok (n + 3) n (msF n s t s' t' f g (2 * n)) msF_SL lm h16
    unfold kdA at hkd
    obtain ⟨fu, rfl⟩ : ∃ k, fu = k + 1 := ⟨fu - 1, by omega⟩
    rw [refF] at hr
    refine ats_exit (lq_x ?_)
    (repeat refine ats_seq ?_); refine AT.ghost (ghost_frz [2]) ?_; simp only [frzV, find, killA, killAs, qOf, rmT, killH, killT, List.map_cons, List.map_nil, List.filter_cons, List.filter_nil, List.contains_cons, List.contains_nil, Bool.or_false, Bool.or_true, Bool.false_and, Bool.not_true, Bool.not_false, Bool.false_eq_true, if_true, if_false, seval]
    by_cases hb : balB n (msF n s t s' t' f g (2 * n)) = true
    · rw [if_pos hb] at hkd
      have e : stepF n s t s' t' f g = some ((colsF (msF n s t s' t' f g (2 * n)) (2 * n)).take n, (colsF (msF n s t s' t' f g (2 * n)) (2 * n)).drop n, (kindsF (msF n s t s' t' f g (2 * n))).length) := by
        unfold stepF
        rw [if_pos hb]
      obtain ⟨f', ef⟩ : ∃ f', (colsF (msF n s t s' t' f g (2 * n)) (2 * n)).take n = f' := ⟨_, rfl⟩
      obtain ⟨g', eg⟩ : ∃ g', (colsF (msF n s t s' t' f g (2 * n)) (2 * n)).drop n = g' := ⟨_, rfl⟩
      obtain ⟨k, ek⟩ : ∃ k, (kindsF (msF n s t s' t' f g (2 * n))).length = k := ⟨_, rfl⟩
      rw [ef, eg, ek] at e hkd
      obtain ⟨hf', hg', hu', hk⟩ := step_some e h16
      have hgr := step_grow e hu
      rw [e] at hr
      simp only at hr
      (repeat refine ats_seq ?_); refine ats_go (fix0 hcx) fun K hK => ?_; simp only [go_sem, seval]
      first | refine fcall_data (hkd) rfl ?_ | refine YR_intro (acall_data (hkd) rfl) ?_
      simp only [go_sem, seval]
      (repeat refine And.intro (by first | omega | (intro hq; first | omega | (simp at hq <;> omega) | (simp_all <;> omega))) ?_)
      refine hK _ ?_; clear hK K
      (repeat refine ats_seq ?_); refine ats_go (fix0 hcx) fun K hK => ?_; simp only [go_sem, seval]; (repeat refine And.intro (by first | omega | (intro hq; first | omega | (simp at hq <;> omega) | (simp_all <;> omega))) ?_); refine hK _ ?_; clear hK K
      (repeat refine ats_seq ?_); refine ats_no rfl trivial ?_
      refine ats_skip ?_
      (repeat refine ats_seq ?_); refine ats_go (fix0 hcx) fun K hK => ?_; simp only [go_sem, seval]; (repeat refine And.intro (by first | omega | (intro hq; first | omega | (simp at hq <;> omega) | (simp_all <;> omega))) ?_); refine hK _ ?_; clear hK K
      (repeat refine ats_seq ?_); refine ats_go (fix0 hcx) fun K hK => ?_; simp only [go_sem, seval]; (repeat refine And.intro (by first | omega | (intro hq; first | omega | (simp at hq <;> omega) | (simp_all <;> omega))) ?_); refine hK _ ?_; clear hK K
      (repeat refine ats_seq ?_); refine ats_go (fix0 hcx) fun K hK => ?_; simp only [go_sem, seval]; (repeat refine And.intro (by first | omega | (intro hq; first | omega | (simp at hq <;> omega) | (simp_all <;> omega))) ?_); refine hK _ ?_; clear hK K
      (repeat refine ats_seq ?_); first | refine ats_ifn (p := _) rfl trivial (fun h2 => ?_) (fun h2 => ?_) | refine ats_ifp (p := _) rfl trivial (fun h2 => ?_) (fun h2 => ?_) | refine ats_cond rfl trivial (fun h2 => ?_) (fun h2 => ?_)
      · rw [if_pos (by omega)] at hr
        subst hr
        (repeat refine ats_seq ?_); refine ats_go (fix0 hcx) fun K hK => ?_; simp only [go_sem, seval]; (repeat refine And.intro (by first | omega | (intro hq; first | omega | (simp at hq <;> omega) | (simp_all <;> omega))) ?_); refine hK _ ?_; clear hK K
        exact ats_ret (fin3 trivial trivial trivial rfl)
      · rw [if_neg (by omega)] at hr
        refine ats_skip ?_
        (repeat refine ats_seq ?_); refine ats_go (fix0 hcx) fun K hK => ?_; simp only [go_sem, seval]; (repeat refine And.intro (by first | omega | (intro hq; first | omega | (simp at hq <;> omega) | (simp_all <;> omega))) ?_); refine hK _ ?_; clear hK K
        refine ⟨(k, f', g'), ⟨hk, hf', hg', hu', fu, by simp only; omega, hr⟩, (by simp only; omega), .inr ⟨[], by simp only [killL, List.map_cons, List.map_nil, killA, killAs, qOf, rmT, killH, killT, List.filter_cons, List.filter_nil, List.contains_cons, List.contains_nil, SlotsLe, St.get, slotGet, Nat.reduceEqDiff, Nat.reduceBEq, Bool.or_false, Bool.or_true, Bool.false_and, Bool.not_true, Bool.not_false, Bool.false_eq_true, ↓reduceIte, if_true, if_false, AV.int.injEq, AV.bool.injEq, AV.l1.injEq, AV.l2.injEq, AV.l3.injEq, true_and, and_true]; (try rfl), by simp only [killL, List.map_cons, List.map_nil, killA, killAs, qOf, rmT, killH, killT, List.filter_cons, List.filter_nil, List.contains_cons, List.contains_nil, SlotsLe, St.get, slotGet, Nat.reduceEqDiff, Nat.reduceBEq, Bool.or_false, Bool.or_true, Bool.false_and, Bool.not_true, Bool.not_false, Bool.false_eq_true, ↓reduceIte, if_true, if_false, AV.int.injEq, AV.bool.injEq, AV.l1.injEq, AV.l2.injEq, AV.l3.injEq, true_and, and_true]; (try rfl)⟩⟩
    · rw [if_neg hb] at hkd
      have e : stepF n s t s' t' f g = none := by
        unfold stepF
        rw [if_neg hb]
      rw [e] at hr
      simp only at hr
      subst hr
      (repeat refine ats_seq ?_); refine ats_go (fix0 hcx) fun K hK => ?_; simp only [go_sem, seval]
      first | refine fcall_data (hkd) rfl ?_ | refine YR_intro (acall_data (hkd) rfl) ?_
      simp only [go_sem, seval]
      (repeat refine And.intro (by first | omega | (intro hq; first | omega | (simp at hq <;> omega) | (simp_all <;> omega))) ?_)
      refine hK _ ?_; clear hK K
      (repeat refine ats_seq ?_); refine ats_go (fix0 hcx) fun K hK => ?_; simp only [go_sem, seval]; (repeat refine And.intro (by first | omega | (intro hq; first | omega | (simp at hq <;> omega) | (simp_all <;> omega))) ?_); refine hK _ ?_; clear hK K
      (repeat refine ats_seq ?_); refine ats_yes rfl trivial ?_
      (repeat refine ats_seq ?_); refine ats_go (fix0 hcx) fun K hK => ?_; simp only [go_sem, seval]; (repeat refine And.intro (by first | omega | (intro hq; first | omega | (simp at hq <;> omega) | (simp_all <;> omega))) ?_); refine hK _ ?_; clear hK K
      exact ats_ret (fin3 trivial trivial trivial rfl)
end Go.Proofs.YtakhnoenhmpfpaaGreat
