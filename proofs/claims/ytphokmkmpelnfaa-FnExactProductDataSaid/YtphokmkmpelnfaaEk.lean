import Derived.Test.YtphokmkmpelnfaaEj
set_option linter.unusedSimpArgs false
set_option linter.unusedVariables false
namespace Go.Proofs.Ytphokmkmpelnfaa
open Go Go.Aw Go.Pl

set_option maxHeartbeats 8000000 in
theorem l13Product_ok (s : List (List Int)) (t : List Int) (z : List (List Int)) (u : List Int) (h1 : Shape s t) (h2 : Shape z u) (h16 : t.length * u.length ≤ 16) : PureCall Try.prog 41 [.agg [.l2 s, .l1 t], .agg [.l2 z, .l1 u]] (.agg [.l2 (prS s z t.length u.length), .l1 (prT t u t.length u.length)]) := by
  have a1 := h1.1
  have b1 := h2.1
  have ha16 := h1.2.1
  have hb16 := h2.2.1
  have hm1 := h1.2.2.1
  have hm2 := h2.2.2.1
  have ls := hm1.1
  have lz := hm2.1
  have hp : 0 < t.length * u.length := Nat.mul_pos (by omega) (by omega)
  obtain ⟨N, eN⟩ : ∃ N, t.length * u.length = N := ⟨_, rfl⟩
  have hN' : (t.length : Int) * (u.length : Int) = (N : Int) := by rw [← eN]; exact (Int.natCast_mul _ _).symm
  rw [eN] at h16 hp
  have eS : prS s z t.length u.length = matF N N (pF s z u.length) := by rw [← eN]; rfl
  have eT : prT t u t.length u.length = rowF N (qF t u u.length) := by rw [← eN]; rfl
  rw [eS, eT]
  refine PureCall.intro (n := 90) (rs := [.cell 4 29]) Try.call41 Try.func41 rfl rfl rfl (by simp only [List.length_cons, List.length_nil]; omega) (fun cx hcx => ats_of ?_); simp only [argSlots, Nat.zero_add, Nat.reduceAdd]
  (repeat refine ats_seq ?_); refine ats_go (by first | exact fix0 hcx | exact fix1 hcx rfl) fun K hK => ?_; simp only [go_sem, seval]; refine hK _ ?_; clear hK K
  (repeat refine ats_seq ?_); refine ats_pick (fix0 hcx) mixed (by kernel_rfl) fun K hK => ?_; simp only [go_sem, seval]
  refine hK _ ?_; clear hK K
  (repeat refine ats_seq ?_); refine ats_go (by first | exact fix0 hcx | exact fix1 hcx rfl) fun K hK => ?_; simp only [go_sem, seval]; refine hK _ ?_; clear hK K
  (repeat refine ats_seq ?_); refine ats_go (by first | exact fix0 hcx | exact fix1 hcx rfl) fun K hK => ?_; simp only [go_sem, seval]; refine hK _ ?_; clear hK K
  (repeat refine ats_seq ?_)
  refine ats_loop (fun o : Option Nat => match o with
    | none => ⟨[(2, .bptr 0 0), (3, .bptr 1 0), (4, .bptr 2 0), (5, .int t.length), (6, .int u.length), (7, .bptr 3 0), (8, .int 0)], [(0, .bx [.l2 s, .l1 t]), (1, .bx [.l2 z, .l1 u]), (2, .bx [.nil, .nil]), (3, .bx [.nil, .nil])]⟩
    | some i => ⟨[(2, .bptr 0 0), (3, .bptr 1 0), (4, .bptr 2 0), (5, .int t.length), (6, .int u.length), (7, .bptr 3 0), (8, .int i)], [(0, .bx [.l2 s, .l1 t]), (1, .bx [.l2 z, .l1 u]), (2, .bx [.nil, .nil]), (3, .bx [.ref 6 [], .ref 8 []]), (6, .t2 (matF i N (pF s z u.length))), (8, .t1 (rowF i (qF t u u.length)))]⟩) (fun o => match o with
    | none => True
    | some i => 1 ≤ i ∧ i ≤ N) (fun o => match o with
    | none => N + 1
    | some i => N - i) none trivial ⟨by simp only [SlotsLe, St.get, slotGet, Nat.reduceEqDiff, ↓reduceIte, true_and, and_true], rfl⟩ (fun o ho => ?_)
  cases o with
  | none =>
    dsimp only at ho ⊢
    (repeat refine ats_seq ?_); refine ats_go (by first | exact fix0 hcx | exact fix1 hcx rfl) fun K hK => ?_; simp only [go_sem, seval]
    simp only [hN']
    (repeat refine And.intro (by first | omega | (intro hq; first | omega | (simp at hq <;> omega) | (simp_all <;> omega))) ?_)
    refine hK _ ?_; clear hK K
    (repeat refine ats_seq ?_); first | refine ats_ifn (p := _) rfl trivial (fun hc1 => ?_) (fun hc1 => ?_) | refine ats_ifp (p := _) rfl trivial (fun hc1 => ?_) (fun hc1 => ?_) | refine ats_cond rfl trivial (fun hc1 => ?_) (fun hc1 => ?_)
    · have hx1 : 0 < t.length := by omega
      have hx2 : 0 < u.length := by omega
      have mt := mulP (h1.2.2.2 0 hx1) (h2.2.2.2 0 hx2)
      have rs1 := hm1.row hx1
      have rz1 := hm2.row hx2
      have et : qF t u u.length 0 = t.getD 0 0 * u.getD 0 0 % 55441 := by unfold qF; rw [Nat.zero_div, Nat.zero_mod]
      have d0 : (0 : Int).tdiv (u.length : Int) = 0 := by simp
      have m0 : (0 : Int).tmod (u.length : Int) = 0 := by simp
      refine ats_skip ?_
      (repeat refine ats_seq ?_); refine ats_block ?_
      (repeat refine ats_seq ?_); refine ats_go (by first | exact fix0 hcx | exact fix1 hcx rfl) fun K hK => ?_; simp only [go_sem, seval]; refine hK _ ?_; clear hK K
      (repeat refine ats_seq ?_); refine ats_go (by first | exact fix0 hcx | exact fix1 hcx rfl) fun K hK => ?_; simp only [go_sem, seval]; refine hK _ ?_; clear hK K
      (repeat refine ats_seq ?_); refine ats_loop (fun y : Nat => ⟨[(2, .bptr 0 0), (3, .bptr 1 0), (4, .bptr 2 0), (5, .int t.length), (6, .int u.length), (7, .bptr 3 0), (8, .int 0), (9, .ref 4 []), (10, .int y)], [(0, .bx [.l2 s, .l1 t]), (1, .bx [.l2 z, .l1 u]), (2, .bx [.nil, .nil]), (3, .bx [.nil, .nil]), (4, .t1 (rowF y (pF s z u.length 0)))]⟩) (fun y => y ≤ N) (fun y => N - y) 0 (Nat.zero_le _) (by refine And.intro ?_ rfl; simp only [SlotsLe, St.get, slotGet, Nat.reduceEqDiff, ↓reduceIte, true_and, and_true, AV.int.injEq, AV.bool.injEq, AV.l1.injEq, AV.l2.injEq, AV.l3.injEq]; repeat' (first | rfl | omega | refine And.intro ?_ ?_)) (fun y hy => ?_)
      have hl := rowF_length y (pF s z u.length 0)
      (repeat refine ats_seq ?_); refine ats_go (by first | exact fix0 hcx | exact fix1 hcx rfl) fun K hK => ?_; simp only [go_sem, seval]
      simp only [hN']
      (repeat refine And.intro (by first | omega | (intro hq; first | omega | (simp at hq <;> omega) | (simp_all <;> omega))) ?_)
      refine hK _ ?_; clear hK K
      (repeat refine ats_seq ?_); first | refine ats_ifn (p := _) rfl trivial (fun hc2 => ?_) (fun hc2 => ?_) | refine ats_ifp (p := _) rfl trivial (fun hc2 => ?_) (fun hc2 => ?_) | refine ats_cond rfl trivial (fun hc2 => ?_) (fun hc2 => ?_)
      · obtain ⟨hy1, hy2⟩ := dm_lt (n := t.length) (m := u.length) (x := y) (by rw [eN]; omega)
        obtain ⟨y1, ey1⟩ : ∃ a, y / u.length = a := ⟨_, rfl⟩
        obtain ⟨y2, ey2⟩ : ∃ a, y % u.length = a := ⟨_, rfl⟩
        rw [ey1] at hy1
        rw [ey2] at hy2
        have ef : pF s z u.length 0 y = (s.getD 0 []).getD y1 0 * (z.getD 0 []).getD y2 0 % 55441 := by unfold pF; rw [Nat.zero_div, Nat.zero_mod, ey1, ey2]
        have ms := mulP (hm1.inP hx1 hy1) (hm2.inP hx2 hy2)
        simp only [e2] at ms
        refine ats_skip ?_
        (repeat refine ats_seq ?_); refine ats_block ?_
        (repeat refine ats_seq ?_); refine ats_pickP [0, 1, 2, 3, 4, 5, 6, 7, 8, 9, 10, 11, 12, 13, 14, 15, 16, 17, 18, 19, 20, 21, 22, 23, 24, 25, 26, 27, 28, 29] (fix0 hcx) mixed (by kernel_rfl) fun K hK => ?_; simp only [pickL, pickO, List.map_cons, List.map_nil, List.getElem?_toArray, List.getElem?_cons_zero, List.getElem?_cons_succ, Option.getD_some]; simp only [go_sem, seval]
        simp only [d0, m0, tdn, tmn, ey1, ey2, Int.toNat_natCast, Int.toNat_zero, ls, lz, rs1, rz1, hl]
        try simp (disch := omega) only [tmP, tdP]
        (repeat refine And.intro (by first | omega | (intro hq; first | omega | (simp at hq <;> omega) | (simp_all <;> omega))) ?_)
        refine hK _ ?_; clear hK K
        (repeat refine ats_seq ?_); refine ats_go (by first | exact fix0 hcx | exact fix1 hcx rfl) fun K hK => ?_; simp only [go_sem, seval]; (repeat refine And.intro (by first | omega | (intro hq; first | omega | (simp at hq <;> omega) | (simp_all <;> omega))) ?_); refine hK _ ?_; clear hK K
        refine ⟨y + 1, by omega, by omega, .inr ⟨[5], by simp only [killL, List.map_cons, List.map_nil, killA, killAs, qOf, rmT, killH, killT, List.filter_cons, List.filter_nil, List.contains_cons, List.contains_nil, SlotsLe, St.get, slotGet, Nat.reduceEqDiff, Nat.reduceBEq, Bool.or_false, Bool.or_true, Bool.false_and, Bool.not_true, Bool.not_false, Bool.false_eq_true, ↓reduceIte, if_true, if_false, AV.int.injEq, AV.bool.injEq, AV.l1.injEq, AV.l2.injEq, AV.l3.injEq, true_and, and_true]; omega, by simp only [killL, List.map_cons, List.map_nil, killA, killAs, qOf, rmT, killH, killT, List.filter_cons, List.filter_nil, List.contains_cons, List.contains_nil, SlotsLe, St.get, slotGet, Nat.reduceEqDiff, Nat.reduceBEq, Bool.or_false, Bool.or_true, Bool.false_and, Bool.not_true, Bool.not_false, Bool.false_eq_true, ↓reduceIte, if_true, if_false, AV.int.injEq, AV.bool.injEq, AV.l1.injEq, AV.l2.injEq, AV.l3.injEq, true_and, and_true]; rw [rowF_succ, ef]⟩⟩
      · obtain rfl : y = N := by omega
        refine ats_exit (lq_x ?_)
        (repeat refine ats_seq ?_); refine ats_go (by first | exact fix0 hcx | exact fix1 hcx rfl) fun K hK => ?_; simp only [go_sem, seval]; (repeat refine And.intro (by first | omega | (intro hq; first | omega | (simp at hq <;> omega) | (simp_all <;> omega))) ?_); refine hK _ ?_; clear hK K
        (repeat refine ats_seq ?_)
        refine ats_plan [] (.one 2 (.one 3 (.one 4 (.one 5 (.one 6 (.one 7 (.one 8 (.one 9 (.one 10 (.one 11 (.one 12 (.one 13 (.one 14 (.one 15 (.one 16 (.one 17 (.alt 0 (.alt 1 (.alt 18 (.alt 19 (.one 20 (.alt 21 .fin .stop)) .stop) .stop) (.alt 18 (.one 1 (.alt 19 (.one 20 (.alt 21 .fin .stop)) .stop)) .stop)) (.alt 18 (.one 0 (.one 1 (.alt 19 (.one 20 (.alt 21 .fin .stop)) .stop))) .stop)))))))))))))))))) ⟨[(2, .bptr 0 0), (3, .bptr 1 0), (4, .bptr 2 0), (5, .int t.length), (6, .int u.length), (7, .bptr 3 0), (8, .int 0)], [(0, .bx [.l2 s, .l1 t]), (1, .bx [.l2 z, .l1 u]), (2, .bx [.nil, .nil]), (3, .bx [.ref 6 [], .ref 8 []]), (6, .t2 [rowF y (pF s z u.length 0)]), (7, .t1 [t.getD 0 0 * u.getD 0 0 % 55441]), (8, .t1 [t.getD 0 0 * u.getD 0 0 % 55441])]⟩ (fix0 hcx) mixed (by kernel_rfl) (fun K hK => ?_) ?_
        · simp only [go_sem, seval, pl_fin, pl_stop, pl_one, pl_alt, PK_ap, pickO, List.getElem?_toArray, List.getElem?_cons_zero, List.getElem?_cons_succ, Option.getD_some, and_true, true_and, and_self, List.contains_cons, List.contains_nil, Bool.or_false, Bool.or_true]
          repeat' (first | exact hK _ (by refine And.intro ?_ rfl; simp only [SlotsLe, St.get, slotGet, Nat.reduceEqDiff, ↓reduceIte, AV.int.injEq, AV.bool.injEq, AV.l1.injEq, AV.l2.injEq, AV.l3.injEq, true_and, and_true])  | omega | refine And.intro ?_ ?_ | ((simp only [d0, m0, Int.toNat_zero])) | ((simp (disch := omega) only [tmP, tdP])))
        (repeat refine ats_seq ?_); refine ats_go (by first | exact fix0 hcx | exact fix1 hcx rfl) fun K hK => ?_; simp only [go_sem, seval]; (repeat refine And.intro (by first | omega | (intro hq; first | omega | (simp at hq <;> omega) | (simp_all <;> omega))) ?_); refine hK _ ?_; clear hK K
        refine ⟨some 1, ⟨Nat.le_refl _, by omega⟩, by show y - 1 < y + 1; omega, .inr ⟨[7], by simp only [killL, List.map_cons, List.map_nil, killA, killAs, qOf, rmT, killH, killT, List.filter_cons, List.filter_nil, List.contains_cons, List.contains_nil, SlotsLe, St.get, slotGet, Nat.reduceEqDiff, Nat.reduceBEq, Bool.or_false, Bool.or_true, Bool.false_and, Bool.not_true, Bool.not_false, Bool.false_eq_true, ↓reduceIte, if_true, if_false, AV.int.injEq, AV.bool.injEq, AV.l1.injEq, AV.l2.injEq, AV.l3.injEq, true_and, and_true]; omega, by simp only [killL, List.map_cons, List.map_nil, killA, killAs, qOf, rmT, killH, killT, List.filter_cons, List.filter_nil, List.contains_cons, List.contains_nil, SlotsLe, St.get, slotGet, Nat.reduceEqDiff, Nat.reduceBEq, Bool.or_false, Bool.or_true, Bool.false_and, Bool.not_true, Bool.not_false, Bool.false_eq_true, ↓reduceIte, if_true, if_false, AV.int.injEq, AV.bool.injEq, AV.l1.injEq, AV.l2.injEq, AV.l3.injEq, true_and, and_true]; (rw [← et]; rfl)⟩⟩
    · omega
  | some x =>
    dsimp only at ho ⊢
    have hlm := matF_length x N (pF s z u.length)
    have hlt := rowF_length x (qF t u u.length)
    (repeat refine ats_seq ?_); refine ats_go (by first | exact fix0 hcx | exact fix1 hcx rfl) fun K hK => ?_; simp only [go_sem, seval]
    simp only [hN']
    (repeat refine And.intro (by first | omega | (intro hq; first | omega | (simp at hq <;> omega) | (simp_all <;> omega))) ?_)
    refine hK _ ?_; clear hK K
    (repeat refine ats_seq ?_); first | refine ats_ifn (p := _) rfl trivial (fun hc1 => ?_) (fun hc1 => ?_) | refine ats_ifp (p := _) rfl trivial (fun hc1 => ?_) (fun hc1 => ?_) | refine ats_cond rfl trivial (fun hc1 => ?_) (fun hc1 => ?_)
    · obtain ⟨hx1, hx2⟩ := dm_lt (n := t.length) (m := u.length) (x := x) (by rw [eN]; omega)
      obtain ⟨x1, ex1⟩ : ∃ a, x / u.length = a := ⟨_, rfl⟩
      obtain ⟨x2, ex2⟩ : ∃ a, x % u.length = a := ⟨_, rfl⟩
      rw [ex1] at hx1
      rw [ex2] at hx2
      have mt := mulP (h1.2.2.2 x1 hx1) (h2.2.2.2 x2 hx2)
      have rs1 := hm1.row hx1
      have rz1 := hm2.row hx2
      have et : qF t u u.length x = t.getD x1 0 * u.getD x2 0 % 55441 := by unfold qF; rw [ex1, ex2]
      refine ats_skip ?_
      (repeat refine ats_seq ?_); refine ats_block ?_
      (repeat refine ats_seq ?_); refine ats_go (by first | exact fix0 hcx | exact fix1 hcx rfl) fun K hK => ?_; simp only [go_sem, seval]; refine hK _ ?_; clear hK K
      (repeat refine ats_seq ?_); refine ats_go (by first | exact fix0 hcx | exact fix1 hcx rfl) fun K hK => ?_; simp only [go_sem, seval]; refine hK _ ?_; clear hK K
      (repeat refine ats_seq ?_); refine ats_loop (fun y : Nat => ⟨[(2, .bptr 0 0), (3, .bptr 1 0), (4, .bptr 2 0), (5, .int t.length), (6, .int u.length), (7, .bptr 3 0), (8, .int x), (9, .ref 9 []), (10, .int y)], [(0, .bx [.l2 s, .l1 t]), (1, .bx [.l2 z, .l1 u]), (2, .bx [.nil, .nil]), (3, .bx [.ref 6 [], .ref 8 []]), (6, .t2 (matF x N (pF s z u.length))), (8, .t1 (rowF x (qF t u u.length))), (9, .t1 (rowF y (pF s z u.length x)))]⟩) (fun y => y ≤ N) (fun y => N - y) 0 (Nat.zero_le _) (by refine And.intro ?_ rfl; simp only [SlotsLe, St.get, slotGet, Nat.reduceEqDiff, ↓reduceIte, true_and, and_true, AV.int.injEq, AV.bool.injEq, AV.l1.injEq, AV.l2.injEq, AV.l3.injEq]; repeat' (first | rfl | omega | refine And.intro ?_ ?_)) (fun y hy => ?_)
      have hl := rowF_length y (pF s z u.length x)
      (repeat refine ats_seq ?_); refine ats_go (by first | exact fix0 hcx | exact fix1 hcx rfl) fun K hK => ?_; simp only [go_sem, seval]
      simp only [hN']
      (repeat refine And.intro (by first | omega | (intro hq; first | omega | (simp at hq <;> omega) | (simp_all <;> omega))) ?_)
      refine hK _ ?_; clear hK K
      (repeat refine ats_seq ?_); first | refine ats_ifn (p := _) rfl trivial (fun hc2 => ?_) (fun hc2 => ?_) | refine ats_ifp (p := _) rfl trivial (fun hc2 => ?_) (fun hc2 => ?_) | refine ats_cond rfl trivial (fun hc2 => ?_) (fun hc2 => ?_)
      · obtain ⟨hy1, hy2⟩ := dm_lt (n := t.length) (m := u.length) (x := y) (by rw [eN]; omega)
        obtain ⟨y1, ey1⟩ : ∃ a, y / u.length = a := ⟨_, rfl⟩
        obtain ⟨y2, ey2⟩ : ∃ a, y % u.length = a := ⟨_, rfl⟩
        rw [ey1] at hy1
        rw [ey2] at hy2
        have ef : pF s z u.length x y = (s.getD x1 []).getD y1 0 * (z.getD x2 []).getD y2 0 % 55441 := by unfold pF; rw [ex1, ex2, ey1, ey2]
        have ms := mulP (hm1.inP hx1 hy1) (hm2.inP hx2 hy2)
        simp only [e2] at ms
        refine ats_skip ?_
        (repeat refine ats_seq ?_); refine ats_block ?_
        (repeat refine ats_seq ?_); refine ats_pickP [0, 1, 2, 3, 4, 5, 6, 7, 8, 9, 10, 11, 12, 13, 14, 15, 16, 17, 18, 19, 20, 21, 22, 23, 24, 25, 26, 27, 28, 29] (fix0 hcx) mixed (by kernel_rfl) fun K hK => ?_; simp only [pickL, pickO, List.map_cons, List.map_nil, List.getElem?_toArray, List.getElem?_cons_zero, List.getElem?_cons_succ, Option.getD_some]; simp only [go_sem, seval]
        simp only [tdn, tmn, ex1, ex2, ey1, ey2, Int.toNat_natCast, ls, lz, rs1, rz1, hl]
        try simp (disch := omega) only [tmP, tdP]
        (repeat refine And.intro (by first | omega | (intro hq; first | omega | (simp at hq <;> omega) | (simp_all <;> omega))) ?_)
        refine hK _ ?_; clear hK K
        (repeat refine ats_seq ?_); refine ats_go (by first | exact fix0 hcx | exact fix1 hcx rfl) fun K hK => ?_; simp only [go_sem, seval]; (repeat refine And.intro (by first | omega | (intro hq; first | omega | (simp at hq <;> omega) | (simp_all <;> omega))) ?_); refine hK _ ?_; clear hK K
        refine ⟨y + 1, by omega, by omega, .inr ⟨[10], by simp only [killL, List.map_cons, List.map_nil, killA, killAs, qOf, rmT, killH, killT, List.filter_cons, List.filter_nil, List.contains_cons, List.contains_nil, SlotsLe, St.get, slotGet, Nat.reduceEqDiff, Nat.reduceBEq, Bool.or_false, Bool.or_true, Bool.false_and, Bool.not_true, Bool.not_false, Bool.false_eq_true, ↓reduceIte, if_true, if_false, AV.int.injEq, AV.bool.injEq, AV.l1.injEq, AV.l2.injEq, AV.l3.injEq, true_and, and_true]; omega, by simp only [killL, List.map_cons, List.map_nil, killA, killAs, qOf, rmT, killH, killT, List.filter_cons, List.filter_nil, List.contains_cons, List.contains_nil, SlotsLe, St.get, slotGet, Nat.reduceEqDiff, Nat.reduceBEq, Bool.or_false, Bool.or_true, Bool.false_and, Bool.not_true, Bool.not_false, Bool.false_eq_true, ↓reduceIte, if_true, if_false, AV.int.injEq, AV.bool.injEq, AV.l1.injEq, AV.l2.injEq, AV.l3.injEq, true_and, and_true]; rw [rowF_succ, ef]⟩⟩
      · obtain rfl : y = N := by omega
        refine ats_exit (lq_x ?_)
        (repeat refine ats_seq ?_); refine ats_go (by first | exact fix0 hcx | exact fix1 hcx rfl) fun K hK => ?_; simp only [go_sem, seval]
        simp only [hlm]
        (repeat refine And.intro (by first | omega | (intro hq; first | omega | (simp at hq <;> omega) | (simp_all <;> omega))) ?_)
        refine hK _ ?_; clear hK K
        (repeat refine ats_seq ?_)
        refine ats_plan [] (.one 2 (.one 3 (.one 4 (.one 5 (.one 6 (.one 7 (.one 8 (.one 9 (.one 10 (.one 11 (.one 12 (.one 13 (.one 14 (.one 15 (.one 16 (.one 17 (.alt 0 (.alt 1 (.alt 18 (.alt 19 (.one 20 (.alt 21 .fin .stop)) .stop) .stop) (.alt 18 (.one 1 (.alt 19 (.one 20 (.alt 21 .fin .stop)) .stop)) .stop)) (.alt 18 (.one 0 (.one 1 (.alt 19 (.one 20 (.alt 21 .fin .stop)) .stop))) .stop)))))))))))))))))) ⟨[(2, .bptr 0 0), (3, .bptr 1 0), (4, .bptr 2 0), (5, .int t.length), (6, .int u.length), (7, .bptr 3 0), (8, .int x)], [(0, .bx [.l2 s, .l1 t]), (1, .bx [.l2 z, .l1 u]), (2, .bx [.nil, .nil]), (3, .bx [.ref 6 [], .ref 8 []]), (6, .t2 (matF x y (pF s z u.length) ++ [rowF y (pF s z u.length x)])), (8, .t1 (rowF x (qF t u u.length) ++ [t.getD x1 0 * u.getD x2 0 % 55441])), (9, .t1 [t.getD x1 0 * u.getD x2 0 % 55441])]⟩ (fix0 hcx) mixed (by kernel_rfl) (fun K hK => ?_) ?_
        · simp only [go_sem, seval, pl_fin, pl_stop, pl_one, pl_alt, PK_ap, pickO, List.getElem?_toArray, List.getElem?_cons_zero, List.getElem?_cons_succ, Option.getD_some, and_true, true_and, and_self, List.contains_cons, List.contains_nil, Bool.or_false, Bool.or_true]
          repeat' (first | exact hK _ (by refine And.intro ?_ rfl; simp only [SlotsLe, St.get, slotGet, Nat.reduceEqDiff, ↓reduceIte, AV.int.injEq, AV.bool.injEq, AV.l1.injEq, AV.l2.injEq, AV.l3.injEq, true_and, and_true])  | omega | refine And.intro ?_ ?_ | ((simp only [tdn, tmn, ex1, ex2, Int.toNat_natCast])) | ((simp (disch := omega) only [tmP, tdP])) | ((rw [hlt]; omega)))
        (repeat refine ats_seq ?_); refine ats_go (by first | exact fix0 hcx | exact fix1 hcx rfl) fun K hK => ?_; simp only [go_sem, seval]; (repeat refine And.intro (by first | omega | (intro hq; first | omega | (simp at hq <;> omega) | (simp_all <;> omega))) ?_); refine hK _ ?_; clear hK K
        refine ⟨some (x + 1), ⟨by omega, by omega⟩, by show y - (x + 1) < y - x; omega, .inr ⟨[9], by simp only [killL, List.map_cons, List.map_nil, killA, killAs, qOf, rmT, killH, killT, List.filter_cons, List.filter_nil, List.contains_cons, List.contains_nil, SlotsLe, St.get, slotGet, Nat.reduceEqDiff, Nat.reduceBEq, Bool.or_false, Bool.or_true, Bool.false_and, Bool.not_true, Bool.not_false, Bool.false_eq_true, ↓reduceIte, if_true, if_false, AV.int.injEq, AV.bool.injEq, AV.l1.injEq, AV.l2.injEq, AV.l3.injEq, true_and, and_true]; omega, by simp only [killL, List.map_cons, List.map_nil, killA, killAs, qOf, rmT, killH, killT, List.filter_cons, List.filter_nil, List.contains_cons, List.contains_nil, SlotsLe, St.get, slotGet, Nat.reduceEqDiff, Nat.reduceBEq, Bool.or_false, Bool.or_true, Bool.false_and, Bool.not_true, Bool.not_false, Bool.false_eq_true, ↓reduceIte, if_true, if_false, AV.int.injEq, AV.bool.injEq, AV.l1.injEq, AV.l2.injEq, AV.l3.injEq, true_and, and_true]; rw [matF_succ, rowF_succ, et]⟩⟩
    · obtain rfl : x = N := by omega
      refine ats_exit (lq_x ?_)
      (repeat refine ats_seq ?_); refine ats_go (by first | exact fix0 hcx | exact fix1 hcx rfl) fun K hK => ?_; simp only [go_sem, seval]; refine hK _ ?_; clear hK K
      exact ats_ret (finC (v := .agg [.ref 6 [], .ref 8 []]) (by simp only [go_sem, seval]) rfl)

def krD (s : List (List Int)) (t : List Int) (z : List (List Int)) (u : List Int) : List (List (List Int)) := krR (numD s t.length (cL s t.length)) (numD z u.length (cL z u.length)) t.length u.length
noncomputable def pdA (s : List (List Int)) (t : List Int) (z : List (List Int)) (u : List Int) : AV := if isData s t && isData z u then (if decide (t.length * u.length ≤ 16) && bd (Cube (krD s t z u)) then .tup [.agg [.l2 (prS s z t.length u.length), .l1 (prT t u t.length u.length)], .int 0] else .tup [.agg [.nil, .nil], .int 3]) else .tup [.agg [.nil, .nil], .int 1]
theorem pdA_shape (s : List (List Int)) (t : List Int) (z : List (List Int)) (u : List Int) : ∃ (o : Option (List (List Int) × List Int)) (c : Int), pdA s t z u = .tup [optD o, .int c] ∧ ∀ v, o = some v → tot2 v.1 + v.2.length ≤ 1048576 := by
  unfold pdA
  split
  · split
    · rename_i h1 h2
      rw [Bool.and_eq_true, decide_eq_true_eq] at h2
      refine ⟨some (prS s z t.length u.length, prT t u t.length u.length), 0, rfl, fun v hv => ?_⟩
      cases hv
      have h3 := tot2_matF (n := t.length * u.length) (f := fun x y => e2 s (x / u.length) (y / u.length) * e2 z (x % u.length) (y % u.length) % 55441) h2.1
      show tot List.length (matF _ _ _) + (prT t u t.length u.length).length ≤ _
      rw [prT_length]
      omega
    · exact ⟨none, 3, rfl, fun _ h => by cases h⟩
  · exact ⟨none, 1, rfl, fun _ h => by cases h⟩
theorem specPd_ok (s : List (List Int)) (t : List Int) (z : List (List Int)) (u : List Int) : PureCall Try.prog 23 [.agg [.l2 s, .l1 t], .agg [.l2 z, .l1 u]] (pdA s t z u) := by
  have hk := l12Is_ok s t
  have hk2 := l12Is_ok z u
  unfold pdA
  refine PureCall.intro (n := 35) (rs := [.cell 4 29, .tmp 5]) Try.call23 Try.func23 rfl rfl rfl (by simp only [List.length_cons, List.length_nil]; omega) (fun cx hcx => ats_of ?_); simp only [argSlots, Nat.zero_add, Nat.reduceAdd]
  (repeat refine ats_seq ?_); refine ats_go (by first | exact fix0 hcx | exact fix1 hcx rfl) fun K hK => ?_; simp only [go_sem, seval]; refine hK _ ?_; clear hK K
  (repeat refine ats_seq ?_); refine ats_block ?_
  cases h : isData s t with
  | false =>
    rw [h] at hk
    (repeat refine ats_seq ?_); refine ats_go (by first | exact fix0 hcx | exact fix1 hcx rfl) fun K hK => ?_; simp only [go_sem, seval]
    first | refine fcall_free rfl rfl (hk) ?_ | refine YR_intro (acall_free rfl rfl (hk)) ?_
    simp only [go_sem, seval]
    refine YR_intro (v := .bool false) (by first | trivial | (intro h; cases h)) ?_
    simp only [go_sem, seval]
    refine hK _ ?_; clear hK K
    (repeat refine ats_seq ?_); refine ats_yes rfl trivial ?_
    (repeat refine ats_seq ?_); refine ats_go (by first | exact fix0 hcx | exact fix1 hcx rfl) fun K hK => ?_; simp only [go_sem, seval]; refine hK _ ?_; clear hK K
    exact ats_ret (fin2C (v := .agg [.nil, .nil]) (by simp only [go_sem, seval]) trivial rfl)
  | true =>
    rw [h] at hk
    cases h' : isData z u with
    | false =>
      rw [h'] at hk2
      (repeat refine ats_seq ?_); refine ats_go (by first | exact fix0 hcx | exact fix1 hcx rfl) fun K hK => ?_; simp only [go_sem, seval]
      first | refine fcall_free rfl rfl (hk) ?_ | refine YR_intro (acall_free rfl rfl (hk)) ?_
      simp only [go_sem, seval]
      first | refine YR_intro (fun _ => acall_free rfl rfl (hk2)) ?_ | refine YR_intro (acall_free rfl rfl (hk2)) ?_
      simp only [go_sem, seval]
      refine hK _ ?_; clear hK K
      (repeat refine ats_seq ?_); refine ats_yes rfl trivial ?_
      (repeat refine ats_seq ?_); refine ats_go (by first | exact fix0 hcx | exact fix1 hcx rfl) fun K hK => ?_; simp only [go_sem, seval]; refine hK _ ?_; clear hK K
      exact ats_ret (fin2C (v := .agg [.nil, .nil]) (by simp only [go_sem, seval]) trivial rfl)
    | true =>
      rw [h'] at hk2
      have hs := (isData_some h).1
      have hz := (isData_some h').1
      have ha16 := hs.2.1
      have hb16 := hz.2.1
      have hN' : (t.length : Int) * (u.length : Int) = ((t.length * u.length : Nat) : Int) := (Int.natCast_mul _ _).symm
      have hNb : t.length * u.length ≤ 16 * 16 := Nat.mul_le_mul ha16 hb16
      (repeat refine ats_seq ?_); refine ats_go (by first | exact fix0 hcx | exact fix1 hcx rfl) fun K hK => ?_; simp only [go_sem, seval]
      first | refine fcall_free rfl rfl (hk) ?_ | refine YR_intro (acall_free rfl rfl (hk)) ?_
      simp only [go_sem, seval]
      first | refine YR_intro (fun _ => acall_free rfl rfl (hk2)) ?_ | refine YR_intro (acall_free rfl rfl (hk2)) ?_
      simp only [go_sem, seval]
      refine hK _ ?_; clear hK K
      (repeat refine ats_seq ?_); refine ats_no rfl trivial ?_
      obtain ⟨N, eN⟩ : ∃ N, t.length * u.length = N := ⟨_, rfl⟩
      rw [eN] at hN' hNb
      (repeat refine ats_seq ?_); refine ats_go (by first | exact fix0 hcx | exact fix1 hcx rfl) fun K hK => ?_; simp only [go_sem, seval]
      simp only [hN']
      (repeat refine And.intro (by first | omega | (intro hq; first | omega | (simp at hq <;> omega) | (simp_all <;> omega))) ?_)
      refine hK _ ?_; clear hK K
      (repeat refine ats_seq ?_); first | refine ats_ifn (p := _) rfl trivial (fun hc2 => ?_) (fun hc2 => ?_) | refine ats_ifp (p := _) rfl trivial (fun hc2 => ?_) (fun hc2 => ?_) | refine ats_cond rfl trivial (fun hc2 => ?_) (fun hc2 => ?_)
      · have e : (decide (t.length * u.length ≤ 16) && bd (Cube (krD s t z u))) = false := by rw [decide_eq_false (by omega)]; rfl
        (repeat refine ats_seq ?_); refine ats_go (by first | exact fix0 hcx | exact fix1 hcx rfl) fun K hK => ?_; simp only [go_sem, seval]; refine hK _ ?_; clear hK K
        rw [e]
        exact ats_ret (fin2C (v := .agg [.nil, .nil]) (by simp only [go_sem, seval]) trivial rfl)
      · have h16 : t.length * u.length ≤ 16 := by omega
        have hP := l13Product_ok s t z u hs hz h16
        have hk3 := l12Is_ok (prS s z t.length u.length) (prT t u t.length u.length)
        rw [pr_data h h' h16] at hk3
        have e0 : decide (t.length * u.length ≤ 16) = true := decide_eq_true h16
        refine ats_skip ?_
        (repeat refine ats_seq ?_); refine ats_go (by first | exact fix0 hcx | exact fix1 hcx rfl) fun K hK => ?_; simp only [go_sem, seval]
        first | refine fcall_data (hP) rfl ?_ | refine YR_intro (acall_data (hP) rfl) ?_
        simp only [go_sem, seval]
        refine hK _ ?_; clear hK K
        cases hC : bd (Cube (krD s t z u)) with
        | false =>
          have hC' := hC
          unfold krD at hC'
          rw [hC'] at hk3
          (repeat refine ats_seq ?_); refine ats_go (by first | exact fix0 hcx | exact fix1 hcx rfl) fun K hK => ?_; simp only [go_sem, seval]
          first | refine fcall_free rfl rfl (hk3) ?_ | refine YR_intro (acall_free rfl rfl (hk3)) ?_
          simp only [go_sem, seval]
          refine hK _ ?_; clear hK K
          (repeat refine ats_seq ?_); refine ats_yes rfl trivial ?_
          (repeat refine ats_seq ?_); refine ats_go (by first | exact fix0 hcx | exact fix1 hcx rfl) fun K hK => ?_; simp only [go_sem, seval]; refine hK _ ?_; clear hK K
          rw [e0]
          exact ats_ret (fin2C (v := .agg [.nil, .nil]) (by simp only [go_sem, seval]) trivial rfl)
        | true =>
          have hC' := hC
          unfold krD at hC'
          rw [hC'] at hk3
          (repeat refine ats_seq ?_); refine ats_go (by first | exact fix0 hcx | exact fix1 hcx rfl) fun K hK => ?_; simp only [go_sem, seval]
          first | refine fcall_free rfl rfl (hk3) ?_ | refine YR_intro (acall_free rfl rfl (hk3)) ?_
          simp only [go_sem, seval]
          refine hK _ ?_; clear hK K
          (repeat refine ats_seq ?_); refine ats_no rfl trivial ?_
          refine ats_skip ?_
          (repeat refine ats_seq ?_); refine ats_go (by first | exact fix0 hcx | exact fix1 hcx rfl) fun K hK => ?_; simp only [go_sem, seval]; refine hK _ ?_; clear hK K
          rw [e0]
          exact ats_ret (fin2C (v := .agg [.l2 (prS s z t.length u.length), .l1 (prT t u t.length u.length)]) (by simp only [go_sem, seval]) trivial rfl)
theorem implPd_ok (s : List (List Int)) (t : List Int) (z : List (List Int)) (u : List Int) : FreshCall Try.prog 24 [.agg [.l2 s, .l1 t], .agg [.l2 z, .l1 u]] (pdA s t z u) := by
  have hk := IsData_ok s t
  have hk2 := IsData_ok z u
  unfold pdA
  refine FreshCall.intro (n := 36) (rs := [.cell 4 29, .tmp 5]) Try.call24 Try.func24 rfl rfl rfl (by simp only [List.length_cons, List.length_nil]; omega) (fun cx hcx => ats_of ?_); simp only [argSlots, Nat.zero_add, Nat.reduceAdd]
  (repeat refine ats_seq ?_); refine ats_go (by first | exact fix0 hcx | exact fix1 hcx rfl) fun K hK => ?_; simp only [go_sem, seval]; refine hK _ ?_; clear hK K
  cases h : isData s t with
  | false =>
    rw [h] at hk
    (repeat refine ats_seq ?_); refine ats_go (by first | exact fix0 hcx | exact fix1 hcx rfl) fun K hK => ?_; simp only [go_sem, seval]
    first | refine fcall_free rfl rfl (hk) ?_ | refine YR_intro (acall_free rfl rfl (hk)) ?_
    simp only [go_sem, seval]
    refine YR_intro (v := .bool false) (by first | trivial | (intro h; cases h)) ?_
    simp only [go_sem, seval]
    refine hK _ ?_; clear hK K
    (repeat refine ats_seq ?_); refine ats_yes rfl trivial ?_
    (repeat refine ats_seq ?_); refine ats_go (by first | exact fix0 hcx | exact fix1 hcx rfl) fun K hK => ?_; simp only [go_sem, seval]; refine hK _ ?_; clear hK K
    exact ats_ret (own2C (v := .agg [.nil, .nil]) (by simp only [go_sem, seval]) trivial rfl (by simp))
  | true =>
    rw [h] at hk
    cases h' : isData z u with
    | false =>
      rw [h'] at hk2
      (repeat refine ats_seq ?_); refine ats_go (by first | exact fix0 hcx | exact fix1 hcx rfl) fun K hK => ?_; simp only [go_sem, seval]
      first | refine fcall_free rfl rfl (hk) ?_ | refine YR_intro (acall_free rfl rfl (hk)) ?_
      simp only [go_sem, seval]
      first | refine YR_intro (fun _ => acall_free rfl rfl (hk2)) ?_ | refine YR_intro (acall_free rfl rfl (hk2)) ?_
      simp only [go_sem, seval]
      refine hK _ ?_; clear hK K
      (repeat refine ats_seq ?_); refine ats_yes rfl trivial ?_
      (repeat refine ats_seq ?_); refine ats_go (by first | exact fix0 hcx | exact fix1 hcx rfl) fun K hK => ?_; simp only [go_sem, seval]; refine hK _ ?_; clear hK K
      exact ats_ret (own2C (v := .agg [.nil, .nil]) (by simp only [go_sem, seval]) trivial rfl (by simp))
    | true =>
      rw [h'] at hk2
      obtain ⟨hs, -, -, c1, hc1, -, hR1⟩ := isData_some h
      obtain ⟨hz, -, -, c2, hc2, -, hR2⟩ := isData_some h'
      have r1 := ring_ok s t c1 hs hc1
      have r2 := ring_ok z u c2 hz hc2
      obtain ⟨rfl, -⟩ := cj_get hc1
      obtain ⟨rfl, -⟩ := cj_get hc2
      have C1 := (isRing_true hR1).1
      have C2 := (isRing_true hR2).1
      have ha16 := hs.2.1
      have hb16 := hz.2.1
      have ls := hs.2.2.1.1
      have lz := hz.2.2.1.1
      have hN' : (t.length : Int) * (u.length : Int) = ((t.length * u.length : Nat) : Int) := (Int.natCast_mul _ _).symm
      have hNb : t.length * u.length ≤ 16 * 16 := Nat.mul_le_mul ha16 hb16
      (repeat refine ats_seq ?_); refine ats_go (by first | exact fix0 hcx | exact fix1 hcx rfl) fun K hK => ?_; simp only [go_sem, seval]
      first | refine fcall_free rfl rfl (hk) ?_ | refine YR_intro (acall_free rfl rfl (hk)) ?_
      simp only [go_sem, seval]
      first | refine YR_intro (fun _ => acall_free rfl rfl (hk2)) ?_ | refine YR_intro (acall_free rfl rfl (hk2)) ?_
      simp only [go_sem, seval]
      refine hK _ ?_; clear hK K
      (repeat refine ats_seq ?_); refine ats_no rfl trivial ?_
      refine ats_skip ?_
      by_cases h16 : t.length * u.length ≤ 16
      · have rP := productRing_ok _ _ C1 C2 (by rw [numD_length, numD_length]; exact h16)
        rw [numD_length, numD_length] at rP
        have rC := isCube_ok (krD s t z u)
        have rD := productData_ok s t z u hs hz h16
        have e0 : decide (t.length * u.length ≤ 16) = true := decide_eq_true h16
        have g0 : ¬ ((16 : Int) < ((t.length * u.length : Nat) : Int)) := by omega
        (repeat refine ats_seq ?_); refine ats_pick (fix0 hcx) mixed (by kernel_rfl) fun K hK => ?_; simp only [go_sem, seval]
        simp only [ls, lz, hN', g0, decide_false]
        (repeat refine And.intro (by first | omega | (intro hq; first | omega | (simp at hq <;> omega) | (simp_all <;> omega))) ?_)
        first | refine YR_intro (fun _ => acall_fresh rfl (r1)) ?_ | refine YR_intro (acall_fresh rfl (r1)) ?_
        simp only [go_sem, seval]
        first | refine YR_intro (fun _ => acall_fresh rfl (r2)) ?_ | refine YR_intro (acall_fresh rfl (r2)) ?_
        simp only [go_sem, seval]
        first | refine YR_intro (fun _ => acall_fresh rfl (rP)) ?_ | refine YR_intro (acall_fresh rfl (rP)) ?_
        simp only [go_sem, seval]
        first | refine YR_intro (fun _ => acall_free rfl rfl (rC)) ?_ | refine YR_intro (acall_free rfl rfl (rC)) ?_
        simp only [go_sem, seval]
        refine hK _ ?_; clear hK K
        cases hC : bd (Cube (krD s t z u)) with
        | false =>
          (repeat refine ats_seq ?_); refine ats_yes rfl trivial ?_
          (repeat refine ats_seq ?_); refine ats_go (by first | exact fix0 hcx | exact fix1 hcx rfl) fun K hK => ?_; simp only [go_sem, seval]; refine hK _ ?_; clear hK K
          rw [e0]
          exact ats_ret (own2C (v := .agg [.nil, .nil]) (by simp only [go_sem, seval]) trivial rfl (by simp))
        | true =>
          (repeat refine ats_seq ?_); refine ats_no rfl trivial ?_
          refine ats_skip ?_
          (repeat refine ats_seq ?_); refine ats_go (by first | exact fix0 hcx | exact fix1 hcx rfl) fun K hK => ?_; simp only [go_sem, seval]
          refine fcall_own rfl (rD) rfl ?_; simp only [go_sem, seval]
          refine hK _ ?_; clear hK K
          rw [e0]
          exact ats_ret (own2C (v := .agg [.ref 3 [], .ref 4 []]) (by simp only [go_sem, seval]) trivial rfl (by simp))
      · have e0 : decide (t.length * u.length ≤ 16) = false := decide_eq_false h16
        have g0 : (16 : Int) < ((t.length * u.length : Nat) : Int) := by omega
        (repeat refine ats_seq ?_); refine ats_pick (fix0 hcx) mixed (by kernel_rfl) fun K hK => ?_; simp only [go_sem, seval]
        simp only [ls, lz, hN', g0, decide_true]
        (repeat refine And.intro (by first | omega | (intro hq; first | omega | (simp at hq <;> omega) | (simp_all <;> omega))) ?_)
        refine YR_intro (v := .junk) (by first | trivial | (intro h; cases h)) ?_
        simp only [go_sem, seval]
        refine YR_intro (v := .junk) (by first | trivial | (intro h; cases h)) ?_
        simp only [go_sem, seval]
        refine YR_intro (v := .junk) (by first | trivial | (intro h; cases h)) ?_
        simp only [go_sem, seval]
        refine YR_intro (v := .bool false) (by first | trivial | (intro h; cases h)) ?_
        simp only [go_sem, seval]
        refine hK _ ?_; clear hK K
        (repeat refine ats_seq ?_); refine ats_yes rfl trivial ?_
        (repeat refine ats_seq ?_); refine ats_go (by first | exact fix0 hcx | exact fix1 hcx rfl) fun K hK => ?_; simp only [go_sem, seval]; refine hK _ ?_; clear hK K
        rw [e0]
        exact ats_ret (own2C (v := .agg [.nil, .nil]) (by simp only [go_sem, seval]) trivial rfl (by simp))
end Go.Proofs.Ytphokmkmpelnfaa
