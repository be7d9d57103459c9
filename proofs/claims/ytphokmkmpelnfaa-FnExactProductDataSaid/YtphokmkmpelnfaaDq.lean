import Derived.Test.YtphokmkmpelnfaaDo
set_option linter.unusedSimpArgs false
set_option linter.unusedVariables false
namespace Go.Proofs.Ytphokmkmpelnfaa
open Go Go.Aw Go.Pl
attribute [go_sem] Try.underlying62

theorem numD_length {s : List (List Int)} {n : Nat} {c : List Int} : (numD s n c).length = n := cubF_length ..
theorem numD_mat {s : List (List Int)} {n : Nat} {c : List Int} {i : Nat} (h : i < n) : ((numD s n c).getD i []).length = n := cubF_mat h
theorem numD_row {s : List (List Int)} {n : Nat} {c : List Int} {i j : Nat} (h : i < n) (hj : j < n) : ((numD s n c).getD i []).getD j [] = rowF n (numV s n c i j) := by rw [numD_eq, cubF_get h, matF_get hj]
theorem sumV_le {s : List (List Int)} {n : Nat} {c : List Int} {i j k : Nat} (hk : k ≤ 16) : 0 ≤ sumTo (numV s n c i j) k ∧ sumTo (numV s n c i j) k ≤ 1000000 := by
  have h := sumTo_le (f := numV s n c i j) (B := 55440) (n := k) (fun x _ => numV_InP s n c i j x)
  omega

theorem ring_ok (s : List (List Int)) (t c : List Int) (hs : Shape s t) (hc : cj s t = some c) : FreshCall Try.prog 44 [.agg [.l2 s, .l1 t]] (.agg [.l3 (numD s t.length c)]) := by
  have hJ := conjugation_ok s t hs
  rw [hc] at hJ
  simp only [optA] at hJ
  obtain ⟨lc, hC⟩ := cj_in hc
  have hF := fusion_ok s t c hs lc hC
  refine FreshCall.intro (n := 13) (rs := [.cell 2 62]) Try.call44 Try.func44 rfl rfl rfl (by simp only [List.length_cons, List.length_nil]; omega) (fun cx hcx => ats_of ?_); simp only [argSlots, Nat.zero_add, Nat.reduceAdd]
  (repeat refine ats_seq ?_); refine ats_go (by first | exact fix0 hcx | exact fix1 hcx rfl) fun K hK => ?_; simp only [go_sem, seval]; refine hK _ ?_; clear hK K
  (repeat refine ats_seq ?_)
  refine ats_plan2 [3] (.one 0 (.one 1 (.one 2 (.alt 3 (.one 4 (.one 5 (.alt 6 (.alt 7 (.alt 8 (.one 9 .fin) .stop) .stop) (.alt 7 (.alt 6 (.alt 8 (.one 9 .fin) .stop) (.alt 8 (.one 6 (.one 9 .fin)) .stop)) .stop)))) (.alt 7 (.alt 3 (.one 4 (.one 5 (.alt 6 (.alt 8 (.one 9 .fin) .stop) (.alt 8 (.one 6 (.one 9 .fin)) .stop)))) .stop) .stop))))) ⟨[(1, .bptr 0 0), (2, .bptr 1 0), (3, .bptr 3 0)], [(2, .t3 (numD s t.length c)), (0, .bx [.l2 s, .l1 t]), (1, .bx [.nil]), (3, .bx [.ref 2 []])]⟩ ⟨[(1, .bptr 0 0), (2, .bptr 1 0), (3, .bptr 2 0)], [(3, .t3 (numD s t.length c)), (0, .bx [.l2 s, .l1 t]), (1, .bx [.nil]), (2, .bx [.ref 3 []])]⟩ (fix0 hcx) mixed (by kernel_rfl) (fun K hK hK2 => ?_) ?_ ?_
  · simp only [go_sem, seval, pl_fin, pl_stop, pl_one, pl_alt, PK_ap, pickO, List.getElem?_toArray, List.getElem?_cons_zero, List.getElem?_cons_succ, Option.getD_some, and_true, true_and, and_self, List.contains_cons, List.contains_nil, Bool.or_false, Bool.or_true]
    repeat' (first | exact hK _ (by refine And.intro ?_ rfl; simp only [SlotsLe, St.get, slotGet, Nat.reduceEqDiff, ↓reduceIte, AV.int.injEq, AV.bool.injEq, AV.l1.injEq, AV.l2.injEq, AV.l3.injEq, true_and, and_true])  | exact hK2 _ (by refine And.intro ?_ rfl; simp only [SlotsLe, St.get, slotGet, Nat.reduceEqDiff, ↓reduceIte, AV.int.injEq, AV.bool.injEq, AV.l1.injEq, AV.l2.injEq, AV.l3.injEq, true_and, and_true]) | omega | refine And.intro ?_ ?_ | ((first | refine fcall_fresh rfl (hJ) ?_ | refine YR_intro (acall_fresh rfl (hJ)) ?_); simp only [go_sem, seval, pl_fin, pl_stop, pl_one, pl_alt, PK_ap, pickO, List.getElem?_toArray, List.getElem?_cons_zero, List.getElem?_cons_succ, Option.getD_some, and_true, true_and, and_self, List.contains_cons, List.contains_nil, Bool.or_false, Bool.or_true]) | (refine fcall_own rfl (hF) rfl ?_; simp only [go_sem, seval, pl_fin, pl_stop, pl_one, pl_alt, PK_ap, pickO, List.getElem?_toArray, List.getElem?_cons_zero, List.getElem?_cons_succ, Option.getD_some, and_true, true_and, and_self, List.contains_cons, List.contains_nil, Bool.or_false, Bool.or_true]))
  · (repeat refine ats_seq ?_); refine ats_go (by first | exact fix0 hcx | exact fix1 hcx rfl) fun K hK => ?_; simp only [go_sem, seval]; refine hK _ ?_; clear hK K
    exact ats_ret (ownC (v := .agg [.ref 2 []]) (by simp only [go_sem, seval]) rfl (by simp))
  · (repeat refine ats_seq ?_); refine ats_go (by first | exact fix0 hcx | exact fix1 hcx rfl) fun K hK => ?_; simp only [go_sem, seval]; refine hK _ ?_; clear hK K
    exact ats_ret (ownC (v := .agg [.ref 3 []]) (by simp only [go_sem, seval]) rfl (by simp))

noncomputable def icA (s : List (List Int)) (t : List Int) (a : Int) : Bool × Int := if isData s t then (if inC t a then (decide (sumTo (numV s t.length (cL s t.length) a.toNat ((cL s t.length).getD a.toNat 0).toNat) t.length = 1) && decide (e2 s 0 a.toNat * e2 s 0 a.toNat % 55441 = 1), 0) else (false, 2)) else (false, 1)
theorem implInv_ok (s : List (List Int)) (t : List Int) (a : Int) : PureCall Try.prog 50 [.agg [.l2 s, .l1 t], .int a] (.tup [.bool (icA s t a).1, .int (icA s t a).2]) := by
  have hk := IsData_ok s t
  unfold icA
  refine PureCall.intro (n := 59) (rs := [.tmp 4, .tmp 5]) Try.call50 Try.func50 rfl rfl rfl (by simp only [List.length_cons, List.length_nil]; omega) (fun cx hcx => ats_of ?_); simp only [argSlots, Nat.zero_add, Nat.reduceAdd]
  (repeat refine ats_seq ?_); refine ats_go (by first | exact fix0 hcx | exact fix1 hcx rfl) fun K hK => ?_; simp only [go_sem, seval]; refine hK _ ?_; clear hK K
  cases h : isData s t with
  | false =>
    rw [h] at hk
    (repeat refine ats_seq ?_); refine ats_go (by first | exact fix0 hcx | exact fix1 hcx rfl) fun K hK => ?_; simp only [go_sem, seval]
    first | refine fcall_free rfl rfl (hk) ?_ | refine YR_intro (acall_free rfl rfl (hk)) ?_
    simp only [go_sem, seval]
    refine hK _ ?_; clear hK K
    (repeat refine ats_seq ?_); refine ats_yes rfl trivial ?_
    (repeat refine ats_seq ?_); refine ats_go (by first | exact fix0 hcx | exact fix1 hcx rfl) fun K hK => ?_; simp only [go_sem, seval]; refine hK _ ?_; clear hK K
    exact ats_ret (fin2 trivial trivial rfl)
  | true =>
    obtain ⟨hs, hst, hw, c, hc, hT, hR⟩ := isData_some h
    have ca := isCharge_ok s t a hs
    rw [h] at hk
    (repeat refine ats_seq ?_); refine ats_go (by first | exact fix0 hcx | exact fix1 hcx rfl) fun K hK => ?_; simp only [go_sem, seval]
    first | refine fcall_free rfl rfl (hk) ?_ | refine YR_intro (acall_free rfl rfl (hk)) ?_
    simp only [go_sem, seval]
    refine hK _ ?_; clear hK K
    (repeat refine ats_seq ?_); refine ats_no rfl trivial ?_
    refine ats_skip ?_
    cases ha : inC t a with
    | false =>
      rw [ha] at ca
      (repeat refine ats_seq ?_); refine ats_go (by first | exact fix0 hcx | exact fix1 hcx rfl) fun K hK => ?_; simp only [go_sem, seval]
      first | refine fcall_free rfl rfl (ca) ?_ | refine YR_intro (acall_free rfl rfl (ca)) ?_
      simp only [go_sem, seval]
      refine hK _ ?_; clear hK K
      (repeat refine ats_seq ?_); refine ats_yes rfl trivial ?_
      (repeat refine ats_seq ?_); refine ats_go (by first | exact fix0 hcx | exact fix1 hcx rfl) fun K hK => ?_; simp only [go_sem, seval]; refine hK _ ?_; clear hK K
      exact ats_ret (fin2 trivial trivial rfl)
    | true =>
      rw [ha] at ca
      have hJ := conjugation_ok s t hs
      rw [hc] at hJ
      simp only [optA] at hJ
      obtain ⟨lc, hC⟩ := cj_in hc
      have hRg := ring_ok s t c hs hc
      obtain ⟨rfl, -⟩ := cj_get hc
      have h16 := hs.2.1
      have h1 := hs.1
      have hm := hs.2.2.1
      have ls := hm.1
      have hai := inC_true ha
      have r0 := hm.row (show 0 < t.length by omega)
      have p0 := hm.inP (show 0 < t.length by omega) (show a.toNat < t.length by omega)
      have m0 := mulP p0 p0
      simp only [e2] at m0
      have hCa := hC a.toNat (by omega)
      have hm1 := numD_mat (s := s) (c := cL s t.length) (show a.toNat < t.length by omega)
      have hrow := numD_row (s := s) (c := cL s t.length) (show a.toNat < t.length by omega) (show ((cL s t.length).getD a.toNat 0).toNat < t.length by omega)
      (repeat refine ats_seq ?_); refine ats_go (by first | exact fix0 hcx | exact fix1 hcx rfl) fun K hK => ?_; simp only [go_sem, seval]
      first | refine fcall_free rfl rfl (ca) ?_ | refine YR_intro (acall_free rfl rfl (ca)) ?_
      simp only [go_sem, seval]
      refine hK _ ?_; clear hK K
      (repeat refine ats_seq ?_); refine ats_no rfl trivial ?_
      refine ats_skip ?_
      (repeat refine ats_seq ?_); refine ats_go (by first | exact fix0 hcx | exact fix1 hcx rfl) fun K hK => ?_; simp only [go_sem, seval]; refine hK _ ?_; clear hK K
      (repeat refine ats_seq ?_); refine ats_pick (fix0 hcx) mixed (by kernel_rfl) fun K hK => ?_; simp only [go_sem, seval]
      first | refine fcall_fresh rfl (hRg) ?_ | refine YR_intro (acall_fresh rfl (hRg)) ?_
      simp only [go_sem, seval]
      simp only [numD_length]
      (repeat refine And.intro (by first | omega | (intro hq; first | omega | (simp at hq <;> omega) | (simp_all <;> omega))) ?_)
      first | refine fcall_fresh rfl (hJ) ?_ | refine YR_intro (acall_fresh rfl (hJ)) ?_
      simp only [go_sem, seval]
      simp only [hm1, hrow, lc, rowF_length]
      (repeat refine And.intro (by first | omega | (intro hq; first | omega | (simp at hq <;> omega) | (simp_all <;> omega))) ?_)
      refine hK _ ?_; clear hK K
      (repeat refine ats_seq ?_); refine ats_loop (fun k : Nat => ⟨[(1, .int a), (2, .bptr 0 0), (6, .int (sumTo (numV s t.length (cL s t.length) a.toNat ((cL s t.length).getD a.toNat 0).toNat) k)), (28, .l1 (rowF t.length (numV s t.length (cL s t.length) a.toNat ((cL s t.length).getD a.toNat 0).toNat))), (29, .int t.length), (30, .int k)], [(0, .bx [.l2 s, .l1 t])]⟩) (fun k => k ≤ t.length) (fun k => t.length - k) 0 (Nat.zero_le _) (by refine And.intro ?_ rfl; simp only [SlotsLe, St.get, slotGet, Nat.reduceEqDiff, ↓reduceIte, true_and, and_true, AV.int.injEq, AV.bool.injEq, AV.l1.injEq, AV.l2.injEq, AV.l3.injEq]; repeat' (first | rfl | omega | refine And.intro ?_ ?_)) (fun k hk => ?_)
      have sl := sumV_le (s := s) (n := t.length) (c := cL s t.length) (i := a.toNat) (j := ((cL s t.length).getD a.toNat 0).toNat) (show k ≤ 16 by omega)
      (repeat refine ats_seq ?_); refine ats_go (by first | exact fix0 hcx | exact fix1 hcx rfl) fun K hK => ?_; simp only [go_sem, seval]; refine hK _ ?_; clear hK K
      (repeat refine ats_seq ?_); first | refine ats_ifn (p := _) rfl trivial (fun hlk => ?_) (fun hlk => ?_) | refine ats_ifp (p := _) rfl trivial (fun hlk => ?_) (fun hlk => ?_) | refine ats_cond rfl trivial (fun hlk => ?_) (fun hlk => ?_)
      · have sl2 := sumV_le (s := s) (n := t.length) (c := cL s t.length) (i := a.toNat) (j := ((cL s t.length).getD a.toNat 0).toNat) (show k + 1 ≤ 16 by omega)
        have rg : (rowF t.length (numV s t.length (cL s t.length) a.toNat ((cL s t.length).getD a.toNat 0).toNat)).getD k 0 = numV s t.length (cL s t.length) a.toNat ((cL s t.length).getD a.toNat 0).toNat k := rowF_get (by omega)
        simp only [sumTo] at sl2
        refine ats_skip ?_
        (repeat refine ats_seq ?_); refine ats_block ?_
        (repeat refine ats_seq ?_); refine ats_go (by first | exact fix0 hcx | exact fix1 hcx rfl) fun K hK => ?_; simp only [go_sem, seval]
        simp only [rowF_length, rg]
        (repeat refine And.intro (by first | omega | (intro hq; first | omega | (simp at hq <;> omega) | (simp_all <;> omega))) ?_)
        refine hK _ ?_; clear hK K
        (repeat refine ats_seq ?_); refine ats_go (by first | exact fix0 hcx | exact fix1 hcx rfl) fun K hK => ?_; simp only [go_sem, seval]; (repeat refine And.intro (by first | omega | (intro hq; first | omega | (simp at hq <;> omega) | (simp_all <;> omega))) ?_); refine hK _ ?_; clear hK K
        (repeat refine ats_seq ?_); refine ats_go (by first | exact fix0 hcx | exact fix1 hcx rfl) fun K hK => ?_; simp only [go_sem, seval]; (repeat refine And.intro (by first | omega | (intro hq; first | omega | (simp at hq <;> omega) | (simp_all <;> omega))) ?_); refine hK _ ?_; clear hK K
        refine ⟨k + 1,  by omega, by omega, .inl ⟨by simp only [SlotsLe, St.get, slotGet, Nat.reduceEqDiff, ↓reduceIte, AV.int.injEq, AV.bool.injEq, AV.l1.injEq, AV.l2.injEq, AV.l3.injEq, true_and, and_true]; exact ⟨rfl, by omega⟩,  rfl⟩⟩
      · obtain rfl : k = t.length := by omega
        refine ats_exit (lq_x ?_)
        (repeat refine ats_seq ?_); refine ats_pick (fix0 hcx) mixed (by kernel_rfl) fun K hK => ?_; simp only [go_sem, seval]
        try simp (disch := omega) only [tmP, tdP]
        (repeat refine And.intro (by first | omega | (intro hq; first | omega | (simp at hq <;> omega) | (simp_all <;> omega))) ?_)
        refine hK _ ?_; clear hK K
        rw [Bool.and_comm]
        exact ats_ret (fin2 trivial trivial rfl)
end Go.Proofs.Ytphokmkmpelnfaa
