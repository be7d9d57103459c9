/-
  The reference's parts of an action.
-/
import Derived.Test.YtdlmmmklahajgaaEm
set_option linter.unusedSimpArgs false
set_option linter.unusedVariables false
namespace Go.Proofs.Ytdlmmmklahajgaa
open Go Go.Aw Go.Pl

set_option maxHeartbeats 8000000 in
theorem l09Parts_ok (a : List (List (List Int))) (m : Nat) (em : (a.getD 0 []).length = m) (hm : ∀ i, i < a.length → MatOk m (a.getD i [])) (h1 : 1 ≤ m) (h16 : m ≤ 16) (ha : 0 < a.length) (ha16 : a.length ≤ 16)
    (hsy : ∀ x y, x < m → y < m → jn a x y = jn a y x) :
    PureCall Try.prog 38 [.agg [.l3 a]] (.l1 (partsL a)) := by
  have hp := l09Size_ok a ha
  have hj : ∀ x y : Nat, x < m → y < m → PureCall Try.prog 56 [.agg [.l3 a], .int x, .int y] (.bool (jn a x y)) := fun x y hx hy => l09Joined_ok a x y (fun i hi => ⟨by rw [(hm i hi).1]; exact hx, by rw [(hm i hi).row hx]; exact hy⟩) ha16
  rw [em] at hp
  unfold partsL
  rw [em]
  refine PureCall.intro (n := 83) (rs := [.tmp 2]) Try.call38 Try.func38 rfl rfl rfl (by simp only [List.length_cons, List.length_nil]; omega) (fun cx hcx => ats_of ?_); simp only [argSlots, Nat.zero_add, Nat.reduceAdd]
  (repeat refine ats_seq ?_); refine ats_go (by first | exact fix0 hcx | exact fix1 hcx rfl) fun K hK => ?_; simp only [go_sem, seval]; (repeat refine And.intro (by first | omega | (intro hq; first | omega | (simp at hq <;> omega) | (simp_all <;> omega))) ?_); refine hK _ ?_; clear hK K
  (repeat refine ats_seq ?_); refine ats_go (by first | exact fix0 hcx | exact fix1 hcx rfl) fun K hK => ?_; simp only [go_sem, seval]
  (repeat refine And.intro (by first | omega | (intro hq; first | omega | (simp at hq <;> omega) | (simp_all <;> omega))) ?_)
  first | refine fcall_data (hp) rfl ?_ | refine YR_intro (acall_data (hp) rfl) ?_
  simp only [go_sem, seval]
  (repeat refine And.intro (by first | omega | (intro hq; first | omega | (simp at hq <;> omega) | (simp_all <;> omega))) ?_)
  refine hK _ ?_; clear hK K
  (repeat refine ats_seq ?_); refine ats_go (by first | exact fix0 hcx | exact fix1 hcx rfl) fun K hK => ?_; simp only [go_sem, seval]; (repeat refine And.intro (by first | omega | (intro hq; first | omega | (simp at hq <;> omega) | (simp_all <;> omega))) ?_); refine hK _ ?_; clear hK K
  (repeat refine ats_seq ?_); refine ats_go (by first | exact fix0 hcx | exact fix1 hcx rfl) fun K hK => ?_; simp only [go_sem, seval]; (repeat refine And.intro (by first | omega | (intro hq; first | omega | (simp at hq <;> omega) | (simp_all <;> omega))) ?_); refine hK _ ?_; clear hK K
  (repeat refine ats_seq ?_); refine ats_loop (fun i : Nat => ⟨[(1, .bptr 0 0), (3, .int m), (4, .ref 1 []), (5, .int 0), (6, .int i)], [(0, .bx [.l3 a]), (1, .t1 (List.replicate i (-1)))]⟩) (fun i => i ≤ m) (fun i => m - i) 0 (Nat.zero_le _) (by refine And.intro ?_ rfl; simp only [SlotsLe, St.get, slotGet, Nat.reduceEqDiff, ↓reduceIte, true_and, and_true, AV.int.injEq, AV.bool.injEq, AV.l1.injEq, AV.l2.injEq, AV.l3.injEq]; repeat' (first | rfl | omega | refine And.intro ?_ ?_)) (fun i hi => ?_)
  have er : List.replicate (i + 1) (-1 : Int) = List.replicate i (-1) ++ [-1] := List.replicate_succ'
  (repeat refine ats_seq ?_); refine ats_go (by first | exact fix0 hcx | exact fix1 hcx rfl) fun K hK => ?_; simp only [go_sem, seval]; (repeat refine And.intro (by first | omega | (intro hq; first | omega | (simp at hq <;> omega) | (simp_all <;> omega))) ?_); refine hK _ ?_; clear hK K
  (repeat refine ats_seq ?_); first | refine ats_ifn (p := _) rfl trivial (fun hc2 => ?_) (fun hc2 => ?_) | refine ats_ifp (p := _) rfl trivial (fun hc2 => ?_) (fun hc2 => ?_) | refine ats_cond rfl trivial (fun hc2 => ?_) (fun hc2 => ?_)
  · refine ats_skip ?_
    (repeat refine ats_seq ?_); refine ats_block ?_
    have lr : (List.replicate i (-1 : Int)).length ≤ 1099511627775 := by simp; omega
    (repeat refine ats_seq ?_); refine ats_go (by first | exact fix0 hcx | exact fix1 hcx rfl) fun K hK => ?_; simp only [go_sem, seval]; (repeat refine And.intro (by first | omega | (intro hq; first | omega | (simp at hq <;> omega) | (simp_all <;> omega))) ?_); refine hK _ ?_; clear hK K
    (repeat refine ats_seq ?_); refine ats_go (by first | exact fix0 hcx | exact fix1 hcx rfl) fun K hK => ?_; simp only [go_sem, seval]; (repeat refine And.intro (by first | omega | (intro hq; first | omega | (simp at hq <;> omega) | (simp_all <;> omega))) ?_); refine hK _ ?_; clear hK K
    refine ⟨i + 1, by omega, by omega, .inr ⟨[2], by simp only [killL, List.map_cons, List.map_nil, killA, killAs, qOf, rmT, killH, killT, List.filter_cons, List.filter_nil, List.contains_cons, List.contains_nil, SlotsLe, St.get, slotGet, Nat.reduceEqDiff, Nat.reduceBEq, Bool.or_false, Bool.or_true, Bool.false_and, Bool.not_true, Bool.not_false, Bool.false_eq_true, ↓reduceIte, if_true, if_false, AV.int.injEq, AV.bool.injEq, AV.l1.injEq, AV.l2.injEq, AV.l3.injEq, true_and, and_true]; omega, by simp only [killL, List.map_cons, List.map_nil, killA, killAs, qOf, rmT, killH, killT, List.filter_cons, List.filter_nil, List.contains_cons, List.contains_nil, SlotsLe, St.get, slotGet, Nat.reduceEqDiff, Nat.reduceBEq, Bool.or_false, Bool.or_true, Bool.false_and, Bool.not_true, Bool.not_false, Bool.false_eq_true, ↓reduceIte, if_true, if_false, AV.int.injEq, AV.bool.injEq, AV.l1.injEq, AV.l2.injEq, AV.l3.injEq, true_and, and_true]; rw [er]⟩⟩
  · obtain rfl : i = m := by omega
    refine ats_exit (lq_x ?_)
    (repeat refine ats_seq ?_); refine ats_go (by first | exact fix0 hcx | exact fix1 hcx rfl) fun K hK => ?_; simp only [go_sem, seval]; (repeat refine And.intro (by first | omega | (intro hq; first | omega | (simp at hq <;> omega) | (simp_all <;> omega))) ?_); refine hK _ ?_; clear hK K
    (repeat refine ats_seq ?_); refine ats_loop (fun x : Nat => ⟨[(1, .bptr 0 0), (3, .int i), (4, .ref 1 []), (5, .int (pS a i x).2), (7, .int x)], [(0, .bx [.l3 a]), (1, .t1 (pS a i x).1)]⟩) (fun x => x ≤ i) (fun x => i - x) 0 (Nat.zero_le _) (by
      refine And.intro ?_ rfl; simp only [SlotsLe, St.get, slotGet, Nat.reduceEqDiff, ↓reduceIte, AV.int.injEq, AV.bool.injEq, AV.l1.injEq, AV.l2.injEq, AV.l3.injEq, true_and, and_true]
      exact ⟨rfl, rfl⟩) (fun x hx => ?_)
    obtain ⟨hP, hn0, hnx⟩ := pS_ok (a := a) (m := i) x hx
    have lP := hP.len
    (repeat refine ats_seq ?_); refine ats_go (by first | exact fix0 hcx | exact fix1 hcx rfl) fun K hK => ?_; simp only [go_sem, seval]; (repeat refine And.intro (by first | omega | (intro hq; first | omega | (simp at hq <;> omega) | (simp_all <;> omega))) ?_); refine hK _ ?_; clear hK K
    (repeat refine ats_seq ?_); first | refine ats_ifn (p := _) rfl trivial (fun hc4 => ?_) (fun hc4 => ?_) | refine ats_ifp (p := _) rfl trivial (fun hc4 => ?_) (fun hc4 => ?_) | refine ats_cond rfl trivial (fun hc4 => ?_) (fun hc4 => ?_)
    · have hxb := hP.bd x (by omega)
      refine ats_skip ?_
      (repeat refine ats_seq ?_); refine ats_block ?_
      (repeat refine ats_seq ?_); refine ats_go (by first | exact fix0 hcx | exact fix1 hcx rfl) fun K hK => ?_; simp only [go_sem, seval]; (repeat refine And.intro (by first | omega | (intro hq; first | omega | (simp at hq <;> omega) | (simp_all <;> omega))) ?_); refine hK _ ?_; clear hK K
      (repeat refine ats_seq ?_); first | refine ats_ifn (p := _) rfl trivial (fun hc3 => ?_) (fun hc3 => ?_) | refine ats_ifp (p := _) rfl trivial (fun hc3 => ?_) (fun hc3 => ?_) | refine ats_cond rfl trivial (fun hc3 => ?_) (fun hc3 => ?_)
      · have e2 := pS_no (a := a) (m := i) (x := x) (by omega)
        refine ats_exit (bq_x ?_)
        (repeat refine ats_seq ?_); refine ats_go (by first | exact fix0 hcx | exact fix1 hcx rfl) fun K hK => ?_; simp only [go_sem, seval]; (repeat refine And.intro (by first | omega | (intro hq; first | omega | (simp at hq <;> omega) | (simp_all <;> omega))) ?_); refine hK _ ?_; clear hK K
        refine ⟨x + 1,  by omega, by omega, .inl ⟨by simp only [SlotsLe, St.get, slotGet, Nat.reduceEqDiff, ↓reduceIte, AV.int.injEq, AV.bool.injEq, AV.l1.injEq, AV.l2.injEq, AV.l3.injEq, true_and, and_true]; exact ⟨by rw [e2], by omega⟩,  by rw [e2]⟩⟩
      · obtain ⟨hB, hmu⟩ := pS_st (show x < i by omega) hP hn0 (by omega)
        have hYes := fun k => pS_yes (k := k) (show x < i by omega) hP hn0 (by omega)
        obtain ⟨n, en⟩ : ∃ n, (pS a i x).2 = n := ⟨_, rfl⟩
        obtain ⟨s0, es0⟩ : ∃ s0, ((pS a i x).1.set x n, [(x : Int)]) = s0 := ⟨_, rfl⟩
        rw [en] at hB hmu hn0 hnx hP hxb hYes ⊢
        rw [es0] at hB hmu hYes
        refine ats_skip ?_
        (repeat refine ats_seq ?_); refine ats_go (by first | exact fix0 hcx | exact fix1 hcx rfl) fun K hK => ?_; simp only [go_sem, seval]; (repeat refine And.intro (by first | omega | (intro hq; first | omega | (simp at hq <;> omega) | (simp_all <;> omega))) ?_); refine hK _ ?_; clear hK K
        (repeat refine ats_seq ?_); refine ats_go (by first | exact fix0 hcx | exact fix1 hcx rfl) fun K hK => ?_; simp only [go_sem, seval]; (repeat refine And.intro (by first | omega | (intro hq; first | omega | (simp at hq <;> omega) | (simp_all <;> omega))) ?_); refine hK _ ?_; clear hK K
        (repeat refine ats_seq ?_); refine ats_go (by first | exact fix0 hcx | exact fix1 hcx rfl) fun K hK => ?_; simp only [go_sem, seval]; (repeat refine And.intro (by first | omega | (intro hq; first | omega | (simp at hq <;> omega) | (simp_all <;> omega))) ?_); refine hK _ ?_; clear hK K
        (repeat refine ats_seq ?_); refine ats_loop (fun k : Nat => ⟨[(1, .bptr 0 0), (3, .int i), (4, .ref 1 []), (5, .int n), (7, .int x), (8, .ref 2 []), (9, .int k)], [(0, .bx [.l3 a]), (1, .t1 (bI a i n s0 k).1), (2, .t1 (qF a i n s0 k))]⟩) (fun k => ∀ j, j < k → (bI a i n s0 j).2 ≠ []) (fun k => mu (bI a i n s0 k)) 0 (fun j hj => absurd hj (Nat.not_lt_zero j)) (by
          subst es0
          refine And.intro ?_ rfl; simp only [SlotsLe, St.get, slotGet, Nat.reduceEqDiff, ↓reduceIte, AV.int.injEq, AV.bool.injEq, AV.l1.injEq, AV.l2.injEq, AV.l3.injEq, true_and, and_true]
          rfl) (fun k hz1 => ?_)
        obtain ⟨hBk, hmuk⟩ := bI_ok (a := a) hB hn0 k
        have hmuk := hmuk hz1
        have lPk := hBk.p.len
        have lm : (bI a i n s0 k).2.length ≤ i := by unfold mu at hmuk hmu; omega
        have qo := qF_ok k hz1
        (repeat refine ats_seq ?_); refine ats_go (by first | exact fix0 hcx | exact fix1 hcx rfl) fun K hK => ?_; simp only [go_sem, seval]; (repeat refine And.intro (by first | omega | (intro hq; first | omega | (simp at hq <;> omega) | (simp_all <;> omega))) ?_); refine hK _ ?_; clear hK K
        (repeat refine ats_seq ?_); first | refine ats_ifn (p := _) rfl trivial (fun hc5 => ?_) (fun hc5 => ?_) | refine ats_ifp (p := _) rfl trivial (fun hc5 => ?_) (fun hc5 => ?_) | refine ats_cond rfl trivial (fun hc5 => ?_) (fun hc5 => ?_)
        · cases e : (bI a i n s0 k).2 with
          | nil => exfalso; have := qF_end hz1 e; omega
          | cons u L =>
            have hu := hBk.q 0 (by rw [e]; simp)
            rw [e, List.getD_cons_zero] at hu
            obtain ⟨w, rfl⟩ : ∃ w : Nat, u = w := ⟨u.toNat, by omega⟩
            have hs := bI_succ e
            obtain ⟨q1, q2, q3⟩ := qF_get hz1 e
            rw [Int.toNat_natCast] at hs q3
            have hmd := (bS_ok (a := a) hBk hn0).2 (by rw [e]; simp)
            have lq : (qF a i n s0 k).length = k + (L.length + 1) := by
              have := congrArg List.length qo.1
              rw [e] at this
              simp only [List.length_drop, List.length_cons] at this
              omega
            refine ats_skip ?_
            (repeat refine ats_seq ?_); refine ats_block ?_
            (repeat refine ats_seq ?_); refine ats_go (by first | exact fix0 hcx | exact fix1 hcx rfl) fun K hK => ?_; simp only [go_sem, seval]; (repeat refine And.intro (by first | omega | (intro hq; first | omega | (simp at hq <;> omega) | (simp_all <;> omega))) ?_); refine hK _ ?_; clear hK K
            (repeat refine ats_seq ?_); refine ats_loop (fun y : Nat => ⟨[(1, .bptr 0 0), (3, .int i), (4, .ref 1 []), (5, .int n), (7, .int x), (8, .ref 2 []), (9, .int k), (10, .int y)], [(0, .bx [.l3 a]), (1, .t1 (yS a w n (bI a i n s0 k).1 y).1), (2, .t1 (qF a i n s0 k ++ (yS a w n (bI a i n s0 k).1 y).2))]⟩) (fun y => y ≤ i) (fun y => i - y) 0 (Nat.zero_le _) (by
              refine And.intro ?_ (by simp [yS])
              simp only [SlotsLe, St.get, slotGet, Nat.reduceEqDiff, ↓reduceIte, AV.int.injEq, true_and, and_true]
              rfl) (fun y hy1 => ?_)
            obtain ⟨o1, o2, o3⟩ := yS_ok (a := a) (u := w) hBk.p hn0 y hy1
            have ly := o1.len
            have hG0 : (qF a i n s0 k ++ (yS a w n (bI a i n s0 k).1 y).2).getD k 0 = w := by
              rw [← q2]
              simp [List.getD, List.getElem?_append_left q1]
            have hGl : (qF a i n s0 k ++ (yS a w n (bI a i n s0 k).1 y).2).length = k + (L.length + 1) + (yS a w n (bI a i n s0 k).1 y).2.length := by rw [List.length_append, lq]
            have hbd : k + L.length + 1 + (yS a w n (bI a i n s0 k).1 y).2.length ≤ i := by
              have h2 : mu (bI a i n s0 k) + k ≤ i := by omega
              unfold mu at h2
              rw [e, List.length_cons] at h2
              omega
            (repeat refine ats_seq ?_); refine ats_go (by first | exact fix0 hcx | exact fix1 hcx rfl) fun K hK => ?_; simp only [go_sem, seval]; (repeat refine And.intro (by first | omega | (intro hq; first | omega | (simp at hq <;> omega) | (simp_all <;> omega))) ?_); refine hK _ ?_; clear hK K
            (repeat refine ats_seq ?_); first | refine ats_ifn (p := _) rfl trivial (fun hc7 => ?_) (fun hc7 => ?_) | refine ats_ifp (p := _) rfl trivial (fun hc7 => ?_) (fun hc7 => ?_) | refine ats_cond rfl trivial (fun hc7 => ?_) (fun hc7 => ?_)
            · have hj1 := hj w y (by omega) (by omega)
              have hj2 := hj y w (by omega) (by omega)
              rw [← hsy w y (by omega) (by omega)] at hj2
              have hyb := o1.bd y (by omega)
              refine ats_skip ?_
              (repeat refine ats_seq ?_); refine ats_block ?_
              (repeat refine ats_seq ?_); refine ats_pick (fix0 hcx) mixed (by kernel_rfl) fun K hK => ?_; simp only [go_sem, seval]
              simp only [hG0]
              (repeat refine And.intro (by first | omega | (intro hq; first | omega | (simp at hq <;> omega) | (simp_all <;> omega))) ?_)
              first | refine YR_intro (fun _ => acall_data (hj1) rfl) ?_ | refine YR_intro (acall_data (hj1) rfl) ?_
              simp only [go_sem, seval]
              try simp only [hG0]
              (repeat refine And.intro (by first | omega | (intro hq; first | omega | (simp at hq <;> omega) | (simp_all <;> omega))) ?_)
              first | refine YR_intro (fun _ => acall_data (hj2) rfl) ?_ | refine YR_intro (acall_data (hj2) rfl) ?_
              simp only [go_sem, seval]
              (repeat refine And.intro (by first | omega | (intro hq; first | omega | (simp at hq <;> omega) | (simp_all <;> omega))) ?_)
              refine hK _ ?_; clear hK K
              (repeat refine ats_seq ?_); first | refine ats_ifn (p := _) rfl trivial (fun hc8 => ?_) (fun hc8 => ?_) | refine ats_ifp (p := _) rfl trivial (fun hc8 => ?_) (fun hc8 => ?_) | refine ats_cond rfl trivial (fun hc8 => ?_) (fun hc8 => ?_)
              · have c : (yS a w n (bI a i n s0 k).1 y).1.getD y 0 < 0 ∧ jn a w y = true := by simpa using hc8
                have e3 := yS_yes c
                have hbl : (qF a i n s0 k ++ (yS a w n (bI a i n s0 k).1 y).2).length ≤ 1099511627775 := by omega
                (repeat refine ats_seq ?_); refine ats_go (by first | exact fix0 hcx | exact fix1 hcx rfl) fun K hK => ?_; simp only [go_sem, seval]; (repeat refine And.intro (by first | omega | (intro hq; first | omega | (simp at hq <;> omega) | (simp_all <;> omega))) ?_); refine hK _ ?_; clear hK K
                (repeat refine ats_seq ?_); refine ats_go (by first | exact fix0 hcx | exact fix1 hcx rfl) fun K hK => ?_; simp only [go_sem, seval]; (repeat refine And.intro (by first | omega | (intro hq; first | omega | (simp at hq <;> omega) | (simp_all <;> omega))) ?_); refine hK _ ?_; clear hK K
                (repeat refine ats_seq ?_); refine ats_go (by first | exact fix0 hcx | exact fix1 hcx rfl) fun K hK => ?_; simp only [go_sem, seval]; (repeat refine And.intro (by first | omega | (intro hq; first | omega | (simp at hq <;> omega) | (simp_all <;> omega))) ?_); refine hK _ ?_; clear hK K
                refine ⟨y + 1, by omega, by omega, .inr ⟨[3], by simp only [killL, List.map_cons, List.map_nil, killA, killAs, qOf, rmT, killH, killT, List.filter_cons, List.filter_nil, List.contains_cons, List.contains_nil, SlotsLe, St.get, slotGet, Nat.reduceEqDiff, Nat.reduceBEq, Bool.or_false, Bool.or_true, Bool.false_and, Bool.not_true, Bool.not_false, Bool.false_eq_true, ↓reduceIte, if_true, if_false, AV.int.injEq, AV.bool.injEq, AV.l1.injEq, AV.l2.injEq, AV.l3.injEq, true_and, and_true]; omega, by simp only [killL, List.map_cons, List.map_nil, killA, killAs, qOf, rmT, killH, killT, List.filter_cons, List.filter_nil, List.contains_cons, List.contains_nil, SlotsLe, St.get, slotGet, Nat.reduceEqDiff, Nat.reduceBEq, Bool.or_false, Bool.or_true, Bool.false_and, Bool.not_true, Bool.not_false, Bool.false_eq_true, ↓reduceIte, if_true, if_false, AV.int.injEq, AV.bool.injEq, AV.l1.injEq, AV.l2.injEq, AV.l3.injEq, true_and, and_true]; rw [e3, ← List.append_assoc]⟩⟩
              · have c : ¬ ((yS a w n (bI a i n s0 k).1 y).1.getD y 0 < 0 ∧ jn a w y = true) := by simpa using hc8
                have e3 := yS_no c
                refine ats_skip ?_
                (repeat refine ats_seq ?_); refine ats_go (by first | exact fix0 hcx | exact fix1 hcx rfl) fun K hK => ?_; simp only [go_sem, seval]; (repeat refine And.intro (by first | omega | (intro hq; first | omega | (simp at hq <;> omega) | (simp_all <;> omega))) ?_); refine hK _ ?_; clear hK K
                refine ⟨y + 1,  by omega, by omega, .inl ⟨by simp only [SlotsLe, St.get, slotGet, Nat.reduceEqDiff, ↓reduceIte, AV.int.injEq, AV.bool.injEq, AV.l1.injEq, AV.l2.injEq, AV.l3.injEq, true_and, and_true]; omega,  by rw [e3]⟩⟩
            · obtain rfl : y = i := by omega
              refine ats_exit (lq_x ?_)
              (repeat refine ats_seq ?_); refine ats_go (by first | exact fix0 hcx | exact fix1 hcx rfl) fun K hK => ?_; simp only [go_sem, seval]; (repeat refine And.intro (by first | omega | (intro hq; first | omega | (simp at hq <;> omega) | (simp_all <;> omega))) ?_); refine hK _ ?_; clear hK K
              refine ⟨k + 1, fun j hj => ?_, ?_, .inl ⟨?_, ?_⟩⟩
              · rcases Nat.lt_succ_iff_lt_or_eq.1 hj with h | rfl
                · exact hz1 j h
                · rw [e]; simp
              · show mu (bI a y n s0 (k + 1)) < mu (bI a y n s0 k)
                rw [bI]; omega
              · simp only [SlotsLe, St.get, slotGet, Nat.reduceEqDiff, ↓reduceIte, AV.int.injEq, AV.bool.injEq, AV.l1.injEq, AV.l2.injEq, AV.l3.injEq, true_and, and_true]
                omega
              · rw [hs, q3]
        · have e : (bI a i n s0 k).2 = [] := by
            have := congrArg List.length qo.1
            rw [List.length_drop] at this
            exact List.eq_nil_of_length_eq_zero (by omega)
          have hy := hYes k e
          refine ats_exit (lq_x ?_)
          (repeat refine ats_seq ?_); refine ats_go (by first | exact fix0 hcx | exact fix1 hcx rfl) fun K hK => ?_; simp only [go_sem, seval]; (repeat refine And.intro (by first | omega | (intro hq; first | omega | (simp at hq <;> omega) | (simp_all <;> omega))) ?_); refine hK _ ?_; clear hK K
          (repeat refine ats_seq ?_); refine ats_go (by first | exact fix0 hcx | exact fix1 hcx rfl) fun K hK => ?_; simp only [go_sem, seval]; (repeat refine And.intro (by first | omega | (intro hq; first | omega | (simp at hq <;> omega) | (simp_all <;> omega))) ?_); refine hK _ ?_; clear hK K
          refine ⟨x + 1, by omega, by omega, .inr ⟨[2], by simp only [killL, List.map_cons, List.map_nil, killA, killAs, qOf, rmT, killH, killT, List.filter_cons, List.filter_nil, List.contains_cons, List.contains_nil, SlotsLe, St.get, slotGet, Nat.reduceEqDiff, Nat.reduceBEq, Bool.or_false, Bool.or_true, Bool.false_and, Bool.not_true, Bool.not_false, Bool.false_eq_true, ↓reduceIte, if_true, if_false, AV.int.injEq, AV.bool.injEq, AV.l1.injEq, AV.l2.injEq, AV.l3.injEq, true_and, and_true]; exact ⟨by rw [hy], by omega⟩, by simp only [killL, List.map_cons, List.map_nil, killA, killAs, qOf, rmT, killH, killT, List.filter_cons, List.filter_nil, List.contains_cons, List.contains_nil, SlotsLe, St.get, slotGet, Nat.reduceEqDiff, Nat.reduceBEq, Bool.or_false, Bool.or_true, Bool.false_and, Bool.not_true, Bool.not_false, Bool.false_eq_true, ↓reduceIte, if_true, if_false, AV.int.injEq, AV.bool.injEq, AV.l1.injEq, AV.l2.injEq, AV.l3.injEq, true_and, and_true]; rw [hy]⟩⟩
    · obtain rfl : x = i := by omega
      refine ats_exit (lq_x ?_)
      (repeat refine ats_seq ?_); refine ats_go (by first | exact fix0 hcx | exact fix1 hcx rfl) fun K hK => ?_; simp only [go_sem, seval]; (repeat refine And.intro (by first | omega | (intro hq; first | omega | (simp at hq <;> omega) | (simp_all <;> omega))) ?_); refine hK _ ?_; clear hK K
      exact ats_ret (finV rfl ⟨rfl, trivial⟩ rfl)
end Go.Proofs.Ytdlmmmklahajgaa
