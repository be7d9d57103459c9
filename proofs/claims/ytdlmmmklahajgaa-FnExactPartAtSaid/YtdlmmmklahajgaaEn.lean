/-
  The program's parts of an action.
-/
import Derived.Test.YtdlmmmklahajgaaEm
set_option linter.unusedSimpArgs false
set_option linter.unusedVariables false
namespace Go.Proofs.Ytdlmmmklahajgaa
open Go Go.Aw Go.Pl

set_option maxHeartbeats 8000000 in
theorem partsOf_ok (a : List (List (List Int))) (m : Nat) (em : (a.getD 0 []).length = m) (hm : ∀ i, i < a.length → MatOk m (a.getD i [])) (h1 : 1 ≤ m) (h16 : m ≤ 16) (ha : 0 < a.length) (ha16 : a.length ≤ 16) :
    FreshCall Try.prog 40 [.agg [.l3 a]] (.l1 (partsL a)) := by
  have hp := points_ok a ha
  have hr := repeat_ok m h1 h16
  have hj : ∀ x y : Nat, x < m → y < m → PureCall Try.prog 58 [.agg [.l3 a], .int x, .int y] (.bool (jn a x y)) := fun x y hx hy => isJoined_ok a x y (fun i hi => ⟨by rw [(hm i hi).1]; exact hx, by rw [(hm i hi).row hx]; exact hy⟩)
  rw [em] at hp
  unfold partsL
  rw [em]
  refine FreshCall.intro (n := 64) (rs := [.tmp 2]) Try.call40 Try.func40 rfl rfl rfl (by simp only [List.length_cons, List.length_nil]; omega) (fun cx hcx => ats_of ?_); simp only [argSlots, Nat.zero_add, Nat.reduceAdd]
  (repeat refine ats_seq ?_); refine ats_go (by first | exact fix0 hcx | exact fix1 hcx rfl) fun K hK => ?_; simp only [go_sem, seval]; (repeat refine And.intro (by first | omega | (intro hq; first | omega | (simp at hq <;> omega) | (simp_all <;> omega))) ?_); refine hK _ ?_; clear hK K
  (repeat refine ats_seq ?_); refine ats_go (by first | exact fix0 hcx | exact fix1 hcx rfl) fun K hK => ?_; simp only [go_sem, seval]
  (repeat refine And.intro (by first | omega | (intro hq; first | omega | (simp at hq <;> omega) | (simp_all <;> omega))) ?_)
  first | refine fcall_data (hp) rfl ?_ | refine YR_intro (acall_data (hp) rfl) ?_
  simp only [go_sem, seval]
  (repeat refine And.intro (by first | omega | (intro hq; first | omega | (simp at hq <;> omega) | (simp_all <;> omega))) ?_)
  refine fcall_own rfl (hr) rfl ?_; simp only [go_sem, seval]
  (repeat refine And.intro (by first | omega | (intro hq; first | omega | (simp at hq <;> omega) | (simp_all <;> omega))) ?_)
  refine hK _ ?_; clear hK K
  (repeat refine ats_seq ?_); refine ats_go (by first | exact fix0 hcx | exact fix1 hcx rfl) fun K hK => ?_; simp only [go_sem, seval]; (repeat refine And.intro (by first | omega | (intro hq; first | omega | (simp at hq <;> omega) | (simp_all <;> omega))) ?_); refine hK _ ?_; clear hK K
  simp only [List.length_replicate]
  (repeat refine ats_seq ?_); refine ats_loop (fun x : Nat => ⟨[(1, .bptr 0 0), (3, .ref 2 []), (4, .int (pS a m x).2), (13, .int m), (14, .int x)], [(2, .t1 (pS a m x).1), (0, .bx [.l3 a]), (1, .t1 [-1])]⟩) (fun x => x ≤ m) (fun x => m - x) 0 (Nat.zero_le _) (by
    refine And.intro ?_ rfl; simp only [SlotsLe, St.get, slotGet, Nat.reduceEqDiff, ↓reduceIte, AV.int.injEq, AV.bool.injEq, AV.l1.injEq, AV.l2.injEq, AV.l3.injEq, true_and, and_true]
    exact ⟨rfl, rfl⟩) (fun x hx => ?_)
  obtain ⟨hP, hn0, hnx⟩ := pS_ok (a := a) (m := m) x hx
  have lP := hP.len
  (repeat refine ats_seq ?_); refine ats_go (by first | exact fix0 hcx | exact fix1 hcx rfl) fun K hK => ?_; simp only [go_sem, seval]; (repeat refine And.intro (by first | omega | (intro hq; first | omega | (simp at hq <;> omega) | (simp_all <;> omega))) ?_); refine hK _ ?_; clear hK K
  (repeat refine ats_seq ?_); first | refine ats_ifn (p := _) rfl trivial (fun hc2 => ?_) (fun hc2 => ?_) | refine ats_ifp (p := _) rfl trivial (fun hc2 => ?_) (fun hc2 => ?_) | refine ats_cond rfl trivial (fun hc2 => ?_) (fun hc2 => ?_)
  · have hxb := hP.bd x (by omega)
    refine ats_skip ?_
    (repeat refine ats_seq ?_); refine ats_block ?_
    (repeat refine ats_seq ?_); refine ats_go (by first | exact fix0 hcx | exact fix1 hcx rfl) fun K hK => ?_; simp only [go_sem, seval]; (repeat refine And.intro (by first | omega | (intro hq; first | omega | (simp at hq <;> omega) | (simp_all <;> omega))) ?_); refine hK _ ?_; clear hK K
    (repeat refine ats_seq ?_); refine ats_go (by first | exact fix0 hcx | exact fix1 hcx rfl) fun K hK => ?_; simp only [go_sem, seval]; (repeat refine And.intro (by first | omega | (intro hq; first | omega | (simp at hq <;> omega) | (simp_all <;> omega))) ?_); refine hK _ ?_; clear hK K
    (repeat refine ats_seq ?_); first | refine ats_ifn (p := _) rfl trivial (fun hc3 => ?_) (fun hc3 => ?_) | refine ats_ifp (p := _) rfl trivial (fun hc3 => ?_) (fun hc3 => ?_) | refine ats_cond rfl trivial (fun hc3 => ?_) (fun hc3 => ?_)
    · have e2 := pS_no (a := a) (m := m) (x := x) (by omega)
      refine ats_exit (bq_x ?_)
      (repeat refine ats_seq ?_); refine ats_go (by first | exact fix0 hcx | exact fix1 hcx rfl) fun K hK => ?_; simp only [go_sem, seval]; (repeat refine And.intro (by first | omega | (intro hq; first | omega | (simp at hq <;> omega) | (simp_all <;> omega))) ?_); refine hK _ ?_; clear hK K
      refine ⟨x + 1,  by omega, by omega, .inl ⟨by simp only [SlotsLe, St.get, slotGet, Nat.reduceEqDiff, ↓reduceIte, AV.int.injEq, AV.bool.injEq, AV.l1.injEq, AV.l2.injEq, AV.l3.injEq, true_and, and_true]; exact ⟨by rw [e2], by omega⟩,  by rw [e2]⟩⟩
    · obtain ⟨hB, hmu⟩ := pS_st (show x < m by omega) hP hn0 (by omega)
      have hYes := fun k => pS_yes (k := k) (show x < m by omega) hP hn0 (by omega)
      obtain ⟨n, en⟩ : ∃ n, (pS a m x).2 = n := ⟨_, rfl⟩
      obtain ⟨s0, es0⟩ : ∃ s0, ((pS a m x).1.set x n, [(x : Int)]) = s0 := ⟨_, rfl⟩
      rw [en] at hB hmu hn0 hnx hP hxb hYes ⊢
      rw [es0] at hB hmu hYes
      refine ats_skip ?_
      (repeat refine ats_seq ?_); refine ats_go (by first | exact fix0 hcx | exact fix1 hcx rfl) fun K hK => ?_; simp only [go_sem, seval]; (repeat refine And.intro (by first | omega | (intro hq; first | omega | (simp at hq <;> omega) | (simp_all <;> omega))) ?_); refine hK _ ?_; clear hK K
      (repeat refine ats_seq ?_); refine ats_go (by first | exact fix0 hcx | exact fix1 hcx rfl) fun K hK => ?_; simp only [go_sem, seval]; (repeat refine And.intro (by first | omega | (intro hq; first | omega | (simp at hq <;> omega) | (simp_all <;> omega))) ?_); refine hK _ ?_; clear hK K
      refine ats_part 6 3 rfl rfl ?_
      (repeat refine ats_seq ?_); refine ats_loop (fun z : Nat × List Int × Nat => ⟨[(1, .bptr 0 0), (3, .ref 2 []), (4, .int n), (6, .sub 3 [] z.2.2 z.2.1.length), (13, .int m), (14, .int x)], [(2, .t1 (bI a m n s0 z.1).1), (0, .bx [.l3 a]), (1, .t1 [-1]), (3, .t1 z.2.1)]⟩) (fun z => (∀ j, j < z.1 → (bI a m n s0 j).2 ≠ []) ∧ z.2.1.drop z.2.2 = (bI a m n s0 z.1).2 ∧ z.2.2 ≤ z.2.1.length) (fun z => mu (bI a m n s0 z.1)) (0, [(x : Int)], 0) ⟨fun j hj => absurd hj (Nat.not_lt_zero j), by subst es0; rfl, Nat.zero_le _⟩ (by
        subst es0
        refine And.intro ?_ rfl; simp only [SlotsLe, St.get, slotGet, Nat.reduceEqDiff, ↓reduceIte, AV.int.injEq, AV.bool.injEq, AV.l1.injEq, AV.l2.injEq, AV.l3.injEq, true_and, and_true]
        done) (fun z hz => ?_)
      obtain ⟨k, F, lo⟩ := z
      dsimp only at hz ⊢
      obtain ⟨hz1, hz2, hz3⟩ := hz
      obtain ⟨hBk, hmuk⟩ := bI_ok (a := a) hB hn0 k
      have hmuk := hmuk hz1
      have lF : F.length - lo = (bI a m n s0 k).2.length := by rw [← hz2, List.length_drop]
      have lPk := hBk.p.len
      have lm : (bI a m n s0 k).2.length ≤ m := by unfold mu at hmuk hmu; omega
      (repeat refine ats_seq ?_); refine ats_go (by first | exact fix0 hcx | exact fix1 hcx rfl) fun K hK => ?_; simp only [go_sem, seval]; (repeat refine And.intro (by first | omega | (intro hq; first | omega | (simp at hq <;> omega) | (simp_all <;> omega))) ?_); refine hK _ ?_; clear hK K
      (repeat refine ats_seq ?_); first | refine ats_ifn (p := _) rfl trivial (fun hc4 => ?_) (fun hc4 => ?_) | refine ats_ifp (p := _) rfl trivial (fun hc4 => ?_) (fun hc4 => ?_) | refine ats_cond rfl trivial (fun hc4 => ?_) (fun hc4 => ?_)
      · cases e : (bI a m n s0 k).2 with
        | nil => exfalso; rw [e, List.length_nil] at lF; omega
        | cons u L =>
          have hu := hBk.q 0 (by rw [e]; simp)
          rw [e, List.getD_cons_zero] at hu
          obtain ⟨w, rfl⟩ : ∃ w : Nat, u = w := ⟨u.toNat, by omega⟩
          have hs := bI_succ e
          rw [Int.toNat_natCast] at hs
          rw [e] at hz2
          have hmd := (bS_ok (a := a) hBk hn0).2 (by rw [e]; simp)
          refine ats_skip ?_
          (repeat refine ats_seq ?_); refine ats_block ?_
          (repeat refine ats_seq ?_); refine ats_go (by first | exact fix0 hcx | exact fix1 hcx rfl) fun K hK => ?_; simp only [go_sem, seval]; (repeat refine And.intro (by first | omega | (intro hq; first | omega | (simp at hq <;> omega) | (simp_all <;> omega))) ?_); refine hK _ ?_; clear hK K
          (repeat refine ats_seq ?_); refine ats_loop (fun z : Nat × List Int × Nat => ⟨[(1, .bptr 0 0), (3, .ref 2 []), (4, .int n), (6, .sub 3 [] z.2.2 z.2.1.length), (13, .int m), (14, .int x), (34, .int m), (35, .int z.1)], [(2, .t1 (yS a w n (bI a m n s0 k).1 z.1).1), (0, .bx [.l3 a]), (1, .t1 [-1]), (3, .t1 z.2.1)]⟩) (fun z => z.1 ≤ m ∧ z.2.1.drop z.2.2 = ((w : Int) :: L) ++ (yS a w n (bI a m n s0 k).1 z.1).2 ∧ z.2.2 ≤ z.2.1.length) (fun z => m - z.1) (0, F, lo) ⟨Nat.zero_le _, by rw [hz2]; simp [yS], hz3⟩ (by
            refine And.intro ?_ rfl; simp only [SlotsLe, St.get, slotGet, Nat.reduceEqDiff, ↓reduceIte, AV.int.injEq, AV.bool.injEq, AV.l1.injEq, AV.l2.injEq, AV.l3.injEq, true_and, and_true]
            exact ⟨by omega, rfl⟩) (fun z hz => ?_)
          obtain ⟨y, G, l2⟩ := z
          dsimp only at hz ⊢
          obtain ⟨hy1, hy2, hy3⟩ := hz
          obtain ⟨o1, o2, o3⟩ := yS_ok (a := a) (u := w) hBk.p hn0 y hy1
          have ly := o1.len
          have hG : G.length - l2 = L.length + 1 + (yS a w n (bI a m n s0 k).1 y).2.length := by
            have := congrArg List.length hy2
            simp only [List.length_drop, List.length_append, List.length_cons] at this
            omega
          have hG0 : G.getD l2 0 = w := by
            have := congrArg (fun l => l.getD 0 0) hy2
            simpa [List.getD, List.getElem?_drop] using this
          (repeat refine ats_seq ?_); refine ats_go (by first | exact fix0 hcx | exact fix1 hcx rfl) fun K hK => ?_; simp only [go_sem, seval]; (repeat refine And.intro (by first | omega | (intro hq; first | omega | (simp at hq <;> omega) | (simp_all <;> omega))) ?_); refine hK _ ?_; clear hK K
          (repeat refine ats_seq ?_); first | refine ats_ifn (p := _) rfl trivial (fun hc7 => ?_) (fun hc7 => ?_) | refine ats_ifp (p := _) rfl trivial (fun hc7 => ?_) (fun hc7 => ?_) | refine ats_cond rfl trivial (fun hc7 => ?_) (fun hc7 => ?_)
          · have hjj := hj w y (by omega) (by omega)
            have hyb := o1.bd y (by omega)
            refine ats_skip ?_
            (repeat refine ats_seq ?_); refine ats_block ?_
            (repeat refine ats_seq ?_); refine ats_go (by first | exact fix0 hcx | exact fix1 hcx rfl) fun K hK => ?_; simp only [go_sem, seval]; (repeat refine And.intro (by first | omega | (intro hq; first | omega | (simp at hq <;> omega) | (simp_all <;> omega))) ?_); refine hK _ ?_; clear hK K
            (repeat refine ats_seq ?_); refine ats_pick (fix0 hcx) mixed (by kernel_rfl) fun K hK => ?_; simp only [go_sem, seval]
            simp only [hG0]
            (repeat refine And.intro (by first | omega | (intro hq; first | omega | (simp at hq <;> omega) | (simp_all <;> omega))) ?_)
            first | refine YR_intro (fun _ => acall_data (hjj) rfl) ?_ | refine YR_intro (acall_data (hjj) rfl) ?_
            simp only [go_sem, seval]
            (repeat refine And.intro (by first | omega | (intro hq; first | omega | (simp at hq <;> omega) | (simp_all <;> omega))) ?_)
            refine hK _ ?_; clear hK K
            (repeat refine ats_seq ?_); first | refine ats_ifn (p := _) rfl trivial (fun hc8 => ?_) (fun hc8 => ?_) | refine ats_ifp (p := _) rfl trivial (fun hc8 => ?_) (fun hc8 => ?_) | refine ats_cond rfl trivial (fun hc8 => ?_) (fun hc8 => ?_)
            · have c : (yS a w n (bI a m n s0 k).1 y).1.getD y 0 < 0 ∧ jn a w y = true := by simpa using hc8
              have e3 := yS_yes c
              have et : (List.take G.length G).drop l2 = G.drop l2 := by rw [List.take_length]
              have hbd : L.length + 1 + (yS a w n (bI a m n s0 k).1 y).2.length ≤ m := by
                have h2 : mu (bI a m n s0 k) ≤ m := by omega
                unfold mu at h2
                rw [e, List.length_cons] at h2
                omega
              have hbl : (G.drop l2).length ≤ 1099511627775 := by rw [List.length_drop]; omega
              (repeat refine ats_seq ?_); refine ats_go (by first | exact fix0 hcx | exact fix1 hcx rfl) fun K hK => ?_; simp only [go_sem, seval]; (repeat refine And.intro (by first | omega | (intro hq; first | omega | (simp at hq <;> omega) | (simp_all <;> omega))) ?_); refine hK _ ?_; clear hK K
              (repeat refine ats_seq ?_); refine ats_go (by first | exact fix0 hcx | exact fix1 hcx rfl) fun K hK => ?_; simp only [go_sem, seval]
              simp only [et]
              (repeat refine And.intro (by first | omega | (intro hq; first | omega | (simp at hq <;> omega) | (simp_all <;> omega))) ?_)
              refine hK _ ?_; clear hK K
              refine ats_part 6 3 rfl rfl ?_
              (repeat refine ats_seq ?_); refine ats_go (by first | exact fix0 hcx | exact fix1 hcx rfl) fun K hK => ?_; simp only [go_sem, seval]; (repeat refine And.intro (by first | omega | (intro hq; first | omega | (simp at hq <;> omega) | (simp_all <;> omega))) ?_); refine hK _ ?_; clear hK K
              refine ⟨(y + 1, G.drop l2 ++ [(y : Int)], 0), ⟨by show y + 1 ≤ m; omega, by rw [List.drop_zero, hy2, e3]; simp, Nat.zero_le _⟩, by show m - (y + 1) < m - y; omega, .inr ⟨[4], ?_, ?_⟩⟩
              · simp only [killL, List.map_cons, List.map_nil, killA, killAs, qOf, rmT, killH, killT, List.filter_cons, List.filter_nil, List.contains_cons, List.contains_nil, SlotsLe, St.get, slotGet, Nat.reduceEqDiff, Nat.reduceBEq, Bool.or_false, Bool.or_true, Bool.false_and, Bool.not_true, Bool.not_false, Bool.false_eq_true, ↓reduceIte, if_true, if_false, AV.int.injEq, AV.bool.injEq, AV.l1.injEq, AV.l2.injEq, AV.l3.injEq, true_and, and_true]
                omega
              · simp only [killL, List.map_cons, List.map_nil, killA, killAs, qOf, rmT, killH, killT, List.filter_cons, List.filter_nil, List.contains_cons, List.contains_nil, SlotsLe, St.get, slotGet, Nat.reduceEqDiff, Nat.reduceBEq, Bool.or_false, Bool.or_true, Bool.false_and, Bool.not_true, Bool.not_false, Bool.false_eq_true, ↓reduceIte, if_true, if_false, AV.int.injEq, AV.bool.injEq, AV.l1.injEq, AV.l2.injEq, AV.l3.injEq, true_and, and_true]
                rw [e3]
            · have c : ¬ ((yS a w n (bI a m n s0 k).1 y).1.getD y 0 < 0 ∧ jn a w y = true) := by simpa using hc8
              have e3 := yS_no c
              refine ats_skip ?_
              (repeat refine ats_seq ?_); refine ats_go (by first | exact fix0 hcx | exact fix1 hcx rfl) fun K hK => ?_; simp only [go_sem, seval]; (repeat refine And.intro (by first | omega | (intro hq; first | omega | (simp at hq <;> omega) | (simp_all <;> omega))) ?_); refine hK _ ?_; clear hK K
              refine ⟨(y + 1, G, l2), ⟨by show y + 1 ≤ m; omega, by rw [e3]; exact hy2, hy3⟩, by show m - (y + 1) < m - y; omega, .inl ⟨?_, ?_⟩⟩
              · simp only [SlotsLe, St.get, slotGet, Nat.reduceEqDiff, ↓reduceIte, AV.int.injEq, AV.bool.injEq, AV.l1.injEq, AV.l2.injEq, AV.l3.injEq, true_and, and_true]
                omega
              · rw [e3]
          · obtain rfl : y = m := by omega
            refine ats_exit (lq_x ?_)
            (repeat refine ats_seq ?_); refine ats_go (by first | exact fix0 hcx | exact fix1 hcx rfl) fun K hK => ?_; simp only [go_sem, seval]; (repeat refine And.intro (by first | omega | (intro hq; first | omega | (simp at hq <;> omega) | (simp_all <;> omega))) ?_); refine hK _ ?_; clear hK K
            have hd : G.drop (l2 + 1) = L ++ (yS a w n (bI a y n s0 k).1 y).2 := by
              rw [← List.drop_drop, hy2]; rfl
            refine ⟨(k + 1, G, l2 + 1), ⟨fun j hj => ?_, ?_, ?_⟩, ?_, .inl ⟨?_, ?_⟩⟩
            · rcases Nat.lt_succ_iff_lt_or_eq.1 hj with h | rfl
              · exact hz1 j h
              · rw [e]; simp
            · rw [hs]; exact hd
            · show l2 + 1 ≤ G.length; omega
            · show mu (bI a y n s0 (k + 1)) < mu (bI a y n s0 k)
              rw [bI]; omega
            · simp only [SlotsLe, St.get, slotGet, Nat.reduceEqDiff, ↓reduceIte, AV.int.injEq, AV.bool.injEq, AV.l1.injEq, AV.l2.injEq, AV.l3.injEq, true_and, and_true]
              done
            · rw [hs]
      · have e : (bI a m n s0 k).2 = [] := List.eq_nil_of_length_eq_zero (by omega)
        have hy := hYes k e
        refine ats_exit (lq_x ?_)
        (repeat refine ats_seq ?_); refine ats_go (by first | exact fix0 hcx | exact fix1 hcx rfl) fun K hK => ?_; simp only [go_sem, seval]; (repeat refine And.intro (by first | omega | (intro hq; first | omega | (simp at hq <;> omega) | (simp_all <;> omega))) ?_); refine hK _ ?_; clear hK K
        (repeat refine ats_seq ?_); refine ats_go (by first | exact fix0 hcx | exact fix1 hcx rfl) fun K hK => ?_; simp only [go_sem, seval]; (repeat refine And.intro (by first | omega | (intro hq; first | omega | (simp at hq <;> omega) | (simp_all <;> omega))) ?_); refine hK _ ?_; clear hK K
        refine ⟨x + 1, by omega, by omega, .inr ⟨[3], by simp only [killL, List.map_cons, List.map_nil, killA, killAs, qOf, rmT, killH, killT, List.filter_cons, List.filter_nil, List.contains_cons, List.contains_nil, SlotsLe, St.get, slotGet, Nat.reduceEqDiff, Nat.reduceBEq, Bool.or_false, Bool.or_true, Bool.false_and, Bool.not_true, Bool.not_false, Bool.false_eq_true, ↓reduceIte, if_true, if_false, AV.int.injEq, AV.bool.injEq, AV.l1.injEq, AV.l2.injEq, AV.l3.injEq, true_and, and_true]; exact ⟨by rw [hy], by omega⟩, by simp only [killL, List.map_cons, List.map_nil, killA, killAs, qOf, rmT, killH, killT, List.filter_cons, List.filter_nil, List.contains_cons, List.contains_nil, SlotsLe, St.get, slotGet, Nat.reduceEqDiff, Nat.reduceBEq, Bool.or_false, Bool.or_true, Bool.false_and, Bool.not_true, Bool.not_false, Bool.false_eq_true, ↓reduceIte, if_true, if_false, AV.int.injEq, AV.bool.injEq, AV.l1.injEq, AV.l2.injEq, AV.l3.injEq, true_and, and_true]; rw [hy]⟩⟩
  · obtain rfl : x = m := by omega
    refine ats_exit (lq_x ?_)
    (repeat refine ats_seq ?_); refine ats_go (by first | exact fix0 hcx | exact fix1 hcx rfl) fun K hK => ?_; simp only [go_sem, seval]; (repeat refine And.intro (by first | omega | (intro hq; first | omega | (simp at hq <;> omega) | (simp_all <;> omega))) ?_); refine hK _ ?_; clear hK K
    exact ats_ret (ownV rfl ⟨rfl, trivial⟩ rfl (by simp))
end Go.Proofs.Ytdlmmmklahajgaa
