/-
  SumOfActions.
-/
import Derived.Test.YtdlmmmklahajgaaPlQ
import Derived.Test.YtdlmmmklahajgaaWo
import Derived.Test.YtdlmmmklahajgaaDr
import Derived.Test.YtdlmmmklahajgaaDs
set_option linter.unusedSimpArgs false
set_option linter.unusedVariables false
namespace Go.Proofs.Ytdlmmmklahajgaa
open Go Go.Aw Go.Pl

set_option maxHeartbeats 8000000 in
theorem implSm_ok (t a b : List (List (List Int))) : FreshCall Try.prog 12 [.agg [.l3 t], .agg [.l3 a], .agg [.l3 b]] (smA t a b) := by
  have ha := IsAction_ok t a
  have hb := IsAction_ok t b
  unfold smA
  refine FreshCall.intro (n := 99) (rs := [.cell 6 29, .tmp 7]) Try.call12 Try.func12 rfl rfl rfl (by simp only [List.length_cons, List.length_nil]; omega) (fun cx hcx => ats_of ?_); simp only [argSlots, Nat.zero_add, Nat.reduceAdd]
  (repeat refine ats_seq ?_); refine ats_go (by first | exact fix0 hcx | exact fix1 hcx rfl) fun K hK => ?_; simp only [go_sem, seval]; refine hK _ ?_; clear hK K
  (repeat refine ats_seq ?_); refine ats_go (by first | exact fix0 hcx | exact fix1 hcx rfl) fun K hK => ?_; simp only [go_sem, seval]
  first | refine fcall_free rfl rfl (ha) ?_ | refine YR_intro (acall_free rfl rfl (ha)) ?_
  simp only [go_sem, seval]
  first | refine YR_intro (fun _ => acall_free rfl rfl (hb)) ?_ | refine YR_intro (acall_free rfl rfl (hb)) ?_
  simp only [go_sem, seval]
  refine hK _ ?_; clear hK K
  (repeat refine ats_seq ?_); first | refine ats_ifn (p := _) rfl trivial (fun hc1 => ?_) (fun hc1 => ?_) | refine ats_ifp (p := _) rfl trivial (fun hc1 => ?_) (fun hc1 => ?_) | refine ats_cond rfl trivial (fun hc1 => ?_) (fun hc1 => ?_)
  · have e : ¬ (isAct t a = true ∧ isAct t b = true) := fun hh => by rw [hh.1, hh.2] at hc1; cases hc1
    (repeat refine ats_seq ?_); refine ats_go (by first | exact fix0 hcx | exact fix1 hcx rfl) fun K hK => ?_; simp only [go_sem, seval]; refine hK _ ?_; clear hK K
    rw [if_neg e]
    exact ats_ret (own2C (v := .agg [.nil]) (by simp only [go_sem, seval]) trivial rfl (by simp))
  · simp only [Bool.or_eq_false_iff, Bool.not_eq_false'] at hc1
    have fa := isAct_fam hc1.1
    have fb := isAct_fam hc1.2
    have h16 := (isAct_ring hc1.1).1.2.1
    have la := fa.1
    have lb := fb.1
    have h1 := (isAct_ring hc1.1).1.1
    have hpa := points_ok a (by omega)
    have hpb := points_ok b (by omega)
    have pa := fa.2.2.2.1
    have pb := fb.2.2.2.1
    rw [if_pos hc1]
    obtain ⟨p, ep⟩ : ∃ p, (a.getD 0 []).length = p := ⟨_, rfl⟩
    obtain ⟨q, eq⟩ : ∃ p, (b.getD 0 []).length = p := ⟨_, rfl⟩
    have ma : ∀ i, i < a.length → MatOk p (a.getD i []) := fun i hi => by have := fa.2.2.2.2 i hi; rwa [ep] at this
    have mb : ∀ i, i < b.length → MatOk q (b.getD i []) := fun i hi => by have := fb.2.2.2.2 i hi; rwa [eq] at this
    rw [ep] at hpa pa ⊢
    rw [eq] at hpb pb ⊢
    refine ats_skip ?_
    (repeat refine ats_seq ?_); refine ats_pick (fix0 hcx) mixed (by kernel_rfl) fun K hK => ?_; simp only [go_sem, seval]
    first | refine fcall_data (hpa) rfl ?_ | refine YR_intro (acall_data (hpa) rfl) ?_
    simp only [go_sem, seval]
    first | refine fcall_data (hpb) rfl ?_ | refine YR_intro (acall_data (hpb) rfl) ?_
    simp only [go_sem, seval]
    refine hK _ ?_; clear hK K
    (repeat refine ats_seq ?_); refine ats_go (by first | exact fix0 hcx | exact fix1 hcx rfl) fun K hK => ?_; simp only [go_sem, seval]; (repeat refine And.intro (by first | omega | (intro hq; first | omega | (simp at hq <;> omega) | (simp_all <;> omega))) ?_); refine hK _ ?_; clear hK K
    (repeat refine ats_seq ?_); first | refine ats_ifn (p := _) rfl trivial (fun hc2 => ?_) (fun hc2 => ?_) | refine ats_ifp (p := _) rfl trivial (fun hc2 => ?_) (fun hc2 => ?_) | refine ats_cond rfl trivial (fun hc2 => ?_) (fun hc2 => ?_)
    · have e : ¬ (p + q ≤ 16) := by omega
      (repeat refine ats_seq ?_); refine ats_go (by first | exact fix0 hcx | exact fix1 hcx rfl) fun K hK => ?_; simp only [go_sem, seval]; refine hK _ ?_; clear hK K
      rw [if_neg e]
      exact ats_ret (own2C (v := .agg [.nil]) (by simp only [go_sem, seval]) trivial rfl (by simp))
    · have e : p + q ≤ 16 := by omega
      rw [if_pos e]
      have hz := zeros_ok (p + q) (p + q) (by omega) (by omega)
      rw [Int.natCast_add] at hz
      refine ats_skip ?_
      (repeat refine ats_seq ?_); refine ats_go (by first | exact fix0 hcx | exact fix1 hcx rfl) fun K hK => ?_; simp only [go_sem, seval]; refine hK _ ?_; clear hK K
      (repeat refine ats_seq ?_); refine ats_go (by first | exact fix0 hcx | exact fix1 hcx rfl) fun K hK => ?_; simp only [go_sem, seval]; refine hK _ ?_; clear hK K
      (repeat refine ats_seq ?_)
      refine ats_loop (fun o : Option Nat => match o with
        | none => ⟨[(4, .bptr 1 0), (5, .bptr 2 0), (6, .bptr 3 0), (8, .int p), (9, .int q), (10, .bptr 4 0), (40, .int a.length), (41, .int 0)], [(0, .bx [.l3 t]), (1, .bx [.l3 a]), (2, .bx [.l3 b]), (3, .bx [.nil]), (4, .bx [.nil])]⟩
        | some i => ⟨[(4, .bptr 1 0), (5, .bptr 2 0), (6, .bptr 3 0), (8, .int p), (9, .int q), (10, .bptr 4 0), (40, .int a.length), (41, .int i)], [(0, .bx [.l3 t]), (1, .bx [.l3 a]), (2, .bx [.l3 b]), (3, .bx [.nil]), (4, .bx [.ref 7 []]), (7, .t3 (smL a b i))]⟩) (fun o => match o with
        | none => True
        | some i => 1 ≤ i ∧ i ≤ a.length) (fun o => match o with
        | none => a.length + 1
        | some i => a.length - i) none trivial ⟨by simp only [SlotsLe, St.get, slotGet, Nat.reduceEqDiff, ↓reduceIte, true_and, and_true], rfl⟩ (fun o ho => ?_)
      cases o with
      | none =>
        dsimp only at ho ⊢
        (repeat refine ats_seq ?_); refine ats_go (by first | exact fix0 hcx | exact fix1 hcx rfl) fun K hK => ?_; simp only [go_sem, seval]; refine hK _ ?_; clear hK K
        (repeat refine ats_seq ?_); first | refine ats_ifn (p := _) rfl trivial (fun hli => ?_) (fun hli => ?_) | refine ats_ifp (p := _) rfl trivial (fun hli => ?_) (fun hli => ?_) | refine ats_cond rfl trivial (fun hli => ?_) (fun hli => ?_)
        · have ma0 := ma 0 (by omega)
          have mb0 := mb 0 (by omega)
          have la0 := ma0.1
          have lb0 := mb0.1
          refine ats_skip ?_
          (repeat refine ats_seq ?_); refine ats_block ?_
          (repeat refine ats_seq ?_); refine ats_go (by first | exact fix0 hcx | exact fix1 hcx rfl) fun K hK => ?_; simp only [go_sem, seval]; refine hK _ ?_; clear hK K
          (repeat refine ats_seq ?_); refine ats_go (by first | exact fix0 hcx | exact fix1 hcx rfl) fun K hK => ?_; simp only [go_sem, seval]
          (repeat refine And.intro (by first | omega | (intro hq; first | omega | (simp at hq <;> omega) | (simp_all <;> omega))) ?_)
          refine fcall_own rfl (hz) rfl ?_; simp only [go_sem, seval]
          refine hK _ ?_; clear hK K
          have z0 : List.replicate (p + q) (List.replicate (p + q) (0 : Int)) = smP q (a.getD 0 []) (p + q) 0 := rfl
          rw [z0]
          (repeat refine ats_seq ?_); refine ats_go (by first | exact fix0 hcx | exact fix1 hcx rfl) fun K hK => ?_; simp only [go_sem, seval]; (repeat refine And.intro (by first | omega | (intro hq; first | omega | (simp at hq <;> omega) | (simp_all <;> omega))) ?_); refine hK _ ?_; clear hK K
          (repeat refine ats_seq ?_); refine ats_loop (fun x : Nat => ⟨[(4, .bptr 1 0), (5, .bptr 2 0), (6, .bptr 3 0), (8, .int p), (9, .int q), (10, .bptr 4 0), (11, .int 0), (12, .ref 5 []), (40, .int a.length), (41, .int 0), (55, .l2 (a.getD 0 [])), (56, .int (a.getD 0 []).length), (57, .int x)], [(5, .t2 (smP q (a.getD 0 []) (p + q) x)), (0, .bx [.l3 t]), (1, .bx [.l3 a]), (2, .bx [.l3 b]), (3, .bx [.nil]), (4, .bx [.nil])]⟩) (fun x => x ≤ p) (fun x => p - x) 0 (Nat.zero_le _) (by refine And.intro ?_ rfl; simp only [SlotsLe, St.get, slotGet, Nat.reduceEqDiff, ↓reduceIte, true_and, and_true, AV.int.injEq, AV.bool.injEq, AV.l1.injEq, AV.l2.injEq, AV.l3.injEq]; repeat' (first | rfl | omega | refine And.intro ?_ ?_)) (fun x hx => ?_)
          (repeat refine ats_seq ?_); refine ats_go (by first | exact fix0 hcx | exact fix1 hcx rfl) fun K hK => ?_; simp only [go_sem, seval]; (repeat refine And.intro (by first | omega | (intro hq; first | omega | (simp at hq <;> omega) | (simp_all <;> omega))) ?_); refine hK _ ?_; clear hK K
          (repeat refine ats_seq ?_); first | refine ats_ifn (p := _) rfl trivial (fun hlx => ?_) (fun hlx => ?_) | refine ats_ifp (p := _) rfl trivial (fun hlx => ?_) (fun hlx => ?_) | refine ats_cond rfl trivial (fun hlx => ?_) (fun hlx => ?_)
          · have hx := ma0.row (show x < p by omega)
            have lP := smP_length (q := q) (A := a.getD 0 []) (c := p + q) (x := x) (by omega) (by omega)
            have gP := smP_get (p := p) (q := q) (A := a.getD 0 []) (x := x) (by omega) (by omega)
            have sP := smP_step (p := p) (q := q) (A := a.getD 0 []) (x := x) (by omega) (by omega) hx
            refine ats_skip ?_
            (repeat refine ats_seq ?_); refine ats_block ?_
            (repeat refine ats_seq ?_); refine ats_go (by first | exact fix0 hcx | exact fix1 hcx rfl) fun K hK => ?_; simp only [go_sem, seval]; (repeat refine And.intro (by first | omega | (intro hq; first | omega | (simp at hq <;> omega) | (simp_all <;> omega))) ?_); refine hK _ ?_; clear hK K
            (repeat refine ats_seq ?_); refine ats_go (by first | exact fix0 hcx | exact fix1 hcx rfl) fun K hK => ?_; simp only [go_sem, seval]
            (repeat refine And.intro (by first | omega | (intro hq; first | omega | (simp at hq <;> omega) | (simp_all <;> omega))) ?_)
            simp only [gP, List.length_replicate, sP]
            refine hK _ ?_; clear hK K
            (repeat refine ats_seq ?_); refine ats_go (by first | exact fix0 hcx | exact fix1 hcx rfl) fun K hK => ?_; simp only [go_sem, seval]; (repeat refine And.intro (by first | omega | (intro hq; first | omega | (simp at hq <;> omega) | (simp_all <;> omega))) ?_); refine hK _ ?_; clear hK K
            refine ⟨x + 1,  by omega, by omega, .inl ⟨by simp only [SlotsLe, St.get, slotGet, Nat.reduceEqDiff, ↓reduceIte, AV.int.injEq, AV.bool.injEq, AV.l1.injEq, AV.l2.injEq, AV.l3.injEq, true_and, and_true]; omega,  rfl⟩⟩
          · obtain rfl : x = p := by omega
            rw [smP_end (B := b.getD 0 []) la0]
            refine ats_exit (lq_x ?_)
            (repeat refine ats_seq ?_); refine ats_go (by first | exact fix0 hcx | exact fix1 hcx rfl) fun K hK => ?_; simp only [go_sem, seval]; (repeat refine And.intro (by first | omega | (intro hq; first | omega | (simp at hq <;> omega) | (simp_all <;> omega))) ?_); refine hK _ ?_; clear hK K
            (repeat refine ats_seq ?_); refine ats_loop (fun y : Nat => ⟨[(4, .bptr 1 0), (5, .bptr 2 0), (6, .bptr 3 0), (8, .int x), (9, .int q), (10, .bptr 4 0), (11, .int 0), (12, .ref 5 []), (40, .int a.length), (41, .int 0), (73, .l2 (b.getD 0 [])), (74, .int (b.getD 0 []).length), (75, .int y)], [(5, .t2 (smQ x q (a.getD 0 []) (b.getD 0 []) (x + q) y)), (0, .bx [.l3 t]), (1, .bx [.l3 a]), (2, .bx [.l3 b]), (3, .bx [.nil]), (4, .bx [.nil])]⟩) (fun y => y ≤ q) (fun y => q - y) 0 (Nat.zero_le _) (by refine And.intro ?_ rfl; simp only [SlotsLe, St.get, slotGet, Nat.reduceEqDiff, ↓reduceIte, true_and, and_true, AV.int.injEq, AV.bool.injEq, AV.l1.injEq, AV.l2.injEq, AV.l3.injEq]; repeat' (first | rfl | omega | refine And.intro ?_ ?_)) (fun y hy => ?_)
            (repeat refine ats_seq ?_); refine ats_go (by first | exact fix0 hcx | exact fix1 hcx rfl) fun K hK => ?_; simp only [go_sem, seval]; (repeat refine And.intro (by first | omega | (intro hq; first | omega | (simp at hq <;> omega) | (simp_all <;> omega))) ?_); refine hK _ ?_; clear hK K
            (repeat refine ats_seq ?_); first | refine ats_ifn (p := _) rfl trivial (fun hly => ?_) (fun hly => ?_) | refine ats_ifp (p := _) rfl trivial (fun hly => ?_) (fun hly => ?_) | refine ats_cond rfl trivial (fun hly => ?_) (fun hly => ?_)
            · have hy := mb0.row (show y < q by omega)
              have lQ := smQ_length (p := x) (q := q) (A := a.getD 0 []) (B := b.getD 0 []) (y := y) la0 lb0 (by omega)
              have gQ := smQ_get (p := x) (q := q) (A := a.getD 0 []) (B := b.getD 0 []) (y := y) la0 lb0 (by omega)
              have sQ := smQ_step (p := x) (q := q) (A := a.getD 0 []) (B := b.getD 0 []) (y := y) la0 lb0 (by omega) hy
              refine ats_skip ?_
              (repeat refine ats_seq ?_); refine ats_block ?_
              (repeat refine ats_seq ?_); refine ats_go (by first | exact fix0 hcx | exact fix1 hcx rfl) fun K hK => ?_; simp only [go_sem, seval]; (repeat refine And.intro (by first | omega | (intro hq; first | omega | (simp at hq <;> omega) | (simp_all <;> omega))) ?_); refine hK _ ?_; clear hK K
              have tn : ((x : Int) + (y : Int)).toNat = x + y := by omega
              (repeat refine ats_seq ?_); refine ats_go (by first | exact fix0 hcx | exact fix1 hcx rfl) fun K hK => ?_; simp only [go_sem, seval]
              simp only [tn, gQ, List.length_replicate, sQ]
              (repeat refine And.intro (by first | omega | (intro hq; first | omega | (simp at hq <;> omega) | (simp_all <;> omega))) ?_)
              refine hK _ ?_; clear hK K
              (repeat refine ats_seq ?_); refine ats_go (by first | exact fix0 hcx | exact fix1 hcx rfl) fun K hK => ?_; simp only [go_sem, seval]; (repeat refine And.intro (by first | omega | (intro hq; first | omega | (simp at hq <;> omega) | (simp_all <;> omega))) ?_); refine hK _ ?_; clear hK K
              refine ⟨y + 1,  by omega, by omega, .inl ⟨by simp only [SlotsLe, St.get, slotGet, Nat.reduceEqDiff, ↓reduceIte, AV.int.injEq, AV.bool.injEq, AV.l1.injEq, AV.l2.injEq, AV.l3.injEq, true_and, and_true]; omega,  rfl⟩⟩
            · obtain rfl : y = q := by omega
              rw [smQ_end lb0]
              refine ats_exit (lq_x ?_)
              (repeat refine ats_seq ?_); refine ats_go (by first | exact fix0 hcx | exact fix1 hcx rfl) fun K hK => ?_; simp only [go_sem, seval]; (repeat refine And.intro (by first | omega | (intro hq; first | omega | (simp at hq <;> omega) | (simp_all <;> omega))) ?_); refine hK _ ?_; clear hK K
              (repeat refine ats_seq ?_); refine ats_go (by first | exact fix0 hcx | exact fix1 hcx rfl) fun K hK => ?_; simp only [go_sem, seval]; (repeat refine And.intro (by first | omega | (intro hq; first | omega | (simp at hq <;> omega) | (simp_all <;> omega))) ?_); refine hK _ ?_; clear hK K
              refine ⟨some (0 + 1), ⟨by omega, by omega⟩, by show a.length - (0 + 1) < a.length + 1; omega, .inl ⟨?_, ?_⟩⟩
              · simp only [SlotsLe, St.get, slotGet, Nat.reduceEqDiff, ↓reduceIte, AV.int.injEq, true_and, and_true]
                omega
              · have es : smL a b (0 + 1) =  [smM x y (a.getD 0 []) (b.getD 0 [])] := by rw [smL_succ, ep, eq] <;> rfl
                dsimp only
                rw [es]
        · omega
      | some i =>
        dsimp only at ho ⊢
        have ls := smL_length (a := a) (b := b) (i := i)
        (repeat refine ats_seq ?_); refine ats_go (by first | exact fix0 hcx | exact fix1 hcx rfl) fun K hK => ?_; simp only [go_sem, seval]; refine hK _ ?_; clear hK K
        (repeat refine ats_seq ?_); first | refine ats_ifn (p := _) rfl trivial (fun hli => ?_) (fun hli => ?_) | refine ats_ifp (p := _) rfl trivial (fun hli => ?_) (fun hli => ?_) | refine ats_cond rfl trivial (fun hli => ?_) (fun hli => ?_)
        · have ma0 := ma i (by omega)
          have mb0 := mb i (by omega)
          have la0 := ma0.1
          have lb0 := mb0.1
          refine ats_skip ?_
          (repeat refine ats_seq ?_); refine ats_block ?_
          (repeat refine ats_seq ?_); refine ats_go (by first | exact fix0 hcx | exact fix1 hcx rfl) fun K hK => ?_; simp only [go_sem, seval]; refine hK _ ?_; clear hK K
          (repeat refine ats_seq ?_); refine ats_go (by first | exact fix0 hcx | exact fix1 hcx rfl) fun K hK => ?_; simp only [go_sem, seval]
          (repeat refine And.intro (by first | omega | (intro hq; first | omega | (simp at hq <;> omega) | (simp_all <;> omega))) ?_)
          refine fcall_own rfl (hz) rfl ?_; simp only [go_sem, seval]
          refine hK _ ?_; clear hK K
          have z0 : List.replicate (p + q) (List.replicate (p + q) (0 : Int)) = smP q (a.getD i []) (p + q) 0 := rfl
          rw [z0]
          (repeat refine ats_seq ?_); refine ats_go (by first | exact fix0 hcx | exact fix1 hcx rfl) fun K hK => ?_; simp only [go_sem, seval]; (repeat refine And.intro (by first | omega | (intro hq; first | omega | (simp at hq <;> omega) | (simp_all <;> omega))) ?_); refine hK _ ?_; clear hK K
          (repeat refine ats_seq ?_); refine ats_loop (fun x : Nat => ⟨[(4, .bptr 1 0), (5, .bptr 2 0), (6, .bptr 3 0), (8, .int p), (9, .int q), (10, .bptr 4 0), (11, .int i), (12, .ref 8 []), (40, .int a.length), (41, .int i), (55, .l2 (a.getD i [])), (56, .int (a.getD i []).length), (57, .int x)], [(8, .t2 (smP q (a.getD i []) (p + q) x)), (0, .bx [.l3 t]), (1, .bx [.l3 a]), (2, .bx [.l3 b]), (3, .bx [.nil]), (4, .bx [.ref 7 []]), (7, .t3 (smL a b i))]⟩) (fun x => x ≤ p) (fun x => p - x) 0 (Nat.zero_le _) (by refine And.intro ?_ rfl; simp only [SlotsLe, St.get, slotGet, Nat.reduceEqDiff, ↓reduceIte, true_and, and_true, AV.int.injEq, AV.bool.injEq, AV.l1.injEq, AV.l2.injEq, AV.l3.injEq]; repeat' (first | rfl | omega | refine And.intro ?_ ?_)) (fun x hx => ?_)
          (repeat refine ats_seq ?_); refine ats_go (by first | exact fix0 hcx | exact fix1 hcx rfl) fun K hK => ?_; simp only [go_sem, seval]; (repeat refine And.intro (by first | omega | (intro hq; first | omega | (simp at hq <;> omega) | (simp_all <;> omega))) ?_); refine hK _ ?_; clear hK K
          (repeat refine ats_seq ?_); first | refine ats_ifn (p := _) rfl trivial (fun hlx => ?_) (fun hlx => ?_) | refine ats_ifp (p := _) rfl trivial (fun hlx => ?_) (fun hlx => ?_) | refine ats_cond rfl trivial (fun hlx => ?_) (fun hlx => ?_)
          · have hx := ma0.row (show x < p by omega)
            have lP := smP_length (q := q) (A := a.getD i []) (c := p + q) (x := x) (by omega) (by omega)
            have gP := smP_get (p := p) (q := q) (A := a.getD i []) (x := x) (by omega) (by omega)
            have sP := smP_step (p := p) (q := q) (A := a.getD i []) (x := x) (by omega) (by omega) hx
            refine ats_skip ?_
            (repeat refine ats_seq ?_); refine ats_block ?_
            (repeat refine ats_seq ?_); refine ats_go (by first | exact fix0 hcx | exact fix1 hcx rfl) fun K hK => ?_; simp only [go_sem, seval]; (repeat refine And.intro (by first | omega | (intro hq; first | omega | (simp at hq <;> omega) | (simp_all <;> omega))) ?_); refine hK _ ?_; clear hK K
            (repeat refine ats_seq ?_); refine ats_go (by first | exact fix0 hcx | exact fix1 hcx rfl) fun K hK => ?_; simp only [go_sem, seval]
            (repeat refine And.intro (by first | omega | (intro hq; first | omega | (simp at hq <;> omega) | (simp_all <;> omega))) ?_)
            simp only [gP, List.length_replicate, sP]
            refine hK _ ?_; clear hK K
            (repeat refine ats_seq ?_); refine ats_go (by first | exact fix0 hcx | exact fix1 hcx rfl) fun K hK => ?_; simp only [go_sem, seval]; (repeat refine And.intro (by first | omega | (intro hq; first | omega | (simp at hq <;> omega) | (simp_all <;> omega))) ?_); refine hK _ ?_; clear hK K
            refine ⟨x + 1,  by omega, by omega, .inl ⟨by simp only [SlotsLe, St.get, slotGet, Nat.reduceEqDiff, ↓reduceIte, AV.int.injEq, AV.bool.injEq, AV.l1.injEq, AV.l2.injEq, AV.l3.injEq, true_and, and_true]; omega,  rfl⟩⟩
          · obtain rfl : x = p := by omega
            rw [smP_end (B := b.getD i []) la0]
            refine ats_exit (lq_x ?_)
            (repeat refine ats_seq ?_); refine ats_go (by first | exact fix0 hcx | exact fix1 hcx rfl) fun K hK => ?_; simp only [go_sem, seval]; (repeat refine And.intro (by first | omega | (intro hq; first | omega | (simp at hq <;> omega) | (simp_all <;> omega))) ?_); refine hK _ ?_; clear hK K
            (repeat refine ats_seq ?_); refine ats_loop (fun y : Nat => ⟨[(4, .bptr 1 0), (5, .bptr 2 0), (6, .bptr 3 0), (8, .int x), (9, .int q), (10, .bptr 4 0), (11, .int i), (12, .ref 8 []), (40, .int a.length), (41, .int i), (73, .l2 (b.getD i [])), (74, .int (b.getD i []).length), (75, .int y)], [(8, .t2 (smQ x q (a.getD i []) (b.getD i []) (x + q) y)), (0, .bx [.l3 t]), (1, .bx [.l3 a]), (2, .bx [.l3 b]), (3, .bx [.nil]), (4, .bx [.ref 7 []]), (7, .t3 (smL a b i))]⟩) (fun y => y ≤ q) (fun y => q - y) 0 (Nat.zero_le _) (by refine And.intro ?_ rfl; simp only [SlotsLe, St.get, slotGet, Nat.reduceEqDiff, ↓reduceIte, true_and, and_true, AV.int.injEq, AV.bool.injEq, AV.l1.injEq, AV.l2.injEq, AV.l3.injEq]; repeat' (first | rfl | omega | refine And.intro ?_ ?_)) (fun y hy => ?_)
            (repeat refine ats_seq ?_); refine ats_go (by first | exact fix0 hcx | exact fix1 hcx rfl) fun K hK => ?_; simp only [go_sem, seval]; (repeat refine And.intro (by first | omega | (intro hq; first | omega | (simp at hq <;> omega) | (simp_all <;> omega))) ?_); refine hK _ ?_; clear hK K
            (repeat refine ats_seq ?_); first | refine ats_ifn (p := _) rfl trivial (fun hly => ?_) (fun hly => ?_) | refine ats_ifp (p := _) rfl trivial (fun hly => ?_) (fun hly => ?_) | refine ats_cond rfl trivial (fun hly => ?_) (fun hly => ?_)
            · have hy := mb0.row (show y < q by omega)
              have lQ := smQ_length (p := x) (q := q) (A := a.getD i []) (B := b.getD i []) (y := y) la0 lb0 (by omega)
              have gQ := smQ_get (p := x) (q := q) (A := a.getD i []) (B := b.getD i []) (y := y) la0 lb0 (by omega)
              have sQ := smQ_step (p := x) (q := q) (A := a.getD i []) (B := b.getD i []) (y := y) la0 lb0 (by omega) hy
              refine ats_skip ?_
              (repeat refine ats_seq ?_); refine ats_block ?_
              (repeat refine ats_seq ?_); refine ats_go (by first | exact fix0 hcx | exact fix1 hcx rfl) fun K hK => ?_; simp only [go_sem, seval]; (repeat refine And.intro (by first | omega | (intro hq; first | omega | (simp at hq <;> omega) | (simp_all <;> omega))) ?_); refine hK _ ?_; clear hK K
              have tn : ((x : Int) + (y : Int)).toNat = x + y := by omega
              (repeat refine ats_seq ?_); refine ats_go (by first | exact fix0 hcx | exact fix1 hcx rfl) fun K hK => ?_; simp only [go_sem, seval]
              simp only [tn, gQ, List.length_replicate, sQ]
              (repeat refine And.intro (by first | omega | (intro hq; first | omega | (simp at hq <;> omega) | (simp_all <;> omega))) ?_)
              refine hK _ ?_; clear hK K
              (repeat refine ats_seq ?_); refine ats_go (by first | exact fix0 hcx | exact fix1 hcx rfl) fun K hK => ?_; simp only [go_sem, seval]; (repeat refine And.intro (by first | omega | (intro hq; first | omega | (simp at hq <;> omega) | (simp_all <;> omega))) ?_); refine hK _ ?_; clear hK K
              refine ⟨y + 1,  by omega, by omega, .inl ⟨by simp only [SlotsLe, St.get, slotGet, Nat.reduceEqDiff, ↓reduceIte, AV.int.injEq, AV.bool.injEq, AV.l1.injEq, AV.l2.injEq, AV.l3.injEq, true_and, and_true]; omega,  rfl⟩⟩
            · obtain rfl : y = q := by omega
              rw [smQ_end lb0]
              refine ats_exit (lq_x ?_)
              (repeat refine ats_seq ?_); refine ats_go (by first | exact fix0 hcx | exact fix1 hcx rfl) fun K hK => ?_; simp only [go_sem, seval]; (repeat refine And.intro (by first | omega | (intro hq; first | omega | (simp at hq <;> omega) | (simp_all <;> omega))) ?_); refine hK _ ?_; clear hK K
              (repeat refine ats_seq ?_); refine ats_go (by first | exact fix0 hcx | exact fix1 hcx rfl) fun K hK => ?_; simp only [go_sem, seval]; (repeat refine And.intro (by first | omega | (intro hq; first | omega | (simp at hq <;> omega) | (simp_all <;> omega))) ?_); refine hK _ ?_; clear hK K
              refine ⟨some (i + 1), ⟨by omega, by omega⟩, by show a.length - (i + 1) < a.length - i; omega, .inl ⟨?_, ?_⟩⟩
              · simp only [SlotsLe, St.get, slotGet, Nat.reduceEqDiff, ↓reduceIte, AV.int.injEq, true_and, and_true]
                omega
              · have es : smL a b (i + 1) = smL a b i ++ [smM x y (a.getD i []) (b.getD i [])] := by rw [smL_succ, ep, eq] <;> rfl
                dsimp only
                rw [es]
        · obtain rfl : i = a.length := by omega
          refine ats_exit (lq_x ?_)
          (repeat refine ats_seq ?_); refine ats_go (by first | exact fix0 hcx | exact fix1 hcx rfl) fun K hK => ?_; simp only [go_sem, seval]; refine hK _ ?_; clear hK K
          exact ats_ret (own2C (v := .agg [.ref 7 []]) (by simp only [go_sem, seval]) trivial rfl (by simp))

theorem specSum_ok (t a b : List (List (List Int))) (fa : Fam t a) (fb : Fam t b) (h1 : 1 ≤ t.length) (h16 : t.length ≤ 16) : PureCall Try.prog 30 [.agg [.l3 a], .agg [.l3 b]] (.agg [.l3 (smL a b a.length)]) := by
  have la := fa.1
  have lb := fb.1
  have hpa := l09Size_ok a (by omega)
  have hpb := l09Size_ok b (by omega)
  have pa := fa.2.2.2.1
  have pb := fb.2.2.2.1
  obtain ⟨p, ep⟩ : ∃ p, (a.getD 0 []).length = p := ⟨_, rfl⟩
  obtain ⟨q, eq⟩ : ∃ p, (b.getD 0 []).length = p := ⟨_, rfl⟩
  have ma : ∀ i, i < a.length → MatOk p (a.getD i []) := fun i hi => by have := fa.2.2.2.2 i hi; rwa [ep] at this
  have mb : ∀ i, i < b.length → MatOk q (b.getD i []) := fun i hi => by have := fb.2.2.2.2 i hi; rwa [eq] at this
  rw [ep] at hpa pa
  rw [eq] at hpb pb
  refine PureCall.intro (n := 70) (rs := [.cell 4 29]) Try.call30 Try.func30 rfl rfl rfl (by simp only [List.length_cons, List.length_nil]; omega) (fun cx hcx => ats_of ?_); simp only [argSlots, Nat.zero_add, Nat.reduceAdd]
  (repeat refine ats_seq ?_); refine ats_go (by first | exact fix0 hcx | exact fix1 hcx rfl) fun K hK => ?_; simp only [go_sem, seval]; refine hK _ ?_; clear hK K
  (repeat refine ats_seq ?_); refine ats_pick (fix0 hcx) mixed (by kernel_rfl) fun K hK => ?_; simp only [go_sem, seval]
  first | refine fcall_data (hpa) rfl ?_ | refine YR_intro (acall_data (hpa) rfl) ?_
  simp only [go_sem, seval]
  first | refine fcall_data (hpb) rfl ?_ | refine YR_intro (acall_data (hpb) rfl) ?_
  simp only [go_sem, seval]
  refine hK _ ?_; clear hK K
  (repeat refine ats_seq ?_); refine ats_go (by first | exact fix0 hcx | exact fix1 hcx rfl) fun K hK => ?_; simp only [go_sem, seval]; refine hK _ ?_; clear hK K
  (repeat refine ats_seq ?_); refine ats_go (by first | exact fix0 hcx | exact fix1 hcx rfl) fun K hK => ?_; simp only [go_sem, seval]; refine hK _ ?_; clear hK K
  (repeat refine ats_seq ?_)
  refine ats_loop (fun o : Option Nat => match o with
    | none => ⟨[(2, .bptr 0 0), (3, .bptr 1 0), (4, .bptr 2 0), (5, .int p), (6, .int q), (7, .bptr 3 0), (8, .int 0)], [(0, .bx [.l3 a]), (1, .bx [.l3 b]), (2, .bx [.nil]), (3, .bx [.nil])]⟩
    | some i => ⟨[(2, .bptr 0 0), (3, .bptr 1 0), (4, .bptr 2 0), (5, .int p), (6, .int q), (7, .bptr 3 0), (8, .int i)], [(0, .bx [.l3 a]), (1, .bx [.l3 b]), (2, .bx [.nil]), (3, .bx [.ref 6 []]), (6, .t3 (smL a b i))]⟩) (fun o => match o with
    | none => True
    | some i => 1 ≤ i ∧ i ≤ a.length) (fun o => match o with
    | none => a.length + 1
    | some i => a.length - i) none trivial ⟨by simp only [SlotsLe, St.get, slotGet, Nat.reduceEqDiff, ↓reduceIte, true_and, and_true], rfl⟩ (fun o ho => ?_)
  cases o with
  | none =>
    dsimp only at ho ⊢
    (repeat refine ats_seq ?_); refine ats_go (by first | exact fix0 hcx | exact fix1 hcx rfl) fun K hK => ?_; simp only [go_sem, seval]; refine hK _ ?_; clear hK K
    (repeat refine ats_seq ?_); first | refine ats_ifn (p := _) rfl trivial (fun hli => ?_) (fun hli => ?_) | refine ats_ifp (p := _) rfl trivial (fun hli => ?_) (fun hli => ?_) | refine ats_cond rfl trivial (fun hli => ?_) (fun hli => ?_)
    · have ma0 := ma 0 (by omega)
      have mb0 := mb 0 (by omega)
      have la0 := ma0.1
      have lb0 := mb0.1
      refine ats_skip ?_
      (repeat refine ats_seq ?_); refine ats_block ?_
      (repeat refine ats_seq ?_); refine ats_go (by first | exact fix0 hcx | exact fix1 hcx rfl) fun K hK => ?_; simp only [go_sem, seval]; (repeat refine And.intro (by first | omega | (intro hq; first | omega | (simp at hq <;> omega) | (simp_all <;> omega))) ?_); refine hK _ ?_; clear hK K
      (repeat refine ats_seq ?_); refine ats_go (by first | exact fix0 hcx | exact fix1 hcx rfl) fun K hK => ?_; simp only [go_sem, seval]; (repeat refine And.intro (by first | omega | (intro hq; first | omega | (simp at hq <;> omega) | (simp_all <;> omega))) ?_); refine hK _ ?_; clear hK K
      (repeat refine ats_seq ?_); refine ats_loop (fun x : Nat => ⟨[(2, .bptr 0 0), (3, .bptr 1 0), (4, .bptr 2 0), (5, .int p), (6, .int q), (7, .bptr 3 0), (8, .int 0), (9, .ref 4 []), (10, .int x)], [(0, .bx [.l3 a]), (1, .bx [.l3 b]), (2, .bx [.nil]), (3, .bx [.nil]), (4, .t2 (((a.getD 0 []).take x).map (fun r => r ++ List.replicate q 0)))]⟩) (fun x => x ≤ p) (fun x => p - x) 0 (Nat.zero_le _) (by refine And.intro ?_ rfl; simp only [SlotsLe, St.get, slotGet, Nat.reduceEqDiff, ↓reduceIte, true_and, and_true, AV.int.injEq, AV.bool.injEq, AV.l1.injEq, AV.l2.injEq, AV.l3.injEq]; repeat' (first | rfl | omega | refine And.intro ?_ ?_)) (fun x hx => ?_)
      have lt := take_map_length (f := fun r : List Int => r ++ List.replicate q 0) (xs := a.getD 0 []) (k := x) (by omega)
      (repeat refine ats_seq ?_); refine ats_go (by first | exact fix0 hcx | exact fix1 hcx rfl) fun K hK => ?_; simp only [go_sem, seval]; (repeat refine And.intro (by first | omega | (intro hq; first | omega | (simp at hq <;> omega) | (simp_all <;> omega))) ?_); refine hK _ ?_; clear hK K
      (repeat refine ats_seq ?_); first | refine ats_ifn (p := _) rfl trivial (fun hlx => ?_) (fun hlx => ?_) | refine ats_ifp (p := _) rfl trivial (fun hlx => ?_) (fun hlx => ?_) | refine ats_cond rfl trivial (fun hlx => ?_) (fun hlx => ?_)
      · have hx := ma0.row (show x < p by omega)
        have st := take_succ_map (f := fun r : List Int => r ++ List.replicate q 0) (xs := a.getD 0 []) (d := []) (k := x) (by omega)
        refine ats_skip ?_
        (repeat refine ats_seq ?_); refine ats_block ?_
        (repeat refine ats_seq ?_); refine ats_go (by first | exact fix0 hcx | exact fix1 hcx rfl) fun K hK => ?_; simp only [go_sem, seval]
        (repeat refine And.intro (by first | omega | (intro hq; first | omega | (simp at hq <;> omega) | (simp_all <;> omega))) ?_)
        refine fcall_own rfl (l01Own_ok _ (by omega)) rfl ?_; simp only [go_sem, seval]
        (repeat refine And.intro (by first | omega | (intro hq; first | omega | (simp at hq <;> omega) | (simp_all <;> omega))) ?_)
        refine hK _ ?_; clear hK K
        (repeat refine ats_seq ?_); refine ats_go (by first | exact fix0 hcx | exact fix1 hcx rfl) fun K hK => ?_; simp only [go_sem, seval]; (repeat refine And.intro (by first | omega | (intro hq; first | omega | (simp at hq <;> omega) | (simp_all <;> omega))) ?_); refine hK _ ?_; clear hK K
        refine ⟨x + 1,  by omega, by omega, .inl ⟨by simp only [SlotsLe, St.get, slotGet, Nat.reduceEqDiff, ↓reduceIte, AV.int.injEq, AV.bool.injEq, AV.l1.injEq, AV.l2.injEq, AV.l3.injEq, true_and, and_true]; omega,  by rw [st]⟩⟩
      · obtain rfl : x = p := by omega
        rw [List.take_of_length_le (show (a.getD 0 []).length ≤ x by omega)]
        have z1 : (a.getD 0 []).map (fun r => r ++ List.replicate q 0) = (a.getD 0 []).map (fun r => r ++ List.replicate q 0) ++ ((b.getD 0 []).take 0).map (fun r => List.replicate x 0 ++ r) := by simp
        rw [z1]
        refine ats_exit (lq_x ?_)
        (repeat refine ats_seq ?_); refine ats_go (by first | exact fix0 hcx | exact fix1 hcx rfl) fun K hK => ?_; simp only [go_sem, seval]; (repeat refine And.intro (by first | omega | (intro hq; first | omega | (simp at hq <;> omega) | (simp_all <;> omega))) ?_); refine hK _ ?_; clear hK K
        (repeat refine ats_seq ?_); refine ats_loop (fun y : Nat => ⟨[(2, .bptr 0 0), (3, .bptr 1 0), (4, .bptr 2 0), (5, .int x), (6, .int q), (7, .bptr 3 0), (8, .int 0), (9, .ref 4 []), (11, .int y)], [(0, .bx [.l3 a]), (1, .bx [.l3 b]), (2, .bx [.nil]), (3, .bx [.nil]), (4, .t2 ((a.getD 0 []).map (fun r => r ++ List.replicate q 0) ++ ((b.getD 0 []).take y).map (fun r => List.replicate x 0 ++ r)))]⟩) (fun y => y ≤ q) (fun y => q - y) 0 (Nat.zero_le _) (by refine And.intro ?_ rfl; simp only [SlotsLe, St.get, slotGet, Nat.reduceEqDiff, ↓reduceIte, true_and, and_true, AV.int.injEq, AV.bool.injEq, AV.l1.injEq, AV.l2.injEq, AV.l3.injEq]; repeat' (first | rfl | omega | refine And.intro ?_ ?_)) (fun y hy => ?_)
        have lt2 := take_map_length (f := fun r : List Int => List.replicate x 0 ++ r) (xs := b.getD 0 []) (k := y) (by omega)
        have lt3 : ((a.getD 0 []).map (fun r => r ++ List.replicate q 0) ++ ((b.getD 0 []).take y).map (fun r => List.replicate x 0 ++ r)).length = x + y := by rw [List.length_append, lt2, List.length_map, la0]
        (repeat refine ats_seq ?_); refine ats_go (by first | exact fix0 hcx | exact fix1 hcx rfl) fun K hK => ?_; simp only [go_sem, seval]; (repeat refine And.intro (by first | omega | (intro hq; first | omega | (simp at hq <;> omega) | (simp_all <;> omega))) ?_); refine hK _ ?_; clear hK K
        (repeat refine ats_seq ?_); first | refine ats_ifn (p := _) rfl trivial (fun hly => ?_) (fun hly => ?_) | refine ats_ifp (p := _) rfl trivial (fun hly => ?_) (fun hly => ?_) | refine ats_cond rfl trivial (fun hly => ?_) (fun hly => ?_)
        · have hy := mb0.row (show y < q by omega)
          have st := take_succ_map (f := fun r : List Int => List.replicate x 0 ++ r) (xs := b.getD 0 []) (d := []) (k := y) (by omega)
          refine ats_skip ?_
          (repeat refine ats_seq ?_); refine ats_block ?_
          (repeat refine ats_seq ?_)
          refine ats_plan [] (.one 1 (.one 3 (.one 4 (.one 5 (.one 6 (.one 7 (.one 8 (.one 9 (.one 10 (.alt 0 (.alt 2 (.alt 11 (.alt 12 (.alt 13 (.one 14 .fin) .stop) .stop) .stop) .stop) (.alt 2 (.alt 0 (.alt 11 (.alt 12 (.alt 13 (.one 14 .fin) .stop) .stop) .stop) (.alt 11 (.alt 0 (.alt 12 (.alt 13 (.one 14 .fin) .stop) .stop) (.alt 12 (.one 0 (.alt 13 (.one 14 .fin) .stop)) .stop)) .stop)) .stop))))))))))) ⟨[(2, .bptr 0 0), (3, .bptr 1 0), (4, .bptr 2 0), (5, .int x), (6, .int q), (7, .bptr 3 0), (8, .int 0), (9, .ref 4 []), (11, .int y)], [(0, .bx [.l3 a]), (1, .bx [.l3 b]), (2, .bx [.nil]), (3, .bx [.nil]), (4, .t2 ((a.getD 0 []).map (fun r => r ++ List.replicate q 0) ++ ((b.getD 0 []).take y).map (fun r => List.replicate x 0 ++ r) ++ [List.replicate x 0 ++ (b.getD 0 []).getD y []]))]⟩ (fix0 hcx) mixed (by kernel_rfl) (fun K hK => ?_) ?_
          · simp only [go_sem, seval, pl_fin, pl_stop, pl_one, pl_alt, PK_ap, pickO, List.getElem?_toArray, List.getElem?_cons_zero, List.getElem?_cons_succ, Option.getD_some, and_true, true_and, and_self, List.contains_cons, List.contains_nil, Bool.or_false, Bool.or_true]
            repeat' (first | exact hK _ (by refine And.intro ?_ rfl; simp only [SlotsLe, St.get, slotGet, Nat.reduceEqDiff, ↓reduceIte, AV.int.injEq, AV.bool.injEq, AV.l1.injEq, AV.l2.injEq, AV.l3.injEq, true_and, and_true])  | omega | refine And.intro ?_ ?_ | ((simp only [List.length_replicate, lt3]; omega)))
          (repeat refine ats_seq ?_); refine ats_go (by first | exact fix0 hcx | exact fix1 hcx rfl) fun K hK => ?_; simp only [go_sem, seval]; (repeat refine And.intro (by first | omega | (intro hq; first | omega | (simp at hq <;> omega) | (simp_all <;> omega))) ?_); refine hK _ ?_; clear hK K
          refine ⟨y + 1,  by omega, by omega, .inl ⟨by simp only [SlotsLe, St.get, slotGet, Nat.reduceEqDiff, ↓reduceIte, AV.int.injEq, AV.bool.injEq, AV.l1.injEq, AV.l2.injEq, AV.l3.injEq, true_and, and_true]; omega,  by rw [st, ← List.append_assoc]⟩⟩
        · obtain rfl : y = q := by omega
          rw [List.take_of_length_le (show (b.getD 0 []).length ≤ y by omega)]
          refine ats_exit (lq_x ?_)
          (repeat refine ats_seq ?_); refine ats_go (by first | exact fix0 hcx | exact fix1 hcx rfl) fun K hK => ?_; simp only [go_sem, seval]; (repeat refine And.intro (by first | omega | (intro hq; first | omega | (simp at hq <;> omega) | (simp_all <;> omega))) ?_); refine hK _ ?_; clear hK K
          (repeat refine ats_seq ?_); refine ats_go (by first | exact fix0 hcx | exact fix1 hcx rfl) fun K hK => ?_; simp only [go_sem, seval]; (repeat refine And.intro (by first | omega | (intro hq; first | omega | (simp at hq <;> omega) | (simp_all <;> omega))) ?_); refine hK _ ?_; clear hK K
          refine ⟨some (0 + 1), ⟨by omega, by omega⟩, by show a.length - (0 + 1) < a.length + 1; omega, .inl ⟨?_, ?_⟩⟩
          · simp only [SlotsLe, St.get, slotGet, Nat.reduceEqDiff, ↓reduceIte, AV.int.injEq, true_and, and_true]
            omega
          · have es : smL a b (0 + 1) =  [smM x y (a.getD 0 []) (b.getD 0 [])] := by rw [smL_succ, ep, eq] <;> rfl
            dsimp only
            rw [es]
            rfl
    · omega
  | some i =>
    dsimp only at ho ⊢
    have ls := smL_length (a := a) (b := b) (i := i)
    (repeat refine ats_seq ?_); refine ats_go (by first | exact fix0 hcx | exact fix1 hcx rfl) fun K hK => ?_; simp only [go_sem, seval]; refine hK _ ?_; clear hK K
    (repeat refine ats_seq ?_); first | refine ats_ifn (p := _) rfl trivial (fun hli => ?_) (fun hli => ?_) | refine ats_ifp (p := _) rfl trivial (fun hli => ?_) (fun hli => ?_) | refine ats_cond rfl trivial (fun hli => ?_) (fun hli => ?_)
    · have ma0 := ma i (by omega)
      have mb0 := mb i (by omega)
      have la0 := ma0.1
      have lb0 := mb0.1
      refine ats_skip ?_
      (repeat refine ats_seq ?_); refine ats_block ?_
      (repeat refine ats_seq ?_); refine ats_go (by first | exact fix0 hcx | exact fix1 hcx rfl) fun K hK => ?_; simp only [go_sem, seval]; (repeat refine And.intro (by first | omega | (intro hq; first | omega | (simp at hq <;> omega) | (simp_all <;> omega))) ?_); refine hK _ ?_; clear hK K
      (repeat refine ats_seq ?_); refine ats_go (by first | exact fix0 hcx | exact fix1 hcx rfl) fun K hK => ?_; simp only [go_sem, seval]; (repeat refine And.intro (by first | omega | (intro hq; first | omega | (simp at hq <;> omega) | (simp_all <;> omega))) ?_); refine hK _ ?_; clear hK K
      (repeat refine ats_seq ?_); refine ats_loop (fun x : Nat => ⟨[(2, .bptr 0 0), (3, .bptr 1 0), (4, .bptr 2 0), (5, .int p), (6, .int q), (7, .bptr 3 0), (8, .int i), (9, .ref 7 []), (10, .int x)], [(0, .bx [.l3 a]), (1, .bx [.l3 b]), (2, .bx [.nil]), (3, .bx [.ref 6 []]), (6, .t3 (smL a b i)), (7, .t2 (((a.getD i []).take x).map (fun r => r ++ List.replicate q 0)))]⟩) (fun x => x ≤ p) (fun x => p - x) 0 (Nat.zero_le _) (by refine And.intro ?_ rfl; simp only [SlotsLe, St.get, slotGet, Nat.reduceEqDiff, ↓reduceIte, true_and, and_true, AV.int.injEq, AV.bool.injEq, AV.l1.injEq, AV.l2.injEq, AV.l3.injEq]; repeat' (first | rfl | omega | refine And.intro ?_ ?_)) (fun x hx => ?_)
      have lt := take_map_length (f := fun r : List Int => r ++ List.replicate q 0) (xs := a.getD i []) (k := x) (by omega)
      (repeat refine ats_seq ?_); refine ats_go (by first | exact fix0 hcx | exact fix1 hcx rfl) fun K hK => ?_; simp only [go_sem, seval]; (repeat refine And.intro (by first | omega | (intro hq; first | omega | (simp at hq <;> omega) | (simp_all <;> omega))) ?_); refine hK _ ?_; clear hK K
      (repeat refine ats_seq ?_); first | refine ats_ifn (p := _) rfl trivial (fun hlx => ?_) (fun hlx => ?_) | refine ats_ifp (p := _) rfl trivial (fun hlx => ?_) (fun hlx => ?_) | refine ats_cond rfl trivial (fun hlx => ?_) (fun hlx => ?_)
      · have hx := ma0.row (show x < p by omega)
        have st := take_succ_map (f := fun r : List Int => r ++ List.replicate q 0) (xs := a.getD i []) (d := []) (k := x) (by omega)
        refine ats_skip ?_
        (repeat refine ats_seq ?_); refine ats_block ?_
        (repeat refine ats_seq ?_); refine ats_go (by first | exact fix0 hcx | exact fix1 hcx rfl) fun K hK => ?_; simp only [go_sem, seval]
        (repeat refine And.intro (by first | omega | (intro hq; first | omega | (simp at hq <;> omega) | (simp_all <;> omega))) ?_)
        refine fcall_own rfl (l01Own_ok _ (by omega)) rfl ?_; simp only [go_sem, seval]
        (repeat refine And.intro (by first | omega | (intro hq; first | omega | (simp at hq <;> omega) | (simp_all <;> omega))) ?_)
        refine hK _ ?_; clear hK K
        (repeat refine ats_seq ?_); refine ats_go (by first | exact fix0 hcx | exact fix1 hcx rfl) fun K hK => ?_; simp only [go_sem, seval]; (repeat refine And.intro (by first | omega | (intro hq; first | omega | (simp at hq <;> omega) | (simp_all <;> omega))) ?_); refine hK _ ?_; clear hK K
        refine ⟨x + 1,  by omega, by omega, .inl ⟨by simp only [SlotsLe, St.get, slotGet, Nat.reduceEqDiff, ↓reduceIte, AV.int.injEq, AV.bool.injEq, AV.l1.injEq, AV.l2.injEq, AV.l3.injEq, true_and, and_true]; omega,  by rw [st]⟩⟩
      · obtain rfl : x = p := by omega
        rw [List.take_of_length_le (show (a.getD i []).length ≤ x by omega)]
        have z1 : (a.getD i []).map (fun r => r ++ List.replicate q 0) = (a.getD i []).map (fun r => r ++ List.replicate q 0) ++ ((b.getD i []).take 0).map (fun r => List.replicate x 0 ++ r) := by simp
        rw [z1]
        refine ats_exit (lq_x ?_)
        (repeat refine ats_seq ?_); refine ats_go (by first | exact fix0 hcx | exact fix1 hcx rfl) fun K hK => ?_; simp only [go_sem, seval]; (repeat refine And.intro (by first | omega | (intro hq; first | omega | (simp at hq <;> omega) | (simp_all <;> omega))) ?_); refine hK _ ?_; clear hK K
        (repeat refine ats_seq ?_); refine ats_loop (fun y : Nat => ⟨[(2, .bptr 0 0), (3, .bptr 1 0), (4, .bptr 2 0), (5, .int x), (6, .int q), (7, .bptr 3 0), (8, .int i), (9, .ref 7 []), (11, .int y)], [(0, .bx [.l3 a]), (1, .bx [.l3 b]), (2, .bx [.nil]), (3, .bx [.ref 6 []]), (6, .t3 (smL a b i)), (7, .t2 ((a.getD i []).map (fun r => r ++ List.replicate q 0) ++ ((b.getD i []).take y).map (fun r => List.replicate x 0 ++ r)))]⟩) (fun y => y ≤ q) (fun y => q - y) 0 (Nat.zero_le _) (by refine And.intro ?_ rfl; simp only [SlotsLe, St.get, slotGet, Nat.reduceEqDiff, ↓reduceIte, true_and, and_true, AV.int.injEq, AV.bool.injEq, AV.l1.injEq, AV.l2.injEq, AV.l3.injEq]; repeat' (first | rfl | omega | refine And.intro ?_ ?_)) (fun y hy => ?_)
        have lt2 := take_map_length (f := fun r : List Int => List.replicate x 0 ++ r) (xs := b.getD i []) (k := y) (by omega)
        have lt3 : ((a.getD i []).map (fun r => r ++ List.replicate q 0) ++ ((b.getD i []).take y).map (fun r => List.replicate x 0 ++ r)).length = x + y := by rw [List.length_append, lt2, List.length_map, la0]
        (repeat refine ats_seq ?_); refine ats_go (by first | exact fix0 hcx | exact fix1 hcx rfl) fun K hK => ?_; simp only [go_sem, seval]; (repeat refine And.intro (by first | omega | (intro hq; first | omega | (simp at hq <;> omega) | (simp_all <;> omega))) ?_); refine hK _ ?_; clear hK K
        (repeat refine ats_seq ?_); first | refine ats_ifn (p := _) rfl trivial (fun hly => ?_) (fun hly => ?_) | refine ats_ifp (p := _) rfl trivial (fun hly => ?_) (fun hly => ?_) | refine ats_cond rfl trivial (fun hly => ?_) (fun hly => ?_)
        · have hy := mb0.row (show y < q by omega)
          have st := take_succ_map (f := fun r : List Int => List.replicate x 0 ++ r) (xs := b.getD i []) (d := []) (k := y) (by omega)
          refine ats_skip ?_
          (repeat refine ats_seq ?_); refine ats_block ?_
          (repeat refine ats_seq ?_)
          refine ats_plan [] (.one 1 (.one 3 (.one 4 (.one 5 (.one 6 (.one 7 (.one 8 (.one 9 (.one 10 (.alt 0 (.alt 2 (.alt 11 (.alt 12 (.alt 13 (.one 14 .fin) .stop) .stop) .stop) .stop) (.alt 2 (.alt 0 (.alt 11 (.alt 12 (.alt 13 (.one 14 .fin) .stop) .stop) .stop) (.alt 11 (.alt 0 (.alt 12 (.alt 13 (.one 14 .fin) .stop) .stop) (.alt 12 (.one 0 (.alt 13 (.one 14 .fin) .stop)) .stop)) .stop)) .stop))))))))))) ⟨[(2, .bptr 0 0), (3, .bptr 1 0), (4, .bptr 2 0), (5, .int x), (6, .int q), (7, .bptr 3 0), (8, .int i), (9, .ref 7 []), (11, .int y)], [(0, .bx [.l3 a]), (1, .bx [.l3 b]), (2, .bx [.nil]), (3, .bx [.ref 6 []]), (6, .t3 (smL a b i)), (7, .t2 ((a.getD i []).map (fun r => r ++ List.replicate q 0) ++ ((b.getD i []).take y).map (fun r => List.replicate x 0 ++ r) ++ [List.replicate x 0 ++ (b.getD i []).getD y []]))]⟩ (fix0 hcx) mixed (by kernel_rfl) (fun K hK => ?_) ?_
          · simp only [go_sem, seval, pl_fin, pl_stop, pl_one, pl_alt, PK_ap, pickO, List.getElem?_toArray, List.getElem?_cons_zero, List.getElem?_cons_succ, Option.getD_some, and_true, true_and, and_self, List.contains_cons, List.contains_nil, Bool.or_false, Bool.or_true]
            repeat' (first | exact hK _ (by refine And.intro ?_ rfl; simp only [SlotsLe, St.get, slotGet, Nat.reduceEqDiff, ↓reduceIte, AV.int.injEq, AV.bool.injEq, AV.l1.injEq, AV.l2.injEq, AV.l3.injEq, true_and, and_true])  | omega | refine And.intro ?_ ?_ | ((simp only [List.length_replicate, lt3]; omega)))
          (repeat refine ats_seq ?_); refine ats_go (by first | exact fix0 hcx | exact fix1 hcx rfl) fun K hK => ?_; simp only [go_sem, seval]; (repeat refine And.intro (by first | omega | (intro hq; first | omega | (simp at hq <;> omega) | (simp_all <;> omega))) ?_); refine hK _ ?_; clear hK K
          refine ⟨y + 1,  by omega, by omega, .inl ⟨by simp only [SlotsLe, St.get, slotGet, Nat.reduceEqDiff, ↓reduceIte, AV.int.injEq, AV.bool.injEq, AV.l1.injEq, AV.l2.injEq, AV.l3.injEq, true_and, and_true]; omega,  by rw [st, ← List.append_assoc]⟩⟩
        · obtain rfl : y = q := by omega
          rw [List.take_of_length_le (show (b.getD i []).length ≤ y by omega)]
          refine ats_exit (lq_x ?_)
          (repeat refine ats_seq ?_); refine ats_go (by first | exact fix0 hcx | exact fix1 hcx rfl) fun K hK => ?_; simp only [go_sem, seval]; (repeat refine And.intro (by first | omega | (intro hq; first | omega | (simp at hq <;> omega) | (simp_all <;> omega))) ?_); refine hK _ ?_; clear hK K
          (repeat refine ats_seq ?_); refine ats_go (by first | exact fix0 hcx | exact fix1 hcx rfl) fun K hK => ?_; simp only [go_sem, seval]; (repeat refine And.intro (by first | omega | (intro hq; first | omega | (simp at hq <;> omega) | (simp_all <;> omega))) ?_); refine hK _ ?_; clear hK K
          refine ⟨some (i + 1), ⟨by omega, by omega⟩, by show a.length - (i + 1) < a.length - i; omega, .inl ⟨?_, ?_⟩⟩
          · simp only [SlotsLe, St.get, slotGet, Nat.reduceEqDiff, ↓reduceIte, AV.int.injEq, true_and, and_true]
            omega
          · have es : smL a b (i + 1) = smL a b i ++ [smM x y (a.getD i []) (b.getD i [])] := by rw [smL_succ, ep, eq] <;> rfl
            dsimp only
            rw [es]
            rfl
    · obtain rfl : i = a.length := by omega
      refine ats_exit (lq_x ?_)
      (repeat refine ats_seq ?_); refine ats_go (by first | exact fix0 hcx | exact fix1 hcx rfl) fun K hK => ?_; simp only [go_sem, seval]; refine hK _ ?_; clear hK K
      exact ats_ret (finC (v := .agg [.ref 6 []]) (by simp only [go_sem, seval]) rfl)

theorem specSm_ok (t a b : List (List (List Int))) : PureCall Try.prog 9 [.agg [.l3 t], .agg [.l3 a], .agg [.l3 b]] (smA t a b) := by
  have ha := l09Is_ok t a
  have hb := l09Is_ok t b
  unfold smA
  refine PureCall.intro (n := 29) (rs := [.cell 6 29, .tmp 7]) Try.call9 Try.func9 rfl rfl rfl (by simp only [List.length_cons, List.length_nil]; omega) (fun cx hcx => ats_of ?_); simp only [argSlots, Nat.zero_add, Nat.reduceAdd]
  (repeat refine ats_seq ?_); refine ats_go (by first | exact fix0 hcx | exact fix1 hcx rfl) fun K hK => ?_; simp only [go_sem, seval]; refine hK _ ?_; clear hK K
  (repeat refine ats_seq ?_); refine ats_go (by first | exact fix0 hcx | exact fix1 hcx rfl) fun K hK => ?_; simp only [go_sem, seval]
  first | refine fcall_free rfl rfl (ha) ?_ | refine YR_intro (acall_free rfl rfl (ha)) ?_
  simp only [go_sem, seval]
  first | refine YR_intro (fun _ => acall_free rfl rfl (hb)) ?_ | refine YR_intro (acall_free rfl rfl (hb)) ?_
  simp only [go_sem, seval]
  refine hK _ ?_; clear hK K
  (repeat refine ats_seq ?_); first | refine ats_ifn (p := _) rfl trivial (fun hc1 => ?_) (fun hc1 => ?_) | refine ats_ifp (p := _) rfl trivial (fun hc1 => ?_) (fun hc1 => ?_) | refine ats_cond rfl trivial (fun hc1 => ?_) (fun hc1 => ?_)
  · have e : ¬ (isAct t a = true ∧ isAct t b = true) := fun hh => by rw [hh.1, hh.2] at hc1; cases hc1
    (repeat refine ats_seq ?_); refine ats_go (by first | exact fix0 hcx | exact fix1 hcx rfl) fun K hK => ?_; simp only [go_sem, seval]; refine hK _ ?_; clear hK K
    rw [if_neg e]
    exact ats_ret (fin2C (v := .agg [.nil]) (by simp only [go_sem, seval]) trivial rfl)
  · simp only [Bool.or_eq_false_iff, Bool.not_eq_false'] at hc1
    have fa := isAct_fam hc1.1
    have fb := isAct_fam hc1.2
    have h16 := (isAct_ring hc1.1).1.2.1
    have la := fa.1
    have lb := fb.1
    have h1 := (isAct_ring hc1.1).1.1
    have hpa := l09Size_ok a (by omega)
    have hpb := l09Size_ok b (by omega)
    have pa := fa.2.2.2.1
    have pb := fb.2.2.2.1
    have hs := specSum_ok t a b fa fb h1 h16
    rw [if_pos hc1]
    refine ats_skip ?_
    (repeat refine ats_seq ?_); refine ats_pick (fix0 hcx) mixed (by kernel_rfl) fun K hK => ?_; simp only [go_sem, seval]
    first | refine fcall_data (hpa) rfl ?_ | refine YR_intro (acall_data (hpa) rfl) ?_
    simp only [go_sem, seval]
    first | refine fcall_data (hpb) rfl ?_ | refine YR_intro (acall_data (hpb) rfl) ?_
    simp only [go_sem, seval]
    (repeat refine And.intro (by first | omega | (intro hq; first | omega | (simp at hq <;> omega) | (simp_all <;> omega))) ?_)
    refine hK _ ?_; clear hK K
    (repeat refine ats_seq ?_); first | refine ats_ifn (p := _) rfl trivial (fun hc2 => ?_) (fun hc2 => ?_) | refine ats_ifp (p := _) rfl trivial (fun hc2 => ?_) (fun hc2 => ?_) | refine ats_cond rfl trivial (fun hc2 => ?_) (fun hc2 => ?_)
    · have e : ¬ ((a.getD 0 []).length + (b.getD 0 []).length ≤ 16) := by omega
      (repeat refine ats_seq ?_); refine ats_go (by first | exact fix0 hcx | exact fix1 hcx rfl) fun K hK => ?_; simp only [go_sem, seval]; refine hK _ ?_; clear hK K
      rw [if_neg e]
      exact ats_ret (fin2C (v := .agg [.nil]) (by simp only [go_sem, seval]) trivial rfl)
    · have e : (a.getD 0 []).length + (b.getD 0 []).length ≤ 16 := by omega
      rw [if_pos e]
      refine ats_skip ?_
      (repeat refine ats_seq ?_); refine ats_go (by first | exact fix0 hcx | exact fix1 hcx rfl) fun K hK => ?_; simp only [go_sem, seval]
      first | refine fcall_data (hs) rfl ?_ | refine YR_intro (acall_data (hs) rfl) ?_
      simp only [go_sem, seval]
      refine hK _ ?_; clear hK K
      exact ats_ret (fin2C (v := .agg [.l3 (smL a b a.length)]) (by simp only [go_sem, seval]) trivial rfl)

theorem smA_shape (t a b : List (List (List Int))) : ∃ (u : Option (List (List (List Int)))) (c : Int), smA t a b = .tup [.agg [optT u], .int c] ∧ ∀ v, u = some v → tot3 v ≤ 1048576 := by
  unfold smA
  split
  · rename_i hc
    split
    · rename_i e
      refine ⟨some (smL a b a.length), 0, rfl, fun v hv => ?_⟩
      cases hv
      have fa := isAct_fam hc.1
      have fb := isAct_fam hc.2
      have h16 := (isAct_ring hc.1).1.2.1
      have la := fa.1
      have lb := fb.1
      have h2 := tot_le (n := tot List.length) (B := 256) (smL a b a.length) (fun m hm => by
        simp only [smL, List.mem_map, List.mem_range] at hm
        obtain ⟨k, hk, rfl⟩ := hm
        have l1 := fa.mat hk
        have l2 := fb.mat (show k < b.length by omega)
        have h3 := tot_le (n := List.length) (B := 16) (smM (a.getD 0 []).length (b.getD 0 []).length (a.getD k []) (b.getD k [])) (fun r hr => by
          simp only [smM, List.mem_append, List.mem_map] at hr
          rcases hr with ⟨r', hr', rfl⟩ | ⟨r', hr', rfl⟩
          · have := (all_getD (d := []) (p := fun r : List Int => r.length = (a.getD 0 []).length)).2 (fun i hi => fa.row hk (by omega)) r' hr'
            simp only [List.length_append, List.length_replicate, this]
            exact e
          · have := (all_getD (d := []) (p := fun r : List Int => r.length = (b.getD 0 []).length)).2 (fun i hi => fb.row (show k < b.length by omega) (by omega)) r' hr'
            simp only [List.length_append, List.length_replicate, this]
            exact e)
        have h4 : (smM (a.getD 0 []).length (b.getD 0 []).length (a.getD k []) (b.getD k [])).length ≤ 16 := by
          simp only [smM, List.length_append, List.length_map]; omega
        have := Nat.mul_le_mul_right 16 h4
        omega)
      rw [smL_length] at h2
      have := Nat.mul_le_mul_right 256 (show a.length ≤ 16 by omega)
      unfold tot3
      omega
    · exact ⟨none, 3, rfl, fun v hv => by cases hv⟩
  · exact ⟨none, 1, rfl, fun v hv => by cases hv⟩
end Go.Proofs.Ytdlmmmklahajgaa
