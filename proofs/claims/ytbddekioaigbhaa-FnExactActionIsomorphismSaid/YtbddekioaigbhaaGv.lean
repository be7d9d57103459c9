/-
  ActionIsomorphism: both sides.
-/
import Derived.Test.YtbddekioaigbhaaGt
import Derived.Test.YtbddekioaigbhaaGu
import Derived.Test.YtbddekioaigbhaaFh
import Derived.Test.YtbddekioaigbhaaHd
set_option linter.unusedSimpArgs false
set_option linter.unusedVariables false
namespace Go.Proofs.Ytbddekioaigbhaa
open Go Go.Aw Go.Pl

noncomputable def aiF (a b : List (List (List Int))) : Option (List Int) := if (a.getD 0 []).length = (b.getD 0 []).length then (extA a.length (a.getD 0 []).length a b (a.getD 0 []).length []).head? else none
noncomputable def aiA (t a b : List (List (List Int))) : AV := if isAct t a && isAct t b then (match aiF a b with
  | some q => .tup [.l1 q, .int 0]
  | none => .tup [.nil, .int 4]) else .tup [.nil, .int 1]
theorem extA_len {k n : Nat} {a b : List (List (List Int))} : ∀ d p, p.length + d = n → ∀ q ∈ extA k n a b d p, q.length = n
  | 0, p, hl, q, hq => by
    simp only [extA, List.mem_singleton] at hq
    subst hq
    omega
  | d + 1, p, hl, q, hq => by
    simp only [extA, List.mem_flatMap, List.mem_range] at hq
    obtain ⟨y, hy, hq⟩ := hq
    split at hq
    · exact extA_len d _ (by simp; omega) q hq
    · cases hq
theorem aiF_len {a b : List (List (List Int))} {q : List Int} (h : aiF a b = some q) : q.length = (a.getD 0 []).length := by
  unfold aiF at h
  split at h
  · exact extA_len _ _ (by simp) q (List.mem_of_mem_head? (Option.mem_def.2 h))
  · cases h
theorem aiA_shape (t a b : List (List (List Int))) : ∃ (u : Option (List Int)) (c : Int), aiA t a b = .tup [optA u, .int c] ∧ ∀ v, u = some v → v.length ≤ 1048576 := by
  unfold aiA
  cases h : isAct t a with
  | false => exact ⟨none, 1, rfl, fun _ h => by cases h⟩
  | true =>
    cases h' : isAct t b with
    | false => exact ⟨none, 1, rfl, fun _ h => by cases h⟩
    | true =>
      obtain ⟨_, _, p3, _⟩ := act_mats h
      simp only [Bool.and_self, if_true]
      cases hd : aiF a b with
      | none => exact ⟨none, 4, rfl, fun _ h => by cases h⟩
      | some q =>
        refine ⟨some q, 0, rfl, fun v hv => ?_⟩
        cases hv
        have := aiF_len hd
        omega

set_option maxHeartbeats 4000000 in
theorem l09Isomorphism_ok (t a b : List (List (List Int))) (h : isAct t a = true) (h' : isAct t b = true) : PureCall Try.prog 19 [.agg [.l3 a], .agg [.l3 b]] (mpA (aiF a b)) := by
  obtain ⟨p1, p2, p3, p4, p5⟩ := act_mats h
  obtain ⟨q1, q2, q3, q4, q5⟩ := act_mats h'
  have f1 := (isAct_fam h).1
  have f2 := (isAct_fam h').1
  have s1 := l09Size_ok a (by omega)
  have s2 := l09Size_ok b (by omega)
  refine PureCall.intro (n := 14) (rs := [.tmp 4]) Try.call19 Try.func19 rfl rfl rfl (by simp only [List.length_cons, List.length_nil]; omega) (fun cx hcx => ats_of ?_); simp only [argSlots, Nat.zero_add, Nat.reduceAdd]
  (repeat refine ats_seq ?_); refine ats_go (fix0 hcx) fun K hK => ?_; simp only [go_sem, seval]; (repeat refine And.intro (by first | omega | (intro hq; first | omega | (simp at hq <;> omega) | (simp_all <;> omega))) ?_); refine hK _ ?_; clear hK K
  (repeat refine ats_seq ?_); refine ats_pick (fix0 hcx) mixed (by kernel_rfl) fun K hK => ?_; simp only [go_sem, seval]
  (repeat refine And.intro (by first | omega | (intro hq; first | omega | (simp at hq <;> omega) | (simp_all <;> omega))) ?_)
  first | refine fcall_data (s1) rfl ?_ | refine YR_intro (acall_data (s1) rfl) ?_
  simp only [go_sem, seval]
  (repeat refine And.intro (by first | omega | (intro hq; first | omega | (simp at hq <;> omega) | (simp_all <;> omega))) ?_)
  first | refine fcall_data (s2) rfl ?_ | refine YR_intro (acall_data (s2) rfl) ?_
  simp only [go_sem, seval]
  (repeat refine And.intro (by first | omega | (intro hq; first | omega | (simp at hq <;> omega) | (simp_all <;> omega))) ?_)
  refine hK _ ?_; clear hK K
  unfold aiF
  (repeat refine ats_seq ?_); first | refine ats_ifn (p := _) rfl trivial (fun hc => ?_) (fun hc => ?_) | refine ats_ifp (p := _) rfl trivial (fun hc => ?_) (fun hc => ?_) | refine ats_cond rfl trivial (fun hc => ?_) (fun hc => ?_)
  · rw [if_neg (by omega)]
    (repeat refine ats_seq ?_); refine ats_go (fix0 hcx) fun K hK => ?_; simp only [go_sem, seval]; (repeat refine And.intro (by first | omega | (intro hq; first | omega | (simp at hq <;> omega) | (simp_all <;> omega))) ?_); refine hK _ ?_; clear hK K
    exact ats_ret (finV rfl ⟨rfl, trivial⟩ rfl)
  · have hl : (a.getD 0 []).length = (b.getD 0 []).length := by omega
    have hm := l09Maps_ok a.length (a.getD 0 []).length a b p1 rfl (fun i hi => by rw [hl]; exact q1 i (by omega)) (by omega) p4 p5 rfl hl.symm p2 p3 (a.getD 0 []).length [] (by simp) QOk.nil
    rw [mapsA_eq p4 _ _ (by simp) ⟨QOk.nil, by simp, fun i _ x hx => absurd hx (by simp)⟩] at hm
    rw [if_pos hl]
    refine ats_skip ?_
    obtain ⟨o, eo⟩ : ∃ o, (extA a.length (a.getD 0 []).length a b (a.getD 0 []).length []).head? = o := ⟨_, rfl⟩
    rw [eo] at hm ⊢
    rcases o with _ | q
    · simp only [mpA] at hm ⊢
      (repeat refine ats_seq ?_); refine ats_go (fix0 hcx) fun K hK => ?_; simp only [go_sem, seval]
      refine fcall_gone [2] (hm) (by simp [frzAs, frzA, find]) rfl ?_; simp only [go_sem, seval]
      (repeat refine And.intro (by first | omega | (intro hq; first | omega | (simp at hq <;> omega) | (simp_all <;> omega))) ?_)
      refine hK _ ?_; clear hK K
      exact ats_ret (finV rfl ⟨rfl, trivial⟩ rfl)
    · simp only [mpA] at hm ⊢
      (repeat refine ats_seq ?_); refine ats_go (fix0 hcx) fun K hK => ?_; simp only [go_sem, seval]
      refine fcall_gone [2] (hm) (by simp [frzAs, frzA, find]) rfl ?_; simp only [go_sem, seval]
      (repeat refine And.intro (by first | omega | (intro hq; first | omega | (simp at hq <;> omega) | (simp_all <;> omega))) ?_)
      refine hK _ ?_; clear hK K
      exact ats_ret (finV rfl ⟨rfl, trivial⟩ rfl)

set_option maxHeartbeats 4000000 in
theorem specAi_ok (t a b : List (List (List Int))) : PureCall Try.prog 6 [.agg [.l3 t], .agg [.l3 a], .agg [.l3 b]] (aiA t a b) := by
  have hk := l09Is_ok t a
  have hk' := l09Is_ok t b
  unfold aiA
  refine PureCall.intro (n := 26) (rs := [.tmp 6, .tmp 7]) Try.call6 Try.func6 rfl rfl rfl (by simp only [List.length_cons, List.length_nil]; omega) (fun cx hcx => ats_of ?_); simp only [argSlots, Nat.zero_add, Nat.reduceAdd]
  (repeat refine ats_seq ?_); refine ats_go (fix0 hcx) fun K hK => ?_; simp only [go_sem, seval]; (repeat refine And.intro (by first | omega | (intro hq; first | omega | (simp at hq <;> omega) | (simp_all <;> omega))) ?_); refine hK _ ?_; clear hK K
  (repeat refine ats_seq ?_); refine ats_go (fix0 hcx) fun K hK => ?_; simp only [go_sem, seval]
  first | refine fcall_data (hk) rfl ?_ | refine YR_intro (acall_data (hk) rfl) ?_
  simp only [go_sem, seval]
  (repeat refine And.intro (by first | omega | (intro hq; first | omega | (simp at hq <;> omega) | (simp_all <;> omega))) ?_)
  first | refine YR_intro (fun _ => acall_data (hk') rfl) ?_ | refine YR_intro (acall_data (hk') rfl) ?_
  simp only [go_sem, seval]
  (repeat refine And.intro (by first | omega | (intro hq; first | omega | (simp at hq <;> omega) | (simp_all <;> omega))) ?_)
  refine hK _ ?_; clear hK K
  cases h : isAct t a with
  | false =>
    (repeat refine ats_seq ?_); refine ats_yes rfl trivial ?_
    (repeat refine ats_seq ?_); refine ats_go (fix0 hcx) fun K hK => ?_; simp only [go_sem, seval]; refine hK _ ?_; clear hK K
    exact ats_ret (fin2 trivial trivial rfl)
  | true =>
    cases h' : isAct t b with
    | false =>
      (repeat refine ats_seq ?_); refine ats_yes rfl trivial ?_
      (repeat refine ats_seq ?_); refine ats_go (fix0 hcx) fun K hK => ?_; simp only [go_sem, seval]; refine hK _ ?_; clear hK K
      exact ats_ret (fin2 trivial trivial rfl)
    | true =>
      have hi := l09Isomorphism_ok t a b h h'
      obtain ⟨_, p2, p3, _⟩ := act_mats h
      simp only [Bool.and_self, if_true]
      (repeat refine ats_seq ?_); refine ats_no rfl trivial ?_
      refine ats_skip ?_
      cases hd : aiF a b with
      | none =>
        rw [hd] at hi
        simp only [mpA] at hi
        (repeat refine ats_seq ?_); refine ats_go (fix0 hcx) fun K hK => ?_; simp only [go_sem, seval]
        first | refine fcall_data (hi) rfl ?_ | refine YR_intro (acall_data (hi) rfl) ?_
        simp only [go_sem, seval]
        (repeat refine And.intro (by first | omega | (intro hq; first | omega | (simp at hq <;> omega) | (simp_all <;> omega))) ?_)
        refine hK _ ?_; clear hK K
        (repeat refine ats_seq ?_); refine ats_go (fix0 hcx) fun K hK => ?_; simp only [go_sem, seval]; (repeat refine And.intro (by first | omega | (intro hq; first | omega | (simp at hq <;> omega) | (simp_all <;> omega))) ?_); refine hK _ ?_; clear hK K
        (repeat refine ats_seq ?_); refine ats_yes rfl trivial ?_
        (repeat refine ats_seq ?_); refine ats_go (fix0 hcx) fun K hK => ?_; simp only [go_sem, seval]; refine hK _ ?_; clear hK K
        exact ats_ret (fin2 trivial trivial rfl)
      | some q =>
        have lq := aiF_len hd
        rw [hd] at hi
        simp only [mpA] at hi
        (repeat refine ats_seq ?_); refine ats_go (fix0 hcx) fun K hK => ?_; simp only [go_sem, seval]
        first | refine fcall_data (hi) rfl ?_ | refine YR_intro (acall_data (hi) rfl) ?_
        simp only [go_sem, seval]
        (repeat refine And.intro (by first | omega | (intro hq; first | omega | (simp at hq <;> omega) | (simp_all <;> omega))) ?_)
        refine hK _ ?_; clear hK K
        (repeat refine ats_seq ?_); refine ats_go (fix0 hcx) fun K hK => ?_; simp only [go_sem, seval]; (repeat refine And.intro (by first | omega | (intro hq; first | omega | (simp at hq <;> omega) | (simp_all <;> omega))) ?_); refine hK _ ?_; clear hK K
        (repeat refine ats_seq ?_); first | refine ats_ifn (p := _) rfl trivial (fun hc => ?_) (fun hc => ?_) | refine ats_ifp (p := _) rfl trivial (fun hc => ?_) (fun hc => ?_) | refine ats_cond rfl trivial (fun hc => ?_) (fun hc => ?_)
        · omega
        · refine ats_skip ?_
          (repeat refine ats_seq ?_); refine ats_go (fix0 hcx) fun K hK => ?_; simp only [go_sem, seval]; refine hK _ ?_; clear hK K
          exact ats_ret (fin2 trivial trivial rfl)

set_option maxHeartbeats 4000000 in
theorem implAi_ok (t a b : List (List (List Int))) : FreshCall Try.prog 9 [.agg [.l3 t], .agg [.l3 a], .agg [.l3 b]] (aiA t a b) := by
  have hk := IsAction_ok t a
  have hk' := IsAction_ok t b
  unfold aiA
  refine FreshCall.intro (n := 48) (rs := [.tmp 6, .tmp 7]) Try.call9 Try.func9 rfl rfl rfl (by simp only [List.length_cons, List.length_nil]; omega) (fun cx hcx => ats_of ?_); simp only [argSlots, Nat.zero_add, Nat.reduceAdd]
  (repeat refine ats_seq ?_); refine ats_go (fix0 hcx) fun K hK => ?_; simp only [go_sem, seval]; (repeat refine And.intro (by first | omega | (intro hq; first | omega | (simp at hq <;> omega) | (simp_all <;> omega))) ?_); refine hK _ ?_; clear hK K
  (repeat refine ats_seq ?_); refine ats_go (fix0 hcx) fun K hK => ?_; simp only [go_sem, seval]
  first | refine fcall_data (hk) rfl ?_ | refine YR_intro (acall_data (hk) rfl) ?_
  simp only [go_sem, seval]
  (repeat refine And.intro (by first | omega | (intro hq; first | omega | (simp at hq <;> omega) | (simp_all <;> omega))) ?_)
  first | refine YR_intro (fun _ => acall_data (hk') rfl) ?_ | refine YR_intro (acall_data (hk') rfl) ?_
  simp only [go_sem, seval]
  (repeat refine And.intro (by first | omega | (intro hq; first | omega | (simp at hq <;> omega) | (simp_all <;> omega))) ?_)
  refine hK _ ?_; clear hK K
  cases h : isAct t a with
  | false =>
    (repeat refine ats_seq ?_); refine ats_yes rfl trivial ?_
    (repeat refine ats_seq ?_); refine ats_go (fix0 hcx) fun K hK => ?_; simp only [go_sem, seval]; refine hK _ ?_; clear hK K
    exact ats_ret (own2 (is := []) trivial trivial rfl (by simp))
  | true =>
    cases h' : isAct t b with
    | false =>
      (repeat refine ats_seq ?_); refine ats_yes rfl trivial ?_
      (repeat refine ats_seq ?_); refine ats_go (fix0 hcx) fun K hK => ?_; simp only [go_sem, seval]; refine hK _ ?_; clear hK K
      exact ats_ret (own2 (is := []) trivial trivial rfl (by simp))
    | true =>
      obtain ⟨p1, p2, p3, p4, p5⟩ := act_mats h
      obtain ⟨q1, q2, q3, q4, q5⟩ := act_mats h'
      have f1 := (isAct_fam h).1
      have f2 := (isAct_fam h').1
      have s1 := points_ok a (by omega)
      have s2 := points_ok b (by omega)
      simp only [Bool.and_self, if_true]
      (repeat refine ats_seq ?_); refine ats_no rfl trivial ?_
      refine ats_skip ?_
      (repeat refine ats_seq ?_); refine ats_go (fix0 hcx) fun K hK => ?_; simp only [go_sem, seval]
      first | refine fcall_data (s1) rfl ?_ | refine YR_intro (acall_data (s1) rfl) ?_
      simp only [go_sem, seval]
      (repeat refine And.intro (by first | omega | (intro hq; first | omega | (simp at hq <;> omega) | (simp_all <;> omega))) ?_)
      refine hK _ ?_; clear hK K
      (repeat refine ats_seq ?_); refine ats_pick (fix0 hcx) mixed (by kernel_rfl) fun K hK => ?_; simp only [go_sem, seval]
      (repeat refine And.intro (by first | omega | (intro hq; first | omega | (simp at hq <;> omega) | (simp_all <;> omega))) ?_)
      first | refine fcall_data (s2) rfl ?_ | refine YR_intro (acall_data (s2) rfl) ?_
      simp only [go_sem, seval]
      (repeat refine And.intro (by first | omega | (intro hq; first | omega | (simp at hq <;> omega) | (simp_all <;> omega))) ?_)
      refine hK _ ?_; clear hK K
      (repeat refine ats_seq ?_); first | refine ats_ifn (p := _) rfl trivial (fun hc => ?_) (fun hc => ?_) | refine ats_ifp (p := _) rfl trivial (fun hc => ?_) (fun hc => ?_) | refine ats_cond rfl trivial (fun hc => ?_) (fun hc => ?_)
      · have e : aiF a b = none := by unfold aiF; rw [if_neg (by omega)]
        rw [e]
        (repeat refine ats_seq ?_); refine ats_go (fix0 hcx) fun K hK => ?_; simp only [go_sem, seval]; refine hK _ ?_; clear hK K
        exact ats_ret (own2 (is := []) trivial trivial rfl (by simp))
      · have hl : (a.getD 0 []).length = (b.getD 0 []).length := by omega
        have hx := extAc_ok a.length (a.getD 0 []).length a b p1 (fun i hi => by rw [hl]; exact q1 i (by omega)) rfl (by omega) p3 p5 (a.getD 0 []).length [] (by simp) QOk.nil
        have e : fstA a.length (a.getD 0 []).length a b (a.getD 0 []).length [] = aiF a b := by unfold fstA aiF; rw [if_pos hl]
        rw [e] at hx
        simp only [TAc] at hx
        cases hd : aiF a b with
        | none =>
          rw [hd] at hx
          simp only [Option.getD_none, Option.isSome_none] at hx
          refine ats_skip ?_
          (repeat refine ats_seq ?_); refine ats_go (fix0 hcx) fun K hK => ?_; simp only [go_sem, seval]; (repeat refine And.intro (by first | omega | (intro hq; first | omega | (simp at hq <;> omega) | (simp_all <;> omega))) ?_); refine hK _ ?_; clear hK K
          (repeat refine ats_seq ?_); refine ats_go (fix0 hcx) fun K hK => ?_; simp only [go_sem, seval]; (repeat refine And.intro (by first | omega | (intro hq; first | omega | (simp at hq <;> omega) | (simp_all <;> omega))) ?_); refine hK _ ?_; clear hK K
          (repeat refine ats_seq ?_); refine ats_go (fix0 hcx) fun K hK => ?_; simp only [go_sem, seval]
          refine fcall_box (hx) (by simp [Aw.ids]) (by simp [find]) (by simp [closedT, killT, killAs, killA, outQ, Aw.ids]) (by simp [killAs, killA, outQ, Aw.ids]) (by simp [Aw.ids]) ?_; simp only [Aw.ids, List.map_cons, List.map_nil, List.filter_cons, List.filter_nil, List.contains_cons, List.contains_nil, Bool.or_false, Bool.or_true, Bool.not_true, Bool.not_false, Nat.reduceBEq, Bool.false_eq_true, if_true, if_false, List.cons_append, List.nil_append]; simp only [go_sem, seval]
          (repeat refine And.intro (by first | omega | (intro hq; first | omega | (simp at hq <;> omega) | (simp_all <;> omega))) ?_)
          refine hK _ ?_; clear hK K
          (repeat refine ats_seq ?_); refine ats_yes rfl trivial ?_
          (repeat refine ats_seq ?_); refine ats_go (fix0 hcx) fun K hK => ?_; simp only [go_sem, seval]; refine hK _ ?_; clear hK K
          exact ats_ret (own2 (is := []) trivial trivial rfl (by simp))
        | some q =>
          have lq := aiF_len hd
          rw [hd] at hx
          simp only [Option.getD_some, Option.isSome_some] at hx
          refine ats_skip ?_
          (repeat refine ats_seq ?_); refine ats_go (fix0 hcx) fun K hK => ?_; simp only [go_sem, seval]; (repeat refine And.intro (by first | omega | (intro hq; first | omega | (simp at hq <;> omega) | (simp_all <;> omega))) ?_); refine hK _ ?_; clear hK K
          (repeat refine ats_seq ?_); refine ats_go (fix0 hcx) fun K hK => ?_; simp only [go_sem, seval]; (repeat refine And.intro (by first | omega | (intro hq; first | omega | (simp at hq <;> omega) | (simp_all <;> omega))) ?_); refine hK _ ?_; clear hK K
          (repeat refine ats_seq ?_); refine ats_go (fix0 hcx) fun K hK => ?_; simp only [go_sem, seval]
          refine fcall_box (hx) (by simp [Aw.ids]) (by simp [find]) (by simp [closedT, killT, killAs, killA, outQ, Aw.ids]) (by simp [killAs, killA, outQ, Aw.ids]) (by simp [Aw.ids]) ?_; simp only [Aw.ids, List.map_cons, List.map_nil, List.filter_cons, List.filter_nil, List.contains_cons, List.contains_nil, Bool.or_false, Bool.or_true, Bool.not_true, Bool.not_false, Nat.reduceBEq, Bool.false_eq_true, if_true, if_false, List.cons_append, List.nil_append]; simp only [go_sem, seval]
          (repeat refine And.intro (by first | omega | (intro hq; first | omega | (simp at hq <;> omega) | (simp_all <;> omega))) ?_)
          refine hK _ ?_; clear hK K
          (repeat refine ats_seq ?_); refine ats_no rfl trivial ?_
          refine ats_skip ?_
          (repeat refine ats_seq ?_); refine ats_go (fix0 hcx) fun K hK => ?_; simp only [go_sem, seval]; (repeat refine And.intro (by first | omega | (intro hq; first | omega | (simp at hq <;> omega) | (simp_all <;> omega))) ?_); refine hK _ ?_; clear hK K
          (repeat refine ats_seq ?_); refine ats_go (fix0 hcx) fun K hK => ?_; simp only [go_sem, seval]; (repeat refine And.intro (by first | omega | (intro hq; first | omega | (simp at hq <;> omega) | (simp_all <;> omega))) ?_); refine hK _ ?_; clear hK K
          (repeat refine ats_seq ?_); refine AT.ghost (st' := ⟨[(11, .ref 7 []), (36, .ref 3 []), (37, .int q.length), (38, .int 0)], [(3, .t1 q), (7, .t1 [])]⟩) (ghost_trans (ghost_drop [0, 1, 2, 4, 5, 6]) (ghost_can [] (by simp only [killL, killA, killAs, qOf, rmT, killH, killT, List.filter_cons, List.filter_nil, List.contains_cons, List.contains_nil, Bool.or_false, Bool.or_true, Bool.false_and, Bool.not_true, Bool.not_false, Bool.false_eq_true, if_true, if_false, rnLs, rnL, rn, rns, sw, SlotsLe, St.get, slotGet, List.map_cons, List.map_nil, seval, AV.int.injEq, AV.bool.injEq, AV.l1.injEq, AV.l2.injEq, AV.l3.injEq, true_and, and_true]) (by simp only [killL, killA, killAs, qOf, rmT, killH, killT, List.filter_cons, List.filter_nil, List.contains_cons, List.contains_nil, Bool.or_false, Bool.or_true, Bool.false_and, Bool.not_true, Bool.not_false, Bool.false_eq_true, if_true, if_false, sortH, insH, rnHs, rnH, rnT, rn, rns, sw, List.map_cons, List.map_nil, seval]))) ?_
          (repeat refine ats_seq ?_); refine ats_loop (fun i : Nat => ⟨[(11, .ref 7 []), (36, .ref 3 []), (37, .int q.length), (38, .int i)], [(3, .t1 q), (7, .t1 (q.take i))]⟩) (fun i => i ≤ q.length) (fun i => q.length - i) 0 (Nat.zero_le _) (by
            refine And.intro ?_ rfl; simp only [SlotsLe, St.get, slotGet, Nat.reduceEqDiff, ↓reduceIte, AV.int.injEq, AV.bool.injEq, AV.l1.injEq, AV.l2.injEq, AV.l3.injEq, true_and, and_true]
            try rfl) (fun i hi => ?_)
          have lt : (q.take i).length = i := by rw [List.length_take]; omega
          (repeat refine ats_seq ?_); refine ats_go (fix0 hcx) fun K hK => ?_; simp only [go_sem, seval]; (repeat refine And.intro (by first | omega | (intro hq; first | omega | (simp at hq <;> omega) | (simp_all <;> omega))) ?_); refine hK _ ?_; clear hK K
          (repeat refine ats_seq ?_); first | refine ats_ifn (p := _) rfl trivial (fun h2 => ?_) (fun h2 => ?_) | refine ats_ifp (p := _) rfl trivial (fun h2 => ?_) (fun h2 => ?_) | refine ats_cond rfl trivial (fun h2 => ?_) (fun h2 => ?_)
          · have st : q.take (i + 1) = q.take i ++ [q.getD i 0] := by
              rw [← List.take_append_getElem (show i < q.length by omega), List.getD_eq_getElem?_getD, List.getElem?_eq_getElem (show i < q.length by omega)]
              rfl
            refine ats_skip ?_
            (repeat refine ats_seq ?_); refine ats_block ?_
            (repeat refine ats_seq ?_); refine ats_go (fix0 hcx) fun K hK => ?_; simp only [go_sem, seval]; (repeat refine And.intro (by first | omega | (intro hq; first | omega | (simp at hq <;> omega) | (simp_all <;> omega))) ?_); refine hK _ ?_; clear hK K
            (repeat refine ats_seq ?_); refine ats_go (fix0 hcx) fun K hK => ?_; simp only [go_sem, seval]; (repeat refine And.intro (by first | omega | (intro hq; first | omega | (simp at hq <;> omega) | (simp_all <;> omega))) ?_); refine hK _ ?_; clear hK K
            (repeat refine ats_seq ?_); refine ats_go (fix0 hcx) fun K hK => ?_; simp only [go_sem, seval]; (repeat refine And.intro (by first | omega | (intro hq; first | omega | (simp at hq <;> omega) | (simp_all <;> omega))) ?_); refine hK _ ?_; clear hK K
            refine ⟨i + 1, by omega, by omega, .inr ⟨[8], by simp only [killL, List.map_cons, List.map_nil, killA, killAs, qOf, rmT, killH, killT, List.filter_cons, List.filter_nil, List.contains_cons, List.contains_nil, SlotsLe, St.get, slotGet, Nat.reduceEqDiff, Nat.reduceBEq, Bool.or_false, Bool.or_true, Bool.false_and, Bool.not_true, Bool.not_false, Bool.false_eq_true, ↓reduceIte, if_true, if_false, AV.int.injEq, AV.bool.injEq, AV.l1.injEq, AV.l2.injEq, AV.l3.injEq, true_and, and_true]; (try omega), by simp only [killL, List.map_cons, List.map_nil, killA, killAs, qOf, rmT, killH, killT, List.filter_cons, List.filter_nil, List.contains_cons, List.contains_nil, SlotsLe, St.get, slotGet, Nat.reduceEqDiff, Nat.reduceBEq, Bool.or_false, Bool.or_true, Bool.false_and, Bool.not_true, Bool.not_false, Bool.false_eq_true, ↓reduceIte, if_true, if_false, AV.int.injEq, AV.bool.injEq, AV.l1.injEq, AV.l2.injEq, AV.l3.injEq, true_and, and_true]; rw [st]⟩⟩
          · obtain rfl : i = q.length := by omega
            rw [List.take_of_length_le (Nat.le_refl _)]
            refine ats_exit (lq_x ?_)
            (repeat refine ats_seq ?_); refine ats_go (fix0 hcx) fun K hK => ?_; simp only [go_sem, seval]; refine hK _ ?_; clear hK K
            exact ats_ret (own2 (is := [7]) trivial trivial rfl (by simp))
end Go.Proofs.Ytbddekioaigbhaa
