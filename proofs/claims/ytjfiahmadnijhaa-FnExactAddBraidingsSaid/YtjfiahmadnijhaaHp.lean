/-
  AddBraidings, on both sides.
-/
import Derived.Test.YtjfiahmadnijhaaHo
import Derived.Test.YtjfiahmadnijhaaHl
import Derived.Test.YtjfiahmadnijhaaWx3
set_option linter.unusedSimpArgs false
set_option linter.unusedVariables false
namespace Go.Proofs.Ytjfiahmadnijhaa
open Go Go.Aw Go.Pl

theorem isBr_get {o : List Int} {m : Int} {w : List (List (List Int))} {c : List (List Int)} (h : isBr o m w c = true) : CocS o m w ∧ GridB w.length m c := by
  unfold isBr at h
  have := bd_iff.1 h
  exact ⟨this.1.1.1, this.1.2.1⟩

set_option maxRecDepth 100000 in
set_option maxHeartbeats 8000000 in
theorem specAb_ok (o : List Int) (m : Int) (w : List (List (List Int))) (c : List (List Int)) (o' : List Int) (m' : Int) (w' : List (List (List Int))) (c' : List (List Int)) (hl : o.length ≤ 1048576) : PureCall Try.prog 5 [.agg [.l1 o, .int m, .l3 w, .l2 c], .agg [.l1 o', .int m', .l3 w', .l2 c']] (abA o m w c o' m' w' c') := by
  have hk := l18Is_ok o m w c
  have hk' := l18Is_ok o' m' w' c'
  unfold abA
  cases e1 : isBr o m w c with
  | false =>
    rw [e1] at hk
    rw [if_neg (fun h => by cases h.1)]
    refine PureCall.intro (n := 36) (rs := [.cell 4 32, .tmp 5]) Try.call5 Try.func5 rfl rfl rfl (by simp only [List.length_cons, List.length_nil]; omega) (fun cx hcx => ats_of ?_); simp only [argSlots, Nat.zero_add, Nat.reduceAdd]
    (repeat refine ats_seq ?_); refine ats_go (fix0 hcx) fun K hK => ?_; simp only [go_sem, seval]; refine hK _ ?_; clear hK K
    (repeat refine ats_seq ?_); refine ats_go (fix0 hcx) fun K hK => ?_; simp only [go_sem, seval]
    first | refine fcall_data (hk) rfl ?_ | refine YR_intro (acall_data (hk) rfl) ?_
    simp only [go_sem, seval]
    (repeat refine And.intro (by first | omega | (intro hq; first | omega | (simp at hq <;> omega) | (simp_all <;> omega))) ?_)
    refine YR_intro (v := .bool false) (by first | trivial | (intro h; cases h)) ?_
    simp only [go_sem, seval]
    refine hK _ ?_; clear hK K
    (repeat refine ats_seq ?_); refine ats_yes rfl trivial ?_
    (repeat refine ats_seq ?_); refine ats_go (fix0 hcx) fun K hK => ?_; simp only [go_sem, seval]; refine hK _ ?_; clear hK K
    exact ats_ret (fin2C (v := .agg [.nil, .int 0, .nil, .nil]) (by simp only [go_sem, seval]) trivial rfl)
  | true =>
    rw [e1] at hk
    cases e2 : isBr o' m' w' c' with
    | false =>
      rw [e2] at hk'
      rw [if_neg (fun h => by cases h.2)]
      refine PureCall.intro (n := 36) (rs := [.cell 4 32, .tmp 5]) Try.call5 Try.func5 rfl rfl rfl (by simp only [List.length_cons, List.length_nil]; omega) (fun cx hcx => ats_of ?_); simp only [argSlots, Nat.zero_add, Nat.reduceAdd]
      (repeat refine ats_seq ?_); refine ats_go (fix0 hcx) fun K hK => ?_; simp only [go_sem, seval]; refine hK _ ?_; clear hK K
      (repeat refine ats_seq ?_); refine ats_go (fix0 hcx) fun K hK => ?_; simp only [go_sem, seval]
      first | refine fcall_data (hk) rfl ?_ | refine YR_intro (acall_data (hk) rfl) ?_
      simp only [go_sem, seval]
      (repeat refine And.intro (by first | omega | (intro hq; first | omega | (simp at hq <;> omega) | (simp_all <;> omega))) ?_)
      first | refine fcall_data (hk') rfl ?_ | refine YR_intro (acall_data (hk') rfl) ?_
      simp only [go_sem, seval]
      (repeat refine And.intro (by first | omega | (intro hq; first | omega | (simp at hq <;> omega) | (simp_all <;> omega))) ?_)
      refine hK _ ?_; clear hK K
      (repeat refine ats_seq ?_); refine ats_yes rfl trivial ?_
      (repeat refine ats_seq ?_); refine ats_go (fix0 hcx) fun K hK => ?_; simp only [go_sem, seval]; refine hK _ ?_; clear hK K
      exact ats_ret (fin2C (v := .agg [.nil, .int 0, .nil, .nil]) (by simp only [go_sem, seval]) trivial rfl)
    | true =>
      rw [e2] at hk'
      rw [if_pos ⟨rfl, rfl⟩]
      obtain ⟨s1, b1⟩ := isBr_get e1
      obtain ⟨s2, b2⟩ := isBr_get e2
      refine PureCall.intro (n := 36) (rs := [.cell 4 32, .tmp 5]) Try.call5 Try.func5 rfl rfl rfl (by simp only [List.length_cons, List.length_nil]; omega) (fun cx hcx => ats_of ?_); simp only [argSlots, Nat.zero_add, Nat.reduceAdd]
      (repeat refine ats_seq ?_); refine ats_go (fix0 hcx) fun K hK => ?_; simp only [go_sem, seval]; refine hK _ ?_; clear hK K
      (repeat refine ats_seq ?_); refine ats_go (fix0 hcx) fun K hK => ?_; simp only [go_sem, seval]
      first | refine fcall_data (hk) rfl ?_ | refine YR_intro (acall_data (hk) rfl) ?_
      simp only [go_sem, seval]
      (repeat refine And.intro (by first | omega | (intro hq; first | omega | (simp at hq <;> omega) | (simp_all <;> omega))) ?_)
      first | refine fcall_data (hk') rfl ?_ | refine YR_intro (acall_data (hk') rfl) ?_
      simp only [go_sem, seval]
      (repeat refine And.intro (by first | omega | (intro hq; first | omega | (simp at hq <;> omega) | (simp_all <;> omega))) ?_)
      refine hK _ ?_; clear hK K
      (repeat refine ats_seq ?_); refine ats_no rfl trivial ?_
      refine ats_skip ?_
      (repeat refine ats_seq ?_); refine ats_go (fix0 hcx) fun K hK => ?_; simp only [go_sem, seval]
      (repeat refine And.intro (by first | omega | (intro hq; first | omega | (simp at hq <;> omega) | (simp_all <;> omega))) ?_)
      first | refine fcall_data (l01Same_ok o o') rfl ?_ | refine YR_intro (acall_data (l01Same_ok o o') rfl) ?_
      simp only [go_sem, seval]
      (repeat refine And.intro (by first | omega | (intro hq; first | omega | (simp at hq <;> omega) | (simp_all <;> omega))) ?_)
      refine hK _ ?_; clear hK K
      (repeat refine ats_seq ?_); first | refine ats_ifn (p := _) rfl trivial (fun hc => ?_) (fun hc => ?_) | refine ats_ifp (p := _) rfl trivial (fun hc => ?_) (fun hc => ?_) | refine ats_cond rfl trivial (fun hc => ?_) (fun hc => ?_)
      · have hne : ¬ (o = o' ∧ m = m') := fun h => by rw [h.1, h.2] at hc; simp at hc
        rw [if_neg hne]
        (repeat refine ats_seq ?_); refine ats_go (fix0 hcx) fun K hK => ?_; simp only [go_sem, seval]; refine hK _ ?_; clear hK K
        exact ats_ret (fin2C (v := .agg [.nil, .int 0, .nil, .nil]) (by simp only [go_sem, seval]) trivial rfl)
      · have he : o = o' ∧ m = m' := by simpa using hc
        rw [if_pos he]
        obtain ⟨rfl, rfl⟩ := he
        have hn : w'.length = w.length := by
          have a1 := s1.2.2.2.2.1
          have a2 := s2.2.2.2.2.1
          omega
        have hc2 := s2.2.2.2.2.2
        rw [hn] at hc2 b2
        have hS := l18Sum_ok o m w c o w' c' s1 hn hc2 hl b1 b2
        refine ats_skip ?_
        (repeat refine ats_seq ?_); refine ats_go (fix0 hcx) fun K hK => ?_; simp only [go_sem, seval]
        (repeat refine And.intro (by first | omega | (intro hq; first | omega | (simp at hq <;> omega) | (simp_all <;> omega))) ?_)
        first | refine fcall_data (hS) rfl ?_ | refine YR_intro (acall_data (hS) rfl) ?_
        simp only [go_sem, seval]
        (repeat refine And.intro (by first | omega | (intro hq; first | omega | (simp at hq <;> omega) | (simp_all <;> omega))) ?_)
        refine hK _ ?_; clear hK K
        exact ats_ret (fin2C (v := .agg [.l1 o, .int m, .l3 (sumW m w.length w w'), .l2 (sumC m w.length c c')]) (by simp only [go_sem, seval]) trivial rfl)

set_option maxRecDepth 100000 in
set_option maxHeartbeats 8000000 in
theorem implAb_ok (o : List Int) (m : Int) (w : List (List (List Int))) (c : List (List Int)) (o' : List Int) (m' : Int) (w' : List (List (List Int))) (c' : List (List Int)) (hl : o.length ≤ 1048576) : FreshCall Try.prog 7 [.agg [.l1 o, .int m, .l3 w, .l2 c], .agg [.l1 o', .int m', .l3 w', .l2 c']] (abA o m w c o' m' w' c') := by
  have hk := IsBraiding_ok o m w c
  have hk' := IsBraiding_ok o' m' w' c'
  unfold abA
  cases e1 : isBr o m w c with
  | false =>
    rw [e1] at hk
    rw [if_neg (fun h => by cases h.1)]
    refine FreshCall.intro (n := 29) (rs := [.cell 4 32, .tmp 5]) Try.call7 Try.func7 rfl rfl rfl (by simp only [List.length_cons, List.length_nil]; omega) (fun cx hcx => ats_of ?_); simp only [argSlots, Nat.zero_add, Nat.reduceAdd]
    (repeat refine ats_seq ?_); refine ats_go (fix0 hcx) fun K hK => ?_; simp only [go_sem, seval]; refine hK _ ?_; clear hK K
    (repeat refine ats_seq ?_); refine ats_go (fix0 hcx) fun K hK => ?_; simp only [go_sem, seval]
    first | refine fcall_data (hk) rfl ?_ | refine YR_intro (acall_data (hk) rfl) ?_
    simp only [go_sem, seval]
    (repeat refine And.intro (by first | omega | (intro hq; first | omega | (simp at hq <;> omega) | (simp_all <;> omega))) ?_)
    refine YR_intro (v := .bool false) (by first | trivial | (intro h; cases h)) ?_
    simp only [go_sem, seval]
    refine hK _ ?_; clear hK K
    (repeat refine ats_seq ?_); refine ats_yes rfl trivial ?_
    (repeat refine ats_seq ?_); refine ats_go (fix0 hcx) fun K hK => ?_; simp only [go_sem, seval]; refine hK _ ?_; clear hK K
    exact ats_ret (own2C (v := .agg [.nil, .int 0, .nil, .nil]) (by simp only [go_sem, seval]) trivial rfl (by simp))
  | true =>
    rw [e1] at hk
    cases e2 : isBr o' m' w' c' with
    | false =>
      rw [e2] at hk'
      rw [if_neg (fun h => by cases h.2)]
      refine FreshCall.intro (n := 29) (rs := [.cell 4 32, .tmp 5]) Try.call7 Try.func7 rfl rfl rfl (by simp only [List.length_cons, List.length_nil]; omega) (fun cx hcx => ats_of ?_); simp only [argSlots, Nat.zero_add, Nat.reduceAdd]
      (repeat refine ats_seq ?_); refine ats_go (fix0 hcx) fun K hK => ?_; simp only [go_sem, seval]; refine hK _ ?_; clear hK K
      (repeat refine ats_seq ?_); refine ats_go (fix0 hcx) fun K hK => ?_; simp only [go_sem, seval]
      first | refine fcall_data (hk) rfl ?_ | refine YR_intro (acall_data (hk) rfl) ?_
      simp only [go_sem, seval]
      (repeat refine And.intro (by first | omega | (intro hq; first | omega | (simp at hq <;> omega) | (simp_all <;> omega))) ?_)
      first | refine fcall_data (hk') rfl ?_ | refine YR_intro (acall_data (hk') rfl) ?_
      simp only [go_sem, seval]
      (repeat refine And.intro (by first | omega | (intro hq; first | omega | (simp at hq <;> omega) | (simp_all <;> omega))) ?_)
      refine hK _ ?_; clear hK K
      (repeat refine ats_seq ?_); refine ats_yes rfl trivial ?_
      (repeat refine ats_seq ?_); refine ats_go (fix0 hcx) fun K hK => ?_; simp only [go_sem, seval]; refine hK _ ?_; clear hK K
      exact ats_ret (own2C (v := .agg [.nil, .int 0, .nil, .nil]) (by simp only [go_sem, seval]) trivial rfl (by simp))
    | true =>
      rw [e2] at hk'
      rw [if_pos ⟨rfl, rfl⟩]
      obtain ⟨s1, b1⟩ := isBr_get e1
      obtain ⟨s2, b2⟩ := isBr_get e2
      refine FreshCall.intro (n := 29) (rs := [.cell 4 32, .tmp 5]) Try.call7 Try.func7 rfl rfl rfl (by simp only [List.length_cons, List.length_nil]; omega) (fun cx hcx => ats_of ?_); simp only [argSlots, Nat.zero_add, Nat.reduceAdd]
      (repeat refine ats_seq ?_); refine ats_go (fix0 hcx) fun K hK => ?_; simp only [go_sem, seval]; refine hK _ ?_; clear hK K
      (repeat refine ats_seq ?_); refine ats_go (fix0 hcx) fun K hK => ?_; simp only [go_sem, seval]
      first | refine fcall_data (hk) rfl ?_ | refine YR_intro (acall_data (hk) rfl) ?_
      simp only [go_sem, seval]
      (repeat refine And.intro (by first | omega | (intro hq; first | omega | (simp at hq <;> omega) | (simp_all <;> omega))) ?_)
      first | refine fcall_data (hk') rfl ?_ | refine YR_intro (acall_data (hk') rfl) ?_
      simp only [go_sem, seval]
      (repeat refine And.intro (by first | omega | (intro hq; first | omega | (simp at hq <;> omega) | (simp_all <;> omega))) ?_)
      refine hK _ ?_; clear hK K
      (repeat refine ats_seq ?_); refine ats_no rfl trivial ?_
      refine ats_skip ?_
      (repeat refine ats_seq ?_); refine ats_go (fix0 hcx) fun K hK => ?_; simp only [go_sem, seval]
      (repeat refine And.intro (by first | omega | (intro hq; first | omega | (simp at hq <;> omega) | (simp_all <;> omega))) ?_)
      first | refine fcall_data (sameKind_ok o m w o' m' w') rfl ?_ | refine YR_intro (acall_data (sameKind_ok o m w o' m' w') rfl) ?_
      simp only [go_sem, seval]
      (repeat refine And.intro (by first | omega | (intro hq; first | omega | (simp at hq <;> omega) | (simp_all <;> omega))) ?_)
      refine hK _ ?_; clear hK K
      (repeat refine ats_seq ?_); first | refine ats_ifn (p := _) rfl trivial (fun hc => ?_) (fun hc => ?_) | refine ats_ifp (p := _) rfl trivial (fun hc => ?_) (fun hc => ?_) | refine ats_cond rfl trivial (fun hc => ?_) (fun hc => ?_)
      · have hne : ¬ (o = o' ∧ m = m') := fun h => by rw [h.1, h.2] at hc; simp at hc
        rw [if_neg hne]
        (repeat refine ats_seq ?_); refine ats_go (fix0 hcx) fun K hK => ?_; simp only [go_sem, seval]; refine hK _ ?_; clear hK K
        exact ats_ret (own2C (v := .agg [.nil, .int 0, .nil, .nil]) (by simp only [go_sem, seval]) trivial rfl (by simp))
      · have he : o = o' ∧ m = m' := by simpa using hc
        rw [if_pos he]
        obtain ⟨rfl, rfl⟩ := he
        have n8 := s1.n8
        have hw1 := s1.2.2.2.2.1
        have hn : w'.length = w.length := by
          have a2 := s2.2.2.2.2.1
          omega
        have hc2 := s2.2.2.2.2.2
        rw [hn] at hc2 b2
        have hg : gsz o = (w.length : Int) := by
          unfold gsz min17
          rw [if_pos (bd_true s1.1), if_pos (by have := s1.2.1; omega)]
          omega
        have hA := addCocycles_ok w.length o m w o w' s1.1 hg n8.1 n8.2 s1.2.2.1 s1.2.2.2.1 s1.2.2.2.2.2 hc2 hl
        have hB := braidingBy_ok w.length (sumW m w.length w w') o m w c o w' c' (by unfold sumW; rw [cubF_length]) n8.2 s1.2.2.1 s1.2.2.2.1 b1 b2
        refine ats_skip ?_
        (repeat refine ats_seq ?_); refine ats_go (fix0 hcx) fun K hK => ?_; simp only [go_sem, seval]
        (repeat refine And.intro (by first | omega | (intro hq; first | omega | (simp at hq <;> omega) | (simp_all <;> omega))) ?_)
        refine fcall_own rfl (hA) rfl ?_; simp only [go_sem, seval]
        (repeat refine And.intro (by first | omega | (intro hq; first | omega | (simp at hq <;> omega) | (simp_all <;> omega))) ?_)
        refine fcall_box (hB) (by simp [Aw.ids]) (by simp [find]) (by simp [closedT, killT, killAs, killA, outQ, Aw.ids]) (by simp [killAs, killA, outQ, Aw.ids]) (by simp [Aw.ids]) ?_; simp only [Aw.ids, List.map_cons, List.map_nil, List.filter_cons, List.filter_nil, List.contains_cons, List.contains_nil, Bool.or_false, Bool.or_true, Bool.not_true, Bool.not_false, Nat.reduceBEq, Bool.false_eq_true, if_true, if_false, List.cons_append, List.nil_append]; simp only [go_sem, seval]
        (repeat refine And.intro (by first | omega | (intro hq; first | omega | (simp at hq <;> omega) | (simp_all <;> omega))) ?_)
        refine hK _ ?_; clear hK K
        exact ats_ret (own2C (v := .agg [.ref 3 [], .int m, .ref 4 [], .ref 5 []]) (by simp only [go_sem, seval]) trivial rfl (by simp))
end Go.Proofs.Ytjfiahmadnijhaa
