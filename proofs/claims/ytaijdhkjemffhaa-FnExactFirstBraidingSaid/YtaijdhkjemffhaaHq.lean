import Derived.Test.YtaijdhkjemffhaaHm
import Derived.Test.YtaijdhkjemffhaaLib5
import Derived.Test.YtaijdhkjemffhaaPl6
set_option linter.unusedSimpArgs false
set_option linter.unusedVariables false
namespace Go.Proofs.Ytaijdhkjemffhaa
open Go Go.Aw Go.Pl
def szC (o : List Int) (w : List (List (List Int))) (l : Int) : Int := if sz1 o l < 0 then -1 else sz3 w (sz1 o l)
def szB (o : List Int) (_m : Int) (w : List (List (List Int))) (c : List (List Int)) (l : Int) : Int := if szC o w l < 0 then -1 else sz2 c (szC o w l)
theorem szC_ok (o : List Int) (w : List (List (List Int))) (l : Int) (hl : 0 ≤ l) : szC o w l = -1 ∨ (0 ≤ szC o w l ∧ szC o w l ≤ l) := by
  have h1 := sz1_ok o l hl
  unfold szC
  by_cases h : sz1 o l < 0
  · rw [if_pos h]; exact .inl rfl
  · rw [if_neg h]
    have h2 := sz3_ok w (sz1 o l) (by omega)
    omega
def totC (o : List Int) (w : List (List (List Int))) : Nat := o.length + tot3 w
def totB (o : List Int) (_m : Int) (w : List (List (List Int))) (c : List (List Int)) : Nat := totC o w + tot2 c
def SmallB (o : List Int) (w : List (List (List Int))) (c : List (List Int)) : Prop := o.length ≤ 1048576 ∧ Small3 w ∧ Small2 c
theorem szB_small {o : List Int} {m : Int} {w : List (List (List Int))} {c : List (List Int)} {l : Int} (hl : l ≤ 1048576) (h : ¬ szB o m w c l < 0) (h0 : 0 ≤ l) : SmallB o w c ∧ (totB o m w c : Nat) ≤ l := by
  have hC := szC_ok o w l h0
  unfold szB at h
  by_cases hn : szC o w l < 0
  · rw [if_pos hn] at h; exact absurd (by decide) h
  · rw [if_neg hn] at h
    obtain ⟨j1, j2⟩ := sz2_small (l := szC o w l) (by omega) h (by omega)
    unfold szC at hn j2 hC
    by_cases hm : sz1 o l < 0
    · rw [if_pos hm] at hn; exact absurd (by decide) hn
    · rw [if_neg hm] at hn j2 hC
      have e1 : sz1 o l = l - o.length := by
        unfold sz1 at hm ⊢
        split at hm
        · exact absurd (by decide) hm
        · rw [if_neg (by assumption)]
      obtain ⟨k1, k2⟩ := sz3_small (l := sz1 o l) (by omega) hn (by omega)
      have c1 : ∀ (x : List Int) (l : Int), 0 ≤ l → l ≤ 1048576 → ¬ sz1 x l < 0 → (x.length : Int) ≤ 1048576 ∧ sz1 x l ≤ l - (x.length : Nat) := fun x l _ hl h => by
        unfold sz1 at h ⊢
        by_cases h1 : l - x.length < 0
        · rw [if_pos h1] at h; exact absurd (by decide) h
        · rw [if_neg h1]; omega
      have c2 := fun (x : List (List Int)) (l : Int) (_ : 0 ≤ l) (hl : l ≤ 1048576) (h : ¬ sz2 x l < 0) => sz0_cost (n := List.length) (p := fun x => (x.length : Int) ≤ 1048576) 1048576 c1 x l hl h
      obtain ⟨_, c3⟩ := sz0_cost (f := sz2) (n := tot List.length) (p := fun x => (x.length : Int) ≤ 1048576 ∧ ∀ y ∈ x, (y.length : Int) ≤ 1048576) 1048576 c2 w (sz1 o l) (by omega) hn
      have c3' : sz3 w (sz1 o l) ≤ sz1 o l - (tot3 w : Nat) := c3
      have c4 : (tot2 c : Int) ≤ sz3 w (sz1 o l) := j2
      refine ⟨⟨by omega, k1, j1⟩, ?_⟩
      unfold totB totC
      omega
theorem szCocycle_ok (o : List Int) (m : Int) (w : List (List (List Int))) (l : Int) (hl : 0 ≤ l) : PureCall Try.prog 5 [.agg [.l1 o, .int m, .l3 w], .int l] (.int (szC o w l)) := by
  have h2 := sz1_ok o l hl
  refine PureCall.intro (n := 18) (rs := [.tmp 4]) Try.call5 Try.func5 rfl rfl rfl (by simp only [List.length_cons, List.length_nil]; omega) (fun cx hcx => ats_of ?_); simp only [argSlots, Nat.zero_add, Nat.reduceAdd]
  (repeat refine ats_seq ?_); refine ats_go (fix0 hcx) fun K hK => ?_; simp only [go_sem, seval]; refine hK _ ?_; clear hK K
  (repeat refine ats_seq ?_); refine ats_go (fix0 hcx) fun K hK => ?_; simp only [go_sem, seval]
  first | refine fcall_free rfl rfl (szInt64S_ok _ _ hl) ?_ | refine YR_intro (acall_free rfl rfl (szInt64S_ok _ _ hl)) ?_
  simp only [go_sem, seval]
  refine hK _ ?_; clear hK K
  (repeat refine ats_seq ?_); refine ats_go (fix0 hcx) fun K hK => ?_; simp only [go_sem, seval]; refine hK _ ?_; clear hK K
  (repeat refine ats_seq ?_); first | refine ats_ifn (p := _) rfl trivial (fun h => ?_) (fun h => ?_) | refine ats_ifp (p := _) rfl trivial (fun h => ?_) (fun h => ?_) | refine ats_cond rfl trivial (fun h => ?_) (fun h => ?_)
  · (repeat refine ats_seq ?_); refine ats_go (fix0 hcx) fun K hK => ?_; simp only [go_sem, seval]; refine hK _ ?_; clear hK K
    refine ats_ret (finI rfl ?_)
    unfold szC
    rw [if_pos h]
  · have hz := sz3_ok w (sz1 o l) (by omega)
    refine ats_skip ?_
    (repeat refine ats_seq ?_); refine ats_go (fix0 hcx) fun K hK => ?_; simp only [go_sem, seval]
    first | refine fcall_free rfl rfl (szInt64SSS_ok _ _ (by omega)) ?_ | refine YR_intro (acall_free rfl rfl (szInt64SSS_ok _ _ (by omega))) ?_
    simp only [go_sem, seval]
    refine hK _ ?_; clear hK K
    (repeat refine ats_seq ?_); refine ats_go (fix0 hcx) fun K hK => ?_; simp only [go_sem, seval]; refine hK _ ?_; clear hK K
    (repeat refine ats_seq ?_); first | refine ats_ifn (p := _) rfl trivial (fun h1 => ?_) (fun h1 => ?_) | refine ats_ifp (p := _) rfl trivial (fun h1 => ?_) (fun h1 => ?_) | refine ats_cond rfl trivial (fun h1 => ?_) (fun h1 => ?_)
    · (repeat refine ats_seq ?_); refine ats_go (fix0 hcx) fun K hK => ?_; simp only [go_sem, seval]; refine hK _ ?_; clear hK K
      refine ats_ret (finI rfl ?_)
      unfold szC
      rw [if_neg h]
      omega
    · refine ats_skip ?_
      (repeat refine ats_seq ?_); refine ats_go (fix0 hcx) fun K hK => ?_; simp only [go_sem, seval]; refine hK _ ?_; clear hK K
      refine ats_ret (finI rfl ?_)
      unfold szC
      rw [if_neg h]
theorem eqCocycle_ok (o : List Int) (m : Int) (w : List (List (List Int))) (o' : List Int) (m' : Int) (w' : List (List (List Int))) : PureCall Try.prog 9 [.agg [.l1 o, .int m, .l3 w], .agg [.l1 o', .int m', .l3 w']] (.bool (decide (o = o' ∧ m = m' ∧ w = w'))) := by
  refine PureCall.intro (n := 22) (rs := [.tmp 4]) Try.call9 Try.func9 rfl rfl rfl (by simp only [List.length_cons, List.length_nil]; omega) (fun cx hcx => ats_of ?_); simp only [argSlots, Nat.zero_add, Nat.reduceAdd]
  (repeat refine ats_seq ?_); refine ats_go (fix0 hcx) fun K hK => ?_; simp only [go_sem, seval]; refine hK _ ?_; clear hK K
  (repeat refine ats_seq ?_); refine ats_go (fix0 hcx) fun K hK => ?_; simp only [go_sem, seval]
  first | refine fcall_free rfl rfl (eqInt64S_ok _ _) ?_ | refine YR_intro (acall_free rfl rfl (eqInt64S_ok _ _)) ?_
  simp only [go_sem, seval]
  refine hK _ ?_; clear hK K
  (repeat refine ats_seq ?_); first | refine ats_ifn (p := _) rfl trivial (fun hc => ?_) (fun hc => ?_) | refine ats_ifp (p := _) rfl trivial (fun hc => ?_) (fun hc => ?_) | refine ats_cond rfl trivial (fun hc => ?_) (fun hc => ?_)
  · (repeat refine ats_seq ?_); refine ats_go (fix0 hcx) fun K hK => ?_; simp only [go_sem, seval]; refine hK _ ?_; clear hK K
    refine ats_ret (finB rfl ?_)
    simp only [Bool.false_eq, decide_eq_false_iff_not]; exact fun h => hc h.1
  · refine ats_skip ?_
    (repeat refine ats_seq ?_); refine ats_go (fix0 hcx) fun K hK => ?_; simp only [go_sem, seval]; refine hK _ ?_; clear hK K
    (repeat refine ats_seq ?_); first | refine ats_ifn (p := _) rfl trivial (fun hm => ?_) (fun hm => ?_) | refine ats_ifp (p := _) rfl trivial (fun hm => ?_) (fun hm => ?_) | refine ats_cond rfl trivial (fun hm => ?_) (fun hm => ?_)
    · (repeat refine ats_seq ?_); refine ats_go (fix0 hcx) fun K hK => ?_; simp only [go_sem, seval]; refine hK _ ?_; clear hK K
      refine ats_ret (finB rfl ?_)
      simp only [Bool.false_eq, decide_eq_false_iff_not]; exact fun h => hm h.2.1
    · refine ats_skip ?_
      (repeat refine ats_seq ?_); refine ats_go (fix0 hcx) fun K hK => ?_; simp only [go_sem, seval]
      first | refine fcall_free rfl rfl (eqInt64SSS_ok _ _) ?_ | refine YR_intro (acall_free rfl rfl (eqInt64SSS_ok _ _)) ?_
      simp only [go_sem, seval]
      refine hK _ ?_; clear hK K
      (repeat refine ats_seq ?_); first | refine ats_ifn (p := _) rfl trivial (fun hd => ?_) (fun hd => ?_) | refine ats_ifp (p := _) rfl trivial (fun hd => ?_) (fun hd => ?_) | refine ats_cond rfl trivial (fun hd => ?_) (fun hd => ?_)
      · (repeat refine ats_seq ?_); refine ats_go (fix0 hcx) fun K hK => ?_; simp only [go_sem, seval]; refine hK _ ?_; clear hK K
        refine ats_ret (finB rfl ?_)
        simp only [Bool.false_eq, decide_eq_false_iff_not]; exact fun h => hd h.2.2
      · refine ats_skip ?_
        (repeat refine ats_seq ?_); refine ats_go (fix0 hcx) fun K hK => ?_; simp only [go_sem, seval]; refine hK _ ?_; clear hK K
        refine ats_ret (finB rfl ?_)
        simp only [hc, hm, hd, true_and, decide_true]
theorem eqBraiding_ok (o : List Int) (m : Int) (w : List (List (List Int))) (c : List (List Int)) (o' : List Int) (m' : Int) (w' : List (List (List Int))) (c' : List (List Int)) : PureCall Try.prog 12 [.agg [.l1 o, .int m, .l3 w, .l2 c], .agg [.l1 o', .int m', .l3 w', .l2 c']] (.bool (decide ((o = o' ∧ m = m' ∧ w = w') ∧ c = c'))) := by
  have hC := eqCocycle_ok o m w o' m' w'
  refine PureCall.intro (n := 17) (rs := [.tmp 4]) Try.call12 Try.func12 rfl rfl rfl (by simp only [List.length_cons, List.length_nil]; omega) (fun cx hcx => ats_of ?_); simp only [argSlots, Nat.zero_add, Nat.reduceAdd]
  (repeat refine ats_seq ?_); refine ats_go (fix0 hcx) fun K hK => ?_; simp only [go_sem, seval]; refine hK _ ?_; clear hK K
  (repeat refine ats_seq ?_); refine ats_go (fix0 hcx) fun K hK => ?_; simp only [go_sem, seval]
  first | refine fcall_free rfl rfl (hC) ?_ | refine YR_intro (acall_free rfl rfl (hC)) ?_
  simp only [go_sem, seval]
  refine hK _ ?_; clear hK K
  (repeat refine ats_seq ?_); first | refine ats_ifn (p := _) rfl trivial (fun hc => ?_) (fun hc => ?_) | refine ats_ifp (p := _) rfl trivial (fun hc => ?_) (fun hc => ?_) | refine ats_cond rfl trivial (fun hc => ?_) (fun hc => ?_)
  · (repeat refine ats_seq ?_); refine ats_go (fix0 hcx) fun K hK => ?_; simp only [go_sem, seval]; refine hK _ ?_; clear hK K
    refine ats_ret (finB rfl ?_)
    simp only [Bool.false_eq, decide_eq_false_iff_not]; exact fun h => hc h.1
  · refine ats_skip ?_
    (repeat refine ats_seq ?_); refine ats_go (fix0 hcx) fun K hK => ?_; simp only [go_sem, seval]
    first | refine fcall_free rfl rfl (eqInt64SS_ok _ _) ?_ | refine YR_intro (acall_free rfl rfl (eqInt64SS_ok _ _)) ?_
    simp only [go_sem, seval]
    refine hK _ ?_; clear hK K
    (repeat refine ats_seq ?_); first | refine ats_ifn (p := _) rfl trivial (fun hd => ?_) (fun hd => ?_) | refine ats_ifp (p := _) rfl trivial (fun hd => ?_) (fun hd => ?_) | refine ats_cond rfl trivial (fun hd => ?_) (fun hd => ?_)
    · (repeat refine ats_seq ?_); refine ats_go (fix0 hcx) fun K hK => ?_; simp only [go_sem, seval]; refine hK _ ?_; clear hK K
      refine ats_ret (finB rfl ?_)
      simp only [Bool.false_eq, decide_eq_false_iff_not]; exact fun h => hd h.2
    · refine ats_skip ?_
      (repeat refine ats_seq ?_); refine ats_go (fix0 hcx) fun K hK => ?_; simp only [go_sem, seval]; refine hK _ ?_; clear hK K
      refine ats_ret (finB rfl ?_)
      exact (decide_eq_true ⟨hc, hd⟩).symm
theorem toCocycle_ok (o : List Int) (m : Int) (w : List (List (List Int))) (h1 : o.length ≤ 1048576) (h3 : Small3 w) : FreshCall Try.prog 7 [.agg [.l1 o, .int m, .l3 w]] (.agg [.l1 o, .int m, .l3 w]) := by
  refine FreshCall.intro (n := 16) (rs := [.cell 2 29]) Try.call7 Try.func7 rfl rfl rfl (by simp only [List.length_cons, List.length_nil]; omega) (fun cx hcx => ats_of ?_); simp only [argSlots, Nat.zero_add, Nat.reduceAdd]
  (repeat refine ats_seq ?_); refine ats_go (fix0 hcx) fun K hK => ?_; simp only [go_sem, seval]; refine hK _ ?_; clear hK K
  (repeat refine ats_seq ?_); refine ats_go (fix0 hcx) fun K hK => ?_; simp only [go_sem, seval]; refine hK _ ?_; clear hK K
  (repeat refine ats_seq ?_); refine ats_go (fix0 hcx) fun K hK => ?_; simp only [go_sem, seval]
  refine fcall_own rfl (toInt64S_ok o (by omega)) rfl ?_; simp only [go_sem, seval]
  refine hK _ ?_; clear hK K
  (repeat refine ats_seq ?_); refine ats_go (fix0 hcx) fun K hK => ?_; simp only [go_sem, seval]; refine hK _ ?_; clear hK K
  (repeat refine ats_seq ?_); refine ats_go (fix0 hcx) fun K hK => ?_; simp only [go_sem, seval]
  refine fcall_own rfl (toInt64SSS_ok w h3) rfl ?_; simp only [go_sem, seval]
  refine hK _ ?_; clear hK K
  (repeat refine ats_seq ?_); refine ats_go (fix0 hcx) fun K hK => ?_; simp only [go_sem, seval]; refine hK _ ?_; clear hK K
  exact ats_ret (ownC (v := .agg [.ref 3 [], .int m, .ref 4 []]) (by simp only [go_sem, seval]) rfl (by simp))
theorem markCocycle_ok (o : List Int) (m : Int) (w : List (List (List Int))) (k : Int) (h0 : 0 ≤ k) (h1 : k + (totC o w : Nat) ≤ 9223372036854775807) : TurnCall Try.prog 13 [.agg [.ref 0 [], .int m, .ref 1 []], .int k] [(0, .t1 o), (1, .t3 w)] [(0, .t1 (mrk1 o k)), (1, .t3 (mrk3 w (k + (o.length : Nat))))] (.int (k + (totC o w : Nat))) := by
  have e : (totC o w : Nat) = o.length + tot3 w := rfl
  have e2 : k + (o.length : Nat) + (tot3 w : Nat) = k + (totC o w : Nat) := by rw [e]; omega
  refine TurnCall.intro (n := 14) (rs := [.tmp 4]) Try.call13 Try.func13 rfl rfl rfl (by simp only [List.length_cons, List.length_nil]; omega) rfl (by simp [Aw.ids]) rfl rfl rfl (fun cx hcx => ats_of ?_); simp only [argSlots, Nat.zero_add, Nat.reduceAdd]
  (repeat refine ats_seq ?_); refine ats_go (by first | exact fix0 hcx | exact fix1 hcx rfl) fun K hK => ?_; simp only [go_sem, seval]; refine hK _ ?_; clear hK K
  (repeat refine ats_seq ?_); refine ats_go (by first | exact fix0 hcx | exact fix1 hcx rfl) fun K hK => ?_; simp only [go_sem, seval]
  refine fcall_turn (fun i => i) (markInt64S_ok o k h0 (by omega)) rfl rfl rfl (by simp [Aw.ids]) (by simp [find]) ?_; simp only [Aw.ids, renT, List.map_cons, List.map_nil]; simp only [go_sem, seval]
  refine hK _ ?_; clear hK K
  (repeat refine ats_seq ?_); refine ats_go (by first | exact fix0 hcx | exact fix1 hcx rfl) fun K hK => ?_; simp only [go_sem, seval]
  refine fcall_turn (fun _ => 1) (markInt64SSS_ok w (k + (o.length : Nat)) (by omega) (by omega)) rfl rfl rfl (by simp [Aw.ids]) (by simp [find]) ?_; simp only [Aw.ids, renT, List.map_cons, List.map_nil]; simp only [go_sem, seval]
  simp only [e2]
  refine hK _ ?_; clear hK K
  (repeat refine ats_seq ?_); refine ats_go (by first | exact fix0 hcx | exact fix1 hcx rfl) fun K hK => ?_; simp only [go_sem, seval]; refine hK _ ?_; clear hK K
  exact ats_ret ⟨.inr rfl, ⟨trivial, rfl⟩, rfl, by simp [find]⟩
theorem markBraiding_ok (o : List Int) (m : Int) (w : List (List (List Int))) (c : List (List Int)) (k : Int) (h0 : 0 ≤ k) (h1 : k + (totB o m w c : Nat) ≤ 9223372036854775807) : TurnCall Try.prog 14 [.agg [.ref 0 [], .int m, .ref 1 [], .ref 2 []], .int k] [(0, .t1 o), (1, .t3 w), (2, .t2 c)] [(0, .t1 (mrk1 o k)), (1, .t3 (mrk3 w (k + (o.length : Nat)))), (2, .t2 (mrk2 c (k + (totC o w : Nat))))] (.int (k + (totB o m w c : Nat))) := by
  have e : (totB o m w c : Nat) = totC o w + tot2 c := rfl
  have e2 : k + (totC o w : Nat) + (tot2 c : Nat) = k + (totB o m w c : Nat) := by rw [e]; omega
  refine TurnCall.intro (n := 14) (rs := [.tmp 4]) Try.call14 Try.func14 rfl rfl rfl (by simp only [List.length_cons, List.length_nil]; omega) rfl (by simp [Aw.ids]) rfl rfl rfl (fun cx hcx => ats_of ?_); simp only [argSlots, Nat.zero_add, Nat.reduceAdd]
  (repeat refine ats_seq ?_); refine ats_go (by first | exact fix0 hcx | exact fix1 hcx rfl) fun K hK => ?_; simp only [go_sem, seval]; refine hK _ ?_; clear hK K
  (repeat refine ats_seq ?_); refine ats_go (by first | exact fix0 hcx | exact fix1 hcx rfl) fun K hK => ?_; simp only [go_sem, seval]
  refine fcall_turn (fun i => i) (markCocycle_ok o m w k h0 (by omega)) rfl rfl rfl (by simp [Aw.ids]) (by simp [find]) ?_; simp only [Aw.ids, renT, List.map_cons, List.map_nil]; simp only [go_sem, seval]
  refine hK _ ?_; clear hK K
  (repeat refine ats_seq ?_); refine ats_go (by first | exact fix0 hcx | exact fix1 hcx rfl) fun K hK => ?_; simp only [go_sem, seval]
  refine fcall_turn (fun _ => 2) (markInt64SS_ok c (k + (totC o w : Nat)) (by omega) (by omega)) rfl rfl rfl (by simp [Aw.ids]) (by simp [find]) ?_; simp only [Aw.ids, renT, List.map_cons, List.map_nil]; simp only [go_sem, seval]
  simp only [e2]
  refine hK _ ?_; clear hK K
  (repeat refine ats_seq ?_); refine ats_go (by first | exact fix0 hcx | exact fix1 hcx rfl) fun K hK => ?_; simp only [go_sem, seval]; refine hK _ ?_; clear hK K
  exact ats_ret ⟨.inr rfl, ⟨trivial, rfl⟩, rfl, by simp [find]⟩
theorem heldCocycle_ok (o : List Int) (m : Int) (w : List (List (List Int))) (k : Int) (h0 : 0 ≤ k) (h1 : k + (totC o w : Nat) ≤ 9223372036854775807) : PureCall Try.prog 35 [.agg [.l1 (mrk1 o k), .int m, .l3 (mrk3 w (k + (o.length : Nat)))], .int k] (.int (k + (totC o w : Nat))) := by
  have e : (totC o w : Nat) = o.length + tot3 w := rfl
  have e2 : k + (o.length : Nat) + (tot3 w : Nat) = k + (totC o w : Nat) := by rw [e]; omega
  have hh := heldInt64SSS_ok w (k + (o.length : Nat)) (by omega) (by omega)
  have hg := heldInt64S_ok o.length k h0 (by omega)
  rw [e2] at hh
  refine PureCall.intro (n := 18) (rs := [.tmp 4]) Try.call35 Try.func35 rfl rfl rfl (by simp only [List.length_cons, List.length_nil]; omega) (fun cx hcx => ats_of ?_); simp only [argSlots, Nat.zero_add, Nat.reduceAdd]
  (repeat refine ats_seq ?_); refine ats_go (fix0 hcx) fun K hK => ?_; simp only [go_sem, seval]; refine hK _ ?_; clear hK K
  (repeat refine ats_seq ?_); refine ats_go (fix0 hcx) fun K hK => ?_; simp only [go_sem, seval]
  first | refine fcall_free rfl rfl (hg) ?_ | refine YR_intro (acall_free rfl rfl (hg)) ?_
  simp only [go_sem, seval]
  refine hK _ ?_; clear hK K
  (repeat refine ats_seq ?_); refine ats_go (fix0 hcx) fun K hK => ?_; simp only [go_sem, seval]; refine hK _ ?_; clear hK K
  (repeat refine ats_seq ?_); first | refine ats_ifn (p := _) rfl trivial (fun hc => ?_) (fun hc => ?_) | refine ats_ifp (p := _) rfl trivial (fun hc => ?_) (fun hc => ?_) | refine ats_cond rfl trivial (fun hc => ?_) (fun hc => ?_)
  · omega
  · refine ats_skip ?_
    (repeat refine ats_seq ?_); refine ats_go (fix0 hcx) fun K hK => ?_; simp only [go_sem, seval]
    first | refine fcall_free rfl rfl (hh) ?_ | refine YR_intro (acall_free rfl rfl (hh)) ?_
    simp only [go_sem, seval]
    refine hK _ ?_; clear hK K
    (repeat refine ats_seq ?_); refine ats_go (fix0 hcx) fun K hK => ?_; simp only [go_sem, seval]; refine hK _ ?_; clear hK K
    (repeat refine ats_seq ?_); first | refine ats_ifn (p := _) rfl trivial (fun hd => ?_) (fun hd => ?_) | refine ats_ifp (p := _) rfl trivial (fun hd => ?_) (fun hd => ?_) | refine ats_cond rfl trivial (fun hd => ?_) (fun hd => ?_)
    · omega
    · refine ats_skip ?_
      (repeat refine ats_seq ?_); refine ats_go (fix0 hcx) fun K hK => ?_; simp only [go_sem, seval]; refine hK _ ?_; clear hK K
      refine ats_ret (finI rfl ?_)
      rfl
theorem heldBraiding_ok (o : List Int) (m : Int) (w : List (List (List Int))) (c : List (List Int)) (k : Int) (h0 : 0 ≤ k) (h1 : k + (totB o m w c : Nat) ≤ 9223372036854775807) : PureCall Try.prog 15 [.agg [.l1 (mrk1 o k), .int m, .l3 (mrk3 w (k + (o.length : Nat))), .l2 (mrk2 c (k + (totC o w : Nat)))], .int k] (.int (k + (totB o m w c : Nat))) := by
  have e : (totB o m w c : Nat) = totC o w + tot2 c := rfl
  have e2 : k + (totC o w : Nat) + (tot2 c : Nat) = k + (totB o m w c : Nat) := by rw [e]; omega
  have hh := heldInt64SS_ok c (k + (totC o w : Nat)) (by omega) (by omega)
  have hg := heldCocycle_ok o m w k h0 (by omega)
  rw [e2] at hh
  refine PureCall.intro (n := 18) (rs := [.tmp 4]) Try.call15 Try.func15 rfl rfl rfl (by simp only [List.length_cons, List.length_nil]; omega) (fun cx hcx => ats_of ?_); simp only [argSlots, Nat.zero_add, Nat.reduceAdd]
  (repeat refine ats_seq ?_); refine ats_go (fix0 hcx) fun K hK => ?_; simp only [go_sem, seval]; refine hK _ ?_; clear hK K
  (repeat refine ats_seq ?_); refine ats_go (fix0 hcx) fun K hK => ?_; simp only [go_sem, seval]
  first | refine fcall_free rfl rfl (hg) ?_ | refine YR_intro (acall_free rfl rfl (hg)) ?_
  simp only [go_sem, seval]
  refine hK _ ?_; clear hK K
  (repeat refine ats_seq ?_); refine ats_go (fix0 hcx) fun K hK => ?_; simp only [go_sem, seval]; refine hK _ ?_; clear hK K
  (repeat refine ats_seq ?_); first | refine ats_ifn (p := _) rfl trivial (fun hc => ?_) (fun hc => ?_) | refine ats_ifp (p := _) rfl trivial (fun hc => ?_) (fun hc => ?_) | refine ats_cond rfl trivial (fun hc => ?_) (fun hc => ?_)
  · omega
  · refine ats_skip ?_
    (repeat refine ats_seq ?_); refine ats_go (fix0 hcx) fun K hK => ?_; simp only [go_sem, seval]
    first | refine fcall_free rfl rfl (hh) ?_ | refine YR_intro (acall_free rfl rfl (hh)) ?_
    simp only [go_sem, seval]
    refine hK _ ?_; clear hK K
    (repeat refine ats_seq ?_); refine ats_go (fix0 hcx) fun K hK => ?_; simp only [go_sem, seval]; refine hK _ ?_; clear hK K
    (repeat refine ats_seq ?_); first | refine ats_ifn (p := _) rfl trivial (fun hd => ?_) (fun hd => ?_) | refine ats_ifp (p := _) rfl trivial (fun hd => ?_) (fun hd => ?_) | refine ats_cond rfl trivial (fun hd => ?_) (fun hd => ?_)
    · omega
    · refine ats_skip ?_
      (repeat refine ats_seq ?_); refine ats_go (fix0 hcx) fun K hK => ?_; simp only [go_sem, seval]; refine hK _ ?_; clear hK K
      refine ats_ret (finI rfl ?_)
      rfl
def optB : Option (List Int × Int × List (List (List Int)) × List (List Int)) → AV
  | none => .agg [.nil, .int 0, .nil, .nil]
  | some u => .agg [.l1 u.1, .int u.2.1, .l3 u.2.2.1, .l2 u.2.2.2]
theorem brRes {P : Program} {f g : FuncId} {ds : List AV} {r : AV} (hs : PureCall P f ds r) (hi : FreshCall P g ds r) (h : ∃ (u : Option (List Int × Int × List (List (List Int)) × List (List Int))) (c : Int), r = .tup [optB u, .int c] ∧ ∀ v, u = some v → totB v.1 v.2.1 v.2.2.1 v.2.2.2 ≤ 1060000) :
    ∃ uO uM uW uC c, PureCall P f ds (.tup [.agg [.l1 uO, .int uM, .l3 uW, .l2 uC], .int c]) ∧ FreshCall P g ds (.tup [.agg [.l1 uO, .int uM, .l3 uW, .l2 uC], .int c]) ∧ totB uO uM uW uC ≤ 1060000 := by
  obtain ⟨u, c, rfl, hu⟩ := h
  cases u with
  | none =>
    have l : AvLe (.tup [optB none, .int c]) (.tup [.agg [.l1 [], .int 0, .l3 [], .l2 []], .int c]) := avLe_tup (avsLe_cons (avLe_agg (avsLe_cons avLe_nil1 (avsLe_cons (avLe_rfl _) (avsLe_cons avLe_nil3 (avsLe_cons avLe_nil2 (avsLe_rfl _)))))) (avsLe_rfl _))
    exact ⟨[], 0, [], [], c, pure_le hs l, fresh_le hi l, by simp [totB, totC, tot3, tot2, tot]⟩
  | some u => exact ⟨u.1, u.2.1, u.2.2.1, u.2.2.2, c, hs, hi, hu u rfl⟩
section
variable {H : Type} {enc : TypeId × Value → H} {W : World} {base : Nat} {v : Value} {d : DataW H} {p : List MemPlace}
open Go.ChangeShapes Go.WideShapes Go.ChangeAt Go.RowKit
end
end Go.Proofs.Ytaijdhkjemffhaa
