/-
  What the law does with braidings: size, copy, equality, marks; and how the row reads them.
-/
import Derived.Test.YtjfiahmadnijhaaHm
import Derived.Test.YtjfiahmadnijhaaLib5
import Derived.Test.YtjfiahmadnijhaaPlBb
set_option linter.unusedSimpArgs false
set_option linter.unusedVariables false
namespace Go.Proofs.Ytjfiahmadnijhaa
open Go Go.Aw Go.Pl

def szC (o : List Int) (w : List (List (List Int))) (l : Int) : Int := if sz1 o l < 0 then -1 else sz3 w (sz1 o l)
def szB (o : List Int) (_m : Int) (w : List (List (List Int))) (c : List (List Int)) (l : Int) : Int := if szC o w l < 0 then -1 else sz2 c (szC o w l)
theorem szC_ok (o : List Int) (w : List (List (List Int))) (l : Int) (hl : 0 ≤ l) : szC o w l = -1 ∨ (0 ≤ szC o w l ∧ szC o w l ≤ l) := by
  have h1 := sz1_ok o l hl
  unfold szC
  by_cases h : sz1 o l < 0
  · rw [if_pos h]; exact .inl rfl
  · rw [if_neg h]
    have h2 := sz3_ok w (sz1 o l) (by omega)
    omega
theorem szB_ok (o : List Int) (m : Int) (w : List (List (List Int))) (c : List (List Int)) (l : Int) (hl : 0 ≤ l) : szB o m w c l = -1 ∨ (0 ≤ szB o m w c l ∧ szB o m w c l ≤ l) := by
  have h1 := szC_ok o w l hl
  unfold szB
  by_cases h : szC o w l < 0
  · rw [if_pos h]; exact .inl rfl
  · rw [if_neg h]
    have h2 := sz2_ok c (szC o w l) (by omega)
    omega
def totC (o : List Int) (w : List (List (List Int))) : Nat := o.length + tot3 w
def totB (o : List Int) (_m : Int) (w : List (List (List Int))) (c : List (List Int)) : Nat := totC o w + tot2 c
def SmallB (o : List Int) (w : List (List (List Int))) (c : List (List Int)) : Prop := o.length ≤ 1048576 ∧ Small3 w ∧ Small2 c
theorem szB_small {o : List Int} {m : Int} {w : List (List (List Int))} {c : List (List Int)} {l : Int} (hl : l ≤ 1048576) (h : ¬ szB o m w c l < 0) (h0 : 0 ≤ l) : SmallB o w c ∧ (totB o m w c : Nat) ≤ l := by
  have hC := szC_ok o w l h0
  unfold szB at h
  by_cases hn : szC o w l < 0
  · rw [if_pos hn] at h; exact absurd (by decide) h
  · rw [if_neg hn] at h
    obtain ⟨j1, j2⟩ := sz2_small (l := szC o w l) (by omega) h (by omega)
    unfold szC at hn j2 hC
    by_cases hm : sz1 o l < 0
    · rw [if_pos hm] at hn; exact absurd (by decide) hn
    · rw [if_neg hm] at hn j2 hC
      have e1 : sz1 o l = l - o.length := by
        unfold sz1 at hm ⊢
        split at hm
        · exact absurd (by decide) hm
        · rw [if_neg (by assumption)]
      obtain ⟨k1, k2⟩ := sz3_small (l := sz1 o l) (by omega) hn (by omega)
      have c1 : ∀ (x : List Int) (l : Int), 0 ≤ l → l ≤ 1048576 → ¬ sz1 x l < 0 → (x.length : Int) ≤ 1048576 ∧ sz1 x l ≤ l - (x.length : Nat) := fun x l _ hl h => by
        unfold sz1 at h ⊢
        by_cases h1 : l - x.length < 0
        · rw [if_pos h1] at h; exact absurd (by decide) h
        · rw [if_neg h1]; omega
      have c2 := fun (x : List (List Int)) (l : Int) (_ : 0 ≤ l) (hl : l ≤ 1048576) (h : ¬ sz2 x l < 0) => sz0_cost (n := List.length) (p := fun x => (x.length : Int) ≤ 1048576) 1048576 c1 x l hl h
      obtain ⟨_, c3⟩ := sz0_cost (f := sz2) (n := tot List.length) (p := fun x => (x.length : Int) ≤ 1048576 ∧ ∀ y ∈ x, (y.length : Int) ≤ 1048576) 1048576 c2 w (sz1 o l) (by omega) hn
      have c3' : sz3 w (sz1 o l) ≤ sz1 o l - (tot3 w : Nat) := c3
      have c4 : (tot2 c : Int) ≤ sz3 w (sz1 o l) := j2
      refine ⟨⟨by omega, k1, j1⟩, ?_⟩
      unfold totB totC
      omega

theorem szCocycle_ok (o : List Int) (m : Int) (w : List (List (List Int))) (l : Int) (hl : 0 ≤ l) : PureCall Try.prog 11 [.agg [.l1 o, .int m, .l3 w], .int l] (.int (szC o w l)) := by
  have h2 := sz1_ok o l hl
  refine PureCall.intro (n := 18) (rs := [.tmp 4]) Try.call11 Try.func11 rfl rfl rfl (by simp only [List.length_cons, List.length_nil]; omega) (fun cx hcx => ats_of ?_); simp only [argSlots, Nat.zero_add, Nat.reduceAdd]
  (repeat refine ats_seq ?_); refine ats_go (fix0 hcx) fun K hK => ?_; simp only [go_sem, seval]; refine hK _ ?_; clear hK K
  (repeat refine ats_seq ?_); refine ats_go (fix0 hcx) fun K hK => ?_; simp only [go_sem, seval]
  first | refine fcall_free rfl rfl (szInt64S_ok _ _ hl) ?_ | refine YR_intro (acall_free rfl rfl (szInt64S_ok _ _ hl)) ?_
  simp only [go_sem, seval]
  refine hK _ ?_; clear hK K
  (repeat refine ats_seq ?_); refine ats_go (fix0 hcx) fun K hK => ?_; simp only [go_sem, seval]; refine hK _ ?_; clear hK K
  (repeat refine ats_seq ?_); first | refine ats_ifn (p := _) rfl trivial (fun h => ?_) (fun h => ?_) | refine ats_ifp (p := _) rfl trivial (fun h => ?_) (fun h => ?_) | refine ats_cond rfl trivial (fun h => ?_) (fun h => ?_)
  · (repeat refine ats_seq ?_); refine ats_go (fix0 hcx) fun K hK => ?_; simp only [go_sem, seval]; refine hK _ ?_; clear hK K
    refine ats_ret (finI rfl ?_)
    unfold szC
    rw [if_pos h]
  · have hz := sz3_ok w (sz1 o l) (by omega)
    refine ats_skip ?_
    (repeat refine ats_seq ?_); refine ats_go (fix0 hcx) fun K hK => ?_; simp only [go_sem, seval]
    first | refine fcall_free rfl rfl (szInt64SSS_ok _ _ (by omega)) ?_ | refine YR_intro (acall_free rfl rfl (szInt64SSS_ok _ _ (by omega))) ?_
    simp only [go_sem, seval]
    refine hK _ ?_; clear hK K
    (repeat refine ats_seq ?_); refine ats_go (fix0 hcx) fun K hK => ?_; simp only [go_sem, seval]; refine hK _ ?_; clear hK K
    (repeat refine ats_seq ?_); first | refine ats_ifn (p := _) rfl trivial (fun h1 => ?_) (fun h1 => ?_) | refine ats_ifp (p := _) rfl trivial (fun h1 => ?_) (fun h1 => ?_) | refine ats_cond rfl trivial (fun h1 => ?_) (fun h1 => ?_)
    · (repeat refine ats_seq ?_); refine ats_go (fix0 hcx) fun K hK => ?_; simp only [go_sem, seval]; refine hK _ ?_; clear hK K
      refine ats_ret (finI rfl ?_)
      unfold szC
      rw [if_neg h]
      omega
    · refine ats_skip ?_
      (repeat refine ats_seq ?_); refine ats_go (fix0 hcx) fun K hK => ?_; simp only [go_sem, seval]; refine hK _ ?_; clear hK K
      refine ats_ret (finI rfl ?_)
      unfold szC
      rw [if_neg h]
theorem szBraiding_ok (o : List Int) (m : Int) (w : List (List (List Int))) (c : List (List Int)) (l : Int) (hl : 0 ≤ l) : PureCall Try.prog 4 [.agg [.l1 o, .int m, .l3 w, .l2 c], .int l] (.int (szB o m w c l)) := by
  have h2 := szC_ok o w l hl
  have hC := szCocycle_ok o m w l hl
  refine PureCall.intro (n := 18) (rs := [.tmp 4]) Try.call4 Try.func4 rfl rfl rfl (by simp only [List.length_cons, List.length_nil]; omega) (fun cx hcx => ats_of ?_); simp only [argSlots, Nat.zero_add, Nat.reduceAdd]
  (repeat refine ats_seq ?_); refine ats_go (fix0 hcx) fun K hK => ?_; simp only [go_sem, seval]; refine hK _ ?_; clear hK K
  (repeat refine ats_seq ?_); refine ats_go (fix0 hcx) fun K hK => ?_; simp only [go_sem, seval]
  first | refine fcall_free rfl rfl (hC) ?_ | refine YR_intro (acall_free rfl rfl (hC)) ?_
  simp only [go_sem, seval]
  refine hK _ ?_; clear hK K
  (repeat refine ats_seq ?_); refine ats_go (fix0 hcx) fun K hK => ?_; simp only [go_sem, seval]; refine hK _ ?_; clear hK K
  (repeat refine ats_seq ?_); first | refine ats_ifn (p := _) rfl trivial (fun h => ?_) (fun h => ?_) | refine ats_ifp (p := _) rfl trivial (fun h => ?_) (fun h => ?_) | refine ats_cond rfl trivial (fun h => ?_) (fun h => ?_)
  · (repeat refine ats_seq ?_); refine ats_go (fix0 hcx) fun K hK => ?_; simp only [go_sem, seval]; refine hK _ ?_; clear hK K
    refine ats_ret (finI rfl ?_)
    unfold szB
    rw [if_pos h]
  · have hz := sz2_ok c (szC o w l) (by omega)
    refine ats_skip ?_
    (repeat refine ats_seq ?_); refine ats_go (fix0 hcx) fun K hK => ?_; simp only [go_sem, seval]
    first | refine fcall_free rfl rfl (szInt64SS_ok _ _ (by omega)) ?_ | refine YR_intro (acall_free rfl rfl (szInt64SS_ok _ _ (by omega))) ?_
    simp only [go_sem, seval]
    refine hK _ ?_; clear hK K
    (repeat refine ats_seq ?_); refine ats_go (fix0 hcx) fun K hK => ?_; simp only [go_sem, seval]; refine hK _ ?_; clear hK K
    (repeat refine ats_seq ?_); first | refine ats_ifn (p := _) rfl trivial (fun h1 => ?_) (fun h1 => ?_) | refine ats_ifp (p := _) rfl trivial (fun h1 => ?_) (fun h1 => ?_) | refine ats_cond rfl trivial (fun h1 => ?_) (fun h1 => ?_)
    · (repeat refine ats_seq ?_); refine ats_go (fix0 hcx) fun K hK => ?_; simp only [go_sem, seval]; refine hK _ ?_; clear hK K
      refine ats_ret (finI rfl ?_)
      unfold szB
      rw [if_neg h]
      omega
    · refine ats_skip ?_
      (repeat refine ats_seq ?_); refine ats_go (fix0 hcx) fun K hK => ?_; simp only [go_sem, seval]; refine hK _ ?_; clear hK K
      refine ats_ret (finI rfl ?_)
      unfold szB
      rw [if_neg h]

theorem eqCocycle_ok (o : List Int) (m : Int) (w : List (List (List Int))) (o' : List Int) (m' : Int) (w' : List (List (List Int))) : PureCall Try.prog 23 [.agg [.l1 o, .int m, .l3 w], .agg [.l1 o', .int m', .l3 w']] (.bool (decide (o = o' ∧ m = m' ∧ w = w'))) := by
  refine PureCall.intro (n := 22) (rs := [.tmp 4]) Try.call23 Try.func23 rfl rfl rfl (by simp only [List.length_cons, List.length_nil]; omega) (fun cx hcx => ats_of ?_); simp only [argSlots, Nat.zero_add, Nat.reduceAdd]
  (repeat refine ats_seq ?_); refine ats_go (fix0 hcx) fun K hK => ?_; simp only [go_sem, seval]; refine hK _ ?_; clear hK K
  (repeat refine ats_seq ?_); refine ats_go (fix0 hcx) fun K hK => ?_; simp only [go_sem, seval]
  first | refine fcall_free rfl rfl (eqInt64S_ok _ _) ?_ | refine YR_intro (acall_free rfl rfl (eqInt64S_ok _ _)) ?_
  simp only [go_sem, seval]
  refine hK _ ?_; clear hK K
  (repeat refine ats_seq ?_); first | refine ats_ifn (p := _) rfl trivial (fun hc => ?_) (fun hc => ?_) | refine ats_ifp (p := _) rfl trivial (fun hc => ?_) (fun hc => ?_) | refine ats_cond rfl trivial (fun hc => ?_) (fun hc => ?_)
  · (repeat refine ats_seq ?_); refine ats_go (fix0 hcx) fun K hK => ?_; simp only [go_sem, seval]; refine hK _ ?_; clear hK K
    refine ats_ret (finB rfl ?_)
    simp only [Bool.false_eq, decide_eq_false_iff_not]; exact fun h => hc h.1
  · refine ats_skip ?_
    (repeat refine ats_seq ?_); refine ats_go (fix0 hcx) fun K hK => ?_; simp only [go_sem, seval]; refine hK _ ?_; clear hK K
    (repeat refine ats_seq ?_); first | refine ats_ifn (p := _) rfl trivial (fun hm => ?_) (fun hm => ?_) | refine ats_ifp (p := _) rfl trivial (fun hm => ?_) (fun hm => ?_) | refine ats_cond rfl trivial (fun hm => ?_) (fun hm => ?_)
    · (repeat refine ats_seq ?_); refine ats_go (fix0 hcx) fun K hK => ?_; simp only [go_sem, seval]; refine hK _ ?_; clear hK K
      refine ats_ret (finB rfl ?_)
      simp only [Bool.false_eq, decide_eq_false_iff_not]; exact fun h => hm h.2.1
    · refine ats_skip ?_
      (repeat refine ats_seq ?_); refine ats_go (fix0 hcx) fun K hK => ?_; simp only [go_sem, seval]
      first | refine fcall_free rfl rfl (eqInt64SSS_ok _ _) ?_ | refine YR_intro (acall_free rfl rfl (eqInt64SSS_ok _ _)) ?_
      simp only [go_sem, seval]
      refine hK _ ?_; clear hK K
      (repeat refine ats_seq ?_); first | refine ats_ifn (p := _) rfl trivial (fun hd => ?_) (fun hd => ?_) | refine ats_ifp (p := _) rfl trivial (fun hd => ?_) (fun hd => ?_) | refine ats_cond rfl trivial (fun hd => ?_) (fun hd => ?_)
      · (repeat refine ats_seq ?_); refine ats_go (fix0 hcx) fun K hK => ?_; simp only [go_sem, seval]; refine hK _ ?_; clear hK K
        refine ats_ret (finB rfl ?_)
        simp only [Bool.false_eq, decide_eq_false_iff_not]; exact fun h => hd h.2.2
      · refine ats_skip ?_
        (repeat refine ats_seq ?_); refine ats_go (fix0 hcx) fun K hK => ?_; simp only [go_sem, seval]; refine hK _ ?_; clear hK K
        refine ats_ret (finB rfl ?_)
        simp only [hc, hm, hd, true_and, decide_true]
theorem eqBraiding_ok (o : List Int) (m : Int) (w : List (List (List Int))) (c : List (List Int)) (o' : List Int) (m' : Int) (w' : List (List (List Int))) (c' : List (List Int)) : PureCall Try.prog 8 [.agg [.l1 o, .int m, .l3 w, .l2 c], .agg [.l1 o', .int m', .l3 w', .l2 c']] (.bool (decide ((o = o' ∧ m = m' ∧ w = w') ∧ c = c'))) := by
  have hC := eqCocycle_ok o m w o' m' w'
  refine PureCall.intro (n := 17) (rs := [.tmp 4]) Try.call8 Try.func8 rfl rfl rfl (by simp only [List.length_cons, List.length_nil]; omega) (fun cx hcx => ats_of ?_); simp only [argSlots, Nat.zero_add, Nat.reduceAdd]
  (repeat refine ats_seq ?_); refine ats_go (fix0 hcx) fun K hK => ?_; simp only [go_sem, seval]; refine hK _ ?_; clear hK K
  (repeat refine ats_seq ?_); refine ats_go (fix0 hcx) fun K hK => ?_; simp only [go_sem, seval]
  first | refine fcall_free rfl rfl (hC) ?_ | refine YR_intro (acall_free rfl rfl (hC)) ?_
  simp only [go_sem, seval]
  refine hK _ ?_; clear hK K
  (repeat refine ats_seq ?_); first | refine ats_ifn (p := _) rfl trivial (fun hc => ?_) (fun hc => ?_) | refine ats_ifp (p := _) rfl trivial (fun hc => ?_) (fun hc => ?_) | refine ats_cond rfl trivial (fun hc => ?_) (fun hc => ?_)
  · (repeat refine ats_seq ?_); refine ats_go (fix0 hcx) fun K hK => ?_; simp only [go_sem, seval]; refine hK _ ?_; clear hK K
    refine ats_ret (finB rfl ?_)
    simp only [Bool.false_eq, decide_eq_false_iff_not]; exact fun h => hc h.1
  · refine ats_skip ?_
    (repeat refine ats_seq ?_); refine ats_go (fix0 hcx) fun K hK => ?_; simp only [go_sem, seval]
    first | refine fcall_free rfl rfl (eqInt64SS_ok _ _) ?_ | refine YR_intro (acall_free rfl rfl (eqInt64SS_ok _ _)) ?_
    simp only [go_sem, seval]
    refine hK _ ?_; clear hK K
    (repeat refine ats_seq ?_); first | refine ats_ifn (p := _) rfl trivial (fun hd => ?_) (fun hd => ?_) | refine ats_ifp (p := _) rfl trivial (fun hd => ?_) (fun hd => ?_) | refine ats_cond rfl trivial (fun hd => ?_) (fun hd => ?_)
    · (repeat refine ats_seq ?_); refine ats_go (fix0 hcx) fun K hK => ?_; simp only [go_sem, seval]; refine hK _ ?_; clear hK K
      refine ats_ret (finB rfl ?_)
      simp only [Bool.false_eq, decide_eq_false_iff_not]; exact fun h => hd h.2
    · refine ats_skip ?_
      (repeat refine ats_seq ?_); refine ats_go (fix0 hcx) fun K hK => ?_; simp only [go_sem, seval]; refine hK _ ?_; clear hK K
      refine ats_ret (finB rfl ?_)
      exact (decide_eq_true ⟨hc, hd⟩).symm

theorem toCocycle_ok (o : List Int) (m : Int) (w : List (List (List Int))) (h1 : o.length ≤ 1048576) (h3 : Small3 w) : FreshCall Try.prog 16 [.agg [.l1 o, .int m, .l3 w]] (.agg [.l1 o, .int m, .l3 w]) := by
  refine FreshCall.intro (n := 16) (rs := [.cell 2 30]) Try.call16 Try.func16 rfl rfl rfl (by simp only [List.length_cons, List.length_nil]; omega) (fun cx hcx => ats_of ?_); simp only [argSlots, Nat.zero_add, Nat.reduceAdd]
  (repeat refine ats_seq ?_); refine ats_go (fix0 hcx) fun K hK => ?_; simp only [go_sem, seval]; refine hK _ ?_; clear hK K
  (repeat refine ats_seq ?_); refine ats_go (fix0 hcx) fun K hK => ?_; simp only [go_sem, seval]; refine hK _ ?_; clear hK K
  (repeat refine ats_seq ?_); refine ats_go (fix0 hcx) fun K hK => ?_; simp only [go_sem, seval]
  refine fcall_own rfl (toInt64S_ok o (by omega)) rfl ?_; simp only [go_sem, seval]
  refine hK _ ?_; clear hK K
  (repeat refine ats_seq ?_); refine ats_go (fix0 hcx) fun K hK => ?_; simp only [go_sem, seval]; refine hK _ ?_; clear hK K
  (repeat refine ats_seq ?_); refine ats_go (fix0 hcx) fun K hK => ?_; simp only [go_sem, seval]
  refine fcall_own rfl (toInt64SSS_ok w h3) rfl ?_; simp only [go_sem, seval]
  refine hK _ ?_; clear hK K
  (repeat refine ats_seq ?_); refine ats_go (fix0 hcx) fun K hK => ?_; simp only [go_sem, seval]; refine hK _ ?_; clear hK K
  exact ats_ret (ownC (v := .agg [.ref 3 [], .int m, .ref 4 []]) (by simp only [go_sem, seval]) rfl (by simp))
theorem toBraiding_ok (o : List Int) (m : Int) (w : List (List (List Int))) (c : List (List Int)) (h : SmallB o w c) : FreshCall Try.prog 6 [.agg [.l1 o, .int m, .l3 w, .l2 c]] (.agg [.l1 o, .int m, .l3 w, .l2 c]) := by
  have hC := toCocycle_ok o m w h.1 h.2.1
  refine FreshCall.intro (n := 13) (rs := [.cell 2 32]) Try.call6 Try.func6 rfl rfl rfl (by simp only [List.length_cons, List.length_nil]; omega) (fun cx hcx => ats_of ?_); simp only [argSlots, Nat.zero_add, Nat.reduceAdd]
  (repeat refine ats_seq ?_); refine ats_go (fix0 hcx) fun K hK => ?_; simp only [go_sem, seval]; refine hK _ ?_; clear hK K
  (repeat refine ats_seq ?_); refine ats_go (fix0 hcx) fun K hK => ?_; simp only [go_sem, seval]; refine hK _ ?_; clear hK K
  (repeat refine ats_seq ?_); refine ats_go (fix0 hcx) fun K hK => ?_; simp only [go_sem, seval]
  refine fcall_own rfl (hC) rfl ?_; simp only [go_sem, seval]
  refine hK _ ?_; clear hK K
  (repeat refine ats_seq ?_); refine ats_go (fix0 hcx) fun K hK => ?_; simp only [go_sem, seval]
  refine fcall_own rfl (toInt64SS_ok c h.2.2) rfl ?_; simp only [go_sem, seval]
  refine hK _ ?_; clear hK K
  (repeat refine ats_seq ?_); refine ats_go (fix0 hcx) fun K hK => ?_; simp only [go_sem, seval]; refine hK _ ?_; clear hK K
  exact ats_ret (ownC (v := .agg [.ref 3 [], .int m, .ref 4 [], .ref 5 []]) (by simp only [go_sem, seval]) rfl (by simp))

theorem markCocycle_ok (o : List Int) (m : Int) (w : List (List (List Int))) (k : Int) (h0 : 0 ≤ k) (h1 : k + (totC o w : Nat) ≤ 9223372036854775807) : TurnCall Try.prog 25 [.agg [.ref 0 [], .int m, .ref 1 []], .int k] [(0, .t1 o), (1, .t3 w)] [(0, .t1 (mrk1 o k)), (1, .t3 (mrk3 w (k + (o.length : Nat))))] (.int (k + (totC o w : Nat))) := by
  have e : (totC o w : Nat) = o.length + tot3 w := rfl
  have e2 : k + (o.length : Nat) + (tot3 w : Nat) = k + (totC o w : Nat) := by rw [e]; omega
  refine TurnCall.intro (n := 14) (rs := [.tmp 4]) Try.call25 Try.func25 rfl rfl rfl (by simp only [List.length_cons, List.length_nil]; omega) rfl (by simp [Aw.ids]) rfl rfl rfl (fun cx hcx => ats_of ?_); simp only [argSlots, Nat.zero_add, Nat.reduceAdd]
  (repeat refine ats_seq ?_); refine ats_go (by first | exact fix0 hcx | exact fix1 hcx rfl) fun K hK => ?_; simp only [go_sem, seval]; refine hK _ ?_; clear hK K
  (repeat refine ats_seq ?_); refine ats_go (by first | exact fix0 hcx | exact fix1 hcx rfl) fun K hK => ?_; simp only [go_sem, seval]
  refine fcall_turn (fun i => i) (markInt64S_ok o k h0 (by omega)) rfl rfl rfl (by simp [Aw.ids]) (by simp [find]) ?_; simp only [Aw.ids, renT, List.map_cons, List.map_nil]; simp only [go_sem, seval]
  refine hK _ ?_; clear hK K
  (repeat refine ats_seq ?_); refine ats_go (by first | exact fix0 hcx | exact fix1 hcx rfl) fun K hK => ?_; simp only [go_sem, seval]
  refine fcall_turn (fun _ => 1) (markInt64SSS_ok w (k + (o.length : Nat)) (by omega) (by omega)) rfl rfl rfl (by simp [Aw.ids]) (by simp [find]) ?_; simp only [Aw.ids, renT, List.map_cons, List.map_nil]; simp only [go_sem, seval]
  simp only [e2]
  refine hK _ ?_; clear hK K
  (repeat refine ats_seq ?_); refine ats_go (by first | exact fix0 hcx | exact fix1 hcx rfl) fun K hK => ?_; simp only [go_sem, seval]; refine hK _ ?_; clear hK K
  exact ats_ret ⟨.inr rfl, ⟨trivial, rfl⟩, rfl, by simp [find]⟩
theorem markBraiding_ok (o : List Int) (m : Int) (w : List (List (List Int))) (c : List (List Int)) (k : Int) (h0 : 0 ≤ k) (h1 : k + (totB o m w c : Nat) ≤ 9223372036854775807) : TurnCall Try.prog 9 [.agg [.ref 0 [], .int m, .ref 1 [], .ref 2 []], .int k] [(0, .t1 o), (1, .t3 w), (2, .t2 c)] [(0, .t1 (mrk1 o k)), (1, .t3 (mrk3 w (k + (o.length : Nat)))), (2, .t2 (mrk2 c (k + (totC o w : Nat))))] (.int (k + (totB o m w c : Nat))) := by
  have e : (totB o m w c : Nat) = totC o w + tot2 c := rfl
  have e2 : k + (totC o w : Nat) + (tot2 c : Nat) = k + (totB o m w c : Nat) := by rw [e]; omega
  refine TurnCall.intro (n := 14) (rs := [.tmp 4]) Try.call9 Try.func9 rfl rfl rfl (by simp only [List.length_cons, List.length_nil]; omega) rfl (by simp [Aw.ids]) rfl rfl rfl (fun cx hcx => ats_of ?_); simp only [argSlots, Nat.zero_add, Nat.reduceAdd]
  (repeat refine ats_seq ?_); refine ats_go (by first | exact fix0 hcx | exact fix1 hcx rfl) fun K hK => ?_; simp only [go_sem, seval]; refine hK _ ?_; clear hK K
  (repeat refine ats_seq ?_); refine ats_go (by first | exact fix0 hcx | exact fix1 hcx rfl) fun K hK => ?_; simp only [go_sem, seval]
  refine fcall_turn (fun i => i) (markCocycle_ok o m w k h0 (by omega)) rfl rfl rfl (by simp [Aw.ids]) (by simp [find]) ?_; simp only [Aw.ids, renT, List.map_cons, List.map_nil]; simp only [go_sem, seval]
  refine hK _ ?_; clear hK K
  (repeat refine ats_seq ?_); refine ats_go (by first | exact fix0 hcx | exact fix1 hcx rfl) fun K hK => ?_; simp only [go_sem, seval]
  refine fcall_turn (fun _ => 2) (markInt64SS_ok c (k + (totC o w : Nat)) (by omega) (by omega)) rfl rfl rfl (by simp [Aw.ids]) (by simp [find]) ?_; simp only [Aw.ids, renT, List.map_cons, List.map_nil]; simp only [go_sem, seval]
  simp only [e2]
  refine hK _ ?_; clear hK K
  (repeat refine ats_seq ?_); refine ats_go (by first | exact fix0 hcx | exact fix1 hcx rfl) fun K hK => ?_; simp only [go_sem, seval]; refine hK _ ?_; clear hK K
  exact ats_ret ⟨.inr rfl, ⟨trivial, rfl⟩, rfl, by simp [find]⟩

theorem heldCocycle_ok (o : List Int) (m : Int) (w : List (List (List Int))) (k : Int) (h0 : 0 ≤ k) (h1 : k + (totC o w : Nat) ≤ 9223372036854775807) : PureCall Try.prog 27 [.agg [.l1 (mrk1 o k), .int m, .l3 (mrk3 w (k + (o.length : Nat)))], .int k] (.int (k + (totC o w : Nat))) := by
  have e : (totC o w : Nat) = o.length + tot3 w := rfl
  have e2 : k + (o.length : Nat) + (tot3 w : Nat) = k + (totC o w : Nat) := by rw [e]; omega
  have hh := heldInt64SSS_ok w (k + (o.length : Nat)) (by omega) (by omega)
  have hg := heldInt64S_ok o.length k h0 (by omega)
  rw [e2] at hh
  refine PureCall.intro (n := 18) (rs := [.tmp 4]) Try.call27 Try.func27 rfl rfl rfl (by simp only [List.length_cons, List.length_nil]; omega) (fun cx hcx => ats_of ?_); simp only [argSlots, Nat.zero_add, Nat.reduceAdd]
  (repeat refine ats_seq ?_); refine ats_go (fix0 hcx) fun K hK => ?_; simp only [go_sem, seval]; refine hK _ ?_; clear hK K
  (repeat refine ats_seq ?_); refine ats_go (fix0 hcx) fun K hK => ?_; simp only [go_sem, seval]
  first | refine fcall_free rfl rfl (hg) ?_ | refine YR_intro (acall_free rfl rfl (hg)) ?_
  simp only [go_sem, seval]
  refine hK _ ?_; clear hK K
  (repeat refine ats_seq ?_); refine ats_go (fix0 hcx) fun K hK => ?_; simp only [go_sem, seval]; refine hK _ ?_; clear hK K
  (repeat refine ats_seq ?_); first | refine ats_ifn (p := _) rfl trivial (fun hc => ?_) (fun hc => ?_) | refine ats_ifp (p := _) rfl trivial (fun hc => ?_) (fun hc => ?_) | refine ats_cond rfl trivial (fun hc => ?_) (fun hc => ?_)
  · omega
  · refine ats_skip ?_
    (repeat refine ats_seq ?_); refine ats_go (fix0 hcx) fun K hK => ?_; simp only [go_sem, seval]
    first | refine fcall_free rfl rfl (hh) ?_ | refine YR_intro (acall_free rfl rfl (hh)) ?_
    simp only [go_sem, seval]
    refine hK _ ?_; clear hK K
    (repeat refine ats_seq ?_); refine ats_go (fix0 hcx) fun K hK => ?_; simp only [go_sem, seval]; refine hK _ ?_; clear hK K
    (repeat refine ats_seq ?_); first | refine ats_ifn (p := _) rfl trivial (fun hd => ?_) (fun hd => ?_) | refine ats_ifp (p := _) rfl trivial (fun hd => ?_) (fun hd => ?_) | refine ats_cond rfl trivial (fun hd => ?_) (fun hd => ?_)
    · omega
    · refine ats_skip ?_
      (repeat refine ats_seq ?_); refine ats_go (fix0 hcx) fun K hK => ?_; simp only [go_sem, seval]; refine hK _ ?_; clear hK K
      refine ats_ret (finI rfl ?_)
      rfl
theorem heldBraiding_ok (o : List Int) (m : Int) (w : List (List (List Int))) (c : List (List Int)) (k : Int) (h0 : 0 ≤ k) (h1 : k + (totB o m w c : Nat) ≤ 9223372036854775807) : PureCall Try.prog 10 [.agg [.l1 (mrk1 o k), .int m, .l3 (mrk3 w (k + (o.length : Nat))), .l2 (mrk2 c (k + (totC o w : Nat)))], .int k] (.int (k + (totB o m w c : Nat))) := by
  have e : (totB o m w c : Nat) = totC o w + tot2 c := rfl
  have e2 : k + (totC o w : Nat) + (tot2 c : Nat) = k + (totB o m w c : Nat) := by rw [e]; omega
  have hh := heldInt64SS_ok c (k + (totC o w : Nat)) (by omega) (by omega)
  have hg := heldCocycle_ok o m w k h0 (by omega)
  rw [e2] at hh
  refine PureCall.intro (n := 18) (rs := [.tmp 4]) Try.call10 Try.func10 rfl rfl rfl (by simp only [List.length_cons, List.length_nil]; omega) (fun cx hcx => ats_of ?_); simp only [argSlots, Nat.zero_add, Nat.reduceAdd]
  (repeat refine ats_seq ?_); refine ats_go (fix0 hcx) fun K hK => ?_; simp only [go_sem, seval]; refine hK _ ?_; clear hK K
  (repeat refine ats_seq ?_); refine ats_go (fix0 hcx) fun K hK => ?_; simp only [go_sem, seval]
  first | refine fcall_free rfl rfl (hg) ?_ | refine YR_intro (acall_free rfl rfl (hg)) ?_
  simp only [go_sem, seval]
  refine hK _ ?_; clear hK K
  (repeat refine ats_seq ?_); refine ats_go (fix0 hcx) fun K hK => ?_; simp only [go_sem, seval]; refine hK _ ?_; clear hK K
  (repeat refine ats_seq ?_); first | refine ats_ifn (p := _) rfl trivial (fun hc => ?_) (fun hc => ?_) | refine ats_ifp (p := _) rfl trivial (fun hc => ?_) (fun hc => ?_) | refine ats_cond rfl trivial (fun hc => ?_) (fun hc => ?_)
  · omega
  · refine ats_skip ?_
    (repeat refine ats_seq ?_); refine ats_go (fix0 hcx) fun K hK => ?_; simp only [go_sem, seval]
    first | refine fcall_free rfl rfl (hh) ?_ | refine YR_intro (acall_free rfl rfl (hh)) ?_
    simp only [go_sem, seval]
    refine hK _ ?_; clear hK K
    (repeat refine ats_seq ?_); refine ats_go (fix0 hcx) fun K hK => ?_; simp only [go_sem, seval]; refine hK _ ?_; clear hK K
    (repeat refine ats_seq ?_); first | refine ats_ifn (p := _) rfl trivial (fun hd => ?_) (fun hd => ?_) | refine ats_ifp (p := _) rfl trivial (fun hd => ?_) (fun hd => ?_) | refine ats_cond rfl trivial (fun hd => ?_) (fun hd => ?_)
    · omega
    · refine ats_skip ?_
      (repeat refine ats_seq ?_); refine ats_go (fix0 hcx) fun K hK => ?_; simp only [go_sem, seval]; refine hK _ ?_; clear hK K
      refine ats_ret (finI rfl ?_)
      rfl

def optB : Option (List Int × Int × List (List (List Int)) × List (List Int)) → AV
  | none => .agg [.nil, .int 0, .nil, .nil]
  | some u => .agg [.l1 u.1, .int u.2.1, .l3 u.2.2.1, .l2 u.2.2.2]
theorem brRes {P : Program} {f g : FuncId} {ds : List AV} {r : AV} (hs : PureCall P f ds r) (hi : FreshCall P g ds r) (h : ∃ (u : Option (List Int × Int × List (List (List Int)) × List (List Int))) (c : Int), r = .tup [optB u, .int c] ∧ ∀ v, u = some v → totB v.1 v.2.1 v.2.2.1 v.2.2.2 ≤ 1060000) :
    ∃ uO uM uW uC c, PureCall P f ds (.tup [.agg [.l1 uO, .int uM, .l3 uW, .l2 uC], .int c]) ∧ FreshCall P g ds (.tup [.agg [.l1 uO, .int uM, .l3 uW, .l2 uC], .int c]) ∧ totB uO uM uW uC ≤ 1060000 := by
  obtain ⟨u, c, rfl, hu⟩ := h
  cases u with
  | none =>
    have l : AvLe (.tup [optB none, .int c]) (.tup [.agg [.l1 [], .int 0, .l3 [], .l2 []], .int c]) := avLe_tup (avsLe_cons (avLe_agg (avsLe_cons avLe_nil1 (avsLe_cons (avLe_rfl _) (avsLe_cons avLe_nil3 (avsLe_cons avLe_nil2 (avsLe_rfl _)))))) (avsLe_rfl _))
    exact ⟨[], 0, [], [], c, pure_le hs l, fresh_le hi l, by simp [totB, totC, tot3, tot2, tot]⟩
  | some u => exact ⟨u.1, u.2.1, u.2.2.1, u.2.2.2, c, hs, hi, hu u rfl⟩

section
variable {H : Type} {enc : TypeId × Value → H} {W : World} {base : Nat} {v : Value} {d : DataW H} {p : List MemPlace}
open Go.ChangeShapes Go.WideShapes Go.ChangeAt Go.RowKit
theorem rdIn {P : Program} {w : World} {held : Bool} {t : TypeId} {fs : Array Field} {n : Nat} {cs : List Value} {x : DataW H × List MemPlace} (ht : P.underlying t = some (.struct fs)) (h : DataW.trod enc P w 0 (fun _ => true) held n t cs = some x) :
    ∃ n, ∀ (i : Nat) (f : Field), fs[i]? = some f → ∃ y, DataW.trod enc P w 0 (fun _ => true) held n f.type ((cs.drop f.offset).take (P.cellsOf f.type)) = some y := by
  obtain ⟨xs, n, _, _, hl, hlen, hf⟩ := DataW.trod_struct ht h
  refine ⟨n, fun i f hif => ?_⟩
  have hi : i < fs.size := (Array.getElem?_eq_some_iff.1 hif).1
  have := hf i f hif
  rw [List.getElem?_eq_getElem (by omega)] at this
  exact ⟨_, this⟩
set_option maxRecDepth 100000 in
theorem rdBraiding (hv : Value.okWide Try.prog W .any base 28 v) (h : DataW.Trod enc Try.prog W 0 (fun _ => true) true 28 v d p) : ∃ o m w c, Rd W (lower W) (.agg [.l1 o, .int m, .l3 w, .l2 c]) v := by
  obtain ⟨us, rfl, hl, n, hf⟩ := rdStruct Try.underlying28 hv h
  rw [show Go.Program.cellsOf Try.prog 28 = 4 by kernel_rfl] at hl
  match us, hl with
  | [a, b, c, e], _ =>
    obtain ⟨y0, h0⟩ := hf 0 _ rfl
    obtain ⟨y1, h1⟩ := hf 1 _ rfl
    replace h0 : DataW.trod enc Try.prog W 0 (fun _ => true) true n 25 (([a, b, c, e].drop 0).take (Go.Program.cellsOf Try.prog 25)) = some y0 := h0
    replace h1 : DataW.trod enc Try.prog W 0 (fun _ => true) true n 26 (([a, b, c, e].drop 3).take (Go.Program.cellsOf Try.prog 26)) = some y1 := h1
    rw [show Go.Program.cellsOf Try.prog 25 = 3 by kernel_rfl] at h0
    rw [ck26] at h1
    obtain ⟨n', hf'⟩ := rdIn Try.underlying25 h0
    obtain ⟨z0, g0⟩ := hf' 0 _ rfl
    obtain ⟨z1, g1⟩ := hf' 1 _ rfl
    obtain ⟨z2, g2⟩ := hf' 2 _ rfl
    replace g0 : DataW.trod enc Try.prog W 0 (fun _ => true) true n' 22 (([a, b, c].drop 0).take (Go.Program.cellsOf Try.prog 22)) = some z0 := g0
    replace g1 : DataW.trod enc Try.prog W 0 (fun _ => true) true n' 2 (([a, b, c].drop 1).take (Go.Program.cellsOf Try.prog 2)) = some z1 := g1
    replace g2 : DataW.trod enc Try.prog W 0 (fun _ => true) true n' 23 (([a, b, c].drop 2).take (Go.Program.cellsOf Try.prog 23)) = some z2 := g2
    rw [ck22] at g0
    rw [ck2] at g1
    rw [ck23] at g2
    obtain ⟨o, ho⟩ := rd1 Try.underlying22 Try.underlying2 ck2 n' a z0 g0
    obtain ⟨m, hm, _, hw⟩ := DataW.trod_int Try.underlying2 g1
    obtain ⟨w, hw3⟩ := rd3 Try.underlying23 ck26 Try.underlying26 ck22 Try.underlying22 Try.underlying2 ck2 n' c z2 g2
    obtain ⟨cc, hc⟩ := rd2 Try.underlying26 ck22 Try.underlying22 Try.underlying2 ck2 n e y1 h1
    have em : b = .int .i64 m := List.singleton_inj.1 hm
    refine ⟨o, m, w, cc, ?_⟩
    simp only [Rd, rep]
    exact ⟨[a, b, c, e], rfl, by simp only [reps, rep]; exact ⟨a, _, rfl, ho, b, _, rfl, ⟨em, inR_of hw⟩, c, _, rfl, hw3, e, _, rfl, hc, rfl⟩⟩
end
end Go.Proofs.Ytjfiahmadnijhaa
