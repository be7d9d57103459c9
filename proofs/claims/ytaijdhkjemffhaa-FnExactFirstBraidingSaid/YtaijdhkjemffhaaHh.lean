import Derived.Test.YtaijdhkjemffhaaHg
set_option linter.unusedSimpArgs false
set_option linter.unusedVariables false
namespace Go.Proofs.Ytaijdhkjemffhaa
open Go Go.Aw Go.Pl
set_option maxRecDepth 100000 in
set_option maxHeartbeats 8000000 in
theorem l18One_ok (o : List Int) (m : Int) (w : List (List (List Int))) (c : List (List Int)) (h : CocS o m w) (hb : GridB w.length m c) (x y z : Nat) (hx : x < w.length) (hy : y < w.length) (hz : z < w.length) : PureCall Try.prog 86 [.agg [.l1 o, .int m, .l3 w], .l2 c, .int x, .int y, .int z] (.bool (decide (br1 o w c x y z % m = 0))) := by
  have n8 := h.n8
  have m1 := h.2.2.1
  have m2 := h.2.2.2.1
  have hc := h.2.2.2.2.2
  have lc := hb.1
  have hA := l06Add_ok o h.1 h.2.1 y z (by omega) (by omega)
  have hp := h.ad y z
  have ev : br1 o w c x y z = br1 o w c x y z := rfl
  have bt : -m < (br1 o w c x y z).tmod m ∧ (br1 o w c x y z).tmod m < m := by
    refine ⟨?_, Int.tmod_lt_of_pos _ (by omega)⟩
    have := Int.tmod_lt_of_pos (-(br1 o w c x y z)) (show 0 < m by omega)
    rw [Int.neg_tmod] at this
    omega
  have ed : decide ((br1 o w c x y z).tmod m = 0) = decide (br1 o w c x y z % m = 0) := decide_eq_decide.2 tmod_zero
  rw [← ed]
  unfold br1 at bt ⊢
  obtain ⟨p, ep⟩ : ∃ p, ad o y z = p := ⟨_, rfl⟩
  rw [ep] at hA hp bt ⊢
  have mq := hc.mat (i := y) (by omega)
  have rq := hc.row (i := y) (j := z) (by omega) (by omega)
  have vq := hc.bd (i := y) (j := z) (k := x) (by omega) (by omega) (by omega)
  have md := hc.mat (i := x) (by omega)
  have rd := hc.row (i := x) (j := y) (by omega) (by omega)
  have vd := hc.bd (i := x) (j := y) (k := z) (by omega) (by omega) (by omega)
  have mg := hc.mat (i := y) (by omega)
  have rg := hc.row (i := y) (j := x) (by omega) (by omega)
  have vg := hc.bd (i := y) (j := x) (k := z) (by omega) (by omega) (by omega)
  have c1 := hb.row (j := x) (by omega)
  have u1 := hb.bd (j := x) (k := p) (by omega) (by omega)
  have c2 := hb.row (j := x) (by omega)
  have u2 := hb.bd (j := x) (k := z) (by omega) (by omega)
  have c3 := hb.row (j := x) (by omega)
  have u3 := hb.bd (j := x) (k := y) (by omega) (by omega)
  simp only [e3, e2] at vq vd vg u1 u2 u3 bt ⊢
  refine PureCall.intro (n := 80) (rs := [.tmp 10]) Try.call86 Try.func86 rfl rfl rfl (by simp only [List.length_cons, List.length_nil]; omega) (fun cx hcx => ats_of ?_); simp only [argSlots, Nat.zero_add, Nat.reduceAdd]
  (repeat refine ats_seq ?_); refine ats_go (fix0 hcx) fun K hK => ?_; simp only [go_sem, seval]; (repeat refine And.intro (by first | omega | (intro hq; first | omega | (simp at hq <;> omega) | (simp_all <;> omega))) ?_); refine hK _ ?_; clear hK K
  (repeat refine ats_seq ?_); refine ats_go (fix0 hcx) fun K hK => ?_; simp only [go_sem, seval]
  (repeat refine And.intro (by first | omega | (intro hq; first | omega | (simp at hq <;> omega) | (simp_all <;> omega))) ?_)
  first | refine fcall_data (hA) rfl ?_ | refine YR_intro (acall_data (hA) rfl) ?_
  simp only [go_sem, seval]
  (repeat refine And.intro (by first | omega | (intro hq; first | omega | (simp at hq <;> omega) | (simp_all <;> omega))) ?_)
  refine hK _ ?_; clear hK K
  (repeat refine ats_seq ?_); refine ats_go (fix0 hcx) fun K hK => ?_; simp only [go_sem, seval]; (repeat refine And.intro (by first | omega | (intro hq; first | omega | (simp at hq <;> omega) | (simp_all <;> omega))) ?_); refine hK _ ?_; clear hK K
  (repeat refine ats_seq ?_); refine ats_pick (fix0 hcx) mixed (by kernel_rfl) fun K hK => ?_; simp only [go_sem, seval]; (repeat refine And.intro (by first | omega | (intro hq; first | omega | (simp at hq <;> omega) | (simp_all <;> omega))) ?_); refine hK _ ?_; clear hK K
  refine ats_ret (finB rfl ?_)
  rfl
set_option maxRecDepth 100000 in
set_option maxHeartbeats 8000000 in
theorem l18Two_ok (o : List Int) (m : Int) (w : List (List (List Int))) (c : List (List Int)) (h : CocS o m w) (hb : GridB w.length m c) (x y z : Nat) (hx : x < w.length) (hy : y < w.length) (hz : z < w.length) : PureCall Try.prog 87 [.agg [.l1 o, .int m, .l3 w], .l2 c, .int x, .int y, .int z] (.bool (decide (br2 o w c x y z % m = 0))) := by
  have n8 := h.n8
  have m1 := h.2.2.1
  have m2 := h.2.2.2.1
  have hc := h.2.2.2.2.2
  have lc := hb.1
  have hA := l06Add_ok o h.1 h.2.1 x y (by omega) (by omega)
  have hp := h.ad x y
  have ev : br2 o w c x y z = br2 o w c x y z := rfl
  have bt : -m < (br2 o w c x y z).tmod m ∧ (br2 o w c x y z).tmod m < m := by
    refine ⟨?_, Int.tmod_lt_of_pos _ (by omega)⟩
    have := Int.tmod_lt_of_pos (-(br2 o w c x y z)) (show 0 < m by omega)
    rw [Int.neg_tmod] at this
    omega
  have ed : decide ((br2 o w c x y z).tmod m = 0) = decide (br2 o w c x y z % m = 0) := decide_eq_decide.2 tmod_zero
  rw [← ed]
  unfold br2 at bt ⊢
  obtain ⟨p, ep⟩ : ∃ p, ad o x y = p := ⟨_, rfl⟩
  rw [ep] at hA hp bt ⊢
  have mq := hc.mat (i := z) (by omega)
  have rq := hc.row (i := z) (j := x) (by omega) (by omega)
  have vq := hc.bd (i := z) (j := x) (k := y) (by omega) (by omega) (by omega)
  have md := hc.mat (i := x) (by omega)
  have rd := hc.row (i := x) (j := y) (by omega) (by omega)
  have vd := hc.bd (i := x) (j := y) (k := z) (by omega) (by omega) (by omega)
  have mg := hc.mat (i := x) (by omega)
  have rg := hc.row (i := x) (j := z) (by omega) (by omega)
  have vg := hc.bd (i := x) (j := z) (k := y) (by omega) (by omega) (by omega)
  have c1 := hb.row (j := p) (by omega)
  have u1 := hb.bd (j := p) (k := z) (by omega) (by omega)
  have c2 := hb.row (j := x) (by omega)
  have u2 := hb.bd (j := x) (k := z) (by omega) (by omega)
  have c3 := hb.row (j := y) (by omega)
  have u3 := hb.bd (j := y) (k := z) (by omega) (by omega)
  simp only [e3, e2] at vq vd vg u1 u2 u3 bt ⊢
  refine PureCall.intro (n := 80) (rs := [.tmp 10]) Try.call87 Try.func87 rfl rfl rfl (by simp only [List.length_cons, List.length_nil]; omega) (fun cx hcx => ats_of ?_); simp only [argSlots, Nat.zero_add, Nat.reduceAdd]
  (repeat refine ats_seq ?_); refine ats_go (fix0 hcx) fun K hK => ?_; simp only [go_sem, seval]; (repeat refine And.intro (by first | omega | (intro hq; first | omega | (simp at hq <;> omega) | (simp_all <;> omega))) ?_); refine hK _ ?_; clear hK K
  (repeat refine ats_seq ?_); refine ats_go (fix0 hcx) fun K hK => ?_; simp only [go_sem, seval]
  (repeat refine And.intro (by first | omega | (intro hq; first | omega | (simp at hq <;> omega) | (simp_all <;> omega))) ?_)
  first | refine fcall_data (hA) rfl ?_ | refine YR_intro (acall_data (hA) rfl) ?_
  simp only [go_sem, seval]
  (repeat refine And.intro (by first | omega | (intro hq; first | omega | (simp at hq <;> omega) | (simp_all <;> omega))) ?_)
  refine hK _ ?_; clear hK K
  (repeat refine ats_seq ?_); refine ats_go (fix0 hcx) fun K hK => ?_; simp only [go_sem, seval]; (repeat refine And.intro (by first | omega | (intro hq; first | omega | (simp at hq <;> omega) | (simp_all <;> omega))) ?_); refine hK _ ?_; clear hK K
  (repeat refine ats_seq ?_); refine ats_pick (fix0 hcx) mixed (by kernel_rfl) fun K hK => ?_; simp only [go_sem, seval]; (repeat refine And.intro (by first | omega | (intro hq; first | omega | (simp at hq <;> omega) | (simp_all <;> omega))) ?_); refine hK _ ?_; clear hK K
  refine ats_ret (finB rfl ?_)
  rfl
end Go.Proofs.Ytaijdhkjemffhaa
