import Derived.Test.YtakhnoenhmpfpaaGreatWx2
import Derived.Test.YtakhnoenhmpfpaaGreatWx4
import Derived.Test.YtakhnoenhmpfpaaGreatPl2
set_option linter.unusedSimpArgs false
set_option linter.unusedVariables false
namespace Go.Proofs.YtakhnoenhmpfpaaGreat
open Go Go.Aw Go.Pl
theorem l01Pow_ok (a : Int) (k : Nat) (ha : InP a) (hk : k ≤ 1000000000) : PureCall Tryz.prog 85 [.int a, .int k] (.int (pw a k)) := by
  refine PureCall.intro (n := 22) (rs := [.tmp 4]) Tryz.call85 Tryz.func85 rfl rfl rfl (by simp only [List.length_cons, List.length_nil]; omega) (fun cx hcx => ats_of ?_); simp only [argSlots, Nat.zero_add, Nat.reduceAdd]
  (repeat refine ats_seq ?_); refine ats_go (fix0 hcx) fun K hK => ?_; simp only [go_sem, seval]; refine hK _ ?_; clear hK K
  (repeat refine ats_seq ?_); refine ats_go (fix0 hcx) fun K hK => ?_; simp only [go_sem, seval]; refine hK _ ?_; clear hK K
  (repeat refine ats_seq ?_); refine ats_loop (fun x : Int × Int × Nat => ⟨[(0, .int x.2.1), (1, .int x.2.2), (5, .int x.1)], []⟩) (fun x => InP x.1 ∧ InP x.2.1 ∧ x.2.2 ≤ 1000000000 ∧ pwL x.1 x.2.1 x.2.2 = pw a k) (fun x => x.2.2) (1, a, k) ⟨inP_one, ha, hk, rfl⟩ (by
    refine And.intro ?_ rfl; simp only [SlotsLe, St.get, slotGet, Nat.reduceEqDiff, ↓reduceIte, AV.int.injEq, AV.bool.injEq, AV.l1.injEq, AV.l2.injEq, AV.l3.injEq, true_and, and_true]
    skip) (fun x hx => ?_)
  obtain ⟨out, b, m⟩ := x
  obtain ⟨h1, h2, h4, h3⟩ := hx
  simp only at h1 h2 h3 h4
  have m1 := mulP h1 h2
  have m2 := mulP h2 h2
  have g1 := h1.1
  have g2 := h1.2
  have g3 := h2.1
  have g4 := h2.2
  (repeat refine ats_seq ?_); refine ats_go (fix0 hcx) fun K hK => ?_; simp only [go_sem, seval]; refine hK _ ?_; clear hK K
  (repeat refine ats_seq ?_); first | refine ats_ifn (p := _) rfl trivial (fun hm => ?_) (fun hm => ?_) | refine ats_ifp (p := _) rfl trivial (fun hm => ?_) (fun hm => ?_) | refine ats_cond rfl trivial (fun hm => ?_) (fun hm => ?_)
  · have hm' : m ≠ 0 := by omega
    refine ats_skip ?_
    (repeat refine ats_seq ?_); refine ats_block ?_
    (repeat refine ats_seq ?_); refine ats_go (fix0 hcx) fun K hK => ?_; simp only [go_sem, seval]; (try simp (disch := omega) only [tmP, tdP]); (repeat refine And.intro (by first | omega | (intro hq; first | omega | (simp at hq <;> omega) | (simp_all <;> omega))) ?_); refine hK _ ?_; clear hK K
    (repeat refine ats_seq ?_); first | refine ats_ifn (p := _) rfl trivial (fun hodd => ?_) (fun hodd => ?_) | refine ats_ifp (p := _) rfl trivial (fun hodd => ?_) (fun hodd => ?_) | refine ats_cond rfl trivial (fun hodd => ?_) (fun hodd => ?_)
    · (repeat refine ats_seq ?_); refine ats_go (fix0 hcx) fun K hK => ?_; simp only [go_sem, seval]; (try simp (disch := omega) only [tmP, tdP]); (repeat refine And.intro (by first | omega | (intro hq; first | omega | (simp at hq <;> omega) | (simp_all <;> omega))) ?_); refine hK _ ?_; clear hK K
      (repeat refine ats_seq ?_); refine ats_go (fix0 hcx) fun K hK => ?_; simp only [go_sem, seval]; (try simp (disch := omega) only [tmP, tdP]); (repeat refine And.intro (by first | omega | (intro hq; first | omega | (simp at hq <;> omega) | (simp_all <;> omega))) ?_); refine hK _ ?_; clear hK K
      (repeat refine ats_seq ?_); refine ats_go (fix0 hcx) fun K hK => ?_; simp only [go_sem, seval]; (try simp (disch := omega) only [tmP, tdP]); (repeat refine And.intro (by first | omega | (intro hq; first | omega | (simp at hq <;> omega) | (simp_all <;> omega))) ?_); refine hK _ ?_; clear hK K
      refine ⟨(out * b % 55441, b * b % 55441, m / 2), ⟨inP_md _, inP_md _, by show m / 2 ≤ _; omega, ?_⟩, by show m / 2 < m; omega, .inl ⟨?_, rfl⟩⟩
      · rw [← h3, pwL_step hm', if_pos (by omega)]
      · simp only [SlotsLe, St.get, slotGet, Nat.reduceEqDiff, ↓reduceIte, AV.int.injEq, AV.bool.injEq, AV.l1.injEq, AV.l2.injEq, AV.l3.injEq, true_and, and_true]
        omega
    · refine ats_skip ?_
      (repeat refine ats_seq ?_); refine ats_go (fix0 hcx) fun K hK => ?_; simp only [go_sem, seval]; (try simp (disch := omega) only [tmP, tdP]); (repeat refine And.intro (by first | omega | (intro hq; first | omega | (simp at hq <;> omega) | (simp_all <;> omega))) ?_); refine hK _ ?_; clear hK K
      (repeat refine ats_seq ?_); refine ats_go (fix0 hcx) fun K hK => ?_; simp only [go_sem, seval]; (try simp (disch := omega) only [tmP, tdP]); (repeat refine And.intro (by first | omega | (intro hq; first | omega | (simp at hq <;> omega) | (simp_all <;> omega))) ?_); refine hK _ ?_; clear hK K
      refine ⟨(out, b * b % 55441, m / 2), ⟨h1, inP_md _, by show m / 2 ≤ _; omega, ?_⟩, by show m / 2 < m; omega, .inl ⟨?_, rfl⟩⟩
      · rw [← h3, pwL_step hm', if_neg (by omega)]
      · simp only [SlotsLe, St.get, slotGet, Nat.reduceEqDiff, ↓reduceIte, AV.int.injEq, AV.bool.injEq, AV.l1.injEq, AV.l2.injEq, AV.l3.injEq, true_and, and_true]
        omega
  · have hm0 : m = 0 := by omega
    subst hm0
    rw [pwL_zero] at h3
    refine ats_exit (lq_x ?_)
    (repeat refine ats_seq ?_); refine ats_go (fix0 hcx) fun K hK => ?_; simp only [go_sem, seval]; refine hK _ ?_; clear hK K
    refine ats_ret (finI rfl ?_)
    exact h3
theorem l01Inv_ok (a : Int) (ha : InP a) : PureCall Tryz.prog 58 [.int a] (.int (inv a)) := by
  have hk : PureCall Tryz.prog 85 [.int a, .int 55439] (.int (inv a)) := l01Pow_ok a 55439 ha (by omega)
  refine PureCall.intro (n := 5) (rs := [.tmp 2]) Tryz.call58 Tryz.func58 rfl rfl rfl (by simp only [List.length_cons, List.length_nil]; omega) (fun cx hcx => ats_of ?_); simp only [argSlots, Nat.zero_add, Nat.reduceAdd]
  (repeat refine ats_seq ?_); refine ats_go (fix0 hcx) fun K hK => ?_; simp only [go_sem, seval]; refine hK _ ?_; clear hK K
  (repeat refine ats_seq ?_); refine ats_go (fix0 hcx) fun K hK => ?_; simp only [go_sem, seval]
  first | refine fcall_free rfl rfl (hk) ?_ | refine YR_intro (acall_free rfl rfl (hk)) ?_
  simp only [go_sem, seval]
  refine hK _ ?_; clear hK K
  refine ats_ret (finI rfl ?_)
  rfl
theorem power_ok (a : Int) (k : Nat) (ha : InP a) (hk : k ≤ 1000000000) : PureCall Tryz.prog 95 [.int a, .int k] (.int (pw a k)) := by
  refine PureCall.intro (n := 22) (rs := [.tmp 4]) Tryz.call95 Tryz.func95 rfl rfl rfl (by simp only [List.length_cons, List.length_nil]; omega) (fun cx hcx => ats_of ?_); simp only [argSlots, Nat.zero_add, Nat.reduceAdd]
  (repeat refine ats_seq ?_); refine ats_go (fix0 hcx) fun K hK => ?_; simp only [go_sem, seval]; refine hK _ ?_; clear hK K
  (repeat refine ats_seq ?_); refine ats_go (fix0 hcx) fun K hK => ?_; simp only [go_sem, seval]; refine hK _ ?_; clear hK K
  (repeat refine ats_seq ?_); refine ats_loop (fun x : Int × Int × Nat => ⟨[(0, .int x.2.1), (1, .int x.2.2), (5, .int x.1)], []⟩) (fun x => InP x.1 ∧ InP x.2.1 ∧ x.2.2 ≤ 1000000000 ∧ pwL x.1 x.2.1 x.2.2 = pw a k) (fun x => x.2.2) (1, a, k) ⟨inP_one, ha, hk, rfl⟩ (by
    refine And.intro ?_ rfl; simp only [SlotsLe, St.get, slotGet, Nat.reduceEqDiff, ↓reduceIte, AV.int.injEq, AV.bool.injEq, AV.l1.injEq, AV.l2.injEq, AV.l3.injEq, true_and, and_true]
    skip) (fun x hx => ?_)
  obtain ⟨out, b, m⟩ := x
  obtain ⟨h1, h2, h4, h3⟩ := hx
  simp only at h1 h2 h3 h4
  have m1 := mulP h1 h2
  have m2 := mulP h2 h2
  have g1 := h1.1
  have g2 := h1.2
  have g3 := h2.1
  have g4 := h2.2
  (repeat refine ats_seq ?_); refine ats_go (fix0 hcx) fun K hK => ?_; simp only [go_sem, seval]; refine hK _ ?_; clear hK K
  (repeat refine ats_seq ?_); first | refine ats_ifn (p := _) rfl trivial (fun hm => ?_) (fun hm => ?_) | refine ats_ifp (p := _) rfl trivial (fun hm => ?_) (fun hm => ?_) | refine ats_cond rfl trivial (fun hm => ?_) (fun hm => ?_)
  · have hm' : m ≠ 0 := by omega
    refine ats_skip ?_
    (repeat refine ats_seq ?_); refine ats_block ?_
    (repeat refine ats_seq ?_); refine ats_go (fix0 hcx) fun K hK => ?_; simp only [go_sem, seval]; (try simp (disch := omega) only [tmP, tdP]); (repeat refine And.intro (by first | omega | (intro hq; first | omega | (simp at hq <;> omega) | (simp_all <;> omega))) ?_); refine hK _ ?_; clear hK K
    (repeat refine ats_seq ?_); first | refine ats_ifn (p := _) rfl trivial (fun hodd => ?_) (fun hodd => ?_) | refine ats_ifp (p := _) rfl trivial (fun hodd => ?_) (fun hodd => ?_) | refine ats_cond rfl trivial (fun hodd => ?_) (fun hodd => ?_)
    · (repeat refine ats_seq ?_); refine ats_go (fix0 hcx) fun K hK => ?_; simp only [go_sem, seval]; (try simp (disch := omega) only [tmP, tdP]); (repeat refine And.intro (by first | omega | (intro hq; first | omega | (simp at hq <;> omega) | (simp_all <;> omega))) ?_); refine hK _ ?_; clear hK K
      (repeat refine ats_seq ?_); refine ats_go (fix0 hcx) fun K hK => ?_; simp only [go_sem, seval]; (try simp (disch := omega) only [tmP, tdP]); (repeat refine And.intro (by first | omega | (intro hq; first | omega | (simp at hq <;> omega) | (simp_all <;> omega))) ?_); refine hK _ ?_; clear hK K
      (repeat refine ats_seq ?_); refine ats_go (fix0 hcx) fun K hK => ?_; simp only [go_sem, seval]; (try simp (disch := omega) only [tmP, tdP]); (repeat refine And.intro (by first | omega | (intro hq; first | omega | (simp at hq <;> omega) | (simp_all <;> omega))) ?_); refine hK _ ?_; clear hK K
      refine ⟨(out * b % 55441, b * b % 55441, m / 2), ⟨inP_md _, inP_md _, by show m / 2 ≤ _; omega, ?_⟩, by show m / 2 < m; omega, .inl ⟨?_, rfl⟩⟩
      · rw [← h3, pwL_step hm', if_pos (by omega)]
      · simp only [SlotsLe, St.get, slotGet, Nat.reduceEqDiff, ↓reduceIte, AV.int.injEq, AV.bool.injEq, AV.l1.injEq, AV.l2.injEq, AV.l3.injEq, true_and, and_true]
        omega
    · refine ats_skip ?_
      (repeat refine ats_seq ?_); refine ats_go (fix0 hcx) fun K hK => ?_; simp only [go_sem, seval]; (try simp (disch := omega) only [tmP, tdP]); (repeat refine And.intro (by first | omega | (intro hq; first | omega | (simp at hq <;> omega) | (simp_all <;> omega))) ?_); refine hK _ ?_; clear hK K
      (repeat refine ats_seq ?_); refine ats_go (fix0 hcx) fun K hK => ?_; simp only [go_sem, seval]; (try simp (disch := omega) only [tmP, tdP]); (repeat refine And.intro (by first | omega | (intro hq; first | omega | (simp at hq <;> omega) | (simp_all <;> omega))) ?_); refine hK _ ?_; clear hK K
      refine ⟨(out, b * b % 55441, m / 2), ⟨h1, inP_md _, by show m / 2 ≤ _; omega, ?_⟩, by show m / 2 < m; omega, .inl ⟨?_, rfl⟩⟩
      · rw [← h3, pwL_step hm', if_neg (by omega)]
      · simp only [SlotsLe, St.get, slotGet, Nat.reduceEqDiff, ↓reduceIte, AV.int.injEq, AV.bool.injEq, AV.l1.injEq, AV.l2.injEq, AV.l3.injEq, true_and, and_true]
        omega
  · have hm0 : m = 0 := by omega
    subst hm0
    rw [pwL_zero] at h3
    refine ats_exit (lq_x ?_)
    (repeat refine ats_seq ?_); refine ats_go (fix0 hcx) fun K hK => ?_; simp only [go_sem, seval]; refine hK _ ?_; clear hK K
    refine ats_ret (finI rfl ?_)
    exact h3
theorem divide_ok (x a : Int) (hx : InP x) (ha : InP a) : PureCall Tryz.prog 80 [.int x, .int a] (.int (x * inv a % 55441)) := by
  have hk : PureCall Tryz.prog 95 [.int a, .int 55439] (.int (inv a)) := power_ok a 55439 ha (by omega)
  have m1 := mulP hx (inv_InP ha)
  refine PureCall.intro (n := 10) (rs := [.tmp 4]) Tryz.call80 Tryz.func80 rfl rfl rfl (by simp only [List.length_cons, List.length_nil]; omega) (fun cx hcx => ats_of ?_); simp only [argSlots, Nat.zero_add, Nat.reduceAdd]
  (repeat refine ats_seq ?_); refine ats_go (fix0 hcx) fun K hK => ?_; simp only [go_sem, seval]; refine hK _ ?_; clear hK K
  (repeat refine ats_seq ?_); refine ats_go (fix0 hcx) fun K hK => ?_; simp only [go_sem, seval]
  first | refine fcall_free rfl rfl (hk) ?_ | refine YR_intro (acall_free rfl rfl (hk)) ?_
  simp only [go_sem, seval]
  try simp (disch := omega) only [tmP, tdP]
  (repeat refine And.intro (by first | omega | (intro hq; first | omega | (simp at hq <;> omega) | (simp_all <;> omega))) ?_)
  refine hK _ ?_; clear hK K
  refine ats_ret (finI rfl ?_)
  rfl
end Go.Proofs.YtakhnoenhmpfpaaGreat
