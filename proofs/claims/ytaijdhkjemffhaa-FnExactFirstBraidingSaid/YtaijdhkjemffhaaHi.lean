import Derived.Test.YtaijdhkjemffhaaHh
set_option linter.unusedSimpArgs false
set_option linter.unusedVariables false
namespace Go.Proofs.Ytaijdhkjemffhaa
open Go Go.Aw Go.Pl
attribute [local go_sem] pl_fin pl_stop pl_one pl_alt PK_ap pickO List.getElem?_toArray List.getElem?_cons_zero List.getElem?_cons_succ
theorem bfG_none {o : List Int} {m : Int} {w : List (List (List Int))} {c : List (List Int)} {q x y z : Nat} (h : brV o w c q x y z % m = 0) : bfG o m w c q x y z = none := if_neg (fun h' => h' h)
theorem bfF_len {o : List Int} {m : Int} {w : List (List (List Int))} {c : List (List Int)} {v : List Int} (h : bfF o m w c = some v) : v.length = 4 :=
  first_all (P := fun v => v.length = 4) h fun x u hx => first_all (P := fun v => v.length = 4) hx fun y u hy => first_all (P := fun v => v.length = 4) hy fun z u hz => first_all (P := fun v => v.length = 4) hz fun t u ht => by
    unfold bfG at ht
    split at ht <;> cases ht
    rfl
set_option maxRecDepth 100000 in
set_option maxHeartbeats 8000000 in
theorem l18Fault_ok (o : List Int) (m : Int) (w : List (List (List Int))) (c : List (List Int)) (h : CocS o m w) (hb : GridB w.length m c) : PureCall Try.prog 66 [.agg [.l1 o, .int m, .l3 w], .l2 c] (optA (bfF o m w c)) := by
  have n8 := h.n8
  have lc := hb.1
  refine PureCall.intro (n := 60) (rs := [.tmp 4]) Try.call66 Try.func66 rfl rfl rfl (by simp only [List.length_cons, List.length_nil]; omega) (fun cx hcx => ats_of ?_); simp only [argSlots, Nat.zero_add, Nat.reduceAdd]
  (repeat refine ats_seq ?_); refine ats_go (fix0 hcx) fun K hK => ?_; simp only [go_sem, seval]; refine hK _ ?_; clear hK K
  (repeat refine ats_seq ?_); refine ats_go (fix0 hcx) fun K hK => ?_; simp only [go_sem, seval]; (repeat refine And.intro (by first | omega | (intro hq; first | omega | (simp at hq <;> omega) | (simp_all <;> omega))) ?_); refine hK _ ?_; clear hK K
  (repeat refine ats_seq ?_); refine ats_go (fix0 hcx) fun K hK => ?_; simp only [go_sem, seval]; (repeat refine And.intro (by first | omega | (intro hq; first | omega | (simp at hq <;> omega) | (simp_all <;> omega))) ?_); refine hK _ ?_; clear hK K
  rw [lc]
  (repeat refine ats_seq ?_); refine ats_loop (fun q : Nat => ⟨[(1, .l2 c), (2, .bptr 0 0), (5, .int w.length), (6, .int ((q : Int) + 1))], [(0, .bx [.l1 o, .int m, .l3 w])]⟩) (fun q => q ≤ 2 ∧ ∀ a, a < q → first w.length (fun x => first w.length fun y => first w.length (bfG o m w c a x y)) = none) (fun q => 2 - q) 0 ⟨Nat.zero_le _, fun a h => absurd h (Nat.not_lt_zero a)⟩ (by
    refine And.intro ?_ rfl; simp only [SlotsLe, St.get, slotGet, Nat.reduceEqDiff, ↓reduceIte, AV.int.injEq, AV.bool.injEq, AV.l1.injEq, AV.l2.injEq, AV.l3.injEq, true_and, and_true]
    first | exact ⟨rfl, rfl⟩ | rfl) (fun q hq => ?_)
  obtain ⟨hq, Hq⟩ := hq
  (repeat refine ats_seq ?_); refine ats_go (fix0 hcx) fun K hK => ?_; simp only [go_sem, seval]; (repeat refine And.intro (by first | omega | (intro hq; first | omega | (simp at hq <;> omega) | (simp_all <;> omega))) ?_); refine hK _ ?_; clear hK K
  (repeat refine ats_seq ?_); first | refine ats_ifn (p := _) rfl trivial (fun hlq => ?_) (fun hlq => ?_) | refine ats_ifp (p := _) rfl trivial (fun hlq => ?_) (fun hlq => ?_) | refine ats_cond rfl trivial (fun hlq => ?_) (fun hlq => ?_)
  · refine ats_skip ?_
    (repeat refine ats_seq ?_); refine ats_block ?_
    (repeat refine ats_seq ?_); refine ats_go (fix0 hcx) fun K hK => ?_; simp only [go_sem, seval]; refine hK _ ?_; clear hK K
    (repeat refine ats_seq ?_); refine ats_loop (fun i : Nat => ⟨[(1, .l2 c), (2, .bptr 0 0), (5, .int w.length), (6, .int ((q : Int) + 1)), (7, .int i)], [(0, .bx [.l1 o, .int m, .l3 w])]⟩) (fun i => i ≤ w.length ∧ ∀ b, b < i → first w.length (fun y => first w.length (bfG o m w c q b y)) = none) (fun i => w.length - i) 0 ⟨Nat.zero_le _, fun a h => absurd h (Nat.not_lt_zero a)⟩ (by refine And.intro ?_ rfl; simp only [SlotsLe, St.get, slotGet, Nat.reduceEqDiff, ↓reduceIte, AV.int.injEq, AV.bool.injEq, AV.l1.injEq, AV.l2.injEq, AV.l3.injEq, true_and, and_true]; rfl) (fun i hi => ?_); obtain ⟨hi, Hi⟩ := hi
    (repeat refine ats_seq ?_); refine ats_go (fix0 hcx) fun K hK => ?_; simp only [go_sem, seval]; refine hK _ ?_; clear hK K
    (repeat refine ats_seq ?_); first | refine ats_ifn (p := _) rfl trivial (fun hli => ?_) (fun hli => ?_) | refine ats_ifp (p := _) rfl trivial (fun hli => ?_) (fun hli => ?_) | refine ats_cond rfl trivial (fun hli => ?_) (fun hli => ?_)
    · refine ats_skip ?_
      (repeat refine ats_seq ?_); refine ats_block ?_
      (repeat refine ats_seq ?_); refine ats_go (fix0 hcx) fun K hK => ?_; simp only [go_sem, seval]; refine hK _ ?_; clear hK K
      (repeat refine ats_seq ?_); refine ats_loop (fun j : Nat => ⟨[(1, .l2 c), (2, .bptr 0 0), (5, .int w.length), (6, .int ((q : Int) + 1)), (7, .int i), (8, .int j)], [(0, .bx [.l1 o, .int m, .l3 w])]⟩) (fun j => j ≤ w.length ∧ ∀ b, b < j → first w.length (bfG o m w c q i b) = none) (fun j => w.length - j) 0 ⟨Nat.zero_le _, fun a h => absurd h (Nat.not_lt_zero a)⟩ (by refine And.intro ?_ rfl; simp only [SlotsLe, St.get, slotGet, Nat.reduceEqDiff, ↓reduceIte, AV.int.injEq, AV.bool.injEq, AV.l1.injEq, AV.l2.injEq, AV.l3.injEq, true_and, and_true]; rfl) (fun j hj => ?_); obtain ⟨hj, Hj⟩ := hj
      (repeat refine ats_seq ?_); refine ats_go (fix0 hcx) fun K hK => ?_; simp only [go_sem, seval]; refine hK _ ?_; clear hK K
      (repeat refine ats_seq ?_); first | refine ats_ifn (p := _) rfl trivial (fun hlj => ?_) (fun hlj => ?_) | refine ats_ifp (p := _) rfl trivial (fun hlj => ?_) (fun hlj => ?_) | refine ats_cond rfl trivial (fun hlj => ?_) (fun hlj => ?_)
      · refine ats_skip ?_
        (repeat refine ats_seq ?_); refine ats_block ?_
        (repeat refine ats_seq ?_); refine ats_go (fix0 hcx) fun K hK => ?_; simp only [go_sem, seval]; refine hK _ ?_; clear hK K
        (repeat refine ats_seq ?_); refine ats_loop (fun k : Nat => ⟨[(1, .l2 c), (2, .bptr 0 0), (5, .int w.length), (6, .int ((q : Int) + 1)), (7, .int i), (8, .int j), (9, .int k)], [(0, .bx [.l1 o, .int m, .l3 w])]⟩) (fun k => k ≤ w.length ∧ ∀ b, b < k → bfG o m w c q i j b = none) (fun k => w.length - k) 0 ⟨Nat.zero_le _, fun a h => absurd h (Nat.not_lt_zero a)⟩ (by refine And.intro ?_ rfl; simp only [SlotsLe, St.get, slotGet, Nat.reduceEqDiff, ↓reduceIte, AV.int.injEq, AV.bool.injEq, AV.l1.injEq, AV.l2.injEq, AV.l3.injEq, true_and, and_true]; rfl) (fun k hk => ?_); obtain ⟨hk, Hk⟩ := hk
        (repeat refine ats_seq ?_); refine ats_go (fix0 hcx) fun K hK => ?_; simp only [go_sem, seval]; refine hK _ ?_; clear hK K
        (repeat refine ats_seq ?_); first | refine ats_ifn (p := _) rfl trivial (fun hlk => ?_) (fun hlk => ?_) | refine ats_ifp (p := _) rfl trivial (fun hlk => ?_) (fun hlk => ?_) | refine ats_cond rfl trivial (fun hlk => ?_) (fun hlk => ?_)
        · have h1 := l18One_ok o m w c h hb i j k (by omega) (by omega) (by omega)
          have h2 := l18Two_ok o m w c h hb i j k (by omega) (by omega) (by omega)
          refine ats_skip ?_
          (repeat refine ats_seq ?_); refine ats_block ?_
          (repeat refine ats_seq ?_); refine ats_go (fix0 hcx) fun K hK => ?_; simp only [go_sem, seval]
          (repeat refine And.intro (by first | omega | (intro hq; first | omega | (simp at hq <;> omega) | (simp_all <;> omega))) ?_)
          first | refine YR_intro (fun _ => acall_data (h1) rfl) ?_ | refine YR_intro (acall_data (h1) rfl) ?_
          simp only [go_sem, seval]
          (repeat refine And.intro (by first | omega | (intro hq; first | omega | (simp at hq <;> omega) | (simp_all <;> omega))) ?_)
          first | refine YR_intro (fun _ => acall_data (h2) rfl) ?_ | refine YR_intro (acall_data (h2) rfl) ?_
          simp only [go_sem, seval]
          (repeat refine And.intro (by first | omega | (intro hq; first | omega | (simp at hq <;> omega) | (simp_all <;> omega))) ?_)
          refine hK _ ?_; clear hK K
          have hqq : q = 0 ∨ q = 1 := by omega
          (repeat refine ats_seq ?_); first | refine ats_ifn (p := _) rfl trivial (fun hne => ?_) (fun hne => ?_) | refine ats_ifp (p := _) rfl trivial (fun hne => ?_) (fun hne => ?_) | refine ats_cond rfl trivial (fun hne => ?_) (fun hne => ?_)
          · (repeat refine ats_seq ?_); refine ats_go (fix0 hcx) fun K hK => ?_; simp only [go_sem, seval]; (repeat refine And.intro (by first | omega | (intro hq; first | omega | (simp at hq <;> omega) | (simp_all <;> omega))) ?_); refine hK _ ?_; clear hK K
            have hv : brV o w c q i j k % m ≠ 0 := by
              rcases hqq with rfl | rfl
              · simp at hne; exact hne
              · simp at hne; exact hne
            have e : bfF o m w c = some [(q : Int) + 1, (i : Int), (j : Int), (k : Int)] := first_some (by omega) Hq (first_some (by omega) Hi (first_some (by omega) Hj (first_some (by omega) Hk (if_pos hv))))
            exact ats_ret (finV rfl ⟨rfl, trivial⟩ (by rw [e]; rfl))
          · have hv : brV o w c q i j k % m = 0 := by
              rcases hqq with rfl | rfl
              · simp at hne; exact hne
              · simp at hne; exact hne
            refine ats_skip ?_
            (repeat refine ats_seq ?_); refine ats_go (fix0 hcx) fun K hK => ?_; simp only [go_sem, seval]; (repeat refine And.intro (by first | omega | (intro hq; first | omega | (simp at hq <;> omega) | (simp_all <;> omega))) ?_); refine hK _ ?_; clear hK K
            refine ⟨k + 1, ⟨by omega, fun a ha => by rcases Nat.lt_succ_iff_lt_or_eq.1 ha with h | rfl; exact Hk a h; exact bfG_none hv⟩, by omega, .inl ⟨?_, rfl⟩⟩; simp only [SlotsLe, St.get, slotGet, Nat.reduceEqDiff, ↓reduceIte, AV.int.injEq, AV.bool.injEq, AV.l1.injEq, AV.l2.injEq, AV.l3.injEq, true_and, and_true]; omega
        · refine ats_exit (lq_x (ats_nil (bq_n ?_)))
          (repeat refine ats_seq ?_); refine ats_go (fix0 hcx) fun K hK => ?_; simp only [go_sem, seval]; (repeat refine And.intro (by first | omega | (intro hq; first | omega | (simp at hq <;> omega) | (simp_all <;> omega))) ?_); refine hK _ ?_; clear hK K
          refine ⟨j + 1, ⟨by omega, fun a ha => by rcases Nat.lt_succ_iff_lt_or_eq.1 ha with h | rfl; exact Hj a h; exact first_none (fun k hk => Hk k (by omega))⟩, by omega, .inl ⟨?_, rfl⟩⟩; simp only [SlotsLe, St.get, slotGet, Nat.reduceEqDiff, ↓reduceIte, AV.int.injEq, AV.bool.injEq, AV.l1.injEq, AV.l2.injEq, AV.l3.injEq, true_and, and_true]; omega
      · refine ats_exit (lq_x (ats_nil (bq_n ?_)))
        (repeat refine ats_seq ?_); refine ats_go (fix0 hcx) fun K hK => ?_; simp only [go_sem, seval]; (repeat refine And.intro (by first | omega | (intro hq; first | omega | (simp at hq <;> omega) | (simp_all <;> omega))) ?_); refine hK _ ?_; clear hK K
        refine ⟨i + 1, ⟨by omega, fun a ha => by rcases Nat.lt_succ_iff_lt_or_eq.1 ha with h | rfl; exact Hi a h; exact first_none (fun k hk => Hj k (by omega))⟩, by omega, .inl ⟨?_, rfl⟩⟩; simp only [SlotsLe, St.get, slotGet, Nat.reduceEqDiff, ↓reduceIte, AV.int.injEq, AV.bool.injEq, AV.l1.injEq, AV.l2.injEq, AV.l3.injEq, true_and, and_true]; omega
    · refine ats_exit (lq_x (ats_nil (bq_n ?_)))
      (repeat refine ats_seq ?_); refine ats_go (fix0 hcx) fun K hK => ?_; simp only [go_sem, seval]; (repeat refine And.intro (by first | omega | (intro hq; first | omega | (simp at hq <;> omega) | (simp_all <;> omega))) ?_); refine hK _ ?_; clear hK K
      refine ⟨q + 1,  ⟨by omega, fun a ha => by rcases Nat.lt_succ_iff_lt_or_eq.1 ha with h | rfl; exact Hq a h; exact first_none (fun k hk => Hi k (by omega))⟩, by omega, .inl ⟨by simp only [SlotsLe, St.get, slotGet, Nat.reduceEqDiff, ↓reduceIte, AV.int.injEq, AV.bool.injEq, AV.l1.injEq, AV.l2.injEq, AV.l3.injEq, true_and, and_true]; (first | omega | (push_cast; omega) | skip),  rfl⟩⟩
  · obtain rfl : q = 2 := by omega
    refine ats_exit (lq_x ?_)
    (repeat refine ats_seq ?_); refine ats_go (fix0 hcx) fun K hK => ?_; simp only [go_sem, seval]; refine hK _ ?_; clear hK K
    have e : bfF o m w c = none := first_none (fun k hk => Hq k (by omega))
    exact ats_ret (finV rfl ⟨rfl, trivial⟩ (by rw [e]; rfl))
set_option maxRecDepth 100000 in
set_option maxHeartbeats 8000000 in
theorem holds_ok (o : List Int) (m : Int) (w : List (List (List Int))) (c : List (List Int)) (h : CocS o m w) (hb : GridB w.length m c) (q x y z : Nat) (hq : q < 2) (hx : x < w.length) (hy : y < w.length) (hz : z < w.length) : PureCall Try.prog 81 [.agg [.l1 o, .int m, .l3 w, .l2 c], .int ((q : Int) + 1), .int x, .int y, .int z] (.bool (decide (brV o w c q x y z % m = 0))) := by
  have n8 := h.n8
  have m1 := h.2.2.1
  have m2 := h.2.2.2.1
  have hc := h.2.2.2.2.2
  have lc := hb.1
  have hqq : q = 0 ∨ q = 1 := by omega
  rcases hqq with rfl | rfl
  · have hA := plus_ok o m w h.1 h.2.1 y z (by omega) (by omega)
    have hp := h.ad y z
    have hR1 := rest_ok o m w (e3 w y z x + e2 c x (ad o y z) + e3 w x y z) m1 m2
    have hR2 := rest_ok o m w (e2 c x z + e3 w y x z + e2 c x y) m1 m2
    have ed : decide ((e3 w y z x + e2 c x (ad o y z) + e3 w x y z) % m = (e2 c x z + e3 w y x z + e2 c x y) % m) = decide (brV o w c 0 x y z % m = 0) := by
      refine decide_eq_decide.2 ?_
      rw [← sub_zero]
      unfold brV br1
      rw [if_pos rfl]
      constructor <;> intro h <;> rw [← h] <;> congr 1 <;> omega
    rw [← ed]
    obtain ⟨p, ep⟩ : ∃ p, ad o y z = p := ⟨_, rfl⟩
    rw [ep] at hA hp hR1 ⊢
    have mq := hc.mat (i := y) (by omega)
    have rq := hc.row (i := y) (j := z) (by omega) (by omega)
    have vq := hc.bd (i := y) (j := z) (k := x) (by omega) (by omega) (by omega)
    have md := hc.mat (i := x) (by omega)
    have rd := hc.row (i := x) (j := y) (by omega) (by omega)
    have vd := hc.bd (i := x) (j := y) (k := z) (by omega) (by omega) (by omega)
    have rg := hc.row (i := y) (j := x) (by omega) (by omega)
    have vg := hc.bd (i := y) (j := x) (k := z) (by omega) (by omega) (by omega)
    have c1 := hb.row (j := x) (by omega)
    have u1 := hb.bd (j := x) (k := p) (by omega) (by omega)
    have u2 := hb.bd (j := x) (k := z) (by omega) (by omega)
    have u3 := hb.bd (j := x) (k := y) (by omega) (by omega)
    simp only [e3, e2] at vq vd vg u1 u2 u3 hR1 hR2 ⊢
    refine PureCall.intro (n := 149) (rs := [.tmp 10]) Try.call81 Try.func81 rfl rfl rfl (by simp only [List.length_cons, List.length_nil]; omega) (fun cx hcx => ats_of ?_); simp only [argSlots, Nat.zero_add, Nat.reduceAdd]
    (repeat refine ats_seq ?_); refine ats_go (fix0 hcx) fun K hK => ?_; simp only [go_sem, seval]; refine hK _ ?_; clear hK K
    (repeat refine ats_seq ?_)
    refine ats_plan [] (.one 0 (.one 1 (.one 2 (.one 3 (.one 4 (.one 5 (.one 6 (.alt 7 (.one 8 (.one 9 (.alt 10 .fin .stop))) .stop)))))))) ⟨[(1, .int 1), (2, .int x), (3, .int y), (4, .int z), (5, .bptr 0 0), (11, .l3 w), (12, .l2 c), (13, .bptr 1 0)], [(0, .bx [.l1 o, .int m, .l3 w, .l2 c]), (1, .bx [.l1 o, .int m, .l3 w])]⟩ (fix0 hcx) mixed (by kernel_rfl) (fun K hK => ?_) ?_
    · simp only [go_sem, seval, Option.getD_some, and_true, true_and, and_self, List.contains_cons, List.contains_nil, Bool.or_false, Bool.or_true]
      repeat' (first | exact hK _ (by refine And.intro ?_ rfl; simp only [SlotsLe, St.get, slotGet, Nat.reduceEqDiff, ↓reduceIte, AV.int.injEq, AV.bool.injEq, AV.l1.injEq, AV.l2.injEq, AV.l3.injEq, true_and, and_true])  | with_reducible refine And.intro ?_ ?_ | omega | (refine fcall_own rfl () rfl ?_; simp only [go_sem, seval, Option.getD_some, and_true, true_and, and_self, List.contains_cons, List.contains_nil, Bool.or_false, Bool.or_true]))
    (repeat refine ats_seq ?_); refine ats_go (fix0 hcx) fun K hK => ?_; simp only [go_sem, seval]; refine hK _ ?_; clear hK K
    (repeat refine ats_seq ?_); refine ats_yes rfl trivial ?_
    (repeat refine ats_seq ?_); refine ats_pick (fix0 hcx) mixed (by kernel_rfl) fun K hK => ?_; simp only [go_sem, seval]
    (repeat refine And.intro (by first | omega | (intro hq; first | omega | (simp at hq <;> omega) | (simp_all <;> omega))) ?_)
    first | refine fcall_data (hA) rfl ?_ | refine YR_intro (acall_data (hA) rfl) ?_
    simp only [go_sem, seval]
    (repeat refine And.intro (by first | omega | (intro hq; first | omega | (simp at hq <;> omega) | (simp_all <;> omega))) ?_)
    first | refine fcall_data (hR1) rfl ?_ | refine YR_intro (acall_data (hR1) rfl) ?_
    simp only [go_sem, seval]
    (repeat refine And.intro (by first | omega | (intro hq; first | omega | (simp at hq <;> omega) | (simp_all <;> omega))) ?_)
    first | refine fcall_data (hR2) rfl ?_ | refine YR_intro (acall_data (hR2) rfl) ?_
    simp only [go_sem, seval]
    (repeat refine And.intro (by first | omega | (intro hq; first | omega | (simp at hq <;> omega) | (simp_all <;> omega))) ?_)
    refine hK _ ?_; clear hK K
    refine ats_ret (finB rfl ?_)
    rfl
  · have hA := plus_ok o m w h.1 h.2.1 x y (by omega) (by omega)
    have hp := h.ad x y
    have hR1 := rest_ok o m w (e2 c (ad o x y) z - e3 w z x y - e3 w x y z) m1 m2
    have hR2 := rest_ok o m w (e2 c x z + e2 c y z - e3 w x z y) m1 m2
    have ed : decide ((e2 c (ad o x y) z - e3 w z x y - e3 w x y z) % m = (e2 c x z + e2 c y z - e3 w x z y) % m) = decide (brV o w c 1 x y z % m = 0) := by
      refine decide_eq_decide.2 ?_
      rw [← sub_zero]
      unfold brV br2
      rw [if_neg (by decide)]
      constructor <;> intro h <;> rw [← h] <;> congr 1 <;> omega
    rw [← ed]
    obtain ⟨p, ep⟩ : ∃ p, ad o x y = p := ⟨_, rfl⟩
    rw [ep] at hA hp hR1 ⊢
    have mq := hc.mat (i := z) (by omega)
    have rq := hc.row (i := z) (j := x) (by omega) (by omega)
    have vq := hc.bd (i := z) (j := x) (k := y) (by omega) (by omega) (by omega)
    have md := hc.mat (i := x) (by omega)
    have rd := hc.row (i := x) (j := y) (by omega) (by omega)
    have vd := hc.bd (i := x) (j := y) (k := z) (by omega) (by omega) (by omega)
    have rg := hc.row (i := x) (j := z) (by omega) (by omega)
    have vg := hc.bd (i := x) (j := z) (k := y) (by omega) (by omega) (by omega)
    have c1 := hb.row (j := p) (by omega)
    have u1 := hb.bd (j := p) (k := z) (by omega) (by omega)
    have c2 := hb.row (j := x) (by omega)
    have u2 := hb.bd (j := x) (k := z) (by omega) (by omega)
    have c3 := hb.row (j := y) (by omega)
    have u3 := hb.bd (j := y) (k := z) (by omega) (by omega)
    simp only [e3, e2] at vq vd vg u1 u2 u3 hR1 hR2 ⊢
    refine PureCall.intro (n := 149) (rs := [.tmp 10]) Try.call81 Try.func81 rfl rfl rfl (by simp only [List.length_cons, List.length_nil]; omega) (fun cx hcx => ats_of ?_); simp only [argSlots, Nat.zero_add, Nat.reduceAdd]
    (repeat refine ats_seq ?_); refine ats_go (fix0 hcx) fun K hK => ?_; simp only [go_sem, seval]; refine hK _ ?_; clear hK K
    (repeat refine ats_seq ?_)
    refine ats_plan [] (.one 0 (.one 1 (.one 2 (.one 3 (.one 4 (.one 5 (.one 6 (.alt 7 (.one 8 (.one 9 (.alt 10 .fin .stop))) .stop)))))))) ⟨[(1, .int 2), (2, .int x), (3, .int y), (4, .int z), (5, .bptr 0 0), (11, .l3 w), (12, .l2 c), (13, .bptr 1 0)], [(0, .bx [.l1 o, .int m, .l3 w, .l2 c]), (1, .bx [.l1 o, .int m, .l3 w])]⟩ (fix0 hcx) mixed (by kernel_rfl) (fun K hK => ?_) ?_
    · simp only [go_sem, seval, Option.getD_some, and_true, true_and, and_self, List.contains_cons, List.contains_nil, Bool.or_false, Bool.or_true]
      repeat' (first | exact hK _ (by refine And.intro ?_ rfl; simp only [SlotsLe, St.get, slotGet, Nat.reduceEqDiff, ↓reduceIte, AV.int.injEq, AV.bool.injEq, AV.l1.injEq, AV.l2.injEq, AV.l3.injEq, true_and, and_true])  | with_reducible refine And.intro ?_ ?_ | omega | (refine fcall_own rfl () rfl ?_; simp only [go_sem, seval, Option.getD_some, and_true, true_and, and_self, List.contains_cons, List.contains_nil, Bool.or_false, Bool.or_true]))
    (repeat refine ats_seq ?_); refine ats_go (fix0 hcx) fun K hK => ?_; simp only [go_sem, seval]; refine hK _ ?_; clear hK K
    (repeat refine ats_seq ?_); refine ats_no rfl trivial ?_
    refine ats_skip ?_
    (repeat refine ats_seq ?_); refine ats_pick (fix0 hcx) mixed (by kernel_rfl) fun K hK => ?_; simp only [go_sem, seval]
    (repeat refine And.intro (by first | omega | (intro hq; first | omega | (simp at hq <;> omega) | (simp_all <;> omega))) ?_)
    first | refine fcall_data (hA) rfl ?_ | refine YR_intro (acall_data (hA) rfl) ?_
    simp only [go_sem, seval]
    (repeat refine And.intro (by first | omega | (intro hq; first | omega | (simp at hq <;> omega) | (simp_all <;> omega))) ?_)
    first | refine fcall_data (hR1) rfl ?_ | refine YR_intro (acall_data (hR1) rfl) ?_
    simp only [go_sem, seval]
    (repeat refine And.intro (by first | omega | (intro hq; first | omega | (simp at hq <;> omega) | (simp_all <;> omega))) ?_)
    first | refine fcall_data (hR2) rfl ?_ | refine YR_intro (acall_data (hR2) rfl) ?_
    simp only [go_sem, seval]
    (repeat refine And.intro (by first | omega | (intro hq; first | omega | (simp at hq <;> omega) | (simp_all <;> omega))) ?_)
    refine hK _ ?_; clear hK K
    refine ats_ret (finB rfl ?_)
    rfl
set_option maxRecDepth 100000 in
set_option maxHeartbeats 8000000 in
theorem bfault_ok (o : List Int) (m : Int) (w : List (List (List Int))) (c : List (List Int)) (h : CocS o m w) (hb : GridB w.length m c) : PureCall Try.prog 53 [.agg [.l1 o, .int m, .l3 w, .l2 c]] (optA (bfF o m w c)) := by
  have n8 := h.n8
  have lc := hb.1
  refine PureCall.intro (n := 44) (rs := [.tmp 2]) Try.call53 Try.func53 rfl rfl rfl (by simp only [List.length_cons, List.length_nil]; omega) (fun cx hcx => ats_of ?_); simp only [argSlots, Nat.zero_add, Nat.reduceAdd]
  (repeat refine ats_seq ?_); refine ats_go (fix0 hcx) fun K hK => ?_; simp only [go_sem, seval]; refine hK _ ?_; clear hK K
  (repeat refine ats_seq ?_); refine ats_go (fix0 hcx) fun K hK => ?_; simp only [go_sem, seval]; (repeat refine And.intro (by first | omega | (intro hq; first | omega | (simp at hq <;> omega) | (simp_all <;> omega))) ?_); refine hK _ ?_; clear hK K
  (repeat refine ats_seq ?_); refine ats_loop (fun q : Nat => ⟨[(1, .bptr 0 0), (3, .int ((q : Int) + 1))], [(0, .bx [.l1 o, .int m, .l3 w, .l2 c])]⟩) (fun q => q ≤ 2 ∧ ∀ a, a < q → first w.length (fun x => first w.length fun y => first w.length (bfG o m w c a x y)) = none) (fun q => 2 - q) 0 ⟨Nat.zero_le _, fun a h => absurd h (Nat.not_lt_zero a)⟩ (by
    refine And.intro ?_ rfl; simp only [SlotsLe, St.get, slotGet, Nat.reduceEqDiff, ↓reduceIte, AV.int.injEq, AV.bool.injEq, AV.l1.injEq, AV.l2.injEq, AV.l3.injEq, true_and, and_true]
    first | exact ⟨rfl, rfl⟩ | rfl) (fun q hq => ?_)
  obtain ⟨hq, Hq⟩ := hq
  (repeat refine ats_seq ?_); refine ats_go (fix0 hcx) fun K hK => ?_; simp only [go_sem, seval]; (repeat refine And.intro (by first | omega | (intro hq; first | omega | (simp at hq <;> omega) | (simp_all <;> omega))) ?_); refine hK _ ?_; clear hK K
  (repeat refine ats_seq ?_); first | refine ats_ifn (p := _) rfl trivial (fun hlq => ?_) (fun hlq => ?_) | refine ats_ifp (p := _) rfl trivial (fun hlq => ?_) (fun hlq => ?_) | refine ats_cond rfl trivial (fun hlq => ?_) (fun hlq => ?_)
  · refine ats_skip ?_
    (repeat refine ats_seq ?_); refine ats_block ?_
    (repeat refine ats_seq ?_); refine ats_go (fix0 hcx) fun K hK => ?_; simp only [go_sem, seval]; refine hK _ ?_; clear hK K
    rw [lc]
    (repeat refine ats_seq ?_); refine ats_loop (fun i : Nat => ⟨[(1, .bptr 0 0), (3, .int ((q : Int) + 1)), (13, .int w.length), (14, .int i)], [(0, .bx [.l1 o, .int m, .l3 w, .l2 c])]⟩) (fun i => i ≤ w.length ∧ ∀ b, b < i → first w.length (fun y => first w.length (bfG o m w c q b y)) = none) (fun i => w.length - i) 0 ⟨Nat.zero_le _, fun a h => absurd h (Nat.not_lt_zero a)⟩ (by refine And.intro ?_ rfl; simp only [SlotsLe, St.get, slotGet, Nat.reduceEqDiff, ↓reduceIte, AV.int.injEq, AV.bool.injEq, AV.l1.injEq, AV.l2.injEq, AV.l3.injEq, true_and, and_true]; rfl) (fun i hi => ?_); obtain ⟨hi, Hi⟩ := hi
    (repeat refine ats_seq ?_); refine ats_go (fix0 hcx) fun K hK => ?_; simp only [go_sem, seval]; refine hK _ ?_; clear hK K
    (repeat refine ats_seq ?_); first | refine ats_ifn (p := _) rfl trivial (fun hli => ?_) (fun hli => ?_) | refine ats_ifp (p := _) rfl trivial (fun hli => ?_) (fun hli => ?_) | refine ats_cond rfl trivial (fun hli => ?_) (fun hli => ?_)
    · refine ats_skip ?_
      (repeat refine ats_seq ?_); refine ats_block ?_
      (repeat refine ats_seq ?_); refine ats_go (fix0 hcx) fun K hK => ?_; simp only [go_sem, seval]; refine hK _ ?_; clear hK K
      (repeat refine ats_seq ?_); refine ats_go (fix0 hcx) fun K hK => ?_; simp only [go_sem, seval]; refine hK _ ?_; clear hK K
      rw [lc]
      (repeat refine ats_seq ?_); refine ats_loop (fun j : Nat => ⟨[(1, .bptr 0 0), (3, .int ((q : Int) + 1)), (4, .int i), (13, .int w.length), (14, .int i), (19, .int w.length), (20, .int j)], [(0, .bx [.l1 o, .int m, .l3 w, .l2 c])]⟩) (fun j => j ≤ w.length ∧ ∀ b, b < j → first w.length (bfG o m w c q i b) = none) (fun j => w.length - j) 0 ⟨Nat.zero_le _, fun a h => absurd h (Nat.not_lt_zero a)⟩ (by refine And.intro ?_ rfl; simp only [SlotsLe, St.get, slotGet, Nat.reduceEqDiff, ↓reduceIte, AV.int.injEq, AV.bool.injEq, AV.l1.injEq, AV.l2.injEq, AV.l3.injEq, true_and, and_true]; rfl) (fun j hj => ?_); obtain ⟨hj, Hj⟩ := hj
      (repeat refine ats_seq ?_); refine ats_go (fix0 hcx) fun K hK => ?_; simp only [go_sem, seval]; refine hK _ ?_; clear hK K
      (repeat refine ats_seq ?_); first | refine ats_ifn (p := _) rfl trivial (fun hlj => ?_) (fun hlj => ?_) | refine ats_ifp (p := _) rfl trivial (fun hlj => ?_) (fun hlj => ?_) | refine ats_cond rfl trivial (fun hlj => ?_) (fun hlj => ?_)
      · refine ats_skip ?_
        (repeat refine ats_seq ?_); refine ats_block ?_
        (repeat refine ats_seq ?_); refine ats_go (fix0 hcx) fun K hK => ?_; simp only [go_sem, seval]; refine hK _ ?_; clear hK K
        (repeat refine ats_seq ?_); refine ats_go (fix0 hcx) fun K hK => ?_; simp only [go_sem, seval]; refine hK _ ?_; clear hK K
        rw [lc]
        (repeat refine ats_seq ?_); refine ats_loop (fun k : Nat => ⟨[(1, .bptr 0 0), (3, .int ((q : Int) + 1)), (4, .int i), (5, .int j), (13, .int w.length), (14, .int i), (19, .int w.length), (20, .int j), (25, .int w.length), (26, .int k)], [(0, .bx [.l1 o, .int m, .l3 w, .l2 c])]⟩) (fun k => k ≤ w.length ∧ ∀ b, b < k → bfG o m w c q i j b = none) (fun k => w.length - k) 0 ⟨Nat.zero_le _, fun a h => absurd h (Nat.not_lt_zero a)⟩ (by refine And.intro ?_ rfl; simp only [SlotsLe, St.get, slotGet, Nat.reduceEqDiff, ↓reduceIte, AV.int.injEq, AV.bool.injEq, AV.l1.injEq, AV.l2.injEq, AV.l3.injEq, true_and, and_true]; rfl) (fun k hk => ?_); obtain ⟨hk, Hk⟩ := hk
        (repeat refine ats_seq ?_); refine ats_go (fix0 hcx) fun K hK => ?_; simp only [go_sem, seval]; refine hK _ ?_; clear hK K
        (repeat refine ats_seq ?_); first | refine ats_ifn (p := _) rfl trivial (fun hlk => ?_) (fun hlk => ?_) | refine ats_ifp (p := _) rfl trivial (fun hlk => ?_) (fun hlk => ?_) | refine ats_cond rfl trivial (fun hlk => ?_) (fun hlk => ?_)
        · have h1 := holds_ok o m w c h hb q i j k (by omega) (by omega) (by omega) (by omega)
          refine ats_skip ?_
          (repeat refine ats_seq ?_); refine ats_block ?_
          (repeat refine ats_seq ?_); refine ats_go (fix0 hcx) fun K hK => ?_; simp only [go_sem, seval]; refine hK _ ?_; clear hK K
          (repeat refine ats_seq ?_); refine ats_go (fix0 hcx) fun K hK => ?_; simp only [go_sem, seval]
          (repeat refine And.intro (by first | omega | (intro hq; first | omega | (simp at hq <;> omega) | (simp_all <;> omega))) ?_)
          first | refine fcall_data (h1) rfl ?_ | refine YR_intro (acall_data (h1) rfl) ?_
          simp only [go_sem, seval]
          (repeat refine And.intro (by first | omega | (intro hq; first | omega | (simp at hq <;> omega) | (simp_all <;> omega))) ?_)
          refine hK _ ?_; clear hK K
          (repeat refine ats_seq ?_); first | refine ats_ifn (p := _) rfl trivial (fun hne => ?_) (fun hne => ?_) | refine ats_ifp (p := _) rfl trivial (fun hne => ?_) (fun hne => ?_) | refine ats_cond rfl trivial (fun hne => ?_) (fun hne => ?_)
          · (repeat refine ats_seq ?_); refine ats_go (fix0 hcx) fun K hK => ?_; simp only [go_sem, seval]; (repeat refine And.intro (by first | omega | (intro hq; first | omega | (simp at hq <;> omega) | (simp_all <;> omega))) ?_); refine hK _ ?_; clear hK K
            have hv : brV o w c q i j k % m ≠ 0 := by simpa using hne
            have e : bfF o m w c = some [(q : Int) + 1, (i : Int), (j : Int), (k : Int)] := first_some (by omega) Hq (first_some (by omega) Hi (first_some (by omega) Hj (first_some (by omega) Hk (if_pos hv))))
            exact ats_ret (finV rfl ⟨rfl, trivial⟩ (by rw [e]; rfl))
          · have hv : brV o w c q i j k % m = 0 := by simpa using hne
            refine ats_skip ?_
            (repeat refine ats_seq ?_); refine ats_go (fix0 hcx) fun K hK => ?_; simp only [go_sem, seval]; (repeat refine And.intro (by first | omega | (intro hq; first | omega | (simp at hq <;> omega) | (simp_all <;> omega))) ?_); refine hK _ ?_; clear hK K
            refine ⟨k + 1, ⟨by omega, fun a ha => by rcases Nat.lt_succ_iff_lt_or_eq.1 ha with h | rfl; exact Hk a h; exact bfG_none hv⟩, by omega, .inl ⟨?_, rfl⟩⟩; simp only [SlotsLe, St.get, slotGet, Nat.reduceEqDiff, ↓reduceIte, AV.int.injEq, AV.bool.injEq, AV.l1.injEq, AV.l2.injEq, AV.l3.injEq, true_and, and_true]; omega
        · refine ats_exit (lq_x (ats_nil (bq_n ?_)))
          (repeat refine ats_seq ?_); refine ats_go (fix0 hcx) fun K hK => ?_; simp only [go_sem, seval]; (repeat refine And.intro (by first | omega | (intro hq; first | omega | (simp at hq <;> omega) | (simp_all <;> omega))) ?_); refine hK _ ?_; clear hK K
          refine ⟨j + 1, ⟨by omega, fun a ha => by rcases Nat.lt_succ_iff_lt_or_eq.1 ha with h | rfl; exact Hj a h; exact first_none (fun k hk => Hk k (by omega))⟩, by omega, .inl ⟨?_, rfl⟩⟩; simp only [SlotsLe, St.get, slotGet, Nat.reduceEqDiff, ↓reduceIte, AV.int.injEq, AV.bool.injEq, AV.l1.injEq, AV.l2.injEq, AV.l3.injEq, true_and, and_true]; omega
      · refine ats_exit (lq_x (ats_nil (bq_n ?_)))
        (repeat refine ats_seq ?_); refine ats_go (fix0 hcx) fun K hK => ?_; simp only [go_sem, seval]; (repeat refine And.intro (by first | omega | (intro hq; first | omega | (simp at hq <;> omega) | (simp_all <;> omega))) ?_); refine hK _ ?_; clear hK K
        refine ⟨i + 1, ⟨by omega, fun a ha => by rcases Nat.lt_succ_iff_lt_or_eq.1 ha with h | rfl; exact Hi a h; exact first_none (fun k hk => Hj k (by omega))⟩, by omega, .inl ⟨?_, rfl⟩⟩; simp only [SlotsLe, St.get, slotGet, Nat.reduceEqDiff, ↓reduceIte, AV.int.injEq, AV.bool.injEq, AV.l1.injEq, AV.l2.injEq, AV.l3.injEq, true_and, and_true]; omega
    · refine ats_exit (lq_x (ats_nil (bq_n ?_)))
      (repeat refine ats_seq ?_); refine ats_go (fix0 hcx) fun K hK => ?_; simp only [go_sem, seval]; (repeat refine And.intro (by first | omega | (intro hq; first | omega | (simp at hq <;> omega) | (simp_all <;> omega))) ?_); refine hK _ ?_; clear hK K
      refine ⟨q + 1,  ⟨by omega, fun a ha => by rcases Nat.lt_succ_iff_lt_or_eq.1 ha with h | rfl; exact Hq a h; exact first_none (fun k hk => Hi k (by omega))⟩, by omega, .inl ⟨by simp only [SlotsLe, St.get, slotGet, Nat.reduceEqDiff, ↓reduceIte, AV.int.injEq, AV.bool.injEq, AV.l1.injEq, AV.l2.injEq, AV.l3.injEq, true_and, and_true]; (first | omega | (push_cast; omega) | skip),  rfl⟩⟩
  · obtain rfl : q = 2 := by omega
    refine ats_exit (lq_x ?_)
    (repeat refine ats_seq ?_); refine ats_go (fix0 hcx) fun K hK => ?_; simp only [go_sem, seval]; refine hK _ ?_; clear hK K
    have e : bfF o m w c = none := first_none (fun k hk => Hq k (by omega))
    exact ats_ret (finV rfl ⟨rfl, trivial⟩ (by rw [e]; rfl))
end Go.Proofs.Ytaijdhkjemffhaa
