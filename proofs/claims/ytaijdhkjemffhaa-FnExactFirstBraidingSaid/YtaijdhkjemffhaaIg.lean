import Derived.Test.YtaijdhkjemffhaaHn
set_option linter.unusedSimpArgs false
set_option linter.unusedVariables false
namespace Go.Proofs.Ytaijdhkjemffhaa
open Go Go.Aw Go.Pl
attribute [local go_sem] pl_fin pl_stop pl_one pl_alt PK_ap pickO List.getElem?_toArray List.getElem?_cons_zero List.getElem?_cons_succ
theorem copyC1_ok (n : Nat) (o : List Int) (m : Int) (w : List (List (List Int))) (m2 : m ≤ 1000) (h : CubB n m w) (x y z : Nat) (hx : x < n) (hy : y < n) (hz : z < n) : PureCall Try.prog 56 [.int x, .int y, .int z, .cptr [.l1 o, .int m, .l3 w] 0] (.int (e3 w x y z)) := by
  have l1 := h.1
  have mx := h.mat hx
  have rx := h.row hx hy
  have v1 := h.bd hx hy hz
  simp only [e3] at v1 ⊢
  refine PureCall.intro (n := 19) (rs := [.tmp 7]) Try.call56 Try.func56 rfl rfl rfl (by simp only [List.length_cons, List.length_nil]; omega) (fun cx hcx => ats_of ?_); simp only [argSlots, Nat.zero_add, Nat.reduceAdd]
  (repeat refine ats_seq ?_); refine ats_go (fix0 hcx) fun K hK => ?_; simp only [go_sem, seval]; refine hK _ ?_; clear hK K
  (repeat refine ats_seq ?_); refine ats_go (fix0 hcx) fun K hK => ?_; simp only [go_sem, seval]; (repeat refine And.intro (by first | omega | (intro hq; first | omega | (simp at hq <;> omega) | (simp_all <;> omega))) ?_); refine hK _ ?_; clear hK K
  refine ats_ret (finI rfl ?_)
  rfl
set_option maxRecDepth 100000 in
set_option maxHeartbeats 8000000 in
theorem cocycleByC_ok (n : Nat) (o : List Int) (m : Int) (w : List (List (List Int))) (hp : PosO o) (hg : gsz o = n) (n1 : 1 ≤ n) (n8 : n ≤ 8) (m1 : 1 ≤ m) (m2 : m ≤ 1000) (hc : CubB n m w) (hl : o.length ≤ 1048576) : FreshCall Try.prog 55 [.l1 o, .int m, .fn 56 [.cptr [.l1 o, .int m, .l3 w] 0]] (.agg [.l1 o, .int m, .l3 w]) := by
  have hC := bClone_ok o hp.1 (by omega)
  have hG := groupSize_ok o
  rw [hg] at hG
  have hz := zeros_ok n n (by omega) (by omega)
  obtain ⟨f, ef⟩ : ∃ f : Nat → Nat → Nat → Int, f = fun i j k => e3 w i j k % m := ⟨_, rfl⟩
  have es : w = cubF n f := by
    rw [ef]
    refine (cubF_own hc).symm.trans (cubF_congr fun i hi j hj k hk => ?_)
    have := hc.bd hi hj hk
    exact (Int.emod_eq_of_lt this.1 (by omega)).symm
  have eres : (.agg [.l1 o, .int m, .l3 w] : AV) = .agg [.l1 o, .int m, .l3 (cubF n f)] := by rw [← es]
  rw [eres]
  have z0 : ∀ i, List.replicate n (List.replicate n (0 : Int)) = wrM n (f i) (fun _ _ => 0) 0 0 := fun i => by rw [wrM_zero, zeros_matF]
  obtain ⟨g, eg⟩ : ∃ g : Nat → Nat → Int, g = fun _ _ => 0 := ⟨_, rfl⟩
  rw [← eg] at z0
  refine FreshCall.intro (n := 57) (rs := [.cell 6 29]) Try.call55 Try.func55 rfl rfl rfl (by simp only [List.length_cons, List.length_nil]; omega) (fun cx hcx => ats_of ?_); simp only [argSlots, Nat.zero_add, Nat.reduceAdd]
  (repeat refine ats_seq ?_); refine ats_go (fix0 hcx) fun K hK => ?_; simp only [go_sem, seval]; refine hK _ ?_; clear hK K
  (repeat refine ats_seq ?_); refine ats_go (fix0 hcx) fun K hK => ?_; simp only [go_sem, seval]
  (repeat refine And.intro (by first | omega | (intro hq; first | omega | (simp at hq <;> omega) | (simp_all <;> omega))) ?_)
  refine fcall_own rfl (hC) rfl ?_; simp only [go_sem, seval]
  (repeat refine And.intro (by first | omega | (intro hq; first | omega | (simp at hq <;> omega) | (simp_all <;> omega))) ?_)
  first | refine fcall_data (hG) rfl ?_ | refine YR_intro (acall_data (hG) rfl) ?_
  simp only [go_sem, seval]
  (repeat refine And.intro (by first | omega | (intro hq; first | omega | (simp at hq <;> omega) | (simp_all <;> omega))) ?_)
  refine hK _ ?_; clear hK K
  (repeat refine ats_seq ?_); refine ats_go (fix0 hcx) fun K hK => ?_; simp only [go_sem, seval]; (repeat refine And.intro (by first | omega | (intro hq; first | omega | (simp at hq <;> omega) | (simp_all <;> omega))) ?_); refine hK _ ?_; clear hK K
  (repeat refine ats_seq ?_)
  refine ats_loop (fun q : Option Nat => match q with
    | none => ⟨[(0, .l1 o), (1, .int m), (2, .fn 56 [.cptr [.l1 o, .int m, .l3 w] 0]), (6, .bptr 0 0), (7, .bptr 2 0), (8, .int n), (19, .int n), (20, .int 0)], [(1, .t1 o), (0, .bx [.nil, .int 0, .nil]), (2, .bx [.ref 1 [], .int m, .nil])]⟩
    | some i => ⟨[(0, .l1 o), (1, .int m), (2, .fn 56 [.cptr [.l1 o, .int m, .l3 w] 0]), (6, .bptr 0 0), (7, .bptr 2 0), (8, .int n), (19, .int n), (20, .int i)], [(1, .t1 o), (0, .bx [.nil, .int 0, .nil]), (2, .bx [.ref 1 [], .int m, .ref 5 []]), (5, .t3 (cubP n f i))]⟩) (fun q => match q with
    | none => True
    | some i => 1 ≤ i ∧ i ≤ n) (fun q => match q with
    | none => n + 1
    | some i => n - i) none trivial ⟨by simp only [SlotsLe, St.get, slotGet, Nat.reduceEqDiff, ↓reduceIte, true_and, and_true], rfl⟩ (fun q hq => ?_)
  cases q with
  | none =>
    dsimp only at hq ⊢
    (repeat refine ats_seq ?_); refine ats_go (fix0 hcx) fun K hK => ?_; simp only [go_sem, seval]; (repeat refine And.intro (by first | omega | (intro hq; first | omega | (simp at hq <;> omega) | (simp_all <;> omega))) ?_); refine hK _ ?_; clear hK K
    (repeat refine ats_seq ?_); first | refine ats_ifn (p := _) rfl trivial (fun hli => ?_) (fun hli => ?_) | refine ats_ifp (p := _) rfl trivial (fun hli => ?_) (fun hli => ?_) | refine ats_cond rfl trivial (fun hli => ?_) (fun hli => ?_)
    · have mi := hc.mat (show 0 < n by omega)
      have z1 := z0 0
      have hlm := cubP_len (n := n) (f := f) (i := 0)
      refine ats_skip ?_
      (repeat refine ats_seq ?_); refine ats_block ?_
      (repeat refine ats_seq ?_); refine ats_go (fix0 hcx) fun K hK => ?_; simp only [go_sem, seval]; (repeat refine And.intro (by first | omega | (intro hq; first | omega | (simp at hq <;> omega) | (simp_all <;> omega))) ?_); refine hK _ ?_; clear hK K
      (repeat refine ats_seq ?_); refine ats_go (fix0 hcx) fun K hK => ?_; simp only [go_sem, seval]
      (repeat refine And.intro (by first | omega | (intro hq; first | omega | (simp at hq <;> omega) | (simp_all <;> omega))) ?_)
      refine fcall_own rfl (hz) rfl ?_; simp only [go_sem, seval]
      (repeat refine And.intro (by first | omega | (intro hq; first | omega | (simp at hq <;> omega) | (simp_all <;> omega))) ?_)
      refine hK _ ?_; clear hK K
      rw [z1]
      (repeat refine ats_seq ?_); refine ats_go (fix0 hcx) fun K hK => ?_; simp only [go_sem, seval]; (repeat refine And.intro (by first | omega | (intro hq; first | omega | (simp at hq <;> omega) | (simp_all <;> omega))) ?_); refine hK _ ?_; clear hK K
      (repeat refine ats_seq ?_); refine ats_loop (fun j : Nat => ⟨[(0, .l1 o), (1, .int m), (2, .fn 56 [.cptr [.l1 o, .int m, .l3 w] 0]), (6, .bptr 0 0), (7, .bptr 2 0), (8, .int n), (9, .int 0), (10, .ref 3 []), (19, .int n), (20, .int 0), (26, .int n), (27, .int j)], [(3, .t2 (wrM n (f 0) g j 0)), (1, .t1 o), (0, .bx [.nil, .int 0, .nil]), (2, .bx [.ref 1 [], .int m, .nil])]⟩) (fun j => j ≤ n) (fun j => n - j) 0 (Nat.zero_le _) (by refine And.intro ?_ rfl; simp only [SlotsLe, St.get, slotGet, Nat.reduceEqDiff, ↓reduceIte, true_and, and_true, AV.int.injEq, AV.bool.injEq, AV.l1.injEq, AV.l2.injEq, AV.l3.injEq]; repeat' (first | rfl | with_reducible refine And.intro ?_ ?_ | omega)) (fun j hj => ?_)
      (repeat refine ats_seq ?_); refine ats_go (fix0 hcx) fun K hK => ?_; simp only [go_sem, seval]; (repeat refine And.intro (by first | omega | (intro hq; first | omega | (simp at hq <;> omega) | (simp_all <;> omega))) ?_); refine hK _ ?_; clear hK K
      (repeat refine ats_seq ?_); first | refine ats_ifn (p := _) rfl trivial (fun hlj => ?_) (fun hlj => ?_) | refine ats_ifp (p := _) rfl trivial (fun hlj => ?_) (fun hlj => ?_) | refine ats_cond rfl trivial (fun hlj => ?_) (fun hlj => ?_)
      · refine ats_skip ?_
        (repeat refine ats_seq ?_); refine ats_block ?_
        (repeat refine ats_seq ?_); refine ats_go (fix0 hcx) fun K hK => ?_; simp only [go_sem, seval]; (repeat refine And.intro (by first | omega | (intro hq; first | omega | (simp at hq <;> omega) | (simp_all <;> omega))) ?_); refine hK _ ?_; clear hK K
        (repeat refine ats_seq ?_); refine ats_go (fix0 hcx) fun K hK => ?_; simp only [go_sem, seval]; (repeat refine And.intro (by first | omega | (intro hq; first | omega | (simp at hq <;> omega) | (simp_all <;> omega))) ?_); refine hK _ ?_; clear hK K
        (repeat refine ats_seq ?_); refine ats_loop (fun k : Nat => ⟨[(0, .l1 o), (1, .int m), (2, .fn 56 [.cptr [.l1 o, .int m, .l3 w] 0]), (6, .bptr 0 0), (7, .bptr 2 0), (8, .int n), (9, .int 0), (10, .ref 3 []), (11, .int j), (19, .int n), (20, .int 0), (26, .int n), (27, .int j), (30, .int n), (31, .int k)], [(3, .t2 (wrM n (f 0) g j k)), (1, .t1 o), (0, .bx [.nil, .int 0, .nil]), (2, .bx [.ref 1 [], .int m, .nil])]⟩) (fun k => k ≤ n) (fun k => n - k) 0 (Nat.zero_le _) (by refine And.intro ?_ rfl; simp only [SlotsLe, St.get, slotGet, Nat.reduceEqDiff, ↓reduceIte, true_and, and_true, AV.int.injEq, AV.bool.injEq, AV.l1.injEq, AV.l2.injEq, AV.l3.injEq]; repeat' (first | rfl | with_reducible refine And.intro ?_ ?_ | omega)) (fun k hk => ?_)
        (repeat refine ats_seq ?_); refine ats_go (fix0 hcx) fun K hK => ?_; simp only [go_sem, seval]; (repeat refine And.intro (by first | omega | (intro hq; first | omega | (simp at hq <;> omega) | (simp_all <;> omega))) ?_); refine hK _ ?_; clear hK K
        (repeat refine ats_seq ?_); first | refine ats_ifn (p := _) rfl trivial (fun hlk => ?_) (fun hlk => ?_) | refine ats_ifp (p := _) rfl trivial (fun hlk => ?_) (fun hlk => ?_) | refine ats_cond rfl trivial (fun hlk => ?_) (fun hlk => ?_)
        · have l1 := wrM_len (n := n) (f := f 0) (g := g) (i := j) (j := k)
          have l2 := wrM_l2 (n := n) (f := f 0) (g := g) (i := j) (j := k) (x := j) (by omega)
          have hA := copyC1_ok n o m w m2 hc 0 j k (by omega) (by omega) (by omega)
          have hR := restN_ok o m (e3 w 0 j k) m1 m2
          have ev : (e3 w 0 j k) % m = f 0 j k := by rw [ef]
          have b1 := Int.emod_nonneg (e3 w 0 j k) (show m ≠ 0 by omega)
          have b2 := Int.emod_lt_of_pos (e3 w 0 j k) (show 0 < m by omega)
          rw [ev] at hR b1 b2
          have sk := wrM_set (n := n) (f := f 0) (g := g) (i := j) (j := k) (by omega)
          refine ats_skip ?_
          (repeat refine ats_seq ?_); refine ats_block ?_
          (repeat refine ats_seq ?_); refine ats_go (fix0 hcx) fun K hK => ?_; simp only [go_sem, seval]; (repeat refine And.intro (by first | omega | (intro hq; first | omega | (simp at hq <;> omega) | (simp_all <;> omega))) ?_); refine hK _ ?_; clear hK K
          (repeat refine ats_seq ?_)
          refine ats_plan [] (.one 0 (.one 1 (.one 2 (.one 3 (.one 4 (.one 5 (.one 6 (.one 7 (.one 8 (.one 9 (.one 10 (.one 11 (.one 12 (.alt 13 .fin .stop)))))))))))))) ⟨[(0, .l1 o), (1, .int m), (2, .fn 56 [.cptr [.l1 o, .int m, .l3 w] 0]), (6, .bptr 0 0), (7, .bptr 2 0), (8, .int n), (9, .int 0), (10, .ref 3 []), (11, .int j), (19, .int n), (20, .int 0), (26, .int n), (27, .int j), (30, .int n), (31, .int k)], [(3, .t2 ((wrM n (f 0) g j k).set j (((wrM n (f 0) g j k).getD j []).set k (f 0 j k)))), (1, .t1 o), (0, .bx [.nil, .int 0, .nil]), (2, .bx [.ref 1 [], .int m, .nil])]⟩ (fix0 hcx) mixed (by kernel_rfl) (fun K hK => ?_) ?_
          · simp only [go_sem, seval, Option.getD_some, and_true, true_and, and_self, List.contains_cons, List.contains_nil, Bool.or_false, Bool.or_true]
            repeat' (first | exact hK _ (by refine And.intro ?_ rfl; simp only [SlotsLe, St.get, slotGet, Nat.reduceEqDiff, ↓reduceIte, AV.int.injEq, AV.bool.injEq, AV.l1.injEq, AV.l2.injEq, AV.l3.injEq, true_and, and_true])  | with_reducible refine And.intro ?_ ?_ | omega | ((first | refine fcall_data (hA) rfl ?_ | refine YR_intro (acall_data (hA) rfl) ?_); simp only [go_sem, seval, Option.getD_some, and_true, true_and, and_self, List.contains_cons, List.contains_nil, Bool.or_false, Bool.or_true]) | ((first | refine fcall_free rfl rfl (hR) ?_ | refine YR_intro (acall_free rfl rfl (hR)) ?_); simp only [go_sem, seval, Option.getD_some, and_true, true_and, and_self, List.contains_cons, List.contains_nil, Bool.or_false, Bool.or_true]))
          rw [sk]
          (repeat refine ats_seq ?_); refine ats_go (fix0 hcx) fun K hK => ?_; simp only [go_sem, seval]; (repeat refine And.intro (by first | omega | (intro hq; first | omega | (simp at hq <;> omega) | (simp_all <;> omega))) ?_); refine hK _ ?_; clear hK K
          refine ⟨k + 1,  by omega, by omega, .inl ⟨by simp only [SlotsLe, St.get, slotGet, Nat.reduceEqDiff, ↓reduceIte, AV.int.injEq, AV.bool.injEq, AV.l1.injEq, AV.l2.injEq, AV.l3.injEq, true_and, and_true]; omega,  rfl⟩⟩
        · obtain rfl : k = n := by omega
          rw [wrM_row]
          refine ats_exit (lq_x ?_)
          (repeat refine ats_seq ?_); refine ats_go (fix0 hcx) fun K hK => ?_; simp only [go_sem, seval]; (repeat refine And.intro (by first | omega | (intro hq; first | omega | (simp at hq <;> omega) | (simp_all <;> omega))) ?_); refine hK _ ?_; clear hK K
          refine ⟨j + 1,  by omega, by omega, .inl ⟨by simp only [SlotsLe, St.get, slotGet, Nat.reduceEqDiff, ↓reduceIte, AV.int.injEq, AV.bool.injEq, AV.l1.injEq, AV.l2.injEq, AV.l3.injEq, true_and, and_true]; omega,  rfl⟩⟩
      · obtain rfl : j = n := by omega
        rw [wrM_end]
        refine ats_exit (lq_x ?_)
        (repeat refine ats_seq ?_); refine ats_go (fix0 hcx) fun K hK => ?_; simp only [go_sem, seval]
        try simp only [hlm]
        (repeat refine And.intro (by first | omega | (intro hq; first | omega | (simp at hq <;> omega) | (simp_all <;> omega))) ?_)
        refine hK _ ?_; clear hK K
        (repeat refine ats_seq ?_); refine ats_go (fix0 hcx) fun K hK => ?_; simp only [go_sem, seval]; (repeat refine And.intro (by first | omega | (intro hq; first | omega | (simp at hq <;> omega) | (simp_all <;> omega))) ?_); refine hK _ ?_; clear hK K
        refine ⟨some (0 + 1), ⟨by omega, by omega⟩, by show j - (0 + 1) < j + 1; omega, .inl ⟨?_, ?_⟩⟩
        · simp only [SlotsLe, St.get, slotGet, Nat.reduceEqDiff, ↓reduceIte, AV.int.injEq, true_and, and_true]
          omega
        · dsimp only
          rw [cubP_succ]
          try rfl
    · omega
  | some i =>
    dsimp only at hq ⊢
    (repeat refine ats_seq ?_); refine ats_go (fix0 hcx) fun K hK => ?_; simp only [go_sem, seval]; (repeat refine And.intro (by first | omega | (intro hq; first | omega | (simp at hq <;> omega) | (simp_all <;> omega))) ?_); refine hK _ ?_; clear hK K
    (repeat refine ats_seq ?_); first | refine ats_ifn (p := _) rfl trivial (fun hli => ?_) (fun hli => ?_) | refine ats_ifp (p := _) rfl trivial (fun hli => ?_) (fun hli => ?_) | refine ats_cond rfl trivial (fun hli => ?_) (fun hli => ?_)
    · have mi := hc.mat (show i < n by omega)
      have z1 := z0 i
      have hlm := cubP_len (n := n) (f := f) (i := i)
      refine ats_skip ?_
      (repeat refine ats_seq ?_); refine ats_block ?_
      (repeat refine ats_seq ?_); refine ats_go (fix0 hcx) fun K hK => ?_; simp only [go_sem, seval]; (repeat refine And.intro (by first | omega | (intro hq; first | omega | (simp at hq <;> omega) | (simp_all <;> omega))) ?_); refine hK _ ?_; clear hK K
      (repeat refine ats_seq ?_); refine ats_go (fix0 hcx) fun K hK => ?_; simp only [go_sem, seval]
      (repeat refine And.intro (by first | omega | (intro hq; first | omega | (simp at hq <;> omega) | (simp_all <;> omega))) ?_)
      refine fcall_own rfl (hz) rfl ?_; simp only [go_sem, seval]
      (repeat refine And.intro (by first | omega | (intro hq; first | omega | (simp at hq <;> omega) | (simp_all <;> omega))) ?_)
      refine hK _ ?_; clear hK K
      rw [z1]
      (repeat refine ats_seq ?_); refine ats_go (fix0 hcx) fun K hK => ?_; simp only [go_sem, seval]; (repeat refine And.intro (by first | omega | (intro hq; first | omega | (simp at hq <;> omega) | (simp_all <;> omega))) ?_); refine hK _ ?_; clear hK K
      (repeat refine ats_seq ?_); refine ats_loop (fun j : Nat => ⟨[(0, .l1 o), (1, .int m), (2, .fn 56 [.cptr [.l1 o, .int m, .l3 w] 0]), (6, .bptr 0 0), (7, .bptr 2 0), (8, .int n), (9, .int i), (10, .ref 6 []), (19, .int n), (20, .int i), (26, .int n), (27, .int j)], [(6, .t2 (wrM n (f i) g j 0)), (1, .t1 o), (0, .bx [.nil, .int 0, .nil]), (2, .bx [.ref 1 [], .int m, .ref 5 []]), (5, .t3 (cubP n f i))]⟩) (fun j => j ≤ n) (fun j => n - j) 0 (Nat.zero_le _) (by refine And.intro ?_ rfl; simp only [SlotsLe, St.get, slotGet, Nat.reduceEqDiff, ↓reduceIte, true_and, and_true, AV.int.injEq, AV.bool.injEq, AV.l1.injEq, AV.l2.injEq, AV.l3.injEq]; repeat' (first | rfl | with_reducible refine And.intro ?_ ?_ | omega)) (fun j hj => ?_)
      (repeat refine ats_seq ?_); refine ats_go (fix0 hcx) fun K hK => ?_; simp only [go_sem, seval]; (repeat refine And.intro (by first | omega | (intro hq; first | omega | (simp at hq <;> omega) | (simp_all <;> omega))) ?_); refine hK _ ?_; clear hK K
      (repeat refine ats_seq ?_); first | refine ats_ifn (p := _) rfl trivial (fun hlj => ?_) (fun hlj => ?_) | refine ats_ifp (p := _) rfl trivial (fun hlj => ?_) (fun hlj => ?_) | refine ats_cond rfl trivial (fun hlj => ?_) (fun hlj => ?_)
      · refine ats_skip ?_
        (repeat refine ats_seq ?_); refine ats_block ?_
        (repeat refine ats_seq ?_); refine ats_go (fix0 hcx) fun K hK => ?_; simp only [go_sem, seval]; (repeat refine And.intro (by first | omega | (intro hq; first | omega | (simp at hq <;> omega) | (simp_all <;> omega))) ?_); refine hK _ ?_; clear hK K
        (repeat refine ats_seq ?_); refine ats_go (fix0 hcx) fun K hK => ?_; simp only [go_sem, seval]; (repeat refine And.intro (by first | omega | (intro hq; first | omega | (simp at hq <;> omega) | (simp_all <;> omega))) ?_); refine hK _ ?_; clear hK K
        (repeat refine ats_seq ?_); refine ats_loop (fun k : Nat => ⟨[(0, .l1 o), (1, .int m), (2, .fn 56 [.cptr [.l1 o, .int m, .l3 w] 0]), (6, .bptr 0 0), (7, .bptr 2 0), (8, .int n), (9, .int i), (10, .ref 6 []), (11, .int j), (19, .int n), (20, .int i), (26, .int n), (27, .int j), (30, .int n), (31, .int k)], [(6, .t2 (wrM n (f i) g j k)), (1, .t1 o), (0, .bx [.nil, .int 0, .nil]), (2, .bx [.ref 1 [], .int m, .ref 5 []]), (5, .t3 (cubP n f i))]⟩) (fun k => k ≤ n) (fun k => n - k) 0 (Nat.zero_le _) (by refine And.intro ?_ rfl; simp only [SlotsLe, St.get, slotGet, Nat.reduceEqDiff, ↓reduceIte, true_and, and_true, AV.int.injEq, AV.bool.injEq, AV.l1.injEq, AV.l2.injEq, AV.l3.injEq]; repeat' (first | rfl | with_reducible refine And.intro ?_ ?_ | omega)) (fun k hk => ?_)
        (repeat refine ats_seq ?_); refine ats_go (fix0 hcx) fun K hK => ?_; simp only [go_sem, seval]; (repeat refine And.intro (by first | omega | (intro hq; first | omega | (simp at hq <;> omega) | (simp_all <;> omega))) ?_); refine hK _ ?_; clear hK K
        (repeat refine ats_seq ?_); first | refine ats_ifn (p := _) rfl trivial (fun hlk => ?_) (fun hlk => ?_) | refine ats_ifp (p := _) rfl trivial (fun hlk => ?_) (fun hlk => ?_) | refine ats_cond rfl trivial (fun hlk => ?_) (fun hlk => ?_)
        · have l1 := wrM_len (n := n) (f := f i) (g := g) (i := j) (j := k)
          have l2 := wrM_l2 (n := n) (f := f i) (g := g) (i := j) (j := k) (x := j) (by omega)
          have hA := copyC1_ok n o m w m2 hc i j k (by omega) (by omega) (by omega)
          have hR := rest_ok o m (cubP n f i) (e3 w i j k) m1 m2
          have ev : (e3 w i j k) % m = f i j k := by rw [ef]
          have b1 := Int.emod_nonneg (e3 w i j k) (show m ≠ 0 by omega)
          have b2 := Int.emod_lt_of_pos (e3 w i j k) (show 0 < m by omega)
          rw [ev] at hR b1 b2
          have sk := wrM_set (n := n) (f := f i) (g := g) (i := j) (j := k) (by omega)
          refine ats_skip ?_
          (repeat refine ats_seq ?_); refine ats_block ?_
          (repeat refine ats_seq ?_); refine ats_go (fix0 hcx) fun K hK => ?_; simp only [go_sem, seval]; (repeat refine And.intro (by first | omega | (intro hq; first | omega | (simp at hq <;> omega) | (simp_all <;> omega))) ?_); refine hK _ ?_; clear hK K
          (repeat refine ats_seq ?_)
          refine ats_plan [] (.one 0 (.one 1 (.one 2 (.one 3 (.one 4 (.one 5 (.one 6 (.one 7 (.one 8 (.one 9 (.one 10 (.one 11 (.one 12 (.alt 13 .fin .stop)))))))))))))) ⟨[(0, .l1 o), (1, .int m), (2, .fn 56 [.cptr [.l1 o, .int m, .l3 w] 0]), (6, .bptr 0 0), (7, .bptr 2 0), (8, .int n), (9, .int i), (10, .ref 6 []), (11, .int j), (19, .int n), (20, .int i), (26, .int n), (27, .int j), (30, .int n), (31, .int k)], [(6, .t2 ((wrM n (f i) g j k).set j (((wrM n (f i) g j k).getD j []).set k (f i j k)))), (1, .t1 o), (0, .bx [.nil, .int 0, .nil]), (2, .bx [.ref 1 [], .int m, .ref 5 []]), (5, .t3 (cubP n f i))]⟩ (fix0 hcx) mixed (by kernel_rfl) (fun K hK => ?_) ?_
          · simp only [go_sem, seval, Option.getD_some, and_true, true_and, and_self, List.contains_cons, List.contains_nil, Bool.or_false, Bool.or_true]
            repeat' (first | exact hK _ (by refine And.intro ?_ rfl; simp only [SlotsLe, St.get, slotGet, Nat.reduceEqDiff, ↓reduceIte, AV.int.injEq, AV.bool.injEq, AV.l1.injEq, AV.l2.injEq, AV.l3.injEq, true_and, and_true])  | with_reducible refine And.intro ?_ ?_ | omega | ((first | refine fcall_data (hA) rfl ?_ | refine YR_intro (acall_data (hA) rfl) ?_); simp only [go_sem, seval, Option.getD_some, and_true, true_and, and_self, List.contains_cons, List.contains_nil, Bool.or_false, Bool.or_true]) | ((first | refine fcall_free rfl rfl (hR) ?_ | refine YR_intro (acall_free rfl rfl (hR)) ?_); simp only [go_sem, seval, Option.getD_some, and_true, true_and, and_self, List.contains_cons, List.contains_nil, Bool.or_false, Bool.or_true]))
          rw [sk]
          (repeat refine ats_seq ?_); refine ats_go (fix0 hcx) fun K hK => ?_; simp only [go_sem, seval]; (repeat refine And.intro (by first | omega | (intro hq; first | omega | (simp at hq <;> omega) | (simp_all <;> omega))) ?_); refine hK _ ?_; clear hK K
          refine ⟨k + 1,  by omega, by omega, .inl ⟨by simp only [SlotsLe, St.get, slotGet, Nat.reduceEqDiff, ↓reduceIte, AV.int.injEq, AV.bool.injEq, AV.l1.injEq, AV.l2.injEq, AV.l3.injEq, true_and, and_true]; omega,  rfl⟩⟩
        · obtain rfl : k = n := by omega
          rw [wrM_row]
          refine ats_exit (lq_x ?_)
          (repeat refine ats_seq ?_); refine ats_go (fix0 hcx) fun K hK => ?_; simp only [go_sem, seval]; (repeat refine And.intro (by first | omega | (intro hq; first | omega | (simp at hq <;> omega) | (simp_all <;> omega))) ?_); refine hK _ ?_; clear hK K
          refine ⟨j + 1,  by omega, by omega, .inl ⟨by simp only [SlotsLe, St.get, slotGet, Nat.reduceEqDiff, ↓reduceIte, AV.int.injEq, AV.bool.injEq, AV.l1.injEq, AV.l2.injEq, AV.l3.injEq, true_and, and_true]; omega,  rfl⟩⟩
      · obtain rfl : j = n := by omega
        rw [wrM_end]
        refine ats_exit (lq_x ?_)
        (repeat refine ats_seq ?_); refine ats_go (fix0 hcx) fun K hK => ?_; simp only [go_sem, seval]
        try simp only [hlm]
        (repeat refine And.intro (by first | omega | (intro hq; first | omega | (simp at hq <;> omega) | (simp_all <;> omega))) ?_)
        refine hK _ ?_; clear hK K
        (repeat refine ats_seq ?_); refine ats_go (fix0 hcx) fun K hK => ?_; simp only [go_sem, seval]; (repeat refine And.intro (by first | omega | (intro hq; first | omega | (simp at hq <;> omega) | (simp_all <;> omega))) ?_); refine hK _ ?_; clear hK K
        refine ⟨some (i + 1), ⟨by omega, by omega⟩, by show j - (i + 1) < j - i; omega, .inl ⟨?_, ?_⟩⟩
        · simp only [SlotsLe, St.get, slotGet, Nat.reduceEqDiff, ↓reduceIte, AV.int.injEq, true_and, and_true]
          omega
        · dsimp only
          rw [cubP_succ]
          try rfl
    · obtain rfl : i = n := by omega
      rw [cubP_end]
      refine ats_exit (lq_x ?_)
      (repeat refine ats_seq ?_); refine ats_go (fix0 hcx) fun K hK => ?_; simp only [go_sem, seval]; (repeat refine And.intro (by first | omega | (intro hq; first | omega | (simp at hq <;> omega) | (simp_all <;> omega))) ?_); refine hK _ ?_; clear hK K
      exact ats_ret (ownC (v := .agg [.ref 1 [], .int m, .ref 5 []]) (by simp only [go_sem, seval]) rfl (by simp))
theorem copyCocycle_ok (o : List Int) (m : Int) (w : List (List (List Int))) (hs : CocS o m w) (hl : o.length ≤ 1048576) : FreshCall Try.prog 30 [.agg [.l1 o, .int m, .l3 w]] (.agg [.l1 o, .int m, .l3 w]) := by
  have n8 := hs.n8
  have hg : gsz o = w.length := by
    unfold gsz
    rw [if_pos (bd_true hs.1)]
    unfold min17
    rw [if_pos (by have := hs.2.1; omega)]
    exact hs.2.2.2.2.1.symm
  have hC := cocycleByC_ok w.length o m w hs.1 hg n8.1 n8.2 hs.2.2.1 hs.2.2.2.1 hs.2.2.2.2.2 hl
  refine FreshCall.intro (n := 9) (rs := [.cell 2 29]) Try.call30 Try.func30 rfl rfl rfl (by simp only [List.length_cons, List.length_nil]; omega) (fun cx hcx => ats_of ?_); simp only [argSlots, Nat.zero_add, Nat.reduceAdd]
  (repeat refine ats_seq ?_); refine ats_go (fix0 hcx) fun K hK => ?_; simp only [go_sem, seval]; refine hK _ ?_; clear hK K
  (repeat refine ats_seq ?_); refine ats_go (fix0 hcx) fun K hK => ?_; simp only [go_sem, seval]
  (repeat refine And.intro (by first | omega | (intro hq; first | omega | (simp at hq <;> omega) | (simp_all <;> omega))) ?_)
  refine fcall_own rfl (hC) rfl ?_; simp only [go_sem, seval]
  (repeat refine And.intro (by first | omega | (intro hq; first | omega | (simp at hq <;> omega) | (simp_all <;> omega))) ?_)
  refine hK _ ?_; clear hK K
  exact ats_ret (ownC (v := .agg [.ref 2 [], .int m, .ref 3 []]) (by simp only [go_sem, seval]) rfl (by simp))
end Go.Proofs.Ytaijdhkjemffhaa
