import Derived.Test.YtakhnoenhmpfpaaGreatDh
import Derived.Test.YtakhnoenhmpfpaaGreatLib5
import Derived.Test.YtakhnoenhmpfpaaGreatLib4
import Derived.Test.YtakhnoenhmpfpaaGreatWx2
set_option linter.unusedSimpArgs false
set_option linter.unusedVariables false
namespace Go.Proofs.YtakhnoenhmpfpaaGreat
open Go Go.Aw Go.Pl
attribute [local go_sem] pl_fin pl_stop pl_one pl_alt PK_ap pickO List.getElem?_toArray List.getElem?_cons_zero List.getElem?_cons_succ
theorem inversesOf_ok (xs : List Int) (h16 : xs.length ≤ 16) (hP : ∀ i, i < xs.length → InP (xs.getD i 0)) : FreshCall Tryz.prog 79 [.l1 xs] (.l1 (ivF xs)) := by
  refine FreshCall.intro (n := 20) (rs := [.tmp 2]) Tryz.call79 Tryz.func79 rfl rfl rfl (by simp only [List.length_cons, List.length_nil]; omega) (fun cx hcx => ats_of ?_); simp only [argSlots, Nat.zero_add, Nat.reduceAdd]
  (repeat refine ats_seq ?_); refine ats_go (fix0 hcx) fun K hK => ?_; simp only [go_sem, seval]; refine hK _ ?_; clear hK K
  refine ats_know 0 fun h0 => ?_; simp only [St.get, slotGet, Nat.reduceEqDiff, ↓reduceIte, if_true, fact, facts] at h0
  have hlen := h0.1
  (repeat refine ats_seq ?_); refine ats_go (fix0 hcx) fun K hK => ?_; simp only [go_sem, seval]; refine hK _ ?_; clear hK K
  (repeat refine ats_seq ?_); refine ats_go (fix0 hcx) fun K hK => ?_; simp only [go_sem, seval]; refine hK _ ?_; clear hK K
  (repeat refine ats_seq ?_); refine ats_loop (fun i : Nat => ⟨[(3, .ref 0 []), (7, .l1 xs), (8, .int xs.length), (9, .int i)], [(0, .t1 ((xs.take i).map fun x => 1 * inv x % 55441))]⟩) (fun i => i ≤ xs.length) (fun i => xs.length - i) 0 (Nat.zero_le _) (by refine And.intro ?_ rfl; simp only [SlotsLe, St.get, slotGet, Nat.reduceEqDiff, ↓reduceIte, true_and, and_true, AV.int.injEq, AV.bool.injEq, AV.l1.injEq, AV.l2.injEq, AV.l3.injEq]; repeat' (first | rfl | omega | refine And.intro ?_ ?_)) (fun i hi => ?_)
  have hl : ((xs.take i).map fun x => 1 * inv x % 55441).length = i := by rw [List.length_map, List.length_take]; omega
  (repeat refine ats_seq ?_); refine ats_go (fix0 hcx) fun K hK => ?_; simp only [go_sem, seval]; refine hK _ ?_; clear hK K
  (repeat refine ats_seq ?_); first | refine ats_ifn (p := _) rfl trivial (fun hli => ?_) (fun hli => ?_) | refine ats_ifp (p := _) rfl trivial (fun hli => ?_) (fun hli => ?_) | refine ats_cond rfl trivial (fun hli => ?_) (fun hli => ?_)
  · have hp : InP (xs.getD i 0) := hP i (by omega)
    refine ats_skip ?_
    (repeat refine ats_seq ?_); refine ats_block ?_
    (repeat refine ats_seq ?_); refine ats_go (fix0 hcx) fun K hK => ?_; simp only [go_sem, seval]; (repeat refine And.intro (by first | omega | (intro hq; first | omega | (simp at hq <;> omega) | (simp_all <;> omega))) ?_); refine hK _ ?_; clear hK K
    (repeat refine ats_seq ?_); refine ats_go (fix0 hcx) fun K hK => ?_; simp only [go_sem, seval]
    first | refine fcall_data (divide_ok 1 _ ⟨by omega, by omega⟩ hp) rfl ?_ | refine YR_intro (acall_data (divide_ok 1 _ ⟨by omega, by omega⟩ hp) rfl) ?_
    simp only [go_sem, seval]
    rw [hl]
    (repeat refine And.intro (by first | omega | (intro hq; first | omega | (simp at hq <;> omega) | (simp_all <;> omega))) ?_)
    refine hK _ ?_; clear hK K
    (repeat refine ats_seq ?_); refine ats_go (fix0 hcx) fun K hK => ?_; simp only [go_sem, seval]; (repeat refine And.intro (by first | omega | (intro hq; first | omega | (simp at hq <;> omega) | (simp_all <;> omega))) ?_); refine hK _ ?_; clear hK K
    refine ⟨i + 1, by omega, by omega, .inr ⟨[1], by simp only [killL, List.map_cons, List.map_nil, killA, killAs, qOf, rmT, killH, killT, List.filter_cons, List.filter_nil, List.contains_cons, List.contains_nil, SlotsLe, St.get, slotGet, Nat.reduceEqDiff, Nat.reduceBEq, Bool.or_false, Bool.or_true, Bool.false_and, Bool.not_true, Bool.not_false, Bool.false_eq_true, ↓reduceIte, if_true, if_false, AV.int.injEq, AV.bool.injEq, AV.l1.injEq, AV.l2.injEq, AV.l3.injEq, true_and, and_true]; omega, by simp only [killL, List.map_cons, List.map_nil, killA, killAs, qOf, rmT, killH, killT, List.filter_cons, List.filter_nil, List.contains_cons, List.contains_nil, SlotsLe, St.get, slotGet, Nat.reduceEqDiff, Nat.reduceBEq, Bool.or_false, Bool.or_true, Bool.false_and, Bool.not_true, Bool.not_false, Bool.false_eq_true, ↓reduceIte, if_true, if_false, AV.int.injEq, AV.bool.injEq, AV.l1.injEq, AV.l2.injEq, AV.l3.injEq, true_and, and_true]; rw [take_map_succ (show i < xs.length by omega)]⟩⟩
  · obtain rfl : i = xs.length := by omega
    refine ats_exit (lq_x ?_)
    rw [List.take_length]
    (repeat refine ats_seq ?_); refine ats_go (fix0 hcx) fun K hK => ?_; simp only [go_sem, seval]; refine hK _ ?_; clear hK K
    exact ats_ret (ownV (is := [0]) rfl ⟨rfl, trivial⟩ rfl (by simp))
theorem emptyCube_ok (n : Nat) (h1 : 1 ≤ n) (h16 : n ≤ 16) : FreshCall Tryz.prog 78 [.int n] (.agg [.l3 (List.replicate n (List.replicate n (List.replicate n 0)))]) := by
  refine FreshCall.intro (n := 18) (rs := [.cell 2 56]) Tryz.call78 Tryz.func78 rfl rfl rfl (by simp only [List.length_cons, List.length_nil]; omega) (fun cx hcx => ats_of ?_); simp only [argSlots, Nat.zero_add, Nat.reduceAdd]
  (repeat refine ats_seq ?_); refine ats_go (fix0 hcx) fun K hK => ?_; simp only [go_sem, seval]; refine hK _ ?_; clear hK K
  (repeat refine ats_seq ?_); refine ats_go (fix0 hcx) fun K hK => ?_; simp only [go_sem, seval]; refine hK _ ?_; clear hK K
  (repeat refine ats_seq ?_); refine ats_go (fix0 hcx) fun K hK => ?_; simp only [go_sem, seval]; refine hK _ ?_; clear hK K
  (repeat refine ats_seq ?_)
  refine ats_loop (fun o : Option Nat => match o with
    | none => ⟨[(6, .int 0), (5, .int n), (3, .bptr 1 0), (2, .bptr 0 0), (0, .int n)], [(0, .bx [.nil]), (1, .bx [.nil])]⟩
    | some i => ⟨[(6, .int i), (5, .int n), (3, .bptr 1 0), (2, .bptr 0 0), (0, .int n)], [(0, .bx [.nil]), (1, .bx [.ref 4 []]), (4, .t3 (List.replicate i (List.replicate n (List.replicate n 0))))]⟩) (fun o => match o with
    | none => True
    | some i => 1 ≤ i ∧ i ≤ n) (fun o => match o with
    | none => n + 1
    | some i => n - i) none trivial ⟨by simp only [SlotsLe, St.get, slotGet, Nat.reduceEqDiff, ↓reduceIte, true_and, and_true], rfl⟩ (fun o ho => ?_)
  cases o with
  | none =>
    dsimp only at ho ⊢
    (repeat refine ats_seq ?_); refine ats_go (fix0 hcx) fun K hK => ?_; simp only [go_sem, seval]; refine hK _ ?_; clear hK K
    (repeat refine ats_seq ?_); first | refine ats_ifn (p := _) rfl trivial (fun hli => ?_) (fun hli => ?_) | refine ats_ifp (p := _) rfl trivial (fun hli => ?_) (fun hli => ?_) | refine ats_cond rfl trivial (fun hli => ?_) (fun hli => ?_)
    · refine ats_skip ?_
      (repeat refine ats_seq ?_); refine ats_block ?_
      (repeat refine ats_seq ?_)
      refine ats_plan [4] (.one 2 (.one 3 (.alt 0 (.alt 1 (.alt 4 (.alt 5 (.alt 6 (.one 7 (.alt 8 .fin .stop)) .stop) .stop) .stop) (.alt 4 (.alt 1 (.alt 5 (.alt 6 (.one 7 (.alt 8 .fin .stop)) .stop) .stop) (.alt 5 (.one 1 (.alt 6 (.one 7 (.alt 8 .fin .stop)) .stop)) .stop)) .stop)) (.alt 4 (.alt 0 (.alt 1 (.alt 5 (.alt 6 (.one 7 (.alt 8 .fin .stop)) .stop) .stop) (.alt 5 (.one 1 (.alt 6 (.one 7 (.alt 8 .fin .stop)) .stop)) .stop)) (.alt 5 (.one 0 (.one 1 (.alt 6 (.one 7 (.alt 8 .fin .stop)) .stop))) .stop)) .stop)))) ⟨[(6, .int 0), (5, .int n), (3, .bptr 1 0), (2, .bptr 0 0), (0, .int n)], [(0, .bx [.nil]), (1, .bx [.ref 4 []]), (4, .t3 [List.replicate n (List.replicate n 0)])]⟩ (fix0 hcx) mixed (by kernel_rfl) (fun K hK => ?_) ?_
      · simp only [go_sem, seval, Option.getD_some, and_true, true_and, and_self, List.contains_cons, List.contains_nil, Bool.or_false, Bool.or_true]
        repeat' (first | exact hK _ (by refine And.intro ?_ rfl; simp only [SlotsLe, St.get, slotGet, Nat.reduceEqDiff, ↓reduceIte, AV.int.injEq, AV.bool.injEq, AV.l1.injEq, AV.l2.injEq, AV.l3.injEq, true_and, and_true])  | omega | refine And.intro ?_ ?_ | (refine fcall_own rfl (zeros_ok n n (by omega) (by omega)) rfl ?_; simp only [go_sem, seval, Option.getD_some, and_true, true_and, and_self, List.contains_cons, List.contains_nil, Bool.or_false, Bool.or_true]))
      (repeat refine ats_seq ?_); refine ats_go (fix0 hcx) fun K hK => ?_; simp only [go_sem, seval]; (repeat refine And.intro (by first | omega | (intro hq; first | omega | (simp at hq <;> omega) | (simp_all <;> omega))) ?_); refine hK _ ?_; clear hK K
      refine ⟨some 1, ⟨Nat.le_refl _, by omega⟩, by show n - 1 < n + 1; omega, .inl ⟨?_, rfl⟩⟩
      simp only [SlotsLe, St.get, slotGet, Nat.reduceEqDiff, ↓reduceIte, AV.int.injEq, true_and, and_true]
      omega
    · omega
  | some i =>
    dsimp only at ho ⊢
    have hl : (List.replicate i (List.replicate n (List.replicate n (0 : Int)))).length = i := List.length_replicate
    (repeat refine ats_seq ?_); refine ats_go (fix0 hcx) fun K hK => ?_; simp only [go_sem, seval]; refine hK _ ?_; clear hK K
    (repeat refine ats_seq ?_); first | refine ats_ifn (p := _) rfl trivial (fun hli => ?_) (fun hli => ?_) | refine ats_ifp (p := _) rfl trivial (fun hli => ?_) (fun hli => ?_) | refine ats_cond rfl trivial (fun hli => ?_) (fun hli => ?_)
    · refine ats_skip ?_
      (repeat refine ats_seq ?_); refine ats_block ?_
      (repeat refine ats_seq ?_)
      refine ats_plan [4] (.one 2 (.one 3 (.alt 0 (.alt 1 (.alt 4 (.alt 5 (.alt 6 (.one 7 (.alt 8 .fin .stop)) .stop) .stop) .stop) (.alt 4 (.alt 1 (.alt 5 (.alt 6 (.one 7 (.alt 8 .fin .stop)) .stop) .stop) (.alt 5 (.one 1 (.alt 6 (.one 7 (.alt 8 .fin .stop)) .stop)) .stop)) .stop)) (.alt 4 (.alt 0 (.alt 1 (.alt 5 (.alt 6 (.one 7 (.alt 8 .fin .stop)) .stop) .stop) (.alt 5 (.one 1 (.alt 6 (.one 7 (.alt 8 .fin .stop)) .stop)) .stop)) (.alt 5 (.one 0 (.one 1 (.alt 6 (.one 7 (.alt 8 .fin .stop)) .stop))) .stop)) .stop)))) ⟨[(6, .int i), (5, .int n), (3, .bptr 1 0), (2, .bptr 0 0), (0, .int n)], [(0, .bx [.nil]), (1, .bx [.ref 4 []]), (4, .t3 (List.replicate i (List.replicate n (List.replicate n 0)) ++ [List.replicate n (List.replicate n 0)]))]⟩ (fix0 hcx) mixed (by kernel_rfl) (fun K hK => ?_) ?_
      · simp only [go_sem, seval, Option.getD_some, and_true, true_and, and_self, List.contains_cons, List.contains_nil, Bool.or_false, Bool.or_true]
        repeat' (first | exact hK _ (by refine And.intro ?_ rfl; simp only [SlotsLe, St.get, slotGet, Nat.reduceEqDiff, ↓reduceIte, AV.int.injEq, AV.bool.injEq, AV.l1.injEq, AV.l2.injEq, AV.l3.injEq, true_and, and_true])  | omega | refine And.intro ?_ ?_ | (refine fcall_own rfl (zeros_ok n n (by omega) (by omega)) rfl ?_; simp only [go_sem, seval, Option.getD_some, and_true, true_and, and_self, List.contains_cons, List.contains_nil, Bool.or_false, Bool.or_true]) | ((rw [hl]; omega)))
      (repeat refine ats_seq ?_); refine ats_go (fix0 hcx) fun K hK => ?_; simp only [go_sem, seval]; (repeat refine And.intro (by first | omega | (intro hq; first | omega | (simp at hq <;> omega) | (simp_all <;> omega))) ?_); refine hK _ ?_; clear hK K
      refine ⟨some (i + 1), ⟨by omega, by omega⟩, by show n - (i + 1) < n - i; omega, .inl ⟨?_, by simp only [List.replicate_succ']⟩⟩
      simp only [SlotsLe, St.get, slotGet, Nat.reduceEqDiff, ↓reduceIte, AV.int.injEq, true_and, and_true]
      omega
    · obtain rfl : i = n := by omega
      refine ats_exit (lq_x ?_)
      (repeat refine ats_seq ?_); refine ats_go (fix0 hcx) fun K hK => ?_; simp only [go_sem, seval]; refine hK _ ?_; clear hK K
      exact ats_ret (ownC (v := .agg [.ref 4 []]) (by simp only [go_sem, seval]) rfl (by simp))
set_option maxHeartbeats 8000000 in
theorem fusion_ok (s : List (List Int)) (t c : List Int) (hs : Shape s t) (hc : c.length = t.length) (hC : ∀ k, k < t.length → 0 ≤ c.getD k 0 ∧ c.getD k 0 < t.length) : FreshCall Tryz.prog 51 [.agg [.l2 s, .l1 t], .l1 c] (.tup [.agg [.l3 (numD s t.length c)], .bool (bd (Cube (numD s t.length c)))]) := by
  have h16 := hs.2.1
  have h1 := hs.1
  have hm := hs.2.2.1
  have ls := hm.1
  have r0 := hm.row (show 0 < t.length by omega)
  have hI := inversesOf_ok (s.getD 0 []) (by omega) (fun i hi => hm.inP (by omega) (by omega))
  have li : (ivF (s.getD 0 [])).length = t.length := by rw [ivF_length, r0]
  have hw : InP (wholeD s t.length) := inP_md _
  have hr := isCube_ok (numD s t.length c)
  refine FreshCall.intro (n := 105) (rs := [.cell 4 56, .tmp 5]) Tryz.call51 Tryz.func51 rfl rfl rfl (by simp only [List.length_cons, List.length_nil]; omega) (fun cx hcx => ats_of ?_); simp only [argSlots, Nat.zero_add, Nat.reduceAdd]
  (repeat refine ats_seq ?_); refine ats_go (fix0 hcx) fun K hK => ?_; simp only [go_sem, seval]; refine hK _ ?_; clear hK K
  (repeat refine ats_seq ?_)
  refine ats_plan2 [3] (.one 0 (.one 1 (.one 2 (.alt 3 (.one 4 (.one 5 (.alt 6 (.alt 7 (.one 8 .fin) .stop) .stop))) (.alt 4 (.alt 3 (.one 5 (.alt 6 (.alt 7 (.one 8 .fin) .stop) .stop)) (.alt 6 (.alt 3 (.one 5 (.alt 7 (.one 8 .fin) .stop)) .stop) .stop)) (.alt 6 (.alt 3 (.one 4 (.one 5 (.alt 7 (.one 8 .fin) .stop))) (.alt 4 (.alt 3 (.one 5 (.alt 7 (.one 8 .fin) .stop)) .stop) .stop)) .stop)))))) ⟨[(2, .bptr 0 0), (4, .bptr 1 0), (5, .bool false), (1, .l1 c), (6, .bptr 3 0), (7, .int (wholeD s t.length))], [(2, .t3 (List.replicate s.length (List.replicate s.length (List.replicate s.length 0)))), (0, .bx [.l2 s, .l1 t]), (1, .bx [.nil]), (3, .bx [.ref 2 []])]⟩ ⟨[(2, .bptr 0 0), (4, .bptr 1 0), (5, .bool false), (1, .l1 c), (6, .bptr 2 0), (7, .int (wholeD s t.length))], [(3, .t3 (List.replicate s.length (List.replicate s.length (List.replicate s.length 0)))), (0, .bx [.l2 s, .l1 t]), (1, .bx [.nil]), (2, .bx [.ref 3 []])]⟩ (fix0 hcx) mixed (by kernel_rfl) (fun K hK hK2 => ?_) ?_ ?_
  · simp only [go_sem, seval, Option.getD_some, and_true, true_and, and_self, List.contains_cons, List.contains_nil, Bool.or_false, Bool.or_true]
    repeat' (first | exact hK _ (by refine And.intro ?_ rfl; simp only [SlotsLe, St.get, slotGet, Nat.reduceEqDiff, ↓reduceIte, AV.int.injEq, AV.bool.injEq, AV.l1.injEq, AV.l2.injEq, AV.l3.injEq, true_and, and_true])  | exact hK2 _ (by refine And.intro ?_ rfl; simp only [SlotsLe, St.get, slotGet, Nat.reduceEqDiff, ↓reduceIte, AV.int.injEq, AV.bool.injEq, AV.l1.injEq, AV.l2.injEq, AV.l3.injEq, true_and, and_true]) | omega | refine And.intro ?_ ?_ | (refine fcall_own rfl (emptyCube_ok s.length (by omega) (by omega)) rfl ?_; simp only [go_sem, seval, Option.getD_some, and_true, true_and, and_self, List.contains_cons, List.contains_nil, Bool.or_false, Bool.or_true]) | ((first | refine fcall_data (dwhole_ok s t hs) rfl ?_ | refine YR_intro (acall_data (dwhole_ok s t hs) rfl) ?_); simp only [go_sem, seval, Option.getD_some, and_true, true_and, and_self, List.contains_cons, List.contains_nil, Bool.or_false, Bool.or_true]))
  · rw [ls, ← cubL_zero (g := numV s t.length c)]
    (repeat refine ats_seq ?_); refine ats_go (fix0 hcx) fun K hK => ?_; simp only [go_sem, seval]
    (repeat refine And.intro (by first | omega | (intro hq; first | omega | (simp at hq <;> omega) | (simp_all <;> omega))) ?_)
    first | refine fcall_fresh rfl (hI) ?_ | refine YR_intro (acall_fresh rfl (hI)) ?_
    simp only [go_sem, seval]
    refine hK _ ?_; clear hK K
    (repeat refine ats_seq ?_); refine ats_go (fix0 hcx) fun K hK => ?_; simp only [go_sem, seval]; refine hK _ ?_; clear hK K
    (repeat refine ats_seq ?_); refine ats_loop (fun i : Nat => ⟨[(1, .l1 c), (2, .bptr 0 0), (4, .bptr 1 0), (5, .bool false), (6, .bptr 3 0), (7, .int (wholeD s t.length)), (8, .l1 (ivF (s.getD 0 []))), (30, .l2 s), (31, .int t.length), (32, .int i)], [(2, .t3 (cubL t.length (numV s t.length c) i 0 0)), (0, .bx [.l2 s, .l1 t]), (1, .bx [.nil]), (3, .bx [.ref 2 []])]⟩) (fun i => i ≤ t.length) (fun i => t.length - i) 0 (Nat.zero_le _) (by refine And.intro ?_ rfl; simp only [SlotsLe, St.get, slotGet, Nat.reduceEqDiff, ↓reduceIte, true_and, and_true, AV.int.injEq, AV.bool.injEq, AV.l1.injEq, AV.l2.injEq, AV.l3.injEq]; repeat' (first | rfl | omega | refine And.intro ?_ ?_)) (fun i hi => ?_)
    (repeat refine ats_seq ?_); refine ats_go (fix0 hcx) fun K hK => ?_; simp only [go_sem, seval]; refine hK _ ?_; clear hK K
    (repeat refine ats_seq ?_); first | refine ats_ifn (p := _) rfl trivial (fun hli => ?_) (fun hli => ?_) | refine ats_ifp (p := _) rfl trivial (fun hli => ?_) (fun hli => ?_) | refine ats_cond rfl trivial (fun hli => ?_) (fun hli => ?_)
    · have ri := hm.row (show i < t.length by omega)
      refine ats_skip ?_
      (repeat refine ats_seq ?_); refine ats_block ?_
      (repeat refine ats_seq ?_); refine ats_go (fix0 hcx) fun K hK => ?_; simp only [go_sem, seval]; (repeat refine And.intro (by first | omega | (intro hq; first | omega | (simp at hq <;> omega) | (simp_all <;> omega))) ?_); refine hK _ ?_; clear hK K
      (repeat refine ats_seq ?_); refine ats_go (fix0 hcx) fun K hK => ?_; simp only [go_sem, seval]; refine hK _ ?_; clear hK K
      (repeat refine ats_seq ?_); refine ats_loop (fun j : Nat => ⟨[(1, .l1 c), (2, .bptr 0 0), (4, .bptr 1 0), (5, .bool false), (6, .bptr 3 0), (7, .int (wholeD s t.length)), (8, .l1 (ivF (s.getD 0 []))), (30, .l2 s), (31, .int t.length), (32, .int i), (9, .int i), (10, .l1 (s.getD i [])), (38, .l2 s), (39, .int t.length), (40, .int j)], [(2, .t3 (cubL t.length (numV s t.length c) i j 0)), (0, .bx [.l2 s, .l1 t]), (1, .bx [.nil]), (3, .bx [.ref 2 []])]⟩) (fun j => j ≤ t.length) (fun j => t.length - j) 0 (Nat.zero_le _) (by refine And.intro ?_ rfl; simp only [SlotsLe, St.get, slotGet, Nat.reduceEqDiff, ↓reduceIte, true_and, and_true, AV.int.injEq, AV.bool.injEq, AV.l1.injEq, AV.l2.injEq, AV.l3.injEq]; repeat' (first | rfl | omega | refine And.intro ?_ ?_)) (fun j hj => ?_)
      (repeat refine ats_seq ?_); refine ats_go (fix0 hcx) fun K hK => ?_; simp only [go_sem, seval]; refine hK _ ?_; clear hK K
      (repeat refine ats_seq ?_); first | refine ats_ifn (p := _) rfl trivial (fun hlj => ?_) (fun hlj => ?_) | refine ats_ifp (p := _) rfl trivial (fun hlj => ?_) (fun hlj => ?_) | refine ats_cond rfl trivial (fun hlj => ?_) (fun hlj => ?_)
      · have rj := hm.row (show j < t.length by omega)
        refine ats_skip ?_
        (repeat refine ats_seq ?_); refine ats_block ?_
        (repeat refine ats_seq ?_); refine ats_go (fix0 hcx) fun K hK => ?_; simp only [go_sem, seval]; (repeat refine And.intro (by first | omega | (intro hq; first | omega | (simp at hq <;> omega) | (simp_all <;> omega))) ?_); refine hK _ ?_; clear hK K
        (repeat refine ats_seq ?_); refine ats_go (fix0 hcx) fun K hK => ?_; simp only [go_sem, seval]; refine hK _ ?_; clear hK K
        (repeat refine ats_seq ?_); refine ats_loop (fun k : Nat => ⟨[(1, .l1 c), (2, .bptr 0 0), (4, .bptr 1 0), (5, .bool false), (6, .bptr 3 0), (7, .int (wholeD s t.length)), (8, .l1 (ivF (s.getD 0 []))), (30, .l2 s), (31, .int t.length), (32, .int i), (9, .int i), (10, .l1 (s.getD i [])), (38, .l2 s), (39, .int t.length), (40, .int j), (11, .int j), (12, .l1 (s.getD j [])), (45, .l1 c), (46, .int t.length), (47, .int k)], [(2, .t3 (cubL t.length (numV s t.length c) i j k)), (0, .bx [.l2 s, .l1 t]), (1, .bx [.nil]), (3, .bx [.ref 2 []])]⟩) (fun k => k ≤ t.length) (fun k => t.length - k) 0 (Nat.zero_le _) (by refine And.intro ?_ rfl; simp only [SlotsLe, St.get, slotGet, Nat.reduceEqDiff, ↓reduceIte, true_and, and_true, AV.int.injEq, AV.bool.injEq, AV.l1.injEq, AV.l2.injEq, AV.l3.injEq]; repeat' (first | rfl | omega | refine And.intro ?_ ?_)) (fun k hk => ?_)
        have hcl : (cubL t.length (numV s t.length c) i j k).length = t.length := cubL_length
        (repeat refine ats_seq ?_); refine ats_go (fix0 hcx) fun K hK => ?_; simp only [go_sem, seval]; refine hK _ ?_; clear hK K
        (repeat refine ats_seq ?_); first | refine ats_ifn (p := _) rfl trivial (fun hlk => ?_) (fun hlk => ?_) | refine ats_ifp (p := _) rfl trivial (fun hlk => ?_) (fun hlk => ?_) | refine ats_cond rfl trivial (fun hlk => ?_) (fun hlk => ?_)
        · have hck := hC k (by omega)
          have rk := hm.row (show (c.getD k 0).toNat < t.length by omega)
          refine ats_skip ?_
          (repeat refine ats_seq ?_); refine ats_block ?_
          (repeat refine ats_seq ?_); refine ats_go (fix0 hcx) fun K hK => ?_; simp only [go_sem, seval]; (repeat refine And.intro (by first | omega | (intro hq; first | omega | (simp at hq <;> omega) | (simp_all <;> omega))) ?_); refine hK _ ?_; clear hK K
          (repeat refine ats_seq ?_); refine ats_go (fix0 hcx) fun K hK => ?_; simp only [go_sem, seval]; refine hK _ ?_; clear hK K
          (repeat refine ats_seq ?_); refine ats_go (fix0 hcx) fun K hK => ?_; simp only [go_sem, seval]; (repeat refine And.intro (by first | omega | (intro hq; first | omega | (simp at hq <;> omega) | (simp_all <;> omega))) ?_); refine hK _ ?_; clear hK K
          (repeat refine ats_seq ?_); refine ats_loop (fun l : Nat => ⟨[(1, .l1 c), (2, .bptr 0 0), (4, .bptr 1 0), (5, .bool false), (6, .bptr 3 0), (7, .int (wholeD s t.length)), (8, .l1 (ivF (s.getD 0 []))), (30, .l2 s), (31, .int t.length), (32, .int i), (9, .int i), (10, .l1 (s.getD i [])), (38, .l2 s), (39, .int t.length), (40, .int j), (11, .int j), (12, .l1 (s.getD j [])), (45, .l1 c), (46, .int t.length), (47, .int k), (13, .int k), (15, .int (sumTo (fun l => teF s c i j k l % 55441) l)), (56, .l1 (s.getD (c.getD k 0).toNat [])), (57, .int t.length), (58, .int l)], [(2, .t3 (cubL t.length (numV s t.length c) i j k)), (0, .bx [.l2 s, .l1 t]), (1, .bx [.nil]), (3, .bx [.ref 2 []])]⟩) (fun l => l ≤ t.length) (fun l => t.length - l) 0 (Nat.zero_le _) (by refine And.intro ?_ rfl; simp only [SlotsLe, St.get, slotGet, Nat.reduceEqDiff, ↓reduceIte, true_and, and_true, AV.int.injEq, AV.bool.injEq, AV.l1.injEq, AV.l2.injEq, AV.l3.injEq]; repeat' (first | rfl | omega | refine And.intro ?_ ?_)) (fun l hl => ?_)
          have sL := sumTo_le (f := fun l => teF s c i j k l % 55441) (B := 55440) (n := l) (fun x hx => ⟨Int.emod_nonneg _ (by omega), by have := Int.emod_lt_of_pos (teF s c i j k x) (show (0 : Int) < 55441 by omega); omega⟩)
          (repeat refine ats_seq ?_); refine ats_go (fix0 hcx) fun K hK => ?_; simp only [go_sem, seval]; refine hK _ ?_; clear hK K
          (repeat refine ats_seq ?_); first | refine ats_ifn (p := _) rfl trivial (fun hll => ?_) (fun hll => ?_) | refine ats_ifp (p := _) rfl trivial (fun hll => ?_) (fun hll => ?_) | refine ats_cond rfl trivial (fun hll => ?_) (fun hll => ?_)
          · have gl : (ivF (s.getD 0 [])).getD l 0 = 1 * inv (e2 s 0 l) % 55441 := ivF_get (by omega)
            have m1 := mulP (hm.inP (show i < t.length by omega) (show l < t.length by omega)) (hm.inP (show j < t.length by omega) (show l < t.length by omega))
            have m2 := mulP (inP_md (e2 s i l * e2 s j l)) (hm.inP (show (c.getD k 0).toNat < t.length by omega) (show l < t.length by omega))
            have m3 := mulP (inP_md (e2 s i l * e2 s j l % 55441 * e2 s (c.getD k 0).toNat l)) (inP_md (1 * inv (e2 s 0 l)))
            simp only [e2] at m1 m2 m3 gl
            refine ats_skip ?_
            (repeat refine ats_seq ?_); refine ats_block ?_
            (repeat refine ats_seq ?_); refine ats_go (fix0 hcx) fun K hK => ?_; simp only [go_sem, seval]; (repeat refine And.intro (by first | omega | (intro hq; first | omega | (simp at hq <;> omega) | (simp_all <;> omega))) ?_); refine hK _ ?_; clear hK K
            (repeat refine ats_seq ?_); refine ats_pick (fix0 hcx) mixed (by kernel_rfl) fun K hK => ?_; simp only [go_sem, seval]
            simp only [gl]
            try simp (disch := omega) only [tmP, tdP]
            (repeat refine And.intro (by first | omega | (intro hq; first | omega | (simp at hq <;> omega) | (simp_all <;> omega))) ?_)
            refine hK _ ?_; clear hK K
            (repeat refine ats_seq ?_); refine ats_go (fix0 hcx) fun K hK => ?_; simp only [go_sem, seval]; (repeat refine And.intro (by first | omega | (intro hq; first | omega | (simp at hq <;> omega) | (simp_all <;> omega))) ?_); refine hK _ ?_; clear hK K
            refine ⟨l + 1,  by omega, by omega, .inl ⟨by simp only [SlotsLe, St.get, slotGet, Nat.reduceEqDiff, ↓reduceIte, AV.int.injEq, AV.bool.injEq, AV.l1.injEq, AV.l2.injEq, AV.l3.injEq, true_and, and_true]; exact ⟨rfl, by omega⟩,  rfl⟩⟩
          · obtain rfl : l = t.length := by omega
            have pn : InP (sumTo (fun l => teF s c i j k l % 55441) t.length % 55441) := inP_md _
            have hd := divide_ok _ _ pn hw
            rw [imNum] at hd
            have c1 : ((cubL t.length (numV s t.length c) i j k).getD i []).length = t.length := cubF_mat (by omega)
            have c2 : (((cubL t.length (numV s t.length c) i j k).getD i []).getD j []).length = t.length := cubF_row (by omega) (by omega)
            refine ats_exit (lq_x ?_)
            (repeat refine ats_seq ?_); refine ats_pick (fix0 hcx) mixed (by kernel_rfl) fun K hK => ?_; simp only [go_sem, seval]
            try simp (disch := omega) only [tmP, tdP]
            simp only [hcl, c1, c2]
            (repeat refine And.intro (by first | omega | (intro hq; first | omega | (simp at hq <;> omega) | (simp_all <;> omega))) ?_)
            first | refine fcall_data (hd) rfl ?_ | refine YR_intro (acall_data (hd) rfl) ?_
            simp only [go_sem, seval]
            (repeat refine And.intro (by first | omega | (intro hq; first | omega | (simp at hq <;> omega) | (simp_all <;> omega))) ?_)
            refine hK _ ?_; clear hK K
            (repeat refine ats_seq ?_); refine ats_go (fix0 hcx) fun K hK => ?_; simp only [go_sem, seval]; (repeat refine And.intro (by first | omega | (intro hq; first | omega | (simp at hq <;> omega) | (simp_all <;> omega))) ?_); refine hK _ ?_; clear hK K
            refine ⟨k + 1,  by omega, by omega, .inl ⟨by simp only [SlotsLe, St.get, slotGet, Nat.reduceEqDiff, ↓reduceIte, AV.int.injEq, AV.bool.injEq, AV.l1.injEq, AV.l2.injEq, AV.l3.injEq, true_and, and_true]; omega,  by rw [← cubL_set (show i < t.length by omega) (show j < t.length by omega)]⟩⟩
        · obtain rfl : k = t.length := by omega
          refine ats_exit (lq_x (ats_nil (bq_n ?_)))
          (repeat refine ats_seq ?_); refine ats_go (fix0 hcx) fun K hK => ?_; simp only [go_sem, seval]; (repeat refine And.intro (by first | omega | (intro hq; first | omega | (simp at hq <;> omega) | (simp_all <;> omega))) ?_); refine hK _ ?_; clear hK K
          refine ⟨j + 1,  by omega, by omega, .inl ⟨by simp only [SlotsLe, St.get, slotGet, Nat.reduceEqDiff, ↓reduceIte, AV.int.injEq, AV.bool.injEq, AV.l1.injEq, AV.l2.injEq, AV.l3.injEq, true_and, and_true]; omega,  by rw [cubL_row]⟩⟩
      · obtain rfl : j = t.length := by omega
        refine ats_exit (lq_x (ats_nil (bq_n ?_)))
        (repeat refine ats_seq ?_); refine ats_go (fix0 hcx) fun K hK => ?_; simp only [go_sem, seval]; (repeat refine And.intro (by first | omega | (intro hq; first | omega | (simp at hq <;> omega) | (simp_all <;> omega))) ?_); refine hK _ ?_; clear hK K
        refine ⟨i + 1,  by omega, by omega, .inl ⟨by simp only [SlotsLe, St.get, slotGet, Nat.reduceEqDiff, ↓reduceIte, AV.int.injEq, AV.bool.injEq, AV.l1.injEq, AV.l2.injEq, AV.l3.injEq, true_and, and_true]; omega,  by rw [cubL_mat]⟩⟩
    · obtain rfl : i = t.length := by omega
      refine ats_exit (lq_x ?_)
      rw [cubL_all, ← numD_eq]
      (repeat refine ats_seq ?_)
      refine ats_plan [] (.one 0 (.one 1 (.one 2 (.alt 3 (.one 4 .fin) .stop)))) ⟨[(5, .bool (bd (Cube (numD s t.length c)))), (4, .bptr 1 0)], [(2, .t3 (numD s t.length c)), (0, .bx [.l2 s, .l1 t]), (1, .bx [.ref 2 []]), (3, .bx [.ref 2 []])]⟩ (fix0 hcx) mixed (by kernel_rfl) (fun K hK => ?_) ?_
      · simp only [go_sem, seval, Option.getD_some, and_true, true_and, and_self, List.contains_cons, List.contains_nil, Bool.or_false, Bool.or_true]
        repeat' (first | exact hK _ (by refine And.intro ?_ rfl; simp only [SlotsLe, St.get, slotGet, Nat.reduceEqDiff, ↓reduceIte, AV.int.injEq, AV.bool.injEq, AV.l1.injEq, AV.l2.injEq, AV.l3.injEq, true_and, and_true])  | omega | refine And.intro ?_ ?_ | ((first | refine fcall_free rfl rfl (hr) ?_ | refine YR_intro (acall_free rfl rfl (hr)) ?_); simp only [go_sem, seval, Option.getD_some, and_true, true_and, and_self, List.contains_cons, List.contains_nil, Bool.or_false, Bool.or_true]))
      exact ats_ret (own2C (v := .agg [.ref 2 []]) (by simp only [go_sem, seval]) trivial rfl (by simp))
  · rw [ls, ← cubL_zero (g := numV s t.length c)]
    (repeat refine ats_seq ?_); refine ats_go (fix0 hcx) fun K hK => ?_; simp only [go_sem, seval]
    (repeat refine And.intro (by first | omega | (intro hq; first | omega | (simp at hq <;> omega) | (simp_all <;> omega))) ?_)
    first | refine fcall_fresh rfl (hI) ?_ | refine YR_intro (acall_fresh rfl (hI)) ?_
    simp only [go_sem, seval]
    refine hK _ ?_; clear hK K
    (repeat refine ats_seq ?_); refine ats_go (fix0 hcx) fun K hK => ?_; simp only [go_sem, seval]; refine hK _ ?_; clear hK K
    (repeat refine ats_seq ?_); refine ats_loop (fun i : Nat => ⟨[(1, .l1 c), (2, .bptr 0 0), (4, .bptr 1 0), (5, .bool false), (6, .bptr 2 0), (7, .int (wholeD s t.length)), (8, .l1 (ivF (s.getD 0 []))), (30, .l2 s), (31, .int t.length), (32, .int i)], [(3, .t3 (cubL t.length (numV s t.length c) i 0 0)), (0, .bx [.l2 s, .l1 t]), (1, .bx [.nil]), (2, .bx [.ref 3 []])]⟩) (fun i => i ≤ t.length) (fun i => t.length - i) 0 (Nat.zero_le _) (by refine And.intro ?_ rfl; simp only [SlotsLe, St.get, slotGet, Nat.reduceEqDiff, ↓reduceIte, true_and, and_true, AV.int.injEq, AV.bool.injEq, AV.l1.injEq, AV.l2.injEq, AV.l3.injEq]; repeat' (first | rfl | omega | refine And.intro ?_ ?_)) (fun i hi => ?_)
    (repeat refine ats_seq ?_); refine ats_go (fix0 hcx) fun K hK => ?_; simp only [go_sem, seval]; refine hK _ ?_; clear hK K
    (repeat refine ats_seq ?_); first | refine ats_ifn (p := _) rfl trivial (fun hli => ?_) (fun hli => ?_) | refine ats_ifp (p := _) rfl trivial (fun hli => ?_) (fun hli => ?_) | refine ats_cond rfl trivial (fun hli => ?_) (fun hli => ?_)
    · have ri := hm.row (show i < t.length by omega)
      refine ats_skip ?_
      (repeat refine ats_seq ?_); refine ats_block ?_
      (repeat refine ats_seq ?_); refine ats_go (fix0 hcx) fun K hK => ?_; simp only [go_sem, seval]; (repeat refine And.intro (by first | omega | (intro hq; first | omega | (simp at hq <;> omega) | (simp_all <;> omega))) ?_); refine hK _ ?_; clear hK K
      (repeat refine ats_seq ?_); refine ats_go (fix0 hcx) fun K hK => ?_; simp only [go_sem, seval]; refine hK _ ?_; clear hK K
      (repeat refine ats_seq ?_); refine ats_loop (fun j : Nat => ⟨[(1, .l1 c), (2, .bptr 0 0), (4, .bptr 1 0), (5, .bool false), (6, .bptr 2 0), (7, .int (wholeD s t.length)), (8, .l1 (ivF (s.getD 0 []))), (30, .l2 s), (31, .int t.length), (32, .int i), (9, .int i), (10, .l1 (s.getD i [])), (38, .l2 s), (39, .int t.length), (40, .int j)], [(3, .t3 (cubL t.length (numV s t.length c) i j 0)), (0, .bx [.l2 s, .l1 t]), (1, .bx [.nil]), (2, .bx [.ref 3 []])]⟩) (fun j => j ≤ t.length) (fun j => t.length - j) 0 (Nat.zero_le _) (by refine And.intro ?_ rfl; simp only [SlotsLe, St.get, slotGet, Nat.reduceEqDiff, ↓reduceIte, true_and, and_true, AV.int.injEq, AV.bool.injEq, AV.l1.injEq, AV.l2.injEq, AV.l3.injEq]; repeat' (first | rfl | omega | refine And.intro ?_ ?_)) (fun j hj => ?_)
      (repeat refine ats_seq ?_); refine ats_go (fix0 hcx) fun K hK => ?_; simp only [go_sem, seval]; refine hK _ ?_; clear hK K
      (repeat refine ats_seq ?_); first | refine ats_ifn (p := _) rfl trivial (fun hlj => ?_) (fun hlj => ?_) | refine ats_ifp (p := _) rfl trivial (fun hlj => ?_) (fun hlj => ?_) | refine ats_cond rfl trivial (fun hlj => ?_) (fun hlj => ?_)
      · have rj := hm.row (show j < t.length by omega)
        refine ats_skip ?_
        (repeat refine ats_seq ?_); refine ats_block ?_
        (repeat refine ats_seq ?_); refine ats_go (fix0 hcx) fun K hK => ?_; simp only [go_sem, seval]; (repeat refine And.intro (by first | omega | (intro hq; first | omega | (simp at hq <;> omega) | (simp_all <;> omega))) ?_); refine hK _ ?_; clear hK K
        (repeat refine ats_seq ?_); refine ats_go (fix0 hcx) fun K hK => ?_; simp only [go_sem, seval]; refine hK _ ?_; clear hK K
        (repeat refine ats_seq ?_); refine ats_loop (fun k : Nat => ⟨[(1, .l1 c), (2, .bptr 0 0), (4, .bptr 1 0), (5, .bool false), (6, .bptr 2 0), (7, .int (wholeD s t.length)), (8, .l1 (ivF (s.getD 0 []))), (30, .l2 s), (31, .int t.length), (32, .int i), (9, .int i), (10, .l1 (s.getD i [])), (38, .l2 s), (39, .int t.length), (40, .int j), (11, .int j), (12, .l1 (s.getD j [])), (45, .l1 c), (46, .int t.length), (47, .int k)], [(3, .t3 (cubL t.length (numV s t.length c) i j k)), (0, .bx [.l2 s, .l1 t]), (1, .bx [.nil]), (2, .bx [.ref 3 []])]⟩) (fun k => k ≤ t.length) (fun k => t.length - k) 0 (Nat.zero_le _) (by refine And.intro ?_ rfl; simp only [SlotsLe, St.get, slotGet, Nat.reduceEqDiff, ↓reduceIte, true_and, and_true, AV.int.injEq, AV.bool.injEq, AV.l1.injEq, AV.l2.injEq, AV.l3.injEq]; repeat' (first | rfl | omega | refine And.intro ?_ ?_)) (fun k hk => ?_)
        have hcl : (cubL t.length (numV s t.length c) i j k).length = t.length := cubL_length
        (repeat refine ats_seq ?_); refine ats_go (fix0 hcx) fun K hK => ?_; simp only [go_sem, seval]; refine hK _ ?_; clear hK K
        (repeat refine ats_seq ?_); first | refine ats_ifn (p := _) rfl trivial (fun hlk => ?_) (fun hlk => ?_) | refine ats_ifp (p := _) rfl trivial (fun hlk => ?_) (fun hlk => ?_) | refine ats_cond rfl trivial (fun hlk => ?_) (fun hlk => ?_)
        · have hck := hC k (by omega)
          have rk := hm.row (show (c.getD k 0).toNat < t.length by omega)
          refine ats_skip ?_
          (repeat refine ats_seq ?_); refine ats_block ?_
          (repeat refine ats_seq ?_); refine ats_go (fix0 hcx) fun K hK => ?_; simp only [go_sem, seval]; (repeat refine And.intro (by first | omega | (intro hq; first | omega | (simp at hq <;> omega) | (simp_all <;> omega))) ?_); refine hK _ ?_; clear hK K
          (repeat refine ats_seq ?_); refine ats_go (fix0 hcx) fun K hK => ?_; simp only [go_sem, seval]; refine hK _ ?_; clear hK K
          (repeat refine ats_seq ?_); refine ats_go (fix0 hcx) fun K hK => ?_; simp only [go_sem, seval]; (repeat refine And.intro (by first | omega | (intro hq; first | omega | (simp at hq <;> omega) | (simp_all <;> omega))) ?_); refine hK _ ?_; clear hK K
          (repeat refine ats_seq ?_); refine ats_loop (fun l : Nat => ⟨[(1, .l1 c), (2, .bptr 0 0), (4, .bptr 1 0), (5, .bool false), (6, .bptr 2 0), (7, .int (wholeD s t.length)), (8, .l1 (ivF (s.getD 0 []))), (30, .l2 s), (31, .int t.length), (32, .int i), (9, .int i), (10, .l1 (s.getD i [])), (38, .l2 s), (39, .int t.length), (40, .int j), (11, .int j), (12, .l1 (s.getD j [])), (45, .l1 c), (46, .int t.length), (47, .int k), (13, .int k), (15, .int (sumTo (fun l => teF s c i j k l % 55441) l)), (56, .l1 (s.getD (c.getD k 0).toNat [])), (57, .int t.length), (58, .int l)], [(3, .t3 (cubL t.length (numV s t.length c) i j k)), (0, .bx [.l2 s, .l1 t]), (1, .bx [.nil]), (2, .bx [.ref 3 []])]⟩) (fun l => l ≤ t.length) (fun l => t.length - l) 0 (Nat.zero_le _) (by refine And.intro ?_ rfl; simp only [SlotsLe, St.get, slotGet, Nat.reduceEqDiff, ↓reduceIte, true_and, and_true, AV.int.injEq, AV.bool.injEq, AV.l1.injEq, AV.l2.injEq, AV.l3.injEq]; repeat' (first | rfl | omega | refine And.intro ?_ ?_)) (fun l hl => ?_)
          have sL := sumTo_le (f := fun l => teF s c i j k l % 55441) (B := 55440) (n := l) (fun x hx => ⟨Int.emod_nonneg _ (by omega), by have := Int.emod_lt_of_pos (teF s c i j k x) (show (0 : Int) < 55441 by omega); omega⟩)
          (repeat refine ats_seq ?_); refine ats_go (fix0 hcx) fun K hK => ?_; simp only [go_sem, seval]; refine hK _ ?_; clear hK K
          (repeat refine ats_seq ?_); first | refine ats_ifn (p := _) rfl trivial (fun hll => ?_) (fun hll => ?_) | refine ats_ifp (p := _) rfl trivial (fun hll => ?_) (fun hll => ?_) | refine ats_cond rfl trivial (fun hll => ?_) (fun hll => ?_)
          · have gl : (ivF (s.getD 0 [])).getD l 0 = 1 * inv (e2 s 0 l) % 55441 := ivF_get (by omega)
            have m1 := mulP (hm.inP (show i < t.length by omega) (show l < t.length by omega)) (hm.inP (show j < t.length by omega) (show l < t.length by omega))
            have m2 := mulP (inP_md (e2 s i l * e2 s j l)) (hm.inP (show (c.getD k 0).toNat < t.length by omega) (show l < t.length by omega))
            have m3 := mulP (inP_md (e2 s i l * e2 s j l % 55441 * e2 s (c.getD k 0).toNat l)) (inP_md (1 * inv (e2 s 0 l)))
            simp only [e2] at m1 m2 m3 gl
            refine ats_skip ?_
            (repeat refine ats_seq ?_); refine ats_block ?_
            (repeat refine ats_seq ?_); refine ats_go (fix0 hcx) fun K hK => ?_; simp only [go_sem, seval]; (repeat refine And.intro (by first | omega | (intro hq; first | omega | (simp at hq <;> omega) | (simp_all <;> omega))) ?_); refine hK _ ?_; clear hK K
            (repeat refine ats_seq ?_); refine ats_pick (fix0 hcx) mixed (by kernel_rfl) fun K hK => ?_; simp only [go_sem, seval]
            simp only [gl]
            try simp (disch := omega) only [tmP, tdP]
            (repeat refine And.intro (by first | omega | (intro hq; first | omega | (simp at hq <;> omega) | (simp_all <;> omega))) ?_)
            refine hK _ ?_; clear hK K
            (repeat refine ats_seq ?_); refine ats_go (fix0 hcx) fun K hK => ?_; simp only [go_sem, seval]; (repeat refine And.intro (by first | omega | (intro hq; first | omega | (simp at hq <;> omega) | (simp_all <;> omega))) ?_); refine hK _ ?_; clear hK K
            refine ⟨l + 1,  by omega, by omega, .inl ⟨by simp only [SlotsLe, St.get, slotGet, Nat.reduceEqDiff, ↓reduceIte, AV.int.injEq, AV.bool.injEq, AV.l1.injEq, AV.l2.injEq, AV.l3.injEq, true_and, and_true]; exact ⟨rfl, by omega⟩,  rfl⟩⟩
          · obtain rfl : l = t.length := by omega
            have pn : InP (sumTo (fun l => teF s c i j k l % 55441) t.length % 55441) := inP_md _
            have hd := divide_ok _ _ pn hw
            rw [imNum] at hd
            have c1 : ((cubL t.length (numV s t.length c) i j k).getD i []).length = t.length := cubF_mat (by omega)
            have c2 : (((cubL t.length (numV s t.length c) i j k).getD i []).getD j []).length = t.length := cubF_row (by omega) (by omega)
            refine ats_exit (lq_x ?_)
            (repeat refine ats_seq ?_); refine ats_pick (fix0 hcx) mixed (by kernel_rfl) fun K hK => ?_; simp only [go_sem, seval]
            try simp (disch := omega) only [tmP, tdP]
            simp only [hcl, c1, c2]
            (repeat refine And.intro (by first | omega | (intro hq; first | omega | (simp at hq <;> omega) | (simp_all <;> omega))) ?_)
            first | refine fcall_data (hd) rfl ?_ | refine YR_intro (acall_data (hd) rfl) ?_
            simp only [go_sem, seval]
            (repeat refine And.intro (by first | omega | (intro hq; first | omega | (simp at hq <;> omega) | (simp_all <;> omega))) ?_)
            refine hK _ ?_; clear hK K
            (repeat refine ats_seq ?_); refine ats_go (fix0 hcx) fun K hK => ?_; simp only [go_sem, seval]; (repeat refine And.intro (by first | omega | (intro hq; first | omega | (simp at hq <;> omega) | (simp_all <;> omega))) ?_); refine hK _ ?_; clear hK K
            refine ⟨k + 1,  by omega, by omega, .inl ⟨by simp only [SlotsLe, St.get, slotGet, Nat.reduceEqDiff, ↓reduceIte, AV.int.injEq, AV.bool.injEq, AV.l1.injEq, AV.l2.injEq, AV.l3.injEq, true_and, and_true]; omega,  by rw [← cubL_set (show i < t.length by omega) (show j < t.length by omega)]⟩⟩
        · obtain rfl : k = t.length := by omega
          refine ats_exit (lq_x (ats_nil (bq_n ?_)))
          (repeat refine ats_seq ?_); refine ats_go (fix0 hcx) fun K hK => ?_; simp only [go_sem, seval]; (repeat refine And.intro (by first | omega | (intro hq; first | omega | (simp at hq <;> omega) | (simp_all <;> omega))) ?_); refine hK _ ?_; clear hK K
          refine ⟨j + 1,  by omega, by omega, .inl ⟨by simp only [SlotsLe, St.get, slotGet, Nat.reduceEqDiff, ↓reduceIte, AV.int.injEq, AV.bool.injEq, AV.l1.injEq, AV.l2.injEq, AV.l3.injEq, true_and, and_true]; omega,  by rw [cubL_row]⟩⟩
      · obtain rfl : j = t.length := by omega
        refine ats_exit (lq_x (ats_nil (bq_n ?_)))
        (repeat refine ats_seq ?_); refine ats_go (fix0 hcx) fun K hK => ?_; simp only [go_sem, seval]; (repeat refine And.intro (by first | omega | (intro hq; first | omega | (simp at hq <;> omega) | (simp_all <;> omega))) ?_); refine hK _ ?_; clear hK K
        refine ⟨i + 1,  by omega, by omega, .inl ⟨by simp only [SlotsLe, St.get, slotGet, Nat.reduceEqDiff, ↓reduceIte, AV.int.injEq, AV.bool.injEq, AV.l1.injEq, AV.l2.injEq, AV.l3.injEq, true_and, and_true]; omega,  by rw [cubL_mat]⟩⟩
    · obtain rfl : i = t.length := by omega
      refine ats_exit (lq_x ?_)
      rw [cubL_all, ← numD_eq]
      (repeat refine ats_seq ?_)
      refine ats_plan [] (.one 0 (.one 1 (.one 2 (.alt 3 (.one 4 .fin) .stop)))) ⟨[(5, .bool (bd (Cube (numD s t.length c)))), (4, .bptr 1 0)], [(3, .t3 (numD s t.length c)), (0, .bx [.l2 s, .l1 t]), (1, .bx [.ref 3 []]), (2, .bx [.ref 3 []])]⟩ (fix0 hcx) mixed (by kernel_rfl) (fun K hK => ?_) ?_
      · simp only [go_sem, seval, Option.getD_some, and_true, true_and, and_self, List.contains_cons, List.contains_nil, Bool.or_false, Bool.or_true]
        repeat' (first | exact hK _ (by refine And.intro ?_ rfl; simp only [SlotsLe, St.get, slotGet, Nat.reduceEqDiff, ↓reduceIte, AV.int.injEq, AV.bool.injEq, AV.l1.injEq, AV.l2.injEq, AV.l3.injEq, true_and, and_true])  | omega | refine And.intro ?_ ?_ | ((first | refine fcall_free rfl rfl (hr) ?_ | refine YR_intro (acall_free rfl rfl (hr)) ?_); simp only [go_sem, seval, Option.getD_some, and_true, true_and, and_self, List.contains_cons, List.contains_nil, Bool.or_false, Bool.or_true]))
      exact ats_ret (own2C (v := .agg [.ref 3 []]) (by simp only [go_sem, seval]) trivial rfl (by simp))
end Go.Proofs.YtakhnoenhmpfpaaGreat
