/-
  What points of an action see, in the reference.
-/
import Derived.Test.YtbddekioaigbhaaGp
import Derived.Test.YtbddekioaigbhaaWo
import Derived.Test.YtbddekioaigbhaaLib7
set_option linter.unusedSimpArgs false
set_option linter.unusedVariables false
namespace Go.Proofs.Ytbddekioaigbhaa
open Go Go.Aw Go.Pl
attribute [local go_sem] pl_fin pl_stop pl_one pl_alt PK_ap pickO List.getElem?_toArray List.getElem?_cons_zero List.getElem?_cons_succ

def seeP (a : List (List (List Int))) (x z i : Nat) : List Int := (List.range i).flatMap fun i => [e3 a i x z, e3 a i z x]
theorem seeP_succ {a : List (List (List Int))} {x z i : Nat} : seeP a x z (i + 1) = seeP a x z i ++ [e3 a i x z, e3 a i z x] := by
  unfold seeP
  rw [List.range_succ, List.flatMap_append]
  simp
theorem seeP_len {a : List (List (List Int))} {x z i : Nat} : (seeP a x z i).length = 2 * i := flatMap2_len i fun i => (e3 a i x z, e3 a i z x)
theorem dgP_succ {a : List (List (List Int))} {x i : Nat} : (List.range (i + 1)).map (fun i => e3 a i x x) = (List.range i).map (fun i => e3 a i x x) ++ [e3 a i x x] := by
  rw [List.range_succ, List.map_append]
  rfl
theorem flat_succ {xs : List (List Int)} {z : Nat} (h : z < xs.length) : (xs.take (z + 1)).flatten = (xs.take z).flatten ++ xs.getD z [] := by
  rw [List.take_add_one, List.flatten_append, List.getElem?_eq_getElem h, List.getD_eq_getElem?_getD, List.getElem?_eq_getElem h]
  simp

set_option maxRecDepth 20000 in
set_option maxHeartbeats 16000000 in
theorem l09Look_ok (k n : Nat) (a : List (List (List Int))) (f : List Int) (ha : ∀ i, i < k → MatOk n (a.getD i [])) (la : a.length = k) (hk : 0 < k) (hk16 : k ≤ 16) (en : (a.getD 0 []).length = n) (hn16 : n ≤ 16) (lf : f.length = n) :
    FreshCall Try.prog 68 [.agg [.l3 a], .l1 f] (.l2 ((List.range n).map (lookM k n a f))) := by
  have hsz := l09Size_ok a (by omega)
  rw [en] at hsz
  refine FreshCall.intro (n := 150) (rs := [.tmp 4]) Try.call68 Try.func68 rfl rfl rfl (by simp only [List.length_cons, List.length_nil]; omega) (fun cx hcx => ats_of ?_); simp only [argSlots, Nat.zero_add, Nat.reduceAdd]
  (repeat refine ats_seq ?_); refine ats_go (fix0 hcx) fun K hK => ?_; simp only [go_sem, seval]; (repeat refine And.intro (by first | omega | (intro hq; first | omega | (simp at hq <;> omega) | (simp_all <;> omega))) ?_); refine hK _ ?_; clear hK K
  (repeat refine ats_seq ?_); refine ats_go (fix0 hcx) fun K hK => ?_; simp only [go_sem, seval]
  first | refine fcall_data (hsz) rfl ?_ | refine YR_intro (acall_data (hsz) rfl) ?_
  simp only [go_sem, seval]
  (repeat refine And.intro (by first | omega | (intro hq; first | omega | (simp at hq <;> omega) | (simp_all <;> omega))) ?_)
  refine hK _ ?_; clear hK K
  (repeat refine ats_seq ?_); refine ats_go (fix0 hcx) fun K hK => ?_; simp only [go_sem, seval]; (repeat refine And.intro (by first | omega | (intro hq; first | omega | (simp at hq <;> omega) | (simp_all <;> omega))) ?_); refine hK _ ?_; clear hK K
  (repeat refine ats_seq ?_); refine ats_loop (fun x : Nat => ⟨[(1, .l1 f), (2, .bptr 0 0), (5, .ref 1 []), (6, .int n), (7, .int x)], [(0, .bx [.l3 a]), (1, .t2 ((List.range x).map (lookM k n a f)))]⟩) (fun x => x ≤ n) (fun x => n - x) 0 (Nat.zero_le _) (by
    refine And.intro ?_ rfl; simp only [SlotsLe, St.get, slotGet, Nat.reduceEqDiff, ↓reduceIte, AV.int.injEq, AV.bool.injEq, AV.l1.injEq, AV.l2.injEq, AV.l3.injEq, true_and, and_true]
    try rfl) (fun x hx => ?_)
  have lo : ((List.range x).map (lookM k n a f)).length = x := by simp
  (repeat refine ats_seq ?_); refine ats_go (fix0 hcx) fun K hK => ?_; simp only [go_sem, seval]; (repeat refine And.intro (by first | omega | (intro hq; first | omega | (simp at hq <;> omega) | (simp_all <;> omega))) ?_); refine hK _ ?_; clear hK K
  (repeat refine ats_seq ?_); first | refine ats_ifn (p := _) rfl trivial (fun h1 => ?_) (fun h1 => ?_) | refine ats_ifp (p := _) rfl trivial (fun h1 => ?_) (fun h1 => ?_) | refine ats_cond rfl trivial (fun h1 => ?_) (fun h1 => ?_)
  · refine ats_skip ?_
    (repeat refine ats_seq ?_); refine ats_block ?_
    (repeat refine ats_seq ?_); refine ats_go (fix0 hcx) fun K hK => ?_; simp only [go_sem, seval]; (repeat refine And.intro (by first | omega | (intro hq; first | omega | (simp at hq <;> omega) | (simp_all <;> omega))) ?_); refine hK _ ?_; clear hK K
    (repeat refine ats_seq ?_); refine AT.ghost (ghost_frz [2]) ?_; simp only [frzV, find, killA, killAs, qOf, rmT, killH, killT, List.map_cons, List.map_nil, List.filter_cons, List.filter_nil, List.contains_cons, List.contains_nil, Bool.or_false, Bool.or_true, Bool.false_and, Bool.not_true, Bool.not_false, Bool.false_eq_true, if_true, if_false, seval]
    (repeat refine ats_seq ?_); refine ats_go (fix0 hcx) fun K hK => ?_; simp only [go_sem, seval]; (repeat refine And.intro (by first | omega | (intro hq; first | omega | (simp at hq <;> omega) | (simp_all <;> omega))) ?_); refine hK _ ?_; clear hK K
    (repeat refine ats_seq ?_); refine ats_loop (fun z : Nat => ⟨[(1, .l1 f), (2, .bptr 0 0), (5, .ref 1 []), (6, .int n), (7, .int x), (8, .l2 (srtL ((List.range z).map (seeM k a f x)))), (9, .int z)], [(0, .bx [.l3 a]), (1, .t2 ((List.range x).map (lookM k n a f)))]⟩) (fun z => z ≤ n) (fun z => n - z) 0 (Nat.zero_le _) (by
      refine And.intro ?_ rfl; simp only [SlotsLe, St.get, slotGet, Nat.reduceEqDiff, ↓reduceIte, AV.int.injEq, AV.bool.injEq, AV.l1.injEq, AV.l2.injEq, AV.l3.injEq, true_and, and_true]
      first | exact ⟨rfl, rfl⟩ | rfl) (fun z hz => ?_)
    have hsS : ∀ m ∈ (List.range z).map (seeM k a f x), SL (2 * k + 1) m := see_mem k z
    have hsp := srtL_perm hsS
    have hss : srtL ((List.range (z + 1)).map (seeM k a f x)) = insL (srtL ((List.range z).map (seeM k a f x))) (seeM k a f x z) := by
      rw [List.range_succ, List.map_append]
      exact srtL_snoc
    have lks := hsp.length_eq
    rw [List.length_map, List.length_range] at lks
    have hkS : ∀ m ∈ srtL ((List.range z).map (seeM k a f x)), SL (2 * k + 1) m := fun m hm => hsS m (hsp.subset hm)
    obtain ⟨ks, eks⟩ : ∃ ks, srtL ((List.range z).map (seeM k a f x)) = ks := ⟨_, rfl⟩
    rw [eks] at lks hkS hss ⊢
    (repeat refine ats_seq ?_); refine ats_go (fix0 hcx) fun K hK => ?_; simp only [go_sem, seval]; (repeat refine And.intro (by first | omega | (intro hq; first | omega | (simp at hq <;> omega) | (simp_all <;> omega))) ?_); refine hK _ ?_; clear hK K
    (repeat refine ats_seq ?_); first | refine ats_ifn (p := _) rfl trivial (fun h2 => ?_) (fun h2 => ?_) | refine ats_ifp (p := _) rfl trivial (fun h2 => ?_) (fun h2 => ?_) | refine ats_cond rfl trivial (fun h2 => ?_) (fun h2 => ?_)
    · refine ats_skip ?_
      (repeat refine ats_seq ?_); refine ats_block ?_
      (repeat refine ats_seq ?_); refine ats_go (fix0 hcx) fun K hK => ?_; simp only [go_sem, seval]; (repeat refine And.intro (by first | omega | (intro hq; first | omega | (simp at hq <;> omega) | (simp_all <;> omega))) ?_); refine hK _ ?_; clear hK K
      (repeat refine ats_seq ?_); refine ats_go (fix0 hcx) fun K hK => ?_; simp only [go_sem, seval]; (repeat refine And.intro (by first | omega | (intro hq; first | omega | (simp at hq <;> omega) | (simp_all <;> omega))) ?_); refine hK _ ?_; clear hK K
      (repeat refine ats_seq ?_); refine ats_loop (fun i : Nat => ⟨[(1, .l1 f), (2, .bptr 0 0), (5, .ref 1 []), (6, .int n), (7, .int x), (8, .l2 ks), (9, .int z), (10, .ref 2 []), (11, .int i)], [(0, .bx [.l3 a]), (1, .t2 ((List.range x).map (lookM k n a f))), (2, .t1 (f.getD z 0 :: seeP a x z i))]⟩) (fun i => i ≤ k) (fun i => k - i) 0 (Nat.zero_le _) (by
        refine And.intro ?_ rfl; simp only [SlotsLe, St.get, slotGet, Nat.reduceEqDiff, ↓reduceIte, AV.int.injEq, AV.bool.injEq, AV.l1.injEq, AV.l2.injEq, AV.l3.injEq, true_and, and_true]
        try rfl) (fun i hi => ?_)
      have lsp := seeP_len (a := a) (x := x) (z := z) (i := i)
      (repeat refine ats_seq ?_); refine ats_go (fix0 hcx) fun K hK => ?_; simp only [go_sem, seval]
      simp only [la]
      (repeat refine And.intro (by first | omega | (intro hq; first | omega | (simp at hq <;> omega) | (simp_all <;> omega))) ?_)
      refine hK _ ?_; clear hK K
      (repeat refine ats_seq ?_); first | refine ats_ifn (p := _) rfl trivial (fun h3 => ?_) (fun h3 => ?_) | refine ats_ifp (p := _) rfl trivial (fun h3 => ?_) (fun h3 => ?_) | refine ats_cond rfl trivial (fun h3 => ?_) (fun h3 => ?_)
      · have hai := ha i (by omega)
        have lai := hai.1
        have rx := hai.row (show x < n by omega)
        have rz := hai.row (show z < n by omega)
        refine ats_skip ?_
        (repeat refine ats_seq ?_); refine ats_block ?_
        (repeat refine ats_seq ?_)
        refine ats_plan [] (.one 0 (.one 1 (.one 2 (.one 3 (.one 4 (.one 5 (.one 6 (.one 7 (.one 8 (.one 9 (.one 10 (.one 11 (.one 12 (.one 13 (.one 14 (.one 15 (.one 16 (.one 17 (.one 18 (.one 19 (.one 20 (.one 21 (.one 22 (.alt 23 (.alt 24 (.one 25 .fin) .stop) .stop)))))))))))))))))))))))) ⟨[(1, .l1 f), (2, .bptr 0 0), (5, .ref 1 []), (6, .int n), (7, .int x), (8, .l2 ks), (9, .int z), (10, .ref 2 []), (11, .int i)], [(0, .bx [.l3 a]), (1, .t2 ((List.range x).map (lookM k n a f))), (2, .t1 (f.getD z 0 :: (seeP a x z i ++ [e3 a i x z, e3 a i z x]))), (3, .t1 [e3 a i x z, e3 a i z x])]⟩ (fix0 hcx) mixed (by kernel_rfl) (fun K hK => ?_) ?_
        · simp only [go_sem, seval, Option.getD_some, and_true, true_and, and_self, List.contains_cons, List.contains_nil, Bool.or_false, Bool.or_true]
          repeat' (first | exact hK _ (by refine And.intro ?_ rfl; simp only [SlotsLe, St.get, slotGet, Nat.reduceEqDiff, ↓reduceIte, AV.int.injEq, AV.bool.injEq, AV.l1.injEq, AV.l2.injEq, AV.l3.injEq, true_and, and_true])  | omega | refine And.intro ?_ ?_)
        (repeat refine ats_seq ?_); refine ats_go (fix0 hcx) fun K hK => ?_; simp only [go_sem, seval]; (repeat refine And.intro (by first | omega | (intro hq; first | omega | (simp at hq <;> omega) | (simp_all <;> omega))) ?_); refine hK _ ?_; clear hK K
        refine ⟨i + 1, by omega, by omega, .inr ⟨[3], by simp only [killL, List.map_cons, List.map_nil, killA, killAs, qOf, rmT, killH, killT, List.filter_cons, List.filter_nil, List.contains_cons, List.contains_nil, SlotsLe, St.get, slotGet, Nat.reduceEqDiff, Nat.reduceBEq, Bool.or_false, Bool.or_true, Bool.false_and, Bool.not_true, Bool.not_false, Bool.false_eq_true, ↓reduceIte, if_true, if_false, AV.int.injEq, AV.bool.injEq, AV.l1.injEq, AV.l2.injEq, AV.l3.injEq, true_and, and_true]; (try omega), by simp only [killL, List.map_cons, List.map_nil, killA, killAs, qOf, rmT, killH, killT, List.filter_cons, List.filter_nil, List.contains_cons, List.contains_nil, SlotsLe, St.get, slotGet, Nat.reduceEqDiff, Nat.reduceBEq, Bool.or_false, Bool.or_true, Bool.false_and, Bool.not_true, Bool.not_false, Bool.false_eq_true, ↓reduceIte, if_true, if_false, AV.int.injEq, AV.bool.injEq, AV.l1.injEq, AV.l2.injEq, AV.l3.injEq, true_and, and_true]; rw [seeP_succ]⟩⟩
      · obtain rfl : i = k := by omega
        have esee : seeM i a f x z = f.getD z 0 :: seeP a x z i := rfl
        have hmS : SL (2 * i + 1) (f.getD z 0 :: seeP a x z i) := by rw [← esee]; exact seeM_SL i
        rw [esee] at hss
        obtain ⟨m, em⟩ : ∃ m, f.getD z 0 :: seeP a x z i = m := ⟨_, rfl⟩
        rw [em] at hss hmS
        have hless := fun at' (h : at' < ks.length) => l01Less_ok (ks.getD at' []) m (by rw [(hkS _ (memA (d := []) h)).1, hmS.1])
        refine ats_exit (lq_x ?_)
        rw [em]
        (repeat refine ats_seq ?_); refine AT.ghost (ghost_frz [2]) ?_; simp only [frzV, find, killA, killAs, qOf, rmT, killH, killT, List.map_cons, List.map_nil, List.filter_cons, List.filter_nil, List.contains_cons, List.contains_nil, Bool.or_false, Bool.or_true, Bool.false_and, Bool.not_true, Bool.not_false, Bool.false_eq_true, if_true, if_false, seval]
        (repeat refine ats_seq ?_); refine ats_go (fix0 hcx) fun K hK => ?_; simp only [go_sem, seval]; (repeat refine And.intro (by first | omega | (intro hq; first | omega | (simp at hq <;> omega) | (simp_all <;> omega))) ?_); refine hK _ ?_; clear hK K
        (repeat refine ats_seq ?_); refine ats_loop (fun c : Nat => ⟨[(1, .l1 f), (2, .bptr 0 0), (5, .ref 1 []), (6, .int n), (7, .int x), (8, .l2 ks), (9, .int z), (10, .l1 m), (12, .int c)], [(0, .bx [.l3 a]), (1, .t2 ((List.range x).map (lookM i n a f)))]⟩) (fun c => c ≤ ks.length ∧ ∀ j, j < c → lt1 (ks.getD j []) m = true) (fun c => ks.length - c) 0 ⟨Nat.zero_le _, fun j hj => absurd hj (Nat.not_lt_zero j)⟩ (by
          refine And.intro ?_ rfl; simp only [SlotsLe, St.get, slotGet, Nat.reduceEqDiff, ↓reduceIte, AV.int.injEq, AV.bool.injEq, AV.l1.injEq, AV.l2.injEq, AV.l3.injEq, true_and, and_true]
          try rfl) (fun c hc => ?_)
        obtain ⟨hc, hlt⟩ := hc
        (repeat refine ats_seq ?_); refine ats_go (fix0 hcx) fun K hK => ?_; simp only [go_sem, seval]
        (repeat refine And.intro (by first | omega | (intro hq; first | omega | (simp at hq <;> omega) | (simp_all <;> omega))) ?_)
        refine YR_intro (fun hg => acall_data (hless c (by have := of_decide_eq_true hg; omega)) rfl) ?_
        simp only [go_sem, seval]
        (repeat refine And.intro (by first | omega | (intro hq; first | omega | (simp at hq <;> omega) | (simp_all <;> omega))) ?_)
        refine hK _ ?_; clear hK K
        (repeat refine ats_seq ?_); first | refine ats_ifn (p := _) rfl trivial (fun h4 => ?_) (fun h4 => ?_) | refine ats_ifp (p := _) rfl trivial (fun h4 => ?_) (fun h4 => ?_) | refine ats_cond rfl trivial (fun h4 => ?_) (fun h4 => ?_)
        · simp only [Bool.or_eq_true, Bool.or_eq_false_iff, Bool.and_eq_true, Bool.and_eq_false_iff, decide_eq_true_eq, decide_eq_false_iff_not, Bool.not_eq_true', Bool.not_eq_false'] at h4
          refine ats_skip ?_
          (repeat refine ats_seq ?_); refine ats_block ?_
          (repeat refine ats_seq ?_); refine ats_go (fix0 hcx) fun K hK => ?_; simp only [go_sem, seval]; (repeat refine And.intro (by first | omega | (intro hq; first | omega | (simp at hq <;> omega) | (simp_all <;> omega))) ?_); refine hK _ ?_; clear hK K
          refine ⟨c + 1,  ⟨by omega, fun j hj => by rcases Nat.lt_succ_iff_lt_or_eq.1 hj with h | rfl; exact hlt j h; exact h4.2⟩, by omega, .inl ⟨by simp only [SlotsLe, St.get, slotGet, Nat.reduceEqDiff, ↓reduceIte, AV.int.injEq, AV.bool.injEq, AV.l1.injEq, AV.l2.injEq, AV.l3.injEq, true_and, and_true]; (try omega),  rfl⟩⟩
        · have hat : c < ks.length → lt1 (ks.getD c []) m = false := fun h => by
            simp only [Bool.or_eq_true, Bool.or_eq_false_iff, Bool.and_eq_true, Bool.and_eq_false_iff, decide_eq_true_eq, decide_eq_false_iff_not, Bool.not_eq_true', Bool.not_eq_false'] at h4
            rcases h4 with h4 | h4
            · omega
            · exact h4
          have hins := insL_at hc hlt hat
          rw [hins] at hss
          have hdl : ((ks.take ks.length).drop c).length = ks.length - c := by rw [List.take_length, List.length_drop]
          have htk : ((ks.take c).drop 0).length = c := by rw [List.drop_zero, List.length_take]; omega
          refine ats_exit (lq_x ?_)
          (repeat refine ats_seq ?_); refine ats_go (fix0 hcx) fun K hK => ?_; simp only [go_sem, seval]; (repeat refine And.intro (by first | omega | (intro hq; first | omega | (simp at hq <;> omega) | (simp_all <;> omega))) ?_); refine hK _ ?_; clear hK K
          (repeat refine ats_seq ?_); refine ats_go (fix0 hcx) fun K hK => ?_; simp only [go_sem, seval]
          (repeat refine And.intro (by first | omega | (intro hq; first | omega | (simp at hq <;> omega) | (simp_all <;> omega))) ?_)
          refine hK _ ?_; clear hK K
          (repeat refine ats_seq ?_); refine AT.ghost (ghost_frz [2, 3]) ?_; simp only [frzV, find, killA, killAs, qOf, rmT, killH, killT, List.map_cons, List.map_nil, List.filter_cons, List.filter_nil, List.contains_cons, List.contains_nil, Bool.or_false, Bool.or_true, Bool.false_and, Bool.not_true, Bool.not_false, Bool.false_eq_true, if_true, if_false, seval]
          (repeat refine ats_seq ?_); refine ats_go (fix0 hcx) fun K hK => ?_; simp only [go_sem, seval]; (repeat refine And.intro (by first | omega | (intro hq; first | omega | (simp at hq <;> omega) | (simp_all <;> omega))) ?_); refine hK _ ?_; clear hK K
          refine ⟨z + 1,  by omega, by omega, .inl ⟨by simp only [SlotsLe, St.get, slotGet, Nat.reduceEqDiff, ↓reduceIte, AV.int.injEq, AV.bool.injEq, AV.l1.injEq, AV.l2.injEq, AV.l3.injEq, true_and, and_true]; exact ⟨by simp only [List.drop_zero, List.take_length]; rw [hss], by omega⟩,  rfl⟩⟩
    · obtain rfl : z = n := by omega
      have ha0 := ha 0 hk
      have la0 := ha0.1
      have r0 := ha0.row (show x < z by omega)
      have hfl : ∀ y, y ≤ z → (ks.take y).flatten.length ≤ 528 := fun y hy => by
        rw [flat_len (L := 2 * k + 1) _ (fun m hm => hkS m (List.mem_of_mem_take hm)), List.length_take]
        calc (min y ks.length) * (2 * k + 1) ≤ 16 * 33 := Nat.mul_le_mul (by omega) (by omega)
          _ = 528 := rfl
      refine ats_exit (lq_x ?_)
      (repeat refine ats_seq ?_)
      refine ats_planG [] (.one 0 (.one 1 (.one 2 (.one 3 (.one 5 (.one 6 (.one 7 (.one 8 (.one 9 (.one 10 (.one 11 (.one 12 (.one 13 (.one 14 (.alt 4 (.alt 15 (.alt 16 (.one 17 .fin) .stop) .stop) (.alt 15 (.alt 4 (.alt 16 (.one 17 .fin) .stop) .stop) .stop)))))))))))))))) ⟨[(1, .l1 f), (2, .bptr 0 0), (5, .ref 1 []), (6, .int z), (7, .int x), (8, .l2 ks), (14, .ref 2 [])], [(0, .bx [.l3 a]), (1, .t2 ((List.range x).map (lookM k z a f))), (2, .t1 [f.getD x 0, e3 a 0 x x]), (3, .t1 [e3 a 0 x x])]⟩ (fix0 hcx) mixed (by kernel_rfl) (fun K hK => ?_) ?_
      · simp only [go_sem, seval, Option.getD_some, and_true, true_and, and_self, List.contains_cons, List.contains_nil, Bool.or_false, Bool.or_true]
        repeat' (first | (refine hK _ (ghost_can [] ?_ ?_); (focus (simp only [rnLs, rnL, rn, rns, sw, SlotsLe, St.get, slotGet, List.map_cons, List.map_nil, seval, AV.int.injEq, AV.bool.injEq, AV.l1.injEq, AV.l2.injEq, AV.l3.injEq, true_and, and_true]; done)); (focus (simp only [sortH, insH, rnHs, rnH, rnT, rn, rns, sw, List.map_cons, List.map_nil, seval]; done))) | (refine hK _ (ghost_can [(2, 3)] ?_ ?_); (focus (simp only [rnLs, rnL, rn, rns, sw, SlotsLe, St.get, slotGet, List.map_cons, List.map_nil, seval, AV.int.injEq, AV.bool.injEq, AV.l1.injEq, AV.l2.injEq, AV.l3.injEq, true_and, and_true]; done)); (focus (simp only [sortH, insH, rnHs, rnH, rnT, rn, rns, sw, List.map_cons, List.map_nil, seval]; done))) | omega | refine And.intro ?_ ?_)
      refine AT.ghost (ghost_drop [3]) ?_; simp only [killL, killA, killAs, qOf, rmT, killH, killT, List.map_cons, List.map_nil, List.filter_cons, List.filter_nil, List.contains_cons, List.contains_nil, Bool.or_false, Bool.or_true, Bool.false_and, Bool.not_true, Bool.not_false, Bool.false_eq_true, if_true, if_false, seval]
      (repeat refine ats_seq ?_); refine ats_go (fix0 hcx) fun K hK => ?_; simp only [go_sem, seval]; (repeat refine And.intro (by first | omega | (intro hq; first | omega | (simp at hq <;> omega) | (simp_all <;> omega))) ?_); refine hK _ ?_; clear hK K
      (repeat refine ats_seq ?_); refine ats_loop (fun i : Nat => ⟨[(1, .l1 f), (2, .bptr 0 0), (5, .ref 1 []), (6, .int z), (7, .int x), (8, .l2 ks), (14, .ref 2 []), (15, .int i)], [(0, .bx [.l3 a]), (1, .t2 ((List.range x).map (lookM k z a f))), (2, .t1 (f.getD x 0 :: e3 a 0 x x :: (List.range i).map (fun i => e3 a i x x)))]⟩) (fun i => i ≤ k) (fun i => k - i) 0 (Nat.zero_le _) (by
        refine And.intro ?_ rfl; simp only [SlotsLe, St.get, slotGet, Nat.reduceEqDiff, ↓reduceIte, AV.int.injEq, AV.bool.injEq, AV.l1.injEq, AV.l2.injEq, AV.l3.injEq, true_and, and_true]
        try rfl) (fun i hi => ?_)
      have ldg : ((List.range i).map (fun i => e3 a i x x)).length = i := by simp
      (repeat refine ats_seq ?_); refine ats_go (fix0 hcx) fun K hK => ?_; simp only [go_sem, seval]
      simp only [la]
      (repeat refine And.intro (by first | omega | (intro hq; first | omega | (simp at hq <;> omega) | (simp_all <;> omega))) ?_)
      refine hK _ ?_; clear hK K
      (repeat refine ats_seq ?_); first | refine ats_ifn (p := _) rfl trivial (fun h3 => ?_) (fun h3 => ?_) | refine ats_ifp (p := _) rfl trivial (fun h3 => ?_) (fun h3 => ?_) | refine ats_cond rfl trivial (fun h3 => ?_) (fun h3 => ?_)
      · have hai := ha i (by omega)
        have lai := hai.1
        have rx := hai.row (show x < z by omega)
        refine ats_skip ?_
        (repeat refine ats_seq ?_); refine ats_block ?_
        (repeat refine ats_seq ?_); refine ats_go (fix0 hcx) fun K hK => ?_; simp only [go_sem, seval]; (repeat refine And.intro (by first | omega | (intro hq; first | omega | (simp at hq <;> omega) | (simp_all <;> omega))) ?_); refine hK _ ?_; clear hK K
        (repeat refine ats_seq ?_); refine ats_go (fix0 hcx) fun K hK => ?_; simp only [go_sem, seval]; (repeat refine And.intro (by first | omega | (intro hq; first | omega | (simp at hq <;> omega) | (simp_all <;> omega))) ?_); refine hK _ ?_; clear hK K
        refine ⟨i + 1, by omega, by omega, .inr ⟨[3], by simp only [killL, List.map_cons, List.map_nil, killA, killAs, qOf, rmT, killH, killT, List.filter_cons, List.filter_nil, List.contains_cons, List.contains_nil, SlotsLe, St.get, slotGet, Nat.reduceEqDiff, Nat.reduceBEq, Bool.or_false, Bool.or_true, Bool.false_and, Bool.not_true, Bool.not_false, Bool.false_eq_true, ↓reduceIte, if_true, if_false, AV.int.injEq, AV.bool.injEq, AV.l1.injEq, AV.l2.injEq, AV.l3.injEq, true_and, and_true]; (try omega), by simp only [killL, List.map_cons, List.map_nil, killA, killAs, qOf, rmT, killH, killT, List.filter_cons, List.filter_nil, List.contains_cons, List.contains_nil, SlotsLe, St.get, slotGet, Nat.reduceEqDiff, Nat.reduceBEq, Bool.or_false, Bool.or_true, Bool.false_and, Bool.not_true, Bool.not_false, Bool.false_eq_true, ↓reduceIte, if_true, if_false, AV.int.injEq, AV.bool.injEq, AV.l1.injEq, AV.l2.injEq, AV.l3.injEq, true_and, and_true]; rw [dgP_succ]⟩⟩
      · obtain rfl : i = k := by omega
        refine ats_exit (lq_x ?_)
        (repeat refine ats_seq ?_); refine ats_go (fix0 hcx) fun K hK => ?_; simp only [go_sem, seval]; (repeat refine And.intro (by first | omega | (intro hq; first | omega | (simp at hq <;> omega) | (simp_all <;> omega))) ?_); refine hK _ ?_; clear hK K
        (repeat refine ats_seq ?_); refine ats_loop (fun y : Nat => ⟨[(1, .l1 f), (2, .bptr 0 0), (5, .ref 1 []), (6, .int z), (7, .int x), (8, .l2 ks), (14, .ref 2 []), (16, .int y)], [(0, .bx [.l3 a]), (1, .t2 ((List.range x).map (lookM i z a f))), (2, .t1 (f.getD x 0 :: e3 a 0 x x :: ((List.range i).map (fun i => e3 a i x x) ++ (ks.take y).flatten)))]⟩) (fun y => y ≤ z) (fun y => z - y) 0 (Nat.zero_le _) (by
          refine And.intro ?_ (by simp)
          simp only [SlotsLe, St.get, slotGet, Nat.reduceEqDiff, ↓reduceIte, AV.int.injEq, AV.bool.injEq, AV.l1.injEq, AV.l2.injEq, AV.l3.injEq, true_and, and_true]
          rfl) (fun y hy => ?_)
        have hfy := hfl y hy
        have lly : ((List.range i).map (fun i => e3 a i x x) ++ (ks.take y).flatten).length = i + (ks.take y).flatten.length := by rw [List.length_append, ldg]
        (repeat refine ats_seq ?_); refine ats_go (fix0 hcx) fun K hK => ?_; simp only [go_sem, seval]; (repeat refine And.intro (by first | omega | (intro hq; first | omega | (simp at hq <;> omega) | (simp_all <;> omega))) ?_); refine hK _ ?_; clear hK K
        (repeat refine ats_seq ?_); first | refine ats_ifn (p := _) rfl trivial (fun h4 => ?_) (fun h4 => ?_) | refine ats_ifp (p := _) rfl trivial (fun h4 => ?_) (fun h4 => ?_) | refine ats_cond rfl trivial (fun h4 => ?_) (fun h4 => ?_)
        · have hky := (hkS _ (memA (d := []) (show y < ks.length by omega))).1
          have hfs := flat_succ (xs := ks) (z := y) (by omega)
          refine ats_skip ?_
          (repeat refine ats_seq ?_); refine ats_block ?_
          (repeat refine ats_seq ?_); refine ats_go (fix0 hcx) fun K hK => ?_; simp only [go_sem, seval]; (repeat refine And.intro (by first | omega | (intro hq; first | omega | (simp at hq <;> omega) | (simp_all <;> omega))) ?_); refine hK _ ?_; clear hK K
          (repeat refine ats_seq ?_); refine ats_go (fix0 hcx) fun K hK => ?_; simp only [go_sem, seval]; (repeat refine And.intro (by first | omega | (intro hq; first | omega | (simp at hq <;> omega) | (simp_all <;> omega))) ?_); refine hK _ ?_; clear hK K
          refine ⟨y + 1,  by omega, by omega, .inl ⟨by simp only [SlotsLe, St.get, slotGet, Nat.reduceEqDiff, ↓reduceIte, AV.int.injEq, AV.bool.injEq, AV.l1.injEq, AV.l2.injEq, AV.l3.injEq, true_and, and_true]; (try omega),  by rw [hfs, ← List.append_assoc]⟩⟩
        · obtain rfl : y = z := by omega
          have elook : lookM i y a f x = f.getD x 0 :: e3 a 0 x x :: ((List.range i).map (fun i => e3 a i x x) ++ (ks.take y).flatten) := by
            rw [List.take_of_length_le (by omega), ← eks]
            rfl
          have eout : (List.range (x + 1)).map (lookM i y a f) = (List.range x).map (lookM i y a f) ++ [lookM i y a f x] := by
            rw [List.range_succ, List.map_append]
            rfl
          refine ats_exit (lq_x ?_)
          (repeat refine ats_seq ?_); refine ats_go (fix0 hcx) fun K hK => ?_; simp only [go_sem, seval]; (repeat refine And.intro (by first | omega | (intro hq; first | omega | (simp at hq <;> omega) | (simp_all <;> omega))) ?_); refine hK _ ?_; clear hK K
          (repeat refine ats_seq ?_); refine ats_go (fix0 hcx) fun K hK => ?_; simp only [go_sem, seval]; (repeat refine And.intro (by first | omega | (intro hq; first | omega | (simp at hq <;> omega) | (simp_all <;> omega))) ?_); refine hK _ ?_; clear hK K
          refine ⟨x + 1,  by omega, by omega, .inl ⟨by simp only [SlotsLe, St.get, slotGet, Nat.reduceEqDiff, ↓reduceIte, AV.int.injEq, AV.bool.injEq, AV.l1.injEq, AV.l2.injEq, AV.l3.injEq, true_and, and_true]; (try omega),  by rw [eout, elook]⟩⟩
  · obtain rfl : x = n := by omega
    refine ats_exit (lq_x ?_)
    (repeat refine ats_seq ?_); refine ats_go (fix0 hcx) fun K hK => ?_; simp only [go_sem, seval]; (repeat refine And.intro (by first | omega | (intro hq; first | omega | (simp at hq <;> omega) | (simp_all <;> omega))) ?_); refine hK _ ?_; clear hK K
    exact ats_ret (ownV (is := [1]) rfl ⟨rfl, trivial⟩ rfl (by simp))
end Go.Proofs.Ytbddekioaigbhaa
