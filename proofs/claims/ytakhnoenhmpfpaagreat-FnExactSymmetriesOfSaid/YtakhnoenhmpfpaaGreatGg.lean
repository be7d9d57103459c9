import Derived.Test.YtakhnoenhmpfpaaGreatGf
import Derived.Test.YtakhnoenhmpfpaaGreatFf
import Derived.Test.YtakhnoenhmpfpaaGreatWx3
set_option linter.unusedSimpArgs false
set_option linter.unusedVariables false
namespace Go.Proofs.YtakhnoenhmpfpaaGreat
open Go Go.Aw Go.Pl
attribute [local go_sem] pl_fin pl_stop pl_one pl_alt PK_ap pickO List.getElem?_toArray List.getElem?_cons_zero List.getElem?_cons_succ
theorem fin3 {P : Program} {st : St} {a b c : Nat} {r : AV} (h1 : okG true (st.get a)) (h2 : okG true (st.get b)) (h3 : okG true (st.get c)) (h : view1 st.H (.tup [strip (st.get a), strip (st.get b), strip (st.get c)]) = some r) :
    Aw.Ends .ret ∧ ∃ v, resL P st [.tmp a, .tmp b, .tmp c] v ∧ view1 st.H v = some r := ⟨.inr rfl, _, ⟨_, _, _, ⟨h1, rfl⟩, ⟨h2, rfl⟩, ⟨h3, rfl⟩, rfl⟩, h⟩
theorem fin4 {P : Program} {st : St} {a b c d : Nat} {r : AV} (h1 : okG true (st.get a)) (h2 : okG true (st.get b)) (h3 : okG true (st.get c)) (h4 : okG true (st.get d)) (h : view1 st.H (.tup [strip (st.get a), strip (st.get b), strip (st.get c), strip (st.get d)]) = some r) :
    Aw.Ends .ret ∧ ∃ v, resL P st [.tmp a, .tmp b, .tmp c, .tmp d] v ∧ view1 st.H v = some r := ⟨.inr rfl, _, ⟨_, _, _, _, ⟨h1, rfl⟩, ⟨h2, rfl⟩, ⟨h3, rfl⟩, ⟨h4, rfl⟩, rfl⟩, h⟩
def kdA (n : Nat) (ms : List (List Int)) : AV := if balB n ms = true then .tup [.l1 ((colsF ms (2 * n)).take n), .l1 ((colsF ms (2 * n)).drop n), .int (kindsF ms).length, .bool true] else .tup [.nil, .nil, .int 0, .bool false]
theorem takeG {α : Type} {xs : List α} {d : α} {k : Nat} (h : k < xs.length) : xs.take (k + 1) = xs.take k ++ [xs.getD k d] := by
  rw [← List.take_append_getElem h, List.getD_eq_getElem?_getD, List.getElem?_eq_getElem h]
  rfl
theorem memG {α : Type} {xs : List α} {d : α} {k : Nat} (h : k < xs.length) : xs.getD k d ∈ xs := by
  rw [List.getD_eq_getElem?_getD, List.getElem?_eq_getElem h]
  exact List.getElem_mem _
theorem cntD_bd {ms : List (List Int)} {n i c : Nat} (h : i ≤ ms.length) : -(i : Int) ≤ cntD ms n i c ∧ cntD ms n i c ≤ i := by
  have hl := colsF_len h
  unfold cntD
  have h1 := List.count_le_length (a := (c : Int)) (l := (colsF ms i).take n)
  have h2 := List.count_le_length (a := (c : Int)) (l := (colsF ms i).drop n)
  rw [List.length_take, hl] at h1
  rw [List.length_drop, hl] at h2
  omega
theorem cnt_row {ms : List (List Int)} {n i K : Nat} (h : i < ms.length) (hK : colI (kindsF ms) (ms.getD i []) < K) :
    (rowF K (cntD ms n i)).set (colI (kindsF ms) (ms.getD i [])) ((rowF K (cntD ms n i)).getD (colI (kindsF ms) (ms.getD i [])) 0 + (if i < n then 1 else -1)) = rowF K (cntD ms n (i + 1)) := by
  rw [rowF_get hK, rowF_set]
  refine rowF_congr fun c hc => ?_
  rw [cntD_succ h]
  by_cases e : c = colI (kindsF ms) (ms.getD i [])
  · rw [if_pos e, if_pos e, ← e]
    split <;> omega
  · rw [if_neg e, if_neg e]
set_option maxHeartbeats 8000000 in
theorem l03Kinds_ok (L n : Nat) (ms : List (List Int)) (hS : ∀ m ∈ ms, SL L m) (hl : ms.length = 2 * n) (h16 : n ≤ 16) : PureCall Tryz.prog 41 [.l2 ms] (kdA n ms) := by
  have hSt : ∀ i, ∀ m ∈ ms.take i, SL L m := fun i m hm => hS m (List.mem_of_mem_take hm)
  refine PureCall.intro (n := 134) (rs := [.tmp 2, .tmp 3, .tmp 4, .tmp 5]) Tryz.call41 Tryz.func41 rfl rfl rfl (by simp only [List.length_cons, List.length_nil]; omega) (fun cx hcx => ats_of ?_); simp only [argSlots, Nat.zero_add, Nat.reduceAdd]
  (repeat refine ats_seq ?_); refine ats_go (fix0 hcx) fun K hK => ?_; simp only [go_sem, seval]; (repeat refine And.intro (by first | omega | (intro hq; first | omega | (simp at hq <;> omega) | (simp_all <;> omega))) ?_); refine hK _ ?_; clear hK K
  (repeat refine ats_seq ?_); refine ats_go (fix0 hcx) fun K hK => ?_; simp only [go_sem, seval]; (try simp (disch := omega) only [tmP, tdP])
  simp only [hl, show ((2 * n : Nat) : Int) / 2 = (n : Int) by omega]
  (repeat refine And.intro (by first | omega | (intro hq; first | omega | (simp at hq <;> omega) | (simp_all <;> omega))) ?_)
  refine hK _ ?_; clear hK K
  (repeat refine ats_seq ?_); refine AT.ghost (ghost_frz [0]) ?_; simp only [frzV, find, killA, killAs, qOf, rmT, killH, killT, List.map_cons, List.map_nil, List.filter_cons, List.filter_nil, List.contains_cons, List.contains_nil, Bool.or_false, Bool.or_true, Bool.false_and, Bool.not_true, Bool.not_false, Bool.false_eq_true, if_true, if_false, seval]
  (repeat refine ats_seq ?_); refine ats_go (fix0 hcx) fun K hK => ?_; simp only [go_sem, seval]; (repeat refine And.intro (by first | omega | (intro hq; first | omega | (simp at hq <;> omega) | (simp_all <;> omega))) ?_); refine hK _ ?_; clear hK K
  (repeat refine ats_seq ?_); refine ats_loop (fun i : Nat => ⟨[(0, .l2 ms), (6, .l2 (kindsF (ms.take i))), (7, .int n), (8, .int i)], []⟩) (fun i => i ≤ 2 * n) (fun i => 2 * n - i) 0 (Nat.zero_le _) (by
    refine And.intro ?_ rfl; simp only [SlotsLe, St.get, slotGet, Nat.reduceEqDiff, ↓reduceIte, AV.int.injEq, AV.bool.injEq, AV.l1.injEq, AV.l2.injEq, AV.l3.injEq, true_and, and_true]
    exact ⟨rfl, rfl⟩) (fun i hi => ?_)
  have hkl := kindsF_len (hSt i)
  rw [List.length_take] at hkl
  have hkm := fun k (hk : k ∈ kindsF (ms.take i)) => hSt i k ((kindsF_mem (hSt i)).1 hk)
  have hks : i < 2 * n → kindsF (ms.take (i + 1)) = insK (kindsF (ms.take i)) (ms.getD i []) := fun h => by rw [takeG (d := []) (by omega), kindsF_snoc]
  obtain ⟨ks, eks⟩ : ∃ ks, kindsF (ms.take i) = ks := ⟨_, rfl⟩
  rw [eks] at hkl hkm hks ⊢
  (repeat refine ats_seq ?_); refine ats_go (fix0 hcx) fun K hK => ?_; simp only [go_sem, seval]
  simp only [hl]
  (repeat refine And.intro (by first | omega | (intro hq; first | omega | (simp at hq <;> omega) | (simp_all <;> omega))) ?_)
  refine hK _ ?_; clear hK K
  (repeat refine ats_seq ?_); first | refine ats_ifn (p := _) rfl trivial (fun h1 => ?_) (fun h1 => ?_) | refine ats_ifp (p := _) rfl trivial (fun h1 => ?_) (fun h1 => ?_) | refine ats_cond rfl trivial (fun h1 => ?_) (fun h1 => ?_)
  · have hmi := hS _ (memG (d := []) (show i < ms.length by omega))
    have hlm := hmi.1
    obtain ⟨m, em⟩ : ∃ m, ms.getD i [] = m := ⟨_, rfl⟩
    rw [em] at hmi hlm hks
    have hless := fun at' (h : at' < ks.length) => l01Less_ok (ks.getD at' []) m (by rw [(hkm _ (memG (d := []) h)).1, hlm])
    have hsame := fun at' => l01Same_ok (ks.getD at' []) m
    refine ats_skip ?_
    (repeat refine ats_seq ?_); refine ats_block ?_
    (repeat refine ats_seq ?_); refine ats_go (fix0 hcx) fun K hK => ?_; simp only [go_sem, seval]; (repeat refine And.intro (by first | omega | (intro hq; first | omega | (simp at hq <;> omega) | (simp_all <;> omega))) ?_); refine hK _ ?_; clear hK K
    (repeat refine ats_seq ?_); refine ats_loop (fun a : Nat => ⟨[(0, .l2 ms), (6, .l2 ks), (7, .int n), (8, .int i), (9, .int a)], []⟩) (fun a => a ≤ ks.length ∧ ∀ j, j < a → lt1 (ks.getD j []) m = true) (fun a => ks.length - a) 0 ⟨Nat.zero_le _, fun j hj => absurd hj (Nat.not_lt_zero j)⟩ (by
      refine And.intro ?_ rfl; simp only [SlotsLe, St.get, slotGet, Nat.reduceEqDiff, ↓reduceIte, AV.int.injEq, AV.bool.injEq, AV.l1.injEq, AV.l2.injEq, AV.l3.injEq, true_and, and_true]
      try rfl) (fun a ha => ?_)
    obtain ⟨ha, hlt⟩ := ha
    (repeat refine ats_seq ?_); refine ats_pick (fix0 hcx) mixed (by kernel_rfl) fun K hK => ?_; simp only [go_sem, seval]
    simp only [em]
    (repeat refine And.intro (by first | omega | (intro hq; first | omega | (simp at hq <;> omega) | (simp_all <;> omega))) ?_)
    refine YR_intro (fun hg => acall_data (hless a (by have := of_decide_eq_true hg; omega)) rfl) ?_
    simp only [go_sem, seval]
    (repeat refine And.intro (by first | omega | (intro hq; first | omega | (simp at hq <;> omega) | (simp_all <;> omega))) ?_)
    refine hK _ ?_; clear hK K
    (repeat refine ats_seq ?_); first | refine ats_ifn (p := _) rfl trivial (fun h2 => ?_) (fun h2 => ?_) | refine ats_ifp (p := _) rfl trivial (fun h2 => ?_) (fun h2 => ?_) | refine ats_cond rfl trivial (fun h2 => ?_) (fun h2 => ?_)
    · simp only [Bool.or_eq_true, Bool.or_eq_false_iff, Bool.and_eq_true, Bool.and_eq_false_iff, decide_eq_true_eq, decide_eq_false_iff_not, Bool.not_eq_true', Bool.not_eq_false'] at h2
      refine ats_skip ?_
      (repeat refine ats_seq ?_); refine ats_block ?_
      (repeat refine ats_seq ?_); refine ats_go (fix0 hcx) fun K hK => ?_; simp only [go_sem, seval]; (repeat refine And.intro (by first | omega | (intro hq; first | omega | (simp at hq <;> omega) | (simp_all <;> omega))) ?_); refine hK _ ?_; clear hK K
      refine ⟨a + 1,  ⟨by omega, fun j hj => by rcases Nat.lt_succ_iff_lt_or_eq.1 hj with h | rfl; exact hlt j h; exact h2.2⟩, by omega, .inl ⟨by simp only [SlotsLe, St.get, slotGet, Nat.reduceEqDiff, ↓reduceIte, AV.int.injEq, AV.bool.injEq, AV.l1.injEq, AV.l2.injEq, AV.l3.injEq, true_and, and_true]; (try omega),  rfl⟩⟩
    · have hat : a < ks.length → lt1 (ks.getD a []) m = false := fun h => by
        simp only [Bool.or_eq_true, Bool.or_eq_false_iff, Bool.and_eq_true, Bool.and_eq_false_iff, decide_eq_true_eq, decide_eq_false_iff_not, Bool.not_eq_true', Bool.not_eq_false'] at h2
        rcases h2 with h2 | h2
        · omega
        · exact h2
      have hins := insK_at ha hlt hat
      refine ats_exit (lq_x ?_)
      (repeat refine ats_seq ?_); refine ats_pick (fix0 hcx) mixed (by kernel_rfl) fun K hK => ?_; simp only [go_sem, seval]
      simp only [em]
      (repeat refine And.intro (by first | omega | (intro hq; first | omega | (simp at hq <;> omega) | (simp_all <;> omega))) ?_)
      refine YR_intro (fun hg => acall_data (hsame a) rfl) ?_
      simp only [go_sem, seval]
      (repeat refine And.intro (by first | omega | (intro hq; first | omega | (simp at hq <;> omega) | (simp_all <;> omega))) ?_)
      refine hK _ ?_; clear hK K
      (repeat refine ats_seq ?_); first | refine ats_ifn (p := _) rfl trivial (fun h3 => ?_) (fun h3 => ?_) | refine ats_ifp (p := _) rfl trivial (fun h3 => ?_) (fun h3 => ?_) | refine ats_cond rfl trivial (fun h3 => ?_) (fun h3 => ?_)
      · simp only [Bool.or_eq_true, Bool.or_eq_false_iff, Bool.and_eq_true, Bool.and_eq_false_iff, decide_eq_true_eq, decide_eq_false_iff_not, Bool.not_eq_true', Bool.not_eq_false'] at h3
        rw [if_pos ⟨by omega, h3.2⟩] at hins
        refine ats_exit (bq_x ?_)
        (repeat refine ats_seq ?_); refine ats_go (fix0 hcx) fun K hK => ?_; simp only [go_sem, seval]; (repeat refine And.intro (by first | omega | (intro hq; first | omega | (simp at hq <;> omega) | (simp_all <;> omega))) ?_); refine hK _ ?_; clear hK K
        refine ⟨i + 1,  by omega, by omega, .inl ⟨by simp only [SlotsLe, St.get, slotGet, Nat.reduceEqDiff, ↓reduceIte, AV.int.injEq, AV.bool.injEq, AV.l1.injEq, AV.l2.injEq, AV.l3.injEq, true_and, and_true]; exact ⟨by rw [hks (by omega), hins], by omega⟩,  rfl⟩⟩
      · have h3' : ¬ (a < ks.length ∧ ks.getD a [] = m) := fun h => by
          simp only [Bool.or_eq_true, Bool.or_eq_false_iff, Bool.and_eq_true, Bool.and_eq_false_iff, decide_eq_true_eq, decide_eq_false_iff_not, Bool.not_eq_true', Bool.not_eq_false'] at h3
          rcases h3 with h3 | h3
          · omega
          · exact h3 h.2
        rw [if_neg h3'] at hins
        have hdl : ((ks.take ks.length).drop a).length = ks.length - a := by rw [List.take_length, List.length_drop]
        refine ats_skip ?_
        (repeat refine ats_seq ?_)
        refine ats_plan [] (.one 0 (.one 1 (.one 2 (.one 3 (.alt 4 (.one 5 (.one 6 (.one 7 (.alt 8 (.one 9 .fin) .stop)))) (.alt 5 (.alt 4 (.one 6 (.one 7 (.alt 8 (.one 9 .fin) .stop))) (.alt 6 (.alt 4 (.one 7 (.alt 8 (.one 9 .fin) .stop)) (.alt 7 (.alt 4 (.alt 8 (.one 9 .fin) .stop) .stop) .stop)) .stop)) (.alt 6 (.alt 4 (.one 5 (.one 7 (.alt 8 (.one 9 .fin) .stop))) (.alt 5 (.alt 4 (.one 7 (.alt 8 (.one 9 .fin) .stop)) (.alt 7 (.alt 4 (.alt 8 (.one 9 .fin) .stop) .stop) .stop)) .stop)) .stop))))))) ⟨[(0, .l2 ms), (6, .l2 ks), (7, .int n), (8, .int i), (9, .int a), (10, .ref 0 [])], [(0, .r2 (ms.getD i [] :: (ks.take ks.length).drop a))]⟩ (fix0 hcx) mixed (by kernel_rfl) (fun K hK => ?_) ?_
        · simp only [go_sem, seval, Option.getD_some, and_true, true_and, and_self, List.contains_cons, List.contains_nil, Bool.or_false, Bool.or_true]
          repeat' (first | exact hK _ (by refine And.intro ?_ rfl; simp only [SlotsLe, St.get, slotGet, Nat.reduceEqDiff, ↓reduceIte, AV.int.injEq, AV.bool.injEq, AV.l1.injEq, AV.l2.injEq, AV.l3.injEq, true_and, and_true])  | omega | refine And.intro ?_ ?_)
        rw [em, List.take_length]
        have hdr : (ks.drop a).length = ks.length - a := List.length_drop ..
        have htk : (ks.take a).length = a := by rw [List.length_take]; omega
        have hgd : ks.take a ++ m :: ks.drop a = insK ks m := hins.symm
        (repeat refine ats_seq ?_); refine ats_go (fix0 hcx) fun K hK => ?_; simp only [go_sem, seval]
        simp only [List.drop_zero]
        (repeat refine And.intro (by first | omega | (intro hq; first | omega | (simp at hq <;> omega) | (simp_all <;> omega))) ?_)
        refine hK _ ?_; clear hK K
        (repeat refine ats_seq ?_); refine AT.ghost (ghost_frz [0, 1]) ?_; simp only [frzV, find, killA, killAs, qOf, rmT, killH, killT, List.map_cons, List.map_nil, List.filter_cons, List.filter_nil, List.contains_cons, List.contains_nil, Bool.or_false, Bool.or_true, Bool.false_and, Bool.not_true, Bool.not_false, Bool.false_eq_true, if_true, if_false, seval]
        (repeat refine ats_seq ?_); refine ats_go (fix0 hcx) fun K hK => ?_; simp only [go_sem, seval]; (repeat refine And.intro (by first | omega | (intro hq; first | omega | (simp at hq <;> omega) | (simp_all <;> omega))) ?_); refine hK _ ?_; clear hK K
        refine ⟨i + 1,  by omega, by omega, .inl ⟨by simp only [SlotsLe, St.get, slotGet, Nat.reduceEqDiff, ↓reduceIte, AV.int.injEq, AV.bool.injEq, AV.l1.injEq, AV.l2.injEq, AV.l3.injEq, true_and, and_true]; exact ⟨by rw [hks (by omega), hins], by omega⟩,  rfl⟩⟩
  · obtain rfl : i = 2 * n := by omega
    rw [List.take_of_length_le (by omega)] at eks
    have hcl := fun j (h : j ≤ 2 * n) => colsF_len (ms := ms) (i := j) (by omega)
    have e0 : List.replicate ks.length (0 : Int) = rowF ks.length (cntD ms n 0) := by
      have e : List.replicate ks.length (0 : Int) = rowF ks.length (fun _ => 0) := by simp [rowF, List.map_const']
      rw [e]
      exact rowF_congr fun c _ => cntD_zero.symm
    have hmk : ∀ m ∈ ms, m ∈ ks := fun m hm => by rw [← eks]; exact (kindsF_mem hS).2 hm
    have hk32 : ks.length ≤ 32 := by omega
    unfold kdA
    rw [eks]
    refine ats_exit (lq_x ?_)
    (repeat refine ats_seq ?_); refine ats_go (fix0 hcx) fun K hK => ?_; simp only [go_sem, seval]
    (repeat refine And.intro (by first | omega | (intro hq; first | omega | (simp at hq <;> omega) | (simp_all <;> omega))) ?_)
    refine hK _ ?_; clear hK K
    try simp only [Int.toNat_natCast]
    rw [e0]
    (repeat refine ats_seq ?_); refine ats_go (fix0 hcx) fun K hK => ?_; simp only [go_sem, seval]; (repeat refine And.intro (by first | omega | (intro hq; first | omega | (simp at hq <;> omega) | (simp_all <;> omega))) ?_); refine hK _ ?_; clear hK K
    (repeat refine ats_seq ?_); refine ats_loop (fun x : Nat => ⟨[(0, .l2 ms), (6, .l2 ks), (7, .int n), (11, .ref 0 []), (12, .ref 1 []), (13, .int x)], [(0, .t1 (rowF ks.length (cntD ms n x))), (1, .t1 (colsF ms x))]⟩) (fun x => x ≤ 2 * n) (fun x => 2 * n - x) 0 (Nat.zero_le _) (by
      refine And.intro ?_ rfl; simp only [SlotsLe, St.get, slotGet, Nat.reduceEqDiff, ↓reduceIte, AV.int.injEq, AV.bool.injEq, AV.l1.injEq, AV.l2.injEq, AV.l3.injEq, true_and, and_true]
      first | done | rfl) (fun x hx => ?_)
    have hcx' := hcl x hx
    have lr : (rowF ks.length (cntD ms n x)).length = ks.length := rowF_length ..
    (repeat refine ats_seq ?_); refine ats_go (fix0 hcx) fun K hK => ?_; simp only [go_sem, seval]
    simp only [hl]
    (repeat refine And.intro (by first | omega | (intro hq; first | omega | (simp at hq <;> omega) | (simp_all <;> omega))) ?_)
    refine hK _ ?_; clear hK K
    (repeat refine ats_seq ?_); first | refine ats_ifn (p := _) rfl trivial (fun h2 => ?_) (fun h2 => ?_) | refine ats_ifp (p := _) rfl trivial (fun h2 => ?_) (fun h2 => ?_) | refine ats_cond rfl trivial (fun h2 => ?_) (fun h2 => ?_)
    · have hxm : ms.getD x [] ∈ ms := memG (by omega)
      obtain ⟨c1, c2, c3⟩ := colI_spec (hmk _ hxm)
      have hrow := cnt_row (ms := ms) (n := n) (i := x) (K := ks.length) (by omega) (by rw [eks]; exact c1)
      have hcols := colsF_succ (ms := ms) (i := x) (by omega)
      have hbd := cntD_bd (ms := ms) (n := n) (i := x) (c := colI ks (ms.getD x [])) (by omega)
      have hgt : (rowF ks.length (cntD ms n x)).getD (colI ks (ms.getD x [])) 0 = cntD ms n x (colI ks (ms.getD x [])) := rowF_get c1
      rw [eks] at hrow hcols
      obtain ⟨m, em⟩ : ∃ m, ms.getD x [] = m := ⟨_, rfl⟩
      rw [em] at hrow hcols hbd c1 c2 c3 hgt
      obtain ⟨co, eco⟩ : ∃ co, colI ks m = co := ⟨_, rfl⟩
      rw [eco] at hrow hcols hbd c1 c2 c3 hgt
      have hsame := fun a => l01Same_ok (ks.getD a []) m
      refine ats_skip ?_
      (repeat refine ats_seq ?_); refine ats_block ?_
      (repeat refine ats_seq ?_); refine ats_go (fix0 hcx) fun K hK => ?_; simp only [go_sem, seval]; (repeat refine And.intro (by first | omega | (intro hq; first | omega | (simp at hq <;> omega) | (simp_all <;> omega))) ?_); refine hK _ ?_; clear hK K
      (repeat refine ats_seq ?_); refine ats_loop (fun a : Nat => ⟨[(0, .l2 ms), (6, .l2 ks), (7, .int n), (11, .ref 0 []), (12, .ref 1 []), (13, .int x), (14, .int a)], [(0, .t1 (rowF ks.length (cntD ms n x))), (1, .t1 (colsF ms x))]⟩) (fun a => a ≤ co) (fun a => co - a) 0 (Nat.zero_le _) (by
        refine And.intro ?_ rfl; simp only [SlotsLe, St.get, slotGet, Nat.reduceEqDiff, ↓reduceIte, AV.int.injEq, AV.bool.injEq, AV.l1.injEq, AV.l2.injEq, AV.l3.injEq, true_and, and_true]
        try rfl) (fun a ha => ?_)
      (repeat refine ats_seq ?_); refine ats_pick (fix0 hcx) mixed (by kernel_rfl) fun K hK => ?_; simp only [go_sem, seval]
      simp only [em]
      (repeat refine And.intro (by first | omega | (intro hq; first | omega | (simp at hq <;> omega) | (simp_all <;> omega))) ?_)
      first | refine fcall_data ((hsame a)) rfl ?_ | refine YR_intro (acall_data ((hsame a)) rfl) ?_
      simp only [go_sem, seval]
      (repeat refine And.intro (by first | omega | (intro hq; first | omega | (simp at hq <;> omega) | (simp_all <;> omega))) ?_)
      refine hK _ ?_; clear hK K
      (repeat refine ats_seq ?_); first | refine ats_ifn (p := _) rfl trivial (fun h3 => ?_) (fun h3 => ?_) | refine ats_ifp (p := _) rfl trivial (fun h3 => ?_) (fun h3 => ?_) | refine ats_cond rfl trivial (fun h3 => ?_) (fun h3 => ?_)
      · have : a ≠ co := fun e => by
          subst e
          exact h3 c2
        refine ats_skip ?_
        (repeat refine ats_seq ?_); refine ats_block ?_
        (repeat refine ats_seq ?_); refine ats_go (fix0 hcx) fun K hK => ?_; simp only [go_sem, seval]; (repeat refine And.intro (by first | omega | (intro hq; first | omega | (simp at hq <;> omega) | (simp_all <;> omega))) ?_); refine hK _ ?_; clear hK K
        refine ⟨a + 1,  by omega, by omega, .inl ⟨by simp only [SlotsLe, St.get, slotGet, Nat.reduceEqDiff, ↓reduceIte, AV.int.injEq, AV.bool.injEq, AV.l1.injEq, AV.l2.injEq, AV.l3.injEq, true_and, and_true]; (try omega),  rfl⟩⟩
      · obtain rfl : a = co := by
          rcases Nat.lt_or_ge a co with h | h
          · exact absurd h3 (c3 a h)
          · omega
        refine ats_exit (lq_x ?_)
        (repeat refine ats_seq ?_); refine ats_go (fix0 hcx) fun K hK => ?_; simp only [go_sem, seval]; (repeat refine And.intro (by first | omega | (intro hq; first | omega | (simp at hq <;> omega) | (simp_all <;> omega))) ?_); refine hK _ ?_; clear hK K
        (repeat refine ats_seq ?_); refine ats_go (fix0 hcx) fun K hK => ?_; simp only [go_sem, seval]; (repeat refine And.intro (by first | omega | (intro hq; first | omega | (simp at hq <;> omega) | (simp_all <;> omega))) ?_); refine hK _ ?_; clear hK K
        (repeat refine ats_seq ?_); first | refine ats_ifn (p := _) rfl trivial (fun h4 => ?_) (fun h4 => ?_) | refine ats_ifp (p := _) rfl trivial (fun h4 => ?_) (fun h4 => ?_) | refine ats_cond rfl trivial (fun h4 => ?_) (fun h4 => ?_)
        · rw [if_pos (by omega)] at hrow
          have hb2 := hbd
          rw [← hgt] at hb2
          (repeat refine ats_seq ?_); refine ats_go (fix0 hcx) fun K hK => ?_; simp only [go_sem, seval]; (repeat refine And.intro (by first | omega | (intro hq; first | omega | (simp at hq <;> omega) | (simp_all <;> omega))) ?_); refine hK _ ?_; clear hK K
          (repeat refine ats_seq ?_); refine ats_go (fix0 hcx) fun K hK => ?_; simp only [go_sem, seval]; (repeat refine And.intro (by first | omega | (intro hq; first | omega | (simp at hq <;> omega) | (simp_all <;> omega))) ?_); refine hK _ ?_; clear hK K
          refine ⟨x + 1, by omega, by omega, .inr ⟨[2], by simp only [killL, List.map_cons, List.map_nil, killA, killAs, qOf, rmT, killH, killT, List.filter_cons, List.filter_nil, List.contains_cons, List.contains_nil, SlotsLe, St.get, slotGet, Nat.reduceEqDiff, Nat.reduceBEq, Bool.or_false, Bool.or_true, Bool.false_and, Bool.not_true, Bool.not_false, Bool.false_eq_true, ↓reduceIte, if_true, if_false, AV.int.injEq, AV.bool.injEq, AV.l1.injEq, AV.l2.injEq, AV.l3.injEq, true_and, and_true]; (try omega), by simp only [killL, List.map_cons, List.map_nil, killA, killAs, qOf, rmT, killH, killT, List.filter_cons, List.filter_nil, List.contains_cons, List.contains_nil, SlotsLe, St.get, slotGet, Nat.reduceEqDiff, Nat.reduceBEq, Bool.or_false, Bool.or_true, Bool.false_and, Bool.not_true, Bool.not_false, Bool.false_eq_true, ↓reduceIte, if_true, if_false, AV.int.injEq, AV.bool.injEq, AV.l1.injEq, AV.l2.injEq, AV.l3.injEq, true_and, and_true]; rw [hrow, hcols]⟩⟩
        · rw [if_neg (by omega), ← Int.sub_eq_add_neg] at hrow
          have hb2 := hbd
          rw [← hgt] at hb2
          (repeat refine ats_seq ?_); refine ats_go (fix0 hcx) fun K hK => ?_; simp only [go_sem, seval]; (repeat refine And.intro (by first | omega | (intro hq; first | omega | (simp at hq <;> omega) | (simp_all <;> omega))) ?_); refine hK _ ?_; clear hK K
          (repeat refine ats_seq ?_); refine ats_go (fix0 hcx) fun K hK => ?_; simp only [go_sem, seval]; (repeat refine And.intro (by first | omega | (intro hq; first | omega | (simp at hq <;> omega) | (simp_all <;> omega))) ?_); refine hK _ ?_; clear hK K
          refine ⟨x + 1, by omega, by omega, .inr ⟨[2], by simp only [killL, List.map_cons, List.map_nil, killA, killAs, qOf, rmT, killH, killT, List.filter_cons, List.filter_nil, List.contains_cons, List.contains_nil, SlotsLe, St.get, slotGet, Nat.reduceEqDiff, Nat.reduceBEq, Bool.or_false, Bool.or_true, Bool.false_and, Bool.not_true, Bool.not_false, Bool.false_eq_true, ↓reduceIte, if_true, if_false, AV.int.injEq, AV.bool.injEq, AV.l1.injEq, AV.l2.injEq, AV.l3.injEq, true_and, and_true]; (try omega), by simp only [killL, List.map_cons, List.map_nil, killA, killAs, qOf, rmT, killH, killT, List.filter_cons, List.filter_nil, List.contains_cons, List.contains_nil, SlotsLe, St.get, slotGet, Nat.reduceEqDiff, Nat.reduceBEq, Bool.or_false, Bool.or_true, Bool.false_and, Bool.not_true, Bool.not_false, Bool.false_eq_true, ↓reduceIte, if_true, if_false, AV.int.injEq, AV.bool.injEq, AV.l1.injEq, AV.l2.injEq, AV.l3.injEq, true_and, and_true]; rw [hrow, hcols]⟩⟩
    · obtain rfl : x = 2 * n := by omega
      refine ats_exit (lq_x ?_)
      (repeat refine ats_seq ?_); refine ats_go (fix0 hcx) fun K hK => ?_; simp only [go_sem, seval]; (repeat refine And.intro (by first | omega | (intro hq; first | omega | (simp at hq <;> omega) | (simp_all <;> omega))) ?_); refine hK _ ?_; clear hK K
      (repeat refine ats_seq ?_); refine ats_loop (fun c : Nat => ⟨[(6, .l2 ks), (7, .int n), (11, .ref 0 []), (12, .ref 1 []), (15, .int c)], [(0, .t1 (rowF ks.length (cntD ms n (2 * n)))), (1, .t1 (colsF ms (2 * n)))]⟩) (fun c => c ≤ ks.length ∧ ∀ j, j < c → cntD ms n (2 * n) j = 0) (fun c => ks.length - c) 0 ⟨Nat.zero_le _, fun j hj => absurd hj (Nat.not_lt_zero j)⟩ (by
        refine And.intro ?_ rfl; simp only [SlotsLe, St.get, slotGet, Nat.reduceEqDiff, ↓reduceIte, AV.int.injEq, AV.bool.injEq, AV.l1.injEq, AV.l2.injEq, AV.l3.injEq, true_and, and_true]
        try rfl) (fun c hc => ?_)
      obtain ⟨hc, hz⟩ := hc
      (repeat refine ats_seq ?_); refine ats_go (fix0 hcx) fun K hK => ?_; simp only [go_sem, seval]
      simp only [lr]
      (repeat refine And.intro (by first | omega | (intro hq; first | omega | (simp at hq <;> omega) | (simp_all <;> omega))) ?_)
      refine hK _ ?_; clear hK K
      (repeat refine ats_seq ?_); first | refine ats_ifn (p := _) rfl trivial (fun h5 => ?_) (fun h5 => ?_) | refine ats_ifp (p := _) rfl trivial (fun h5 => ?_) (fun h5 => ?_) | refine ats_cond rfl trivial (fun h5 => ?_) (fun h5 => ?_)
      · have hgc : (rowF ks.length (cntD ms n (2 * n))).getD c 0 = cntD ms n (2 * n) c := rowF_get (by omega)
        refine ats_skip ?_
        (repeat refine ats_seq ?_); refine ats_block ?_
        (repeat refine ats_seq ?_); refine ats_go (fix0 hcx) fun K hK => ?_; simp only [go_sem, seval]; (repeat refine And.intro (by first | omega | (intro hq; first | omega | (simp at hq <;> omega) | (simp_all <;> omega))) ?_); refine hK _ ?_; clear hK K
        (repeat refine ats_seq ?_); first | refine ats_ifn (p := _) rfl trivial (fun h6 => ?_) (fun h6 => ?_) | refine ats_ifp (p := _) rfl trivial (fun h6 => ?_) (fun h6 => ?_) | refine ats_cond rfl trivial (fun h6 => ?_) (fun h6 => ?_)
        · have hb : ¬ balB n ms = true := fun h => by
            unfold balB at h
            rw [eks, List.all_eq_true, hl] at h
            have := of_decide_eq_true (h c (List.mem_range.2 (by omega)))
            rw [hgc] at h6
            exact h6 this
          rw [if_neg hb]
          (repeat refine ats_seq ?_); refine ats_go (fix0 hcx) fun K hK => ?_; simp only [go_sem, seval]; (repeat refine And.intro (by first | omega | (intro hq; first | omega | (simp at hq <;> omega) | (simp_all <;> omega))) ?_); refine hK _ ?_; clear hK K
          exact ats_ret (fin4 trivial trivial trivial trivial rfl)
        · rw [hgc] at h6
          refine ats_skip ?_
          (repeat refine ats_seq ?_); refine ats_go (fix0 hcx) fun K hK => ?_; simp only [go_sem, seval]; (repeat refine And.intro (by first | omega | (intro hq; first | omega | (simp at hq <;> omega) | (simp_all <;> omega))) ?_); refine hK _ ?_; clear hK K
          refine ⟨c + 1,  ⟨by omega, fun j hj => by rcases Nat.lt_succ_iff_lt_or_eq.1 hj with h | rfl; exact hz j h; exact h6⟩, by omega, .inl ⟨by simp only [SlotsLe, St.get, slotGet, Nat.reduceEqDiff, ↓reduceIte, AV.int.injEq, AV.bool.injEq, AV.l1.injEq, AV.l2.injEq, AV.l3.injEq, true_and, and_true]; (try omega),  rfl⟩⟩
      · have hb : balB n ms = true := by
          unfold balB
          rw [eks, List.all_eq_true, hl]
          intro j hj
          exact decide_eq_true (hz j (by have := List.mem_range.1 hj; omega))
        rw [if_pos hb]
        refine ats_exit (lq_x ?_)
        (repeat refine ats_seq ?_); refine AT.ghost (ghost_frz [1]) ?_; simp only [frzV, find, killA, killAs, qOf, rmT, killH, killT, List.map_cons, List.map_nil, List.filter_cons, List.filter_nil, List.contains_cons, List.contains_nil, Bool.or_false, Bool.or_true, Bool.false_and, Bool.not_true, Bool.not_false, Bool.false_eq_true, if_true, if_false, seval]
        (repeat refine ats_seq ?_)
        refine ats_plan [] (.one 0 (.one 1 (.one 2 (.one 3 (.one 4 (.one 5 (.one 6 (.one 7 (.one 8 (.one 9 (.one 10 (.one 11 .fin)))))))))))) ⟨[(2, .l1 (((colsF ms (2 * n)).take n).drop 0)), (3, .l1 (((colsF ms (2 * n)).take (colsF ms (2 * n)).length).drop n)), (4, .int ks.length), (5, .bool true)], [(0, .t1 (rowF ks.length (cntD ms n (2 * n))))]⟩ (fix0 hcx) mixed (by kernel_rfl) (fun K hK => ?_) ?_
        · simp only [go_sem, seval, Option.getD_some, and_true, true_and, and_self, List.contains_cons, List.contains_nil, Bool.or_false, Bool.or_true]
          repeat' (first | exact hK _ (by refine And.intro ?_ rfl; simp only [SlotsLe, St.get, slotGet, Nat.reduceEqDiff, ↓reduceIte, AV.int.injEq, AV.bool.injEq, AV.l1.injEq, AV.l2.injEq, AV.l3.injEq, true_and, and_true])  | omega | refine And.intro ?_ ?_)
        rw [List.drop_zero, List.take_length]
        exact ats_ret (fin4 trivial trivial trivial trivial rfl)
end Go.Proofs.YtakhnoenhmpfpaaGreat
