import Derived.Test.YtaijdhkjemffhaaIf
import Derived.Test.YtaijdhkjemffhaaHz
import Derived.Test.YtaijdhkjemffhaaIg
import Derived.Test.YtaijdhkjemffhaaLib6
set_option linter.unusedSimpArgs false
set_option linter.unusedVariables false
namespace Go.Proofs.Ytaijdhkjemffhaa
open Go Go.Aw Go.Pl
attribute [local go_sem] pl_fin pl_stop pl_one pl_alt PK_ap pickO List.getElem?_toArray List.getElem?_cons_zero List.getElem?_cons_succ
set_option maxRecDepth 100000 in
set_option maxHeartbeats 8000000 in
theorem l18Own_ok (o : List Int) (m : Int) (w : List (List (List Int))) (hs : CocS o m w) (hl : o.length ≤ 1048576) : PureCall Try.prog 28 [.agg [.l1 o, .int m, .l3 w]] (.agg [.l1 o, .int m, .l3 w]) := by
  have n8 := hs.n8
  have hc := hs.2.2.2.2.2
  have k1 := bOwn_ok o (by omega)
  have hO := fun i (hi : i < w.length) => bOwn2_ok w.length m n8.2 (w.getD i []) (hc.2 i hi)
  have tk : ∀ i, i < w.length → w.take i ++ [w.getD i []] = w.take (i + 1) := fun i hi => (takeD hi).symm
  have tl : ∀ i, i ≤ w.length → (w.take i).length = i := fun i hi => by rw [List.length_take]; omega
  obtain ⟨n, en⟩ : ∃ n, w.length = n := ⟨_, rfl⟩
  rw [en] at hO tk tl n8
  refine PureCall.intro (n := 30) (rs := [.cell 2 29]) Try.call28 Try.func28 rfl rfl rfl (by simp only [List.length_cons, List.length_nil]; omega) (fun cx hcx => ats_of ?_); simp only [argSlots, Nat.zero_add, Nat.reduceAdd]
  (repeat refine ats_seq ?_); refine ats_go (by first | exact fix0 hcx | exact fix1 hcx rfl) fun K hK => ?_; simp only [go_sem, seval]; (repeat refine And.intro (by first | omega | (intro hq; first | omega | (simp at hq <;> omega) | (simp_all <;> omega))) ?_); refine hK _ ?_; clear hK K
  (repeat refine ats_seq ?_)
  refine ats_planG [] (.one 0 (.one 1 (.one 2 (.one 3 (.one 4 (.one 5 (.alt 6 (.alt 7 .fin .stop) .stop))))))) ⟨[(1, .bptr 0 0), (2, .bptr 1 0), (3, .bptr 2 0)], [(0, .bx [.l1 o, .int m, .l3 w]), (1, .bx [.nil, .int 0, .nil]), (2, .bx [.l1 o, .int m, .nil])]⟩ (fix0 hcx) mixed (by kernel_rfl) (fun K hK => ?_) ?_
  · simp only [go_sem, seval, Option.getD_some, and_true, true_and, and_self, List.contains_cons, List.contains_nil, Bool.or_false, Bool.or_true]
    repeat' (first | (refine hK _ (ghost_can [] ?_ ?_); (focus (simp only [rnLs, rnL, rn, rns, sw, SlotsLe, St.get, slotGet, List.map_cons, List.map_nil, seval, AV.int.injEq, AV.bool.injEq, AV.l1.injEq, AV.l2.injEq, AV.l3.injEq, true_and, and_true]; done)); (focus (simp only [sortH, insH, rnHs, rnH, rnT, rn, rns, sw, List.map_cons, List.map_nil, seval]; done))) | with_reducible refine And.intro ?_ ?_ | omega | ((first | refine fcall_fresh rfl (k1) ?_ | refine YR_intro (acall_fresh rfl (k1)) ?_); simp only [go_sem, seval, Option.getD_some, and_true, true_and, and_self, List.contains_cons, List.contains_nil, Bool.or_false, Bool.or_true]))
  (repeat refine ats_seq ?_); refine ats_go (by first | exact fix0 hcx | exact fix1 hcx rfl) fun K hK => ?_; simp only [go_sem, seval]; (repeat refine And.intro (by first | omega | (intro hq; first | omega | (simp at hq <;> omega) | (simp_all <;> omega))) ?_); refine hK _ ?_; clear hK K
  (repeat refine ats_seq ?_)
  refine ats_loop (fun q : Option Nat => match q with
    | none => ⟨[(1, .bptr 0 0), (2, .bptr 1 0), (3, .bptr 2 0), (4, .int 0)], [(0, .bx [.l1 o, .int m, .l3 w]), (1, .bx [.nil, .int 0, .nil]), (2, .bx [.l1 o, .int m, .nil])]⟩
    | some i => ⟨[(1, .bptr 0 0), (2, .bptr 1 0), (3, .bptr 2 0), (4, .int i)], [(0, .bx [.l1 o, .int m, .l3 w]), (1, .bx [.nil, .int 0, .nil]), (2, .bx [.l1 o, .int m, .ref 3 []]), (3, .r3 (w.take i))]⟩) (fun q => match q with
    | none => True
    | some i => 1 ≤ i ∧ i ≤ n) (fun q => match q with
    | none => n + 1
    | some i => n - i) none trivial ⟨by simp only [SlotsLe, St.get, slotGet, Nat.reduceEqDiff, ↓reduceIte, true_and, and_true], rfl⟩ (fun q hq => ?_)
  cases q with
  | none =>
    dsimp only at hq ⊢
    have hO0 := hO 0 (by omega)
    have tk0 := tk 0 (by omega)
    (repeat refine ats_seq ?_); refine ats_go (by first | exact fix0 hcx | exact fix1 hcx rfl) fun K hK => ?_; simp only [go_sem, seval]
    simp only [en]
    (repeat refine And.intro (by first | omega | (intro hq; first | omega | (simp at hq <;> omega) | (simp_all <;> omega))) ?_)
    refine hK _ ?_; clear hK K
    (repeat refine ats_seq ?_); first | refine ats_ifn (p := _) rfl trivial (fun hli => ?_) (fun hli => ?_) | refine ats_ifp (p := _) rfl trivial (fun hli => ?_) (fun hli => ?_) | refine ats_cond rfl trivial (fun hli => ?_) (fun hli => ?_)
    · refine ats_skip ?_
      (repeat refine ats_seq ?_); refine ats_block ?_
      (repeat refine ats_seq ?_)
      refine ats_planG [] (.one 2 (.one 3 (.one 4 (.one 5 (.one 6 (.one 7 (.alt 0 (.alt 1 (.alt 8 (.alt 9 (.one 10 (.alt 11 .fin .stop)) .stop) .stop) (.alt 8 (.one 1 (.alt 9 (.one 10 (.alt 11 .fin .stop)) .stop)) .stop)) (.alt 8 (.one 0 (.one 1 (.alt 9 (.one 10 (.alt 11 .fin .stop)) .stop))) .stop)))))))) ⟨[(1, .bptr 0 0), (2, .bptr 1 0), (3, .bptr 2 0), (4, .int 0)], [(0, .bx [.l1 o, .int m, .l3 w]), (1, .bx [.nil, .int 0, .nil]), (2, .bx [.l1 o, .int m, .ref 3 []]), (3, .r3 [w.getD 0 []])]⟩ (fix0 hcx) mixed (by kernel_rfl) (fun K hK => ?_) ?_
      · simp only [go_sem, seval, Option.getD_some, and_true, true_and, and_self, List.contains_cons, List.contains_nil, Bool.or_false, Bool.or_true]
        repeat' (first | (refine hK _ (ghost_can [] ?_ ?_); (focus (simp only [rnLs, rnL, rn, rns, sw, SlotsLe, St.get, slotGet, List.map_cons, List.map_nil, seval, AV.int.injEq, AV.bool.injEq, AV.l1.injEq, AV.l2.injEq, AV.l3.injEq, true_and, and_true]; done)); (focus (simp only [sortH, insH, rnHs, rnH, rnT, rn, rns, sw, List.map_cons, List.map_nil, seval]; done))) | with_reducible refine And.intro ?_ ?_ | omega | ((first | refine fcall_fresh rfl (hO0) ?_ | refine YR_intro (acall_fresh rfl (hO0)) ?_); simp only [go_sem, seval, Option.getD_some, and_true, true_and, and_self, List.contains_cons, List.contains_nil, Bool.or_false, Bool.or_true]))
      (repeat refine ats_seq ?_); refine ats_go (by first | exact fix0 hcx | exact fix1 hcx rfl) fun K hK => ?_; simp only [go_sem, seval]; (repeat refine And.intro (by first | omega | (intro hq; first | omega | (simp at hq <;> omega) | (simp_all <;> omega))) ?_); refine hK _ ?_; clear hK K
      refine ⟨some 1, ⟨by omega, by omega⟩, by show n - 1 < n + 1; omega, .inl ⟨?_, ?_⟩⟩
      · simp only [SlotsLe, St.get, slotGet, Nat.reduceEqDiff, ↓reduceIte, AV.int.injEq, true_and, and_true]
        try omega
      · dsimp only
        rw [← tk0, List.take_zero, List.nil_append]
    · omega
  | some i =>
    dsimp only at hq ⊢
    have li := tl i hq.2
    (repeat refine ats_seq ?_); refine ats_go (by first | exact fix0 hcx | exact fix1 hcx rfl) fun K hK => ?_; simp only [go_sem, seval]
    simp only [en]
    (repeat refine And.intro (by first | omega | (intro hq; first | omega | (simp at hq <;> omega) | (simp_all <;> omega))) ?_)
    refine hK _ ?_; clear hK K
    (repeat refine ats_seq ?_); first | refine ats_ifn (p := _) rfl trivial (fun hli => ?_) (fun hli => ?_) | refine ats_ifp (p := _) rfl trivial (fun hli => ?_) (fun hli => ?_) | refine ats_cond rfl trivial (fun hli => ?_) (fun hli => ?_)
    · have hOi := hO i (by omega)
      have tki := tk i (by omega)
      refine ats_skip ?_
      (repeat refine ats_seq ?_); refine ats_block ?_
      (repeat refine ats_seq ?_)
      refine ats_planG [] (.one 2 (.one 3 (.one 4 (.one 5 (.one 6 (.one 7 (.alt 0 (.alt 1 (.alt 8 (.alt 9 (.one 10 (.alt 11 .fin .stop)) .stop) .stop) (.alt 8 (.one 1 (.alt 9 (.one 10 (.alt 11 .fin .stop)) .stop)) .stop)) (.alt 8 (.one 0 (.one 1 (.alt 9 (.one 10 (.alt 11 .fin .stop)) .stop))) .stop)))))))) ⟨[(1, .bptr 0 0), (2, .bptr 1 0), (3, .bptr 2 0), (4, .int i)], [(0, .bx [.l1 o, .int m, .l3 w]), (1, .bx [.nil, .int 0, .nil]), (2, .bx [.l1 o, .int m, .ref 3 []]), (3, .r3 (w.take i ++ [w.getD i []]))]⟩ (fix0 hcx) mixed (by kernel_rfl) (fun K hK => ?_) ?_
      · simp only [go_sem, seval, Option.getD_some, and_true, true_and, and_self, List.contains_cons, List.contains_nil, Bool.or_false, Bool.or_true]
        repeat' (first | (refine hK _ (ghost_can [] ?_ ?_); (focus (simp only [rnLs, rnL, rn, rns, sw, SlotsLe, St.get, slotGet, List.map_cons, List.map_nil, seval, AV.int.injEq, AV.bool.injEq, AV.l1.injEq, AV.l2.injEq, AV.l3.injEq, true_and, and_true]; done)); (focus (simp only [sortH, insH, rnHs, rnH, rnT, rn, rns, sw, List.map_cons, List.map_nil, seval]; done))) | with_reducible refine And.intro ?_ ?_ | omega | ((first | refine fcall_fresh rfl (hOi) ?_ | refine YR_intro (acall_fresh rfl (hOi)) ?_); simp only [go_sem, seval, Option.getD_some, and_true, true_and, and_self, List.contains_cons, List.contains_nil, Bool.or_false, Bool.or_true]))
      rw [tki]
      (repeat refine ats_seq ?_); refine ats_go (by first | exact fix0 hcx | exact fix1 hcx rfl) fun K hK => ?_; simp only [go_sem, seval]; (repeat refine And.intro (by first | omega | (intro hq; first | omega | (simp at hq <;> omega) | (simp_all <;> omega))) ?_); refine hK _ ?_; clear hK K
      refine ⟨some (i + 1), ⟨by omega, by omega⟩, by show n - (i + 1) < n - i; omega, .inl ⟨?_, ?_⟩⟩
      · simp only [SlotsLe, St.get, slotGet, Nat.reduceEqDiff, ↓reduceIte, AV.int.injEq, true_and, and_true]
        try omega
      · rfl
    · obtain rfl : i = n := by omega
      rw [show w.take i = w by rw [← en, List.take_length]]
      refine ats_exit (lq_x ?_)
      (repeat refine ats_seq ?_); refine ats_go (by first | exact fix0 hcx | exact fix1 hcx rfl) fun K hK => ?_; simp only [go_sem, seval]; (repeat refine And.intro (by first | omega | (intro hq; first | omega | (simp at hq <;> omega) | (simp_all <;> omega))) ?_); refine hK _ ?_; clear hK K
      exact ats_ret (finC (v := .agg [.l1 o, .int m, .ref 3 []]) (by simp only [go_sem, seval]) rfl)
noncomputable def fbA (o : List Int) (m : Int) (w : List (List (List Int))) : AV := if isCoc o m w = true then (if manyB o m = true then .tup [.agg [.nil, .int 0, .nil, .nil], .int 3] else match first (m.toNat ^ (o.length * o.length)) (fun c => pOk o m w (cdL m.toNat (o.length * o.length) c)) with
    | none => .tup [.agg [.nil, .int 0, .nil, .nil], .int 4]
    | some b => .tup [.agg [.l1 o, .int m, .l3 w, .l2 b], .int 0]) else .tup [.agg [.nil, .int 0, .nil, .nil], .int 1]
theorem pOk_some {o : List Int} {m : Int} {w : List (List (List Int))} {L : List Int} {b : List (List Int)} (h : pOk o m w L = some b) : isBr o m w b = true := by
  by_cases hh : Fine o L ∧ isBr o m w (bLd o m w L) = true
  · rw [pOk_pos hh] at h
    cases h
    exact hh.2
  · rw [pOk_neg hh] at h
    cases h
theorem first_br {o : List Int} {m : Int} {w : List (List (List Int))} {n M d : Nat} {b : List (List Int)} (h : first n (fun c => pOk o m w (cdL M d c)) = some b) : isBr o m w b = true :=
  first_all (P := fun b => isBr o m w b = true) h fun _ _ hx => pOk_some hx
theorem runA_first {o : List Int} {M : Nat} {w : List (List (List Int))} (hc : CocOk o M w) (hk : chk o = true) : ∀ n, runA o M w true [] ((List.range n).map (cdL M (o.length * o.length))) = (first n fun c => pOk o M w (cdL M (o.length * o.length) c)).toList
  | 0 => rfl
  | n + 1 => by
    rw [List.range_succ, List.map_append, runA_app, runA_first hc hk n]
    have e : first (n + 1) (fun c => pOk o M w (cdL M (o.length * o.length) c)) = (first n fun c => pOk o M w (cdL M (o.length * o.length) c)).or (pOk o M w (cdL M (o.length * o.length) n)) := by
      unfold first
      rw [List.range_succ, List.findSome?_append]
      simp
    rw [e]
    show addS o M w true _ _ = _
    unfold addS
    cases first n fun c => pOk o M w (cdL M (o.length * o.length) c) with
    | none => rw [if_neg (fun h => h.2 rfl), sp_cd hc hk]; simp
    | some b => rw [if_pos ⟨rfl, by simp⟩]; rfl
set_option maxRecDepth 100000 in
set_option maxHeartbeats 8000000 in
theorem implFb_ok (o : List Int) (m : Int) (w : List (List (List Int))) (hl : o.length ≤ 1048576) : FreshCall Try.prog 11 [.agg [.l1 o, .int m, .l3 w]] (fbA o m w) := by
  have hk := IsCocycle_ok o m w
  unfold fbA
  cases h : isCoc o m w with
  | false =>
    rw [h] at hk
    rw [if_neg (by decide)]
    refine FreshCall.intro (n := 26) (rs := [.cell 2 35, .tmp 3]) Try.call11 Try.func11 rfl rfl rfl (by simp only [List.length_cons, List.length_nil]; omega) (fun cx hcx => ats_of ?_); simp only [argSlots, Nat.zero_add, Nat.reduceAdd]
    (repeat refine ats_seq ?_); refine ats_go (fix0 hcx) fun K hK => ?_; simp only [go_sem, seval]; (repeat refine And.intro (by first | omega | (intro hq; first | omega | (simp at hq <;> omega) | (simp_all <;> omega))) ?_); refine hK _ ?_; clear hK K
    (repeat refine ats_seq ?_); refine ats_go (fix0 hcx) fun K hK => ?_; simp only [go_sem, seval]
    first | refine fcall_data (hk) rfl ?_ | refine YR_intro (acall_data (hk) rfl) ?_
    simp only [go_sem, seval]
    (repeat refine And.intro (by first | omega | (intro hq; first | omega | (simp at hq <;> omega) | (simp_all <;> omega))) ?_)
    refine hK _ ?_; clear hK K
    (repeat refine ats_seq ?_); refine ats_yes rfl trivial ?_
    (repeat refine ats_seq ?_); refine ats_go (fix0 hcx) fun K hK => ?_; simp only [go_sem, seval]; (repeat refine And.intro (by first | omega | (intro hq; first | omega | (simp at hq <;> omega) | (simp_all <;> omega))) ?_); refine hK _ ?_; clear hK K
    exact ats_ret (own2C (v := .agg [.nil, .int 0, .nil, .nil]) (by simp only [go_sem, seval]) trivial rfl (by simp))
  | true =>
    rw [h] at hk
    rw [if_pos rfl]
    have hc := isCoc_ok h
    obtain ⟨M, rfl⟩ : ∃ M : Nat, m = M := ⟨m.toNat, by have := hc.1.2.2.1; omega⟩
    have hE := eachF_ok o M w hc hl
    rw [Int.toNat_natCast]
    cases hm : manyB o M with
    | true =>
      rw [hm, if_pos rfl] at hE
      rw [if_pos rfl]
      simp only [Bool.not_true] at hE
      refine FreshCall.intro (n := 26) (rs := [.cell 2 35, .tmp 3]) Try.call11 Try.func11 rfl rfl rfl (by simp only [List.length_cons, List.length_nil]; omega) (fun cx hcx => ats_of ?_); simp only [argSlots, Nat.zero_add, Nat.reduceAdd]
      (repeat refine ats_seq ?_); refine ats_go (fix0 hcx) fun K hK => ?_; simp only [go_sem, seval]; (repeat refine And.intro (by first | omega | (intro hq; first | omega | (simp at hq <;> omega) | (simp_all <;> omega))) ?_); refine hK _ ?_; clear hK K
      (repeat refine ats_seq ?_); refine ats_go (fix0 hcx) fun K hK => ?_; simp only [go_sem, seval]
      first | refine fcall_data (hk) rfl ?_ | refine YR_intro (acall_data (hk) rfl) ?_
      simp only [go_sem, seval]
      (repeat refine And.intro (by first | omega | (intro hq; first | omega | (simp at hq <;> omega) | (simp_all <;> omega))) ?_)
      refine hK _ ?_; clear hK K
      (repeat refine ats_seq ?_); refine ats_no rfl trivial ?_
      refine ats_skip ?_
      (repeat refine ats_seq ?_); refine ats_go (fix0 hcx) fun K hK => ?_; simp only [go_sem, seval]; (repeat refine And.intro (by first | omega | (intro hq; first | omega | (simp at hq <;> omega) | (simp_all <;> omega))) ?_); refine hK _ ?_; clear hK K
      (repeat refine ats_seq ?_); refine AT.ghost (st' := ⟨[(1, .bptr 2 0), (2, .bptr 1 0), (4, .bptr 0 0)], [(0, .bx [.nil, .int 0, .nil, .nil]), (1, .bx [.nil, .int 0, .nil, .nil]), (2, .bx [.l1 o, .int M, .l3 w])]⟩) (ghost_trans (ghost_drop []) (ghost_can [(0, 2)] (by simp only [killL, killA, killAs, qOf, rmT, killH, killT, List.filter_cons, List.filter_nil, List.contains_cons, List.contains_nil, Bool.or_false, Bool.or_true, Bool.false_and, Bool.not_true, Bool.not_false, Bool.false_eq_true, if_true, if_false, rnLs, rnL, rn, rns, sw, SlotsLe, St.get, slotGet, List.map_cons, List.map_nil, seval, AV.int.injEq, AV.bool.injEq, AV.l1.injEq, AV.l2.injEq, AV.l3.injEq, true_and, and_true]) (by simp only [killL, killA, killAs, qOf, rmT, killH, killT, List.filter_cons, List.filter_nil, List.contains_cons, List.contains_nil, Bool.or_false, Bool.or_true, Bool.false_and, Bool.not_true, Bool.not_false, Bool.false_eq_true, if_true, if_false, sortH, insH, rnHs, rnH, rnT, rn, rns, sw, List.map_cons, List.map_nil, seval]))) ?_
      (repeat refine ats_seq ?_); refine ats_go (fix0 hcx) fun K hK => ?_; simp only [go_sem, seval]
      (repeat refine And.intro (by first | omega | (intro hq; first | omega | (simp at hq <;> omega) | (simp_all <;> omega))) ?_)
      refine fcall_box (hE) (by simp [Aw.ids]) (by simp [find]) (by simp [closedT, killT, killAs, killA, outQ, Aw.ids]) (by simp [killAs, killA, outQ, Aw.ids]) (by simp [Aw.ids]) ?_; simp only [Aw.ids, List.map_cons, List.map_nil, List.filter_cons, List.filter_nil, List.contains_cons, List.contains_nil, Bool.or_false, Bool.or_true, Bool.not_true, Bool.not_false, Nat.reduceBEq, Bool.false_eq_true, if_true, if_false, List.cons_append, List.nil_append]; simp only [go_sem, seval]
      (repeat refine And.intro (by first | omega | (intro hq; first | omega | (simp at hq <;> omega) | (simp_all <;> omega))) ?_)
      refine hK _ ?_; clear hK K
      (repeat refine ats_seq ?_); refine ats_go (fix0 hcx) fun K hK => ?_; simp only [go_sem, seval]; (repeat refine And.intro (by first | omega | (intro hq; first | omega | (simp at hq <;> omega) | (simp_all <;> omega))) ?_); refine hK _ ?_; clear hK K
      (repeat refine ats_seq ?_); refine ats_yes rfl trivial ?_
      (repeat refine ats_seq ?_); refine ats_go (fix0 hcx) fun K hK => ?_; simp only [go_sem, seval]; (repeat refine And.intro (by first | omega | (intro hq; first | omega | (simp at hq <;> omega) | (simp_all <;> omega))) ?_); refine hK _ ?_; clear hK K
      exact ats_ret (own2C (v := .agg [.nil, .int 0, .nil, .nil]) (by simp only [go_sem, seval]) trivial rfl (by simp))
    | false =>
      rw [hm, if_neg (by decide)] at hE
      rw [if_neg (by decide)]
      simp only [Bool.not_false] at hE
      cases hf : first (M ^ (o.length * o.length)) (fun c => pOk o M w (cdL M (o.length * o.length) c)) with
      | none =>
        rw [hf] at hE
        simp only [fbT] at hE
        refine FreshCall.intro (n := 26) (rs := [.cell 2 35, .tmp 3]) Try.call11 Try.func11 rfl rfl rfl (by simp only [List.length_cons, List.length_nil]; omega) (fun cx hcx => ats_of ?_); simp only [argSlots, Nat.zero_add, Nat.reduceAdd]
        (repeat refine ats_seq ?_); refine ats_go (fix0 hcx) fun K hK => ?_; simp only [go_sem, seval]; (repeat refine And.intro (by first | omega | (intro hq; first | omega | (simp at hq <;> omega) | (simp_all <;> omega))) ?_); refine hK _ ?_; clear hK K
        (repeat refine ats_seq ?_); refine ats_go (fix0 hcx) fun K hK => ?_; simp only [go_sem, seval]
        first | refine fcall_data (hk) rfl ?_ | refine YR_intro (acall_data (hk) rfl) ?_
        simp only [go_sem, seval]
        (repeat refine And.intro (by first | omega | (intro hq; first | omega | (simp at hq <;> omega) | (simp_all <;> omega))) ?_)
        refine hK _ ?_; clear hK K
        (repeat refine ats_seq ?_); refine ats_no rfl trivial ?_
        refine ats_skip ?_
        (repeat refine ats_seq ?_); refine ats_go (fix0 hcx) fun K hK => ?_; simp only [go_sem, seval]; (repeat refine And.intro (by first | omega | (intro hq; first | omega | (simp at hq <;> omega) | (simp_all <;> omega))) ?_); refine hK _ ?_; clear hK K
        (repeat refine ats_seq ?_); refine AT.ghost (st' := ⟨[(1, .bptr 2 0), (2, .bptr 1 0), (4, .bptr 0 0)], [(0, .bx [.nil, .int 0, .nil, .nil]), (1, .bx [.nil, .int 0, .nil, .nil]), (2, .bx [.l1 o, .int M, .l3 w])]⟩) (ghost_trans (ghost_drop []) (ghost_can [(0, 2)] (by simp only [killL, killA, killAs, qOf, rmT, killH, killT, List.filter_cons, List.filter_nil, List.contains_cons, List.contains_nil, Bool.or_false, Bool.or_true, Bool.false_and, Bool.not_true, Bool.not_false, Bool.false_eq_true, if_true, if_false, rnLs, rnL, rn, rns, sw, SlotsLe, St.get, slotGet, List.map_cons, List.map_nil, seval, AV.int.injEq, AV.bool.injEq, AV.l1.injEq, AV.l2.injEq, AV.l3.injEq, true_and, and_true]) (by simp only [killL, killA, killAs, qOf, rmT, killH, killT, List.filter_cons, List.filter_nil, List.contains_cons, List.contains_nil, Bool.or_false, Bool.or_true, Bool.false_and, Bool.not_true, Bool.not_false, Bool.false_eq_true, if_true, if_false, sortH, insH, rnHs, rnH, rnT, rn, rns, sw, List.map_cons, List.map_nil, seval]))) ?_
        (repeat refine ats_seq ?_); refine ats_go (fix0 hcx) fun K hK => ?_; simp only [go_sem, seval]
        (repeat refine And.intro (by first | omega | (intro hq; first | omega | (simp at hq <;> omega) | (simp_all <;> omega))) ?_)
        refine fcall_box (hE) (by simp [Aw.ids]) (by simp [find]) (by simp [closedT, killT, killAs, killA, outQ, Aw.ids]) (by simp [killAs, killA, outQ, Aw.ids]) (by simp [Aw.ids]) ?_; simp only [Aw.ids, List.map_cons, List.map_nil, List.filter_cons, List.filter_nil, List.contains_cons, List.contains_nil, Bool.or_false, Bool.or_true, Bool.not_true, Bool.not_false, Nat.reduceBEq, Bool.false_eq_true, if_true, if_false, List.cons_append, List.nil_append]; simp only [go_sem, seval]
        (repeat refine And.intro (by first | omega | (intro hq; first | omega | (simp at hq <;> omega) | (simp_all <;> omega))) ?_)
        refine hK _ ?_; clear hK K
        (repeat refine ats_seq ?_); refine ats_go (fix0 hcx) fun K hK => ?_; simp only [go_sem, seval]; (repeat refine And.intro (by first | omega | (intro hq; first | omega | (simp at hq <;> omega) | (simp_all <;> omega))) ?_); refine hK _ ?_; clear hK K
        (repeat refine ats_seq ?_); refine ats_no rfl trivial ?_
        refine ats_skip ?_
        (repeat refine ats_seq ?_); refine ats_go (fix0 hcx) fun K hK => ?_; simp only [go_sem, seval]; (repeat refine And.intro (by first | omega | (intro hq; first | omega | (simp at hq <;> omega) | (simp_all <;> omega))) ?_); refine hK _ ?_; clear hK K
        (repeat refine ats_seq ?_); refine ats_yes rfl trivial ?_
        (repeat refine ats_seq ?_); refine ats_go (fix0 hcx) fun K hK => ?_; simp only [go_sem, seval]; (repeat refine And.intro (by first | omega | (intro hq; first | omega | (simp at hq <;> omega) | (simp_all <;> omega))) ?_); refine hK _ ?_; clear hK K
        exact ats_ret (own2C (v := .agg [.nil, .int 0, .nil, .nil]) (by simp only [go_sem, seval]) trivial rfl (by simp))
      | some b =>
        have hB := isBr_E (first_br hf)
        have lb : b.length = w.length := hB.gr.1
        have n8 := hc.1.n8
        have hC := copyCocycle_ok o M w hc.1 hl
        rw [hf] at hE
        simp only [fbT] at hE
        refine FreshCall.intro (n := 26) (rs := [.cell 2 35, .tmp 3]) Try.call11 Try.func11 rfl rfl rfl (by simp only [List.length_cons, List.length_nil]; omega) (fun cx hcx => ats_of ?_); simp only [argSlots, Nat.zero_add, Nat.reduceAdd]
        (repeat refine ats_seq ?_); refine ats_go (fix0 hcx) fun K hK => ?_; simp only [go_sem, seval]; (repeat refine And.intro (by first | omega | (intro hq; first | omega | (simp at hq <;> omega) | (simp_all <;> omega))) ?_); refine hK _ ?_; clear hK K
        (repeat refine ats_seq ?_); refine ats_go (fix0 hcx) fun K hK => ?_; simp only [go_sem, seval]
        first | refine fcall_data (hk) rfl ?_ | refine YR_intro (acall_data (hk) rfl) ?_
        simp only [go_sem, seval]
        (repeat refine And.intro (by first | omega | (intro hq; first | omega | (simp at hq <;> omega) | (simp_all <;> omega))) ?_)
        refine hK _ ?_; clear hK K
        (repeat refine ats_seq ?_); refine ats_no rfl trivial ?_
        refine ats_skip ?_
        (repeat refine ats_seq ?_); refine ats_go (fix0 hcx) fun K hK => ?_; simp only [go_sem, seval]; (repeat refine And.intro (by first | omega | (intro hq; first | omega | (simp at hq <;> omega) | (simp_all <;> omega))) ?_); refine hK _ ?_; clear hK K
        (repeat refine ats_seq ?_); refine AT.ghost (st' := ⟨[(1, .bptr 2 0), (2, .bptr 1 0), (4, .bptr 0 0)], [(0, .bx [.nil, .int 0, .nil, .nil]), (1, .bx [.nil, .int 0, .nil, .nil]), (2, .bx [.l1 o, .int M, .l3 w])]⟩) (ghost_trans (ghost_drop []) (ghost_can [(0, 2)] (by simp only [killL, killA, killAs, qOf, rmT, killH, killT, List.filter_cons, List.filter_nil, List.contains_cons, List.contains_nil, Bool.or_false, Bool.or_true, Bool.false_and, Bool.not_true, Bool.not_false, Bool.false_eq_true, if_true, if_false, rnLs, rnL, rn, rns, sw, SlotsLe, St.get, slotGet, List.map_cons, List.map_nil, seval, AV.int.injEq, AV.bool.injEq, AV.l1.injEq, AV.l2.injEq, AV.l3.injEq, true_and, and_true]) (by simp only [killL, killA, killAs, qOf, rmT, killH, killT, List.filter_cons, List.filter_nil, List.contains_cons, List.contains_nil, Bool.or_false, Bool.or_true, Bool.false_and, Bool.not_true, Bool.not_false, Bool.false_eq_true, if_true, if_false, sortH, insH, rnHs, rnH, rnT, rn, rns, sw, List.map_cons, List.map_nil, seval]))) ?_
        (repeat refine ats_seq ?_); refine ats_go (fix0 hcx) fun K hK => ?_; simp only [go_sem, seval]
        (repeat refine And.intro (by first | omega | (intro hq; first | omega | (simp at hq <;> omega) | (simp_all <;> omega))) ?_)
        refine fcall_box (hE) (by simp [Aw.ids]) (by simp [find]) (by simp [closedT, killT, killAs, killA, outQ, Aw.ids]) (by simp [killAs, killA, outQ, Aw.ids]) (by simp [Aw.ids]) ?_; simp only [Aw.ids, List.map_cons, List.map_nil, List.filter_cons, List.filter_nil, List.contains_cons, List.contains_nil, Bool.or_false, Bool.or_true, Bool.not_true, Bool.not_false, Nat.reduceBEq, Bool.false_eq_true, if_true, if_false, List.cons_append, List.nil_append]; simp only [go_sem, seval]
        (repeat refine And.intro (by first | omega | (intro hq; first | omega | (simp at hq <;> omega) | (simp_all <;> omega))) ?_)
        refine hK _ ?_; clear hK K
        (repeat refine ats_seq ?_); refine ats_go (fix0 hcx) fun K hK => ?_; simp only [go_sem, seval]; (repeat refine And.intro (by first | omega | (intro hq; first | omega | (simp at hq <;> omega) | (simp_all <;> omega))) ?_); refine hK _ ?_; clear hK K
        (repeat refine ats_seq ?_); refine ats_no rfl trivial ?_
        refine ats_skip ?_
        (repeat refine ats_seq ?_); refine ats_go (fix0 hcx) fun K hK => ?_; simp only [go_sem, seval]; (repeat refine And.intro (by first | omega | (intro hq; first | omega | (simp at hq <;> omega) | (simp_all <;> omega))) ?_); refine hK _ ?_; clear hK K
        (repeat refine ats_seq ?_); refine ats_no rfl trivial ?_
        refine ats_skip ?_
        (repeat refine ats_seq ?_)
        refine ats_planG [1] (.one 0 (.alt 1 (.one 2 (.one 3 (.one 4 (.alt 5 (.one 6 .fin) .stop)))) (.alt 2 (.alt 1 (.one 3 (.one 4 (.alt 5 (.one 6 .fin) .stop))) (.alt 3 (.alt 1 (.one 4 (.alt 5 (.one 6 .fin) .stop)) .stop) .stop)) .stop))) ⟨[(2, .bptr 1 0), (3, .int 0)], [(0, .bx [.l1 o, .int M, .l3 w, .ref 20 []]), (1, .bx [.ref 21 [], .int M, .ref 22 [], .ref 20 []]), (2, .bx [.l1 o, .int M, .l3 w]), (20, .t2 b), (21, .t1 o), (22, .t3 w)]⟩ (fix0 hcx) mixed (by kernel_rfl) (fun K hK => ?_) ?_
        · simp only [go_sem, seval, Option.getD_some, and_true, true_and, and_self, List.contains_cons, List.contains_nil, Bool.or_false, Bool.or_true]
          repeat' (first | (refine hK _ (ghost_can [] ?_ ?_); (focus (simp only [rnLs, rnL, rn, rns, sw, SlotsLe, St.get, slotGet, List.map_cons, List.map_nil, seval, AV.int.injEq, AV.bool.injEq, AV.l1.injEq, AV.l2.injEq, AV.l3.injEq, true_and, and_true]; done)); (focus (simp only [sortH, insH, rnHs, rnH, rnT, rn, rns, sw, List.map_cons, List.map_nil, seval]; done))) | with_reducible refine And.intro ?_ ?_ | omega | (refine fcall_own rfl (hC) rfl ?_; simp only [go_sem, seval, Option.getD_some, and_true, true_and, and_self, List.contains_cons, List.contains_nil, Bool.or_false, Bool.or_true]))
        exact ats_ret (own2C (v := .agg [.ref 21 [], .int M, .ref 22 [], .ref 20 []]) (by simp only [go_sem, seval]) trivial rfl (by simp))
set_option maxRecDepth 100000 in
set_option maxHeartbeats 8000000 in
theorem specFb_ok (o : List Int) (m : Int) (w : List (List (List Int))) (hl : o.length ≤ 1048576) : PureCall Try.prog 10 [.agg [.l1 o, .int m, .l3 w]] (fbA o m w) := by
  have hk := l17Is_ok o m w
  unfold fbA
  cases h : isCoc o m w with
  | false =>
    rw [h] at hk
    rw [if_neg (by decide)]
    refine PureCall.intro (n := 26) (rs := [.cell 2 35, .tmp 3]) Try.call10 Try.func10 rfl rfl rfl (by simp only [List.length_cons, List.length_nil]; omega) (fun cx hcx => ats_of ?_); simp only [argSlots, Nat.zero_add, Nat.reduceAdd]
    (repeat refine ats_seq ?_); refine ats_go (by first | exact fix0 hcx | exact fix1 hcx rfl) fun K hK => ?_; simp only [go_sem, seval]; (repeat refine And.intro (by first | omega | (intro hq; first | omega | (simp at hq <;> omega) | (simp_all <;> omega))) ?_); refine hK _ ?_; clear hK K
    (repeat refine ats_seq ?_); refine ats_go (by first | exact fix0 hcx | exact fix1 hcx rfl) fun K hK => ?_; simp only [go_sem, seval]
    first | refine fcall_data (hk) rfl ?_ | refine YR_intro (acall_data (hk) rfl) ?_
    simp only [go_sem, seval]
    (repeat refine And.intro (by first | omega | (intro hq; first | omega | (simp at hq <;> omega) | (simp_all <;> omega))) ?_)
    refine hK _ ?_; clear hK K
    (repeat refine ats_seq ?_); refine ats_yes rfl trivial ?_
    (repeat refine ats_seq ?_); refine ats_go (by first | exact fix0 hcx | exact fix1 hcx rfl) fun K hK => ?_; simp only [go_sem, seval]; (repeat refine And.intro (by first | omega | (intro hq; first | omega | (simp at hq <;> omega) | (simp_all <;> omega))) ?_); refine hK _ ?_; clear hK K
    exact ats_ret (fin2C (v := .agg [.nil, .int 0, .nil, .nil]) (by simp only [go_sem, seval]) trivial rfl)
  | true =>
    rw [h] at hk
    rw [if_pos rfl]
    have hc := isCoc_ok h
    obtain ⟨M, rfl⟩ : ∃ M : Nat, m = M := ⟨m.toNat, by have := hc.1.2.2.1; omega⟩
    have hM := l18Many_ok o M w (by have := hc.1.2.2.1; omega) (by have := hc.1.2.2.2.1; omega) hl
    rw [Int.toNat_natCast]
    cases hm : manyB o M with
    | true =>
      rw [hm] at hM
      rw [if_pos rfl]
      refine PureCall.intro (n := 26) (rs := [.cell 2 35, .tmp 3]) Try.call10 Try.func10 rfl rfl rfl (by simp only [List.length_cons, List.length_nil]; omega) (fun cx hcx => ats_of ?_); simp only [argSlots, Nat.zero_add, Nat.reduceAdd]
      (repeat refine ats_seq ?_); refine ats_go (by first | exact fix0 hcx | exact fix1 hcx rfl) fun K hK => ?_; simp only [go_sem, seval]; (repeat refine And.intro (by first | omega | (intro hq; first | omega | (simp at hq <;> omega) | (simp_all <;> omega))) ?_); refine hK _ ?_; clear hK K
      (repeat refine ats_seq ?_); refine ats_go (by first | exact fix0 hcx | exact fix1 hcx rfl) fun K hK => ?_; simp only [go_sem, seval]
      first | refine fcall_data (hk) rfl ?_ | refine YR_intro (acall_data (hk) rfl) ?_
      simp only [go_sem, seval]
      (repeat refine And.intro (by first | omega | (intro hq; first | omega | (simp at hq <;> omega) | (simp_all <;> omega))) ?_)
      refine hK _ ?_; clear hK K
      (repeat refine ats_seq ?_); refine ats_no rfl trivial ?_
      refine ats_skip ?_
      (repeat refine ats_seq ?_); refine ats_go (by first | exact fix0 hcx | exact fix1 hcx rfl) fun K hK => ?_; simp only [go_sem, seval]
      first | refine fcall_data (hM) rfl ?_ | refine YR_intro (acall_data (hM) rfl) ?_
      simp only [go_sem, seval]
      (repeat refine And.intro (by first | omega | (intro hq; first | omega | (simp at hq <;> omega) | (simp_all <;> omega))) ?_)
      refine hK _ ?_; clear hK K
      (repeat refine ats_seq ?_); refine ats_yes rfl trivial ?_
      (repeat refine ats_seq ?_); refine ats_go (by first | exact fix0 hcx | exact fix1 hcx rfl) fun K hK => ?_; simp only [go_sem, seval]; (repeat refine And.intro (by first | omega | (intro hq; first | omega | (simp at hq <;> omega) | (simp_all <;> omega))) ?_); refine hK _ ?_; clear hK K
      exact ats_ret (fin2C (v := .agg [.nil, .int 0, .nil, .nil]) (by simp only [go_sem, seval]) trivial rfl)
    | false =>
      rw [hm] at hM
      rw [if_neg (by decide)]
      have hn := many_no hm
      have hck := chk_ok hc.1.1 hc.1.2.1 hn.1
      have M0 : 0 < M := by have := hc.1.2.2.1; omega
      have hA := fromT3 (allL_ok o M w hc hck hn.1 true (o.length * o.length) [] [] (by simp) (fun j hj => absurd hj (Nat.not_lt_zero _)) (fun _ => rfl) (by simp only [List.length_nil]; omega)) (by simp [killAs, killA, qOf])
      have hx : extA M (o.length * o.length) [] = (List.range (M ^ (o.length * o.length))).map (cdL M (o.length * o.length)) := by rw [extA_eq M0]; simp
      rw [hx, runA_first hc hck] at hA
      have hO := l18Own_ok o M w hc.1 hl
      cases hf : first (M ^ (o.length * o.length)) (fun c => pOk o M w (cdL M (o.length * o.length) c)) with
      | none =>
        rw [hf] at hA
        simp only [Option.toList_none] at hA
        refine PureCall.intro (n := 26) (rs := [.cell 2 35, .tmp 3]) Try.call10 Try.func10 rfl rfl rfl (by simp only [List.length_cons, List.length_nil]; omega) (fun cx hcx => ats_of ?_); simp only [argSlots, Nat.zero_add, Nat.reduceAdd]
        (repeat refine ats_seq ?_); refine ats_go (by first | exact fix0 hcx | exact fix1 hcx rfl) fun K hK => ?_; simp only [go_sem, seval]; (repeat refine And.intro (by first | omega | (intro hq; first | omega | (simp at hq <;> omega) | (simp_all <;> omega))) ?_); refine hK _ ?_; clear hK K
        (repeat refine ats_seq ?_); refine ats_go (by first | exact fix0 hcx | exact fix1 hcx rfl) fun K hK => ?_; simp only [go_sem, seval]
        first | refine fcall_data (hk) rfl ?_ | refine YR_intro (acall_data (hk) rfl) ?_
        simp only [go_sem, seval]
        (repeat refine And.intro (by first | omega | (intro hq; first | omega | (simp at hq <;> omega) | (simp_all <;> omega))) ?_)
        refine hK _ ?_; clear hK K
        (repeat refine ats_seq ?_); refine ats_no rfl trivial ?_
        refine ats_skip ?_
        (repeat refine ats_seq ?_); refine ats_go (by first | exact fix0 hcx | exact fix1 hcx rfl) fun K hK => ?_; simp only [go_sem, seval]
        first | refine fcall_data (hM) rfl ?_ | refine YR_intro (acall_data (hM) rfl) ?_
        simp only [go_sem, seval]
        (repeat refine And.intro (by first | omega | (intro hq; first | omega | (simp at hq <;> omega) | (simp_all <;> omega))) ?_)
        refine hK _ ?_; clear hK K
        (repeat refine ats_seq ?_); refine ats_no rfl trivial ?_
        refine ats_skip ?_
        (repeat refine ats_seq ?_); refine AT.ghost (st' := ⟨[(1, .bptr 3 0), (2, .bptr 1 0)], [(1, .bx [.nil, .int 0, .nil, .nil]), (3, .bx [.l1 o, .int M, .l3 w])]⟩) (ghost_trans (ghost_drop []) (ghost_can [(0, 3)] (by simp only [killL, killA, killAs, qOf, rmT, killH, killT, List.filter_cons, List.filter_nil, List.contains_cons, List.contains_nil, Bool.or_false, Bool.or_true, Bool.false_and, Bool.not_true, Bool.not_false, Bool.false_eq_true, if_true, if_false, rnLs, rnL, rn, rns, sw, SlotsLe, St.get, slotGet, List.map_cons, List.map_nil, seval, AV.int.injEq, AV.bool.injEq, AV.l1.injEq, AV.l2.injEq, AV.l3.injEq, true_and, and_true]) (by simp only [killL, killA, killAs, qOf, rmT, killH, killT, List.filter_cons, List.filter_nil, List.contains_cons, List.contains_nil, Bool.or_false, Bool.or_true, Bool.false_and, Bool.not_true, Bool.not_false, Bool.false_eq_true, if_true, if_false, sortH, insH, rnHs, rnH, rnT, rn, rns, sw, List.map_cons, List.map_nil, seval]))) ?_
        (repeat refine ats_seq ?_); refine ats_go (by first | exact fix0 hcx | exact fix1 hcx rfl) fun K hK => ?_; simp only [go_sem, seval]
        (repeat refine And.intro (by first | omega | (intro hq; first | omega | (simp at hq <;> omega) | (simp_all <;> omega))) ?_)
        refine fcall_zbox [4] (hA) (by simp [frzAs, frzA, find]) (by simp only [killL, killA, killAs, qOf, rmT, killH, killT, List.map_cons, List.map_nil, List.filter_cons, List.filter_nil, List.contains_cons, List.contains_nil, Bool.or_false, Bool.or_true, Bool.false_and, Bool.not_true, Bool.not_false, Bool.false_eq_true, if_true, if_false, seval]; rfl) (by simp [Aw.ids]) (by simp [find]) (by simp [closedT, killT, killAs, killA, outQ, Aw.ids]) (by simp [killAs, killA, outQ, Aw.ids]) (by simp [Aw.ids]) ?_; simp only [Aw.ids, List.map_cons, List.map_nil, List.filter_cons, List.filter_nil, List.contains_cons, List.contains_nil, Bool.or_false, Bool.or_true, Bool.not_true, Bool.not_false, Nat.reduceBEq, Bool.false_eq_true, if_true, if_false, List.cons_append, List.nil_append, List.append_nil]; simp only [go_sem, seval]
        (repeat refine And.intro (by first | omega | (intro hq; first | omega | (simp at hq <;> omega) | (simp_all <;> omega))) ?_)
        refine hK _ ?_; clear hK K
        (repeat refine ats_seq ?_); refine ats_go (by first | exact fix0 hcx | exact fix1 hcx rfl) fun K hK => ?_; simp only [go_sem, seval]; (repeat refine And.intro (by first | omega | (intro hq; first | omega | (simp at hq <;> omega) | (simp_all <;> omega))) ?_); refine hK _ ?_; clear hK K
        (repeat refine ats_seq ?_); refine ats_yes rfl trivial ?_
        (repeat refine ats_seq ?_); refine ats_go (by first | exact fix0 hcx | exact fix1 hcx rfl) fun K hK => ?_; simp only [go_sem, seval]; (repeat refine And.intro (by first | omega | (intro hq; first | omega | (simp at hq <;> omega) | (simp_all <;> omega))) ?_); refine hK _ ?_; clear hK K
        exact ats_ret (fin2C (v := .agg [.nil, .int 0, .nil, .nil]) (by simp only [go_sem, seval]) trivial rfl)
      | some b =>
        rw [hf] at hA
        simp only [Option.toList_some] at hA
        refine PureCall.intro (n := 26) (rs := [.cell 2 35, .tmp 3]) Try.call10 Try.func10 rfl rfl rfl (by simp only [List.length_cons, List.length_nil]; omega) (fun cx hcx => ats_of ?_); simp only [argSlots, Nat.zero_add, Nat.reduceAdd]
        (repeat refine ats_seq ?_); refine ats_go (by first | exact fix0 hcx | exact fix1 hcx rfl) fun K hK => ?_; simp only [go_sem, seval]; (repeat refine And.intro (by first | omega | (intro hq; first | omega | (simp at hq <;> omega) | (simp_all <;> omega))) ?_); refine hK _ ?_; clear hK K
        (repeat refine ats_seq ?_); refine ats_go (by first | exact fix0 hcx | exact fix1 hcx rfl) fun K hK => ?_; simp only [go_sem, seval]
        first | refine fcall_data (hk) rfl ?_ | refine YR_intro (acall_data (hk) rfl) ?_
        simp only [go_sem, seval]
        (repeat refine And.intro (by first | omega | (intro hq; first | omega | (simp at hq <;> omega) | (simp_all <;> omega))) ?_)
        refine hK _ ?_; clear hK K
        (repeat refine ats_seq ?_); refine ats_no rfl trivial ?_
        refine ats_skip ?_
        (repeat refine ats_seq ?_); refine ats_go (by first | exact fix0 hcx | exact fix1 hcx rfl) fun K hK => ?_; simp only [go_sem, seval]
        first | refine fcall_data (hM) rfl ?_ | refine YR_intro (acall_data (hM) rfl) ?_
        simp only [go_sem, seval]
        (repeat refine And.intro (by first | omega | (intro hq; first | omega | (simp at hq <;> omega) | (simp_all <;> omega))) ?_)
        refine hK _ ?_; clear hK K
        (repeat refine ats_seq ?_); refine ats_no rfl trivial ?_
        refine ats_skip ?_
        (repeat refine ats_seq ?_); refine AT.ghost (st' := ⟨[(1, .bptr 3 0), (2, .bptr 1 0)], [(1, .bx [.nil, .int 0, .nil, .nil]), (3, .bx [.l1 o, .int M, .l3 w])]⟩) (ghost_trans (ghost_drop []) (ghost_can [(0, 3)] (by simp only [killL, killA, killAs, qOf, rmT, killH, killT, List.filter_cons, List.filter_nil, List.contains_cons, List.contains_nil, Bool.or_false, Bool.or_true, Bool.false_and, Bool.not_true, Bool.not_false, Bool.false_eq_true, if_true, if_false, rnLs, rnL, rn, rns, sw, SlotsLe, St.get, slotGet, List.map_cons, List.map_nil, seval, AV.int.injEq, AV.bool.injEq, AV.l1.injEq, AV.l2.injEq, AV.l3.injEq, true_and, and_true]) (by simp only [killL, killA, killAs, qOf, rmT, killH, killT, List.filter_cons, List.filter_nil, List.contains_cons, List.contains_nil, Bool.or_false, Bool.or_true, Bool.false_and, Bool.not_true, Bool.not_false, Bool.false_eq_true, if_true, if_false, sortH, insH, rnHs, rnH, rnT, rn, rns, sw, List.map_cons, List.map_nil, seval]))) ?_
        (repeat refine ats_seq ?_); refine ats_go (by first | exact fix0 hcx | exact fix1 hcx rfl) fun K hK => ?_; simp only [go_sem, seval]
        (repeat refine And.intro (by first | omega | (intro hq; first | omega | (simp at hq <;> omega) | (simp_all <;> omega))) ?_)
        refine fcall_zbox [4] (hA) (by simp [frzAs, frzA, find]) (by simp only [killL, killA, killAs, qOf, rmT, killH, killT, List.map_cons, List.map_nil, List.filter_cons, List.filter_nil, List.contains_cons, List.contains_nil, Bool.or_false, Bool.or_true, Bool.false_and, Bool.not_true, Bool.not_false, Bool.false_eq_true, if_true, if_false, seval]; rfl) (by simp [Aw.ids]) (by simp [find]) (by simp [closedT, killT, killAs, killA, outQ, Aw.ids]) (by simp [killAs, killA, outQ, Aw.ids]) (by simp [Aw.ids]) ?_; simp only [Aw.ids, List.map_cons, List.map_nil, List.filter_cons, List.filter_nil, List.contains_cons, List.contains_nil, Bool.or_false, Bool.or_true, Bool.not_true, Bool.not_false, Nat.reduceBEq, Bool.false_eq_true, if_true, if_false, List.cons_append, List.nil_append, List.append_nil]; simp only [go_sem, seval]
        (repeat refine And.intro (by first | omega | (intro hq; first | omega | (simp at hq <;> omega) | (simp_all <;> omega))) ?_)
        refine hK _ ?_; clear hK K
        (repeat refine ats_seq ?_); refine ats_go (by first | exact fix0 hcx | exact fix1 hcx rfl) fun K hK => ?_; simp only [go_sem, seval]; (repeat refine And.intro (by first | omega | (intro hq; first | omega | (simp at hq <;> omega) | (simp_all <;> omega))) ?_); refine hK _ ?_; clear hK K
        (repeat refine ats_seq ?_); refine ats_no rfl trivial ?_
        refine ats_skip ?_
        (repeat refine ats_seq ?_)
        refine ats_plan [] (.one 0 (.one 1 (.one 2 (.one 3 (.one 4 (.one 5 (.alt 6 (.one 7 .fin) .stop))))))) ⟨[(2, .bptr 1 0), (3, .int 0)], [(5, .r3 [b]), (1, .bx [.l1 o, .int M, .l3 w, .l2 b]), (3, .bx [.l1 o, .int M, .l3 w])]⟩ (fix0 hcx) mixed (by kernel_rfl) (fun K hK => ?_) ?_
        · simp only [go_sem, seval, Option.getD_some, and_true, true_and, and_self, List.contains_cons, List.contains_nil, Bool.or_false, Bool.or_true]
          repeat' (first | exact hK _ (by refine And.intro ?_ rfl; simp only [SlotsLe, St.get, slotGet, Nat.reduceEqDiff, ↓reduceIte, AV.int.injEq, AV.bool.injEq, AV.l1.injEq, AV.l2.injEq, AV.l3.injEq, true_and, and_true])  | with_reducible refine And.intro ?_ ?_ | omega | ((first | refine fcall_data (hO) rfl ?_ | refine YR_intro (acall_data (hO) rfl) ?_); simp only [go_sem, seval, Option.getD_some, and_true, true_and, and_self, List.contains_cons, List.contains_nil, Bool.or_false, Bool.or_true]))
        exact ats_ret (fin2C (v := .agg [.l1 o, .int M, .l3 w, .l2 b]) (by simp only [go_sem, seval]) trivial rfl)
end Go.Proofs.Ytaijdhkjemffhaa
