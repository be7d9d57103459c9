import Derived.Test.YtjcfefgbieeheaaDoorJz3
import Derived.Test.YtjcfefgbieeheaaDoorMz1
import Derived.Test.YtjcfefgbieeheaaDoorLib7
set_option linter.unusedSimpArgs false
set_option linter.unusedVariables false
namespace Go.Proofs.YtjcfefgbieeheaaDoor
open Go Go.Aw Go.Pl
theorem DrawAdjointOf_ok (c : List Int) (hc : CodeOk c) : ∃ (t : Cu), t.length ≤ 10 ∧ PureCall Tryd.prog 30 [.lv (bsV c)] (.agg [.l3 t]) := by
 have hF := from_ok c hc.len hc.byte
 have ok0 := frS_ok hc.len hc.byte
 generalize frS c = s at *
 obtain ⟨t, s1, lt, ok1, hA⟩ := l03DrawAny_ok s ok0 10 (by decide) (by decide)
 refine ⟨t, lt, ?_⟩
 unfold AnyC at hA
 refine PureCall.introR (n := 6) (rs := [.cell 2 26]) Tryd.call30 Tryd.func30 rfl rfl rfl (by simp only [List.length_cons, List.length_nil]; omega) (fun cx hcx hrd => ats_of ?_); simp only [argSlots, Nat.zero_add, Nat.reduceAdd]
 refine gB ?_
 (repeat refine ats_seq ?_); refine AT.ghost (st' := ⟨[(0, .lv (bsV c)), (2, .bptr 7 0)], [(7, .bx [.nil])]⟩) (ghost_trans (ghost_drop []) (ghost_can [(0, 7)] (by simp only [killL, killA, killAs, killT_srcB, killAs_bsV, qOf, rmT, killH, killT_e, List.filter_cons, List.filter_nil, List.contains_cons, List.contains_nil, Bool.or_false, Bool.or_true, Bool.false_and, Bool.not_true, Bool.not_false, Bool.false_eq_true, if_true, if_false, rnLs, rnL, rn, rns, rns_bsV, sw, SlotsLe, St.get, slotGet, List.map_cons, List.map_nil, seval, AV.int.injEq, AV.bool.injEq, AV.l1.injEq, AV.l2.injEq, AV.l3.injEq, true_and, and_true]) (by simp only [killL, killA, killAs, killT_srcB, killAs_bsV, qOf, rmT, killH, killT_e, List.filter_cons, List.filter_nil, List.contains_cons, List.contains_nil, Bool.or_false, Bool.or_true, Bool.false_and, Bool.not_true, Bool.not_false, Bool.false_eq_true, if_true, if_false, sortH, insH, rnHs, rnH, rnT_e, rnT_srcB, rn, rns, rns_bsV, sw, List.map_cons, List.map_nil, seval]))) ?_
 refine gC fun K hK => ?_
 refine fcall_box (hF) (by simp [Aw.ids]) (by simp [find]) (by simp [closedT, killT_e, killAs, killA, outQ, Aw.ids]) (by simp [killAs, killA, outQ, Aw.ids]) (by simp [Aw.ids]) ?_; simp only [Aw.ids, List.map_cons, List.map_nil, List.filter_cons, List.filter_nil, List.contains_cons, List.contains_nil, Bool.or_false, Bool.or_true, Bool.not_true, Bool.not_false, Nat.reduceBEq, Bool.false_eq_true, if_true, if_false, List.cons_append, List.nil_append]; simp only [go_sem, seval]
 refine fcall_box (hA) (by simp [Aw.ids]) (by simp [find]) (by simp [closedT, killT_e, killAs, killA, outQ, Aw.ids]) (by simp [killAs, killA, outQ, Aw.ids]) (by simp [Aw.ids]) ?_; simp only [Aw.ids, List.map_cons, List.map_nil, List.filter_cons, List.filter_nil, List.contains_cons, List.contains_nil, Bool.or_false, Bool.or_true, Bool.not_true, Bool.not_false, Nat.reduceBEq, Bool.false_eq_true, if_true, if_false, List.cons_append, List.nil_append]; simp only [go_sem, seval]
 refine hK _ ?_; clear hK K
 exact ats_ret ⟨.inr rfl, .agg [.l3 t], by simp only [resL, resA, go_sem, seval], rfl⟩
theorem DrawGradingGroup_ok (c : List Int) (hc : CodeOk c) : ∃ (t : Cu), t.length ≤ 10 ∧ PureCall Tryd.prog 6 [.lv (bsV c)] (.agg [.l3 t]) := by
 obtain ⟨t, lt, h⟩ := DrawAdjointOf_ok c hc
 refine ⟨t, lt, ?_⟩
 refine PureCall.introR (n := 5) (rs := [.cell 2 26]) Tryd.call6 Tryd.func6 rfl rfl rfl (by simp only [List.length_cons, List.length_nil]; omega) (fun cx hcx hrd => ats_of ?_); simp only [argSlots, Nat.zero_add, Nat.reduceAdd]
 refine gB ?_
 refine gC fun K hK => ?_
 refine fcall_data (h) (by first | rfl | simp only [areData, Aw.isData, areData_bsV, Bool.and_true]) ?_; simp only [go_sem, seval]
 refine hK _ ?_; clear hK K
 exact ats_ret ⟨.inr rfl, .agg [.l3 t], by simp only [resL, resA, go_sem, seval], rfl⟩
end Go.Proofs.YtjcfefgbieeheaaDoor
