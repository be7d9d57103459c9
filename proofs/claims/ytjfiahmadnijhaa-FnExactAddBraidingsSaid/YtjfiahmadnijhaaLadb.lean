/-
  The program's AddBraidings returns what the reference's returns, for all arguments. Conditions: none.
-/
import Derived.Test.YtjfiahmadnijhaaHr
import Derived.Test.YtjfiahmadnijhaaLib6
import Derived.Test.YtjfiahmadnijhaaWx1
import Derived.Test.YtjfiahmadnijhaaBr
import Derived.Test.YtjfiahmadnijhaaRows
import Derived.WalkKit
import Derived.ProofKit
import Derived.OpenShut
import Derived.JoinedOf
set_option linter.unusedSimpArgs false
set_option linter.unusedVariables false
namespace Go.Proofs.Ytjfiahmadnijhaa.FnExactAddBraidings
open Go Go.Aw Go.Pl Go.ChangeShapes Go.WideShapes Go.ChangeAt Go.RowKit
attribute [local go_sem] pl_fin pl_stop pl_one pl_alt PK_ap pickO List.getElem?_toArray List.getElem?_cons_zero List.getElem?_cons_succ

theorem law_ok (aO : List Int) (aM : Int) (aW : List (List (List Int))) (aC : List (List Int)) (bO : List Int) (bM : Int) (bW : List (List (List Int))) (bC : List (List Int)) : PureCall Try.prog 3 [.agg [.l1 aO, .int aM, .l3 aW, .l2 aC], .agg [.l1 bO, .int bM, .l3 bW, .l2 bC]] (.bool true) := by
  refine PureCall.intro (n := 119) (rs := [.tmp 4]) Try.call3 Try.func3 rfl rfl rfl (by simp only [List.length_cons, List.length_nil]; omega) (fun cx hcx => ats_of ?_); simp only [argSlots, Nat.zero_add, Nat.reduceAdd]
  (repeat refine ats_seq ?_); refine ats_go (fix0 hcx) fun K hK => ?_; simp only [go_sem, seval]; refine hK _ ?_; clear hK K
  (repeat refine ats_seq ?_); refine ats_go (fix0 hcx) fun K hK => ?_; simp only [go_sem, seval]; refine hK _ ?_; clear hK K
  have hs0 := szBraiding_ok aO aM aW aC (1048576) (by omega)
  have ho0 := szB_ok aO aM aW aC (1048576) (by omega)
  (repeat refine ats_seq ?_); refine ats_go (fix0 hcx) fun K hK => ?_; simp only [go_sem, seval]
  first | refine fcall_free rfl rfl (hs0) ?_ | refine YR_intro (acall_free rfl rfl (hs0)) ?_
  simp only [go_sem, seval]
  refine hK _ ?_; clear hK K
  (repeat refine ats_seq ?_); refine ats_go (fix0 hcx) fun K hK => ?_; simp only [go_sem, seval]; refine hK _ ?_; clear hK K
  (repeat refine ats_seq ?_); first | refine ats_ifn (p := _) rfl trivial (fun h0 => ?_) (fun h0 => ?_) | refine ats_ifp (p := _) rfl trivial (fun h0 => ?_) (fun h0 => ?_) | refine ats_cond rfl trivial (fun h0 => ?_) (fun h0 => ?_)
  · (repeat refine ats_seq ?_); refine ats_go (fix0 hcx) fun K hK => ?_; simp only [go_sem, seval]; refine hK _ ?_; clear hK K
    refine ats_ret (finB rfl ?_)
    rfl
  · skip
    refine ats_skip ?_
    have hs1 := szBraiding_ok bO bM bW bC (szB aO aM aW aC 1048576) (by omega)
    have ho1 := szB_ok bO bM bW bC (szB aO aM aW aC 1048576) (by omega)
    (repeat refine ats_seq ?_); refine ats_go (fix0 hcx) fun K hK => ?_; simp only [go_sem, seval]
    first | refine fcall_free rfl rfl (hs1) ?_ | refine YR_intro (acall_free rfl rfl (hs1)) ?_
    simp only [go_sem, seval]
    refine hK _ ?_; clear hK K
    (repeat refine ats_seq ?_); refine ats_go (fix0 hcx) fun K hK => ?_; simp only [go_sem, seval]; refine hK _ ?_; clear hK K
    (repeat refine ats_seq ?_); first | refine ats_ifn (p := _) rfl trivial (fun h1 => ?_) (fun h1 => ?_) | refine ats_ifp (p := _) rfl trivial (fun h1 => ?_) (fun h1 => ?_) | refine ats_cond rfl trivial (fun h1 => ?_) (fun h1 => ?_)
    · (repeat refine ats_seq ?_); refine ats_go (fix0 hcx) fun K hK => ?_; simp only [go_sem, seval]; refine hK _ ?_; clear hK K
      refine ats_ret (finB rfl ?_)
      rfl
    · skip
      refine ats_skip ?_
      obtain ⟨sm0, tt0⟩ := szB_small (l := 1048576) (by omega) h0 (by omega)
      have k0 := toBraiding_ok aO aM aW aC sm0
      obtain ⟨sm1, tt1⟩ := szB_small (l := szB aO aM aW aC 1048576) (by omega) h1 (by omega)
      have k1 := toBraiding_ok bO bM bW bC sm1
      obtain ⟨uO, uM, uW, uC, c, ks, ki, smu⟩ := brRes (specAb_ok aO aM aW aC bO bM bW bC sm0.1) (implAb_ok aO aM aW aC bO bM bW bC sm0.1) (abA_shape aO aM aW aC bO bM bW bC sm0.1)
      (repeat refine ats_seq ?_)
      refine ats_plan [] (.one 0 (.one 1 (.one 2 (.one 3 (.one 4 (.one 5 (.one 6 (.alt 7 (.alt 8 (.alt 9 (.one 10 .fin) .stop) .stop) (.alt 8 (.alt 7 (.alt 9 (.one 10 .fin) .stop) (.alt 9 (.one 7 (.one 10 .fin)) .stop)) .stop))))))))) ⟨[(2, .bptr 0 0), (3, .bptr 1 0), (6, .bptr 2 0), (7, .int c)], [(0, .bx [.l1 aO, .int aM, .l3 aW, .l2 aC]), (1, .bx [.l1 bO, .int bM, .l3 bW, .l2 bC]), (2, .bx [.l1 uO, .int uM, .l3 uW, .l2 uC])]⟩ (fix0 hcx) mixed (by kernel_rfl) (fun K hK => ?_) ?_
      · simp only [go_sem, seval, Option.getD_some, and_true, true_and, and_self, List.contains_cons, List.contains_nil, Bool.or_false, Bool.or_true]
        repeat' (first | exact hK _ (by refine And.intro ?_ rfl; simp only [SlotsLe, St.get, slotGet, Nat.reduceEqDiff, ↓reduceIte, AV.int.injEq, AV.bool.injEq, AV.l1.injEq, AV.l2.injEq, AV.l3.injEq, true_and, and_true])  | omega | refine And.intro ?_ ?_ | ((first | refine fcall_fresh rfl (k0) ?_ | refine YR_intro (acall_fresh rfl (k0)) ?_); simp only [go_sem, seval, Option.getD_some, and_true, true_and, and_self, List.contains_cons, List.contains_nil, Bool.or_false, Bool.or_true]) | ((first | refine fcall_fresh rfl (k1) ?_ | refine YR_intro (acall_fresh rfl (k1)) ?_); simp only [go_sem, seval, Option.getD_some, and_true, true_and, and_self, List.contains_cons, List.contains_nil, Bool.or_false, Bool.or_true]) | ((first | refine fcall_data (ks) rfl ?_ | refine YR_intro (acall_data (ks) rfl) ?_); simp only [go_sem, seval, Option.getD_some, and_true, true_and, and_self, List.contains_cons, List.contains_nil, Bool.or_false, Bool.or_true]))
      (repeat refine ats_seq ?_); refine ats_go (fix0 hcx) fun K hK => ?_; simp only [go_sem, seval]
      refine fcall_own rfl (k0) rfl ?_; simp only [go_sem, seval]
      refine hK _ ?_; clear hK K
      (repeat refine ats_seq ?_); refine ats_go (fix0 hcx) fun K hK => ?_; simp only [go_sem, seval]
      refine fcall_own rfl (k1) rfl ?_; simp only [go_sem, seval]
      refine hK _ ?_; clear hK K
      (repeat refine ats_seq ?_); refine ats_go (fix0 hcx) fun K hK => ?_; simp only [go_sem, seval]
      refine fcall_own rfl (ki) rfl ?_; simp only [go_sem, seval]
      refine hK _ ?_; clear hK K
      have keq : PureCall Try.prog 8 [.agg [.l1 uO, .int uM, .l3 uW, .l2 uC], .agg [.l1 uO, .int uM, .l3 uW, .l2 uC]] (.bool true) := by simpa using eqBraiding_ok uO uM uW uC uO uM uW uC
      have ke0 : PureCall Try.prog 8 [.agg [.l1 aO, .int aM, .l3 aW, .l2 aC], .agg [.l1 aO, .int aM, .l3 aW, .l2 aC]] (.bool true) := by simpa using eqBraiding_ok aO aM aW aC aO aM aW aC
      have ke1 : PureCall Try.prog 8 [.agg [.l1 bO, .int bM, .l3 bW, .l2 bC], .agg [.l1 bO, .int bM, .l3 bW, .l2 bC]] (.bool true) := by simpa using eqBraiding_ok bO bM bW bC bO bM bW bC
      (repeat refine ats_seq ?_); refine ats_go (fix0 hcx) fun K hK => ?_; simp only [go_sem, seval]
      first | refine fcall_free rfl rfl (keq) ?_ | refine YR_intro (acall_free rfl rfl (keq)) ?_
      simp only [go_sem, seval]
      refine hK _ ?_; clear hK K
      (repeat refine ats_seq ?_); first | refine ats_ifn (p := _) rfl trivial (fun hx => ?_) (fun hx => ?_) | refine ats_ifp (p := _) rfl trivial (fun hx => ?_) (fun hx => ?_) | refine ats_cond rfl trivial (fun hx => ?_) (fun hx => ?_)
      · simp at hx
      refine ats_skip ?_
      (repeat refine ats_seq ?_)
      first | refine ats_go (fix0 hcx) fun K hK => ?_ | refine ats_pick (fix0 hcx) mixed (by as_aux_lemma => kernel_rfl) fun K hK => ?_
      simp only [go_sem, seval]
      first | refine fcall_fresh rfl (k0) ?_ | refine YR_intro (acall_fresh rfl (k0)) ?_
      simp only [go_sem, seval]
      first | refine fcall_free rfl rfl (ke0) ?_ | refine YR_intro (acall_free rfl rfl (ke0)) ?_
      simp only [go_sem, seval]
      refine hK _ ?_; clear hK K
      (repeat refine ats_seq ?_); refine ats_no rfl trivial ?_
      refine ats_skip ?_
      (repeat refine ats_seq ?_)
      first | refine ats_go (fix0 hcx) fun K hK => ?_ | refine ats_pick (fix0 hcx) mixed (by as_aux_lemma => kernel_rfl) fun K hK => ?_
      simp only [go_sem, seval]
      first | refine fcall_fresh rfl (k1) ?_ | refine YR_intro (acall_fresh rfl (k1)) ?_
      simp only [go_sem, seval]
      first | refine fcall_free rfl rfl (ke1) ?_ | refine YR_intro (acall_free rfl rfl (ke1)) ?_
      simp only [go_sem, seval]
      refine hK _ ?_; clear hK K
      (repeat refine ats_seq ?_); refine ats_no rfl trivial ?_
      refine ats_skip ?_
      (repeat refine ats_seq ?_); refine ats_go (fix0 hcx) fun K hK => ?_; simp only [go_sem, seval]; refine hK _ ?_; clear hK K
      (repeat refine ats_seq ?_); refine ats_go (fix0 hcx) fun K hK => ?_; simp only [go_sem, seval]
      refine fcall_turn (fun i => i + 3) (markBraiding_ok aO aM aW aC (1) (by omega) (by omega)) rfl rfl rfl (by simp [Aw.ids]) (by simp [find]) ?_; simp only [Aw.ids, renT, List.map_cons, List.map_nil]; simp only [go_sem, seval]
      refine hK _ ?_; clear hK K
      (repeat refine ats_seq ?_); refine ats_go (fix0 hcx) fun K hK => ?_; simp only [go_sem, seval]
      refine fcall_turn (fun i => i + 7) (markBraiding_ok bO bM bW bC (1 + (totB aO aM aW aC : Nat)) (by omega) (by omega)) rfl rfl rfl (by simp [Aw.ids]) (by simp [find]) ?_; simp only [Aw.ids, renT, List.map_cons, List.map_nil]; simp only [go_sem, seval]
      refine hK _ ?_; clear hK K
      (repeat refine ats_seq ?_); refine ats_go (fix0 hcx) fun K hK => ?_; simp only [go_sem, seval]
      first | refine YR_intro (fun _ => acall_free rfl rfl (keq)) ?_ | refine YR_intro (acall_free rfl rfl (keq)) ?_
      simp only [go_sem, seval]
      refine hK _ ?_; clear hK K
      (repeat refine ats_seq ?_); first | refine ats_ifn (p := _) rfl trivial (fun hx1 => ?_) (fun hx1 => ?_) | refine ats_ifp (p := _) rfl trivial (fun hx1 => ?_) (fun hx1 => ?_) | refine ats_cond rfl trivial (fun hx1 => ?_) (fun hx1 => ?_)
      · simp at hx1; omega
      refine ats_skip ?_
      (repeat refine ats_seq ?_); refine ats_go (fix0 hcx) fun K hK => ?_; simp only [go_sem, seval]; refine hK _ ?_; clear hK K
      (repeat refine ats_seq ?_); refine ats_go (fix0 hcx) fun K hK => ?_; simp only [go_sem, seval]
      refine fcall_turn (fun i => i + 11) (markBraiding_ok uO uM uW uC 1 (by decide) (by omega)) rfl rfl rfl (by simp [Aw.ids]) (by simp [find]) ?_; simp only [Aw.ids, renT, List.map_cons, List.map_nil]; simp only [go_sem, seval]
      refine hK _ ?_; clear hK K
      (repeat refine ats_seq ?_); refine ats_go (fix0 hcx) fun K hK => ?_; simp only [go_sem, seval]; refine hK _ ?_; clear hK K
      (repeat refine ats_seq ?_); refine ats_go (fix0 hcx) fun K hK => ?_; simp only [go_sem, seval]
      first | refine fcall_free rfl rfl (heldBraiding_ok uO uM uW uC 1 (by decide) (by omega)) ?_ | refine YR_intro (acall_free rfl rfl (heldBraiding_ok uO uM uW uC 1 (by decide) (by omega))) ?_
      simp only [go_sem, seval]
      refine hK _ ?_; clear hK K
      (repeat refine ats_seq ?_); refine ats_go (fix0 hcx) fun K hK => ?_; simp only [go_sem, seval]; refine hK _ ?_; clear hK K
      (repeat refine ats_seq ?_); first | refine ats_ifn (p := _) rfl trivial (fun hx2 => ?_) (fun hx2 => ?_) | refine ats_ifp (p := _) rfl trivial (fun hx2 => ?_) (fun hx2 => ?_) | refine ats_cond rfl trivial (fun hx2 => ?_) (fun hx2 => ?_)
      · omega
      refine ats_skip ?_
      (repeat refine ats_seq ?_); refine ats_go (fix0 hcx) fun K hK => ?_; simp only [go_sem, seval]; refine hK _ ?_; clear hK K
      (repeat refine ats_seq ?_); first | refine ats_ifn (p := _) rfl trivial (fun hx3 => ?_) (fun hx3 => ?_) | refine ats_ifp (p := _) rfl trivial (fun hx3 => ?_) (fun hx3 => ?_) | refine ats_cond rfl trivial (fun hx3 => ?_) (fun hx3 => ?_)
      · exact absurd trivial hx3
      refine ats_skip ?_
      (repeat refine ats_seq ?_)
      refine ats_planG [] (.one 0 (.one 1 (.one 2 (.one 3 (.one 4 (.one 5 (.one 6 (.alt 7 (.alt 8 (.alt 9 (.one 10 .fin) .stop) .stop) (.alt 8 (.alt 7 (.alt 9 (.one 10 .fin) .stop) (.alt 9 (.one 7 (.one 10 .fin)) .stop)) .stop))))))))) ⟨[(6, .bptr 2 0), (7, .int c), (10, .bptr 14 0), (13, .int (1 + (totB uO uM uW uC : Nat))), (15, .bptr 15 0), (16, .int c)], [(2, .bx [.l1 uO, .int uM, .l3 uW, .l2 uC]), (11, .t1 (mrk1 uO 1)), (12, .t3 (mrk3 uW (1 + (uO.length : Nat)))), (13, .t2 (mrk2 uC (1 + (totC uO uW : Nat)))), (14, .bx [.ref 11 [], .int uM, .ref 12 [], .ref 13 []]), (15, .bx [.l1 uO, .int uM, .l3 uW, .l2 uC])]⟩ (fix0 hcx) mixed (by kernel_rfl) (fun K hK => ?_) ?_
      · simp only [go_sem, seval, Option.getD_some, and_true, true_and, and_self, List.contains_cons, List.contains_nil, Bool.or_false, Bool.or_true]
        repeat' (first | (refine hK _ (ghost_cd [0, 1, 3, 4, 5, 6, 7, 8, 9, 10] ?_ ?_); (focus (simp only [killL, killA, killAs, qOf, rmT, killH, killT, List.filter_cons, List.filter_nil, List.contains_cons, List.contains_nil, Bool.or_false, Bool.or_true, Bool.false_and, Bool.not_true, Bool.not_false, Bool.false_eq_true, if_true, if_false, rnLs, rnL, rn, rns, sw, SlotsLe, St.get, slotGet, List.map_cons, List.map_nil, seval, AV.int.injEq, AV.bool.injEq, AV.l1.injEq, AV.l2.injEq, AV.l3.injEq, true_and, and_true]; done)); (focus (simp only [killL, killA, killAs, qOf, rmT, killH, killT, List.filter_cons, List.filter_nil, List.contains_cons, List.contains_nil, Bool.or_false, Bool.or_true, Bool.false_and, Bool.not_true, Bool.not_false, Bool.false_eq_true, if_true, if_false, sortH, insH, rnHs, rnH, rnT, rn, rns, sw, List.map_cons, List.map_nil, seval]; done))) | omega | refine And.intro ?_ ?_ | ((first | refine fcall_fresh rfl (k0) ?_ | refine YR_intro (acall_fresh rfl (k0)) ?_); simp only [go_sem, seval, Option.getD_some, and_true, true_and, and_self, List.contains_cons, List.contains_nil, Bool.or_false, Bool.or_true]) | ((first | refine fcall_fresh rfl (k1) ?_ | refine YR_intro (acall_fresh rfl (k1)) ?_); simp only [go_sem, seval, Option.getD_some, and_true, true_and, and_self, List.contains_cons, List.contains_nil, Bool.or_false, Bool.or_true]) | ((first | refine fcall_fresh rfl (ki) ?_ | refine YR_intro (acall_fresh rfl (ki)) ?_); simp only [go_sem, seval, Option.getD_some, and_true, true_and, and_self, List.contains_cons, List.contains_nil, Bool.or_false, Bool.or_true]))
      (repeat refine ats_seq ?_); refine ats_go (fix0 hcx) fun K hK => ?_; simp only [go_sem, seval]
      first | refine fcall_data (keq) rfl ?_ | refine YR_intro (acall_data (keq) rfl) ?_
      simp only [go_sem, seval]
      refine hK _ ?_; clear hK K
      (repeat refine ats_seq ?_); first | refine ats_ifn (p := _) rfl trivial (fun hx4 => ?_) (fun hx4 => ?_) | refine ats_ifp (p := _) rfl trivial (fun hx4 => ?_) (fun hx4 => ?_) | refine ats_cond rfl trivial (fun hx4 => ?_) (fun hx4 => ?_)
      · simp at hx4
      refine ats_skip ?_
      (repeat refine ats_seq ?_); refine ats_go (fix0 hcx) fun K hK => ?_; simp only [go_sem, seval]; refine hK _ ?_; clear hK K
      (repeat refine ats_seq ?_); refine ats_go (fix0 hcx) fun K hK => ?_; simp only [go_sem, seval]
      first | refine fcall_free rfl rfl (heldBraiding_ok uO uM uW uC 1 (by decide) (by omega)) ?_ | refine YR_intro (acall_free rfl rfl (heldBraiding_ok uO uM uW uC 1 (by decide) (by omega))) ?_
      simp only [go_sem, seval]
      refine hK _ ?_; clear hK K
      (repeat refine ats_seq ?_); refine ats_go (fix0 hcx) fun K hK => ?_; simp only [go_sem, seval]; refine hK _ ?_; clear hK K
      (repeat refine ats_seq ?_); first | refine ats_ifn (p := _) rfl trivial (fun hx5 => ?_) (fun hx5 => ?_) | refine ats_ifp (p := _) rfl trivial (fun hx5 => ?_) (fun hx5 => ?_) | refine ats_cond rfl trivial (fun hx5 => ?_) (fun hx5 => ?_)
      · omega
      refine ats_skip ?_
      (repeat refine ats_seq ?_); refine ats_go (fix0 hcx) fun K hK => ?_; simp only [go_sem, seval]; refine hK _ ?_; clear hK K
      (repeat refine ats_seq ?_); first | refine ats_ifn (p := _) rfl trivial (fun hx6 => ?_) (fun hx6 => ?_) | refine ats_ifp (p := _) rfl trivial (fun hx6 => ?_) (fun hx6 => ?_) | refine ats_cond rfl trivial (fun hx6 => ?_) (fun hx6 => ?_)
      · exact absurd trivial hx6
      refine ats_skip ?_
      (repeat refine ats_seq ?_); refine ats_go (fix0 hcx) fun K hK => ?_; simp only [go_sem, seval]; refine hK _ ?_; clear hK K
      refine ats_ret (finB rfl ?_)
      rfl

theorem own : ownKnob Try.prog.godebug = none := by kernel_rfl

set_option maxRecDepth 100000 in
theorem contract (H : Type) (enc : TypeId × Value → H) (W : World) (base : Nat) (args : Array Value) (ds gs : List (DataW H)) (before : List MemPlace)
    (hval : ∀ (j : Nat) t v, Try.f3.params[j]? = some t → args[j]? = some v → Value.okWide Try.prog W .any base t v)
    (hW : DataW.Whole enc Try.prog Try.f3.params.toList Rows.fnExactAddBraidingsSpec.vars false W args.toList ds gs before) :
    Calls Try.prog 3 args W fun e W' => ∃ v, e = .returned v ∧ Rows.fnExactAddBraidingsSpec.post enc Try.prog Try.f3 false true false false W args v W' := by
  have hW' := hW
  obtain ⟨p, q, hA0, hV, rfl, hfz, hnd⟩ := hW
  have hA : DataW.TrodAll enc Try.prog W 0 (fun _ => true) true Try.f3.params.toList args.toList ds p := hA0
  rw [Try.params3] at hA hval
  obtain ⟨v0, vs0, d0, ds0, p0, q0, hargs, rfl, rfl, h0, r0⟩ := trodAll_cons hA
  obtain ⟨v1, vs1, d1, ds1, p1, q1, rfl, rfl, rfl, h1, r1⟩ := trodAll_cons r0
  obtain ⟨rfl, rfl, rfl⟩ := trodAll_nil r1
  obtain rfl : args = #[v0, v1] := by cases args; simp_all
  obtain ⟨rfl, rfl⟩ := trodVars_none hV
  obtain ⟨aO, aM, aW, aC, g0⟩ := rdBraiding (hval 0 _ v0 rfl rfl) h0
  obtain ⟨bO, bM, bW, bC, g1⟩ := rdBraiding (hval 1 _ v1 rfl rfl) h1
  refine ((law_ok aO aM aW aC bO bM bW bC).runs [v0, v1] W (lower W) (fun b hb => hb) ⟨g0, g1, trivial⟩).mono fun e W' ⟨v, he, hx, hr⟩ => ⟨v, he, ?_⟩
  simp only [Rd, rep] at hr
  subst hr
  exact law_post (tb := 4) (by kernel_rfl) rfl (by kernel_rfl) Try.underlying4 (by kernel_rfl) hW' rfl rfl rfl hx

set_option maxHeartbeats 0 in
set_option maxRecDepth 100000 in
theorem lifted (os : Os) (started : os.Started) (H : Type) (enc : TypeId × Value → H) :
    ReturnsInHanded {} Try.checked os 3 .any (Rows.fnExactAddBraidingsSpec.pre6 enc Try.prog Try.f3 Rows.fnExactAddBraidingsRow.domain false) (Rows.fnExactAddBraidingsSpec.post enc Try.prog Try.f3 false true false false) :=
  returnsInHanded_of_change (C := Try.checked) own started (by as_aux_lemma => kernel_rfl) Try.func3
    (ChangeSpec.witness6 (C := Try.checked) false ⟨#[], #[.agg #[.slice none 0 0, .int .i64 0, .slice none 0 0, .slice none 0 0], .agg #[.slice none 0 0, .int .i64 0, .slice none 0 0, .slice none 0 0]], []⟩ 8 (by as_aux_lemma => kernel_rfl) (by as_aux_lemma => kernel_rfl) (by as_aux_lemma => kernel_rfl) (by as_aux_lemma => kernel_rfl) (by as_aux_lemma => kernel_rfl))
    (fun W base args ds gs before hval hW _ _ => contract H enc W base args ds gs before hval hW)

set_option maxHeartbeats 0 in
theorem over : Rows.fnExactAddBraidingsRow.holds Try.pinned (OpenSpec.ofChange Rows.fnExactAddBraidingsSpec) :=
  OpenClaim.holds_of_wide 3 Try.f3 rfl rfl rfl rfl rfl rfl rfl ⟨rfl, rfl, rfl, rfl, rfl⟩ rfl rfl rfl rfl rfl (by as_aux_lemma => kernel_rfl) Try.func3 (by as_aux_lemma => kernel_rfl)
    (of_decide_eq_true (by as_aux_lemma => kernel_rfl)) (by unfold Func.isWrapper; first | (rw [if_pos (by decide +kernel)]; as_aux_lemma => kernel_rfl) | (rw [if_neg (by decide +kernel)]; exact ⟨rfl, rfl⟩))
    (fun os started H enc _ => lifted os started H enc)

theorem proved : Rows.FnExactAddBraidingsSaid := over
end Go.Proofs.Ytjfiahmadnijhaa.FnExactAddBraidings
