import Derived.Test.YtaijdhkjemffhaaIj
import Derived.Test.YtaijdhkjemffhaaWx1
import Derived.Test.YtaijdhkjemffhaaBr
import Derived.Test.YtaijdhkjemffhaaRows
import Derived.WalkKit
import Derived.ProofKit
import Derived.OpenShut
import Derived.JoinedOf
set_option linter.unusedSimpArgs false
set_option linter.unusedVariables false
namespace Go.Proofs.Ytaijdhkjemffhaa.FnExactFirstBraiding
open Go Go.Aw Go.Pl Go.ChangeShapes Go.WideShapes Go.ChangeAt Go.RowKit
theorem law_ok (cO : List Int) (cM : Int) (cW : List (List (List Int))) : PureCall Try.prog 4 [.agg [.l1 cO, .int cM, .l3 cW]] (.bool true) := by
  refine PureCall.intro (n := 96) (rs := [.tmp 2]) Try.call4 Try.func4 rfl rfl rfl (by simp only [List.length_cons, List.length_nil]; omega) (fun cx hcx => ats_of ?_); simp only [argSlots, Nat.zero_add, Nat.reduceAdd]
  (repeat refine ats_seq ?_); refine ats_go (fix0 hcx) fun K hK => ?_; simp only [go_sem, seval]; refine hK _ ?_; clear hK K
  (repeat refine ats_seq ?_); refine ats_go (fix0 hcx) fun K hK => ?_; simp only [go_sem, seval]; refine hK _ ?_; clear hK K
  have hs0 := szCoc_ok cO cM cW (1048576) (by omega)
  have ho0 := szK_ok cO cM cW (1048576) (by omega)
  (repeat refine ats_seq ?_); refine ats_go (fix0 hcx) fun K hK => ?_; simp only [go_sem, seval]
  first | refine fcall_free rfl rfl (hs0) ?_ | refine YR_intro (acall_free rfl rfl (hs0)) ?_
  simp only [go_sem, seval]
  refine hK _ ?_; clear hK K
  (repeat refine ats_seq ?_); refine ats_go (fix0 hcx) fun K hK => ?_; simp only [go_sem, seval]; refine hK _ ?_; clear hK K
  (repeat refine ats_seq ?_); first | refine ats_ifn (p := _) rfl trivial (fun h0 => ?_) (fun h0 => ?_) | refine ats_ifp (p := _) rfl trivial (fun h0 => ?_) (fun h0 => ?_) | refine ats_cond rfl trivial (fun h0 => ?_) (fun h0 => ?_)
  · (repeat refine ats_seq ?_); refine ats_go (fix0 hcx) fun K hK => ?_; simp only [go_sem, seval]; refine hK _ ?_; clear hK K
    refine ats_ret (finB rfl ?_)
    rfl
  · skip
    refine ats_skip ?_
    obtain ⟨sm0, tt0⟩ := szK_small (l := 1048576) (by omega) h0 (by omega)
    have k0 := toCoc_ok cO cM cW sm0
    obtain ⟨uO, uM, uW, uC, c, ks, ki, smu⟩ := brRes (specFb_ok cO cM cW sm0.1) (implFb_ok cO cM cW sm0.1) (fbA_shape cO cM cW sm0.1)
    (repeat refine ats_seq ?_)
    first | refine ats_go (fix0 hcx) fun K hK => ?_ | refine ats_pick (fix0 hcx) mixed (by as_aux_lemma => kernel_rfl) fun K hK => ?_
    simp only [go_sem, seval]
    first | refine fcall_fresh rfl (k0) ?_ | refine YR_intro (acall_fresh rfl (k0)) ?_
    simp only [go_sem, seval]
    first | refine fcall_data (ks) rfl ?_ | refine YR_intro (acall_data (ks) rfl) ?_
    simp only [go_sem, seval]
    refine hK _ ?_; clear hK K
    (repeat refine ats_seq ?_); refine ats_go (fix0 hcx) fun K hK => ?_; simp only [go_sem, seval]
    refine fcall_own rfl (k0) rfl ?_; simp only [go_sem, seval]
    refine hK _ ?_; clear hK K
    (repeat refine ats_seq ?_); refine ats_go (fix0 hcx) fun K hK => ?_; simp only [go_sem, seval]
    refine fcall_own rfl (ki) rfl ?_; simp only [go_sem, seval]
    refine hK _ ?_; clear hK K
    have keq : PureCall Try.prog 12 [.agg [.l1 uO, .int uM, .l3 uW, .l2 uC], .agg [.l1 uO, .int uM, .l3 uW, .l2 uC]] (.bool true) := by simpa using eqBraiding_ok uO uM uW uC uO uM uW uC
    have ke0 : PureCall Try.prog 9 [.agg [.l1 cO, .int cM, .l3 cW], .agg [.l1 cO, .int cM, .l3 cW]] (.bool true) := by simpa using eqCocycle_ok cO cM cW cO cM cW
    (repeat refine ats_seq ?_); refine ats_go (fix0 hcx) fun K hK => ?_; simp only [go_sem, seval]
    first | refine fcall_free rfl rfl (keq) ?_ | refine YR_intro (acall_free rfl rfl (keq)) ?_
    simp only [go_sem, seval]
    refine hK _ ?_; clear hK K
    (repeat refine ats_seq ?_); first | refine ats_ifn (p := _) rfl trivial (fun hx => ?_) (fun hx => ?_) | refine ats_ifp (p := _) rfl trivial (fun hx => ?_) (fun hx => ?_) | refine ats_cond rfl trivial (fun hx => ?_) (fun hx => ?_)
    · simp at hx
    refine ats_skip ?_
    (repeat refine ats_seq ?_)
    first | refine ats_go (fix0 hcx) fun K hK => ?_ | refine ats_pick (fix0 hcx) mixed (by as_aux_lemma => kernel_rfl) fun K hK => ?_
    simp only [go_sem, seval]
    first | refine fcall_fresh rfl (k0) ?_ | refine YR_intro (acall_fresh rfl (k0)) ?_
    simp only [go_sem, seval]
    first | refine fcall_free rfl rfl (ke0) ?_ | refine YR_intro (acall_free rfl rfl (ke0)) ?_
    simp only [go_sem, seval]
    refine hK _ ?_; clear hK K
    (repeat refine ats_seq ?_); refine ats_no rfl trivial ?_
    refine ats_skip ?_
    (repeat refine ats_seq ?_); refine ats_go (fix0 hcx) fun K hK => ?_; simp only [go_sem, seval]; refine hK _ ?_; clear hK K
    (repeat refine ats_seq ?_); refine ats_go (fix0 hcx) fun K hK => ?_; simp only [go_sem, seval]
    refine fcall_turn (fun i => i + 2) (markCoc_ok cO cM cW (1) (by omega) (by omega)) rfl rfl rfl (by simp [Aw.ids]) (by simp [find]) ?_; simp only [Aw.ids, renT, List.map_cons, List.map_nil]; simp only [go_sem, seval]
    refine hK _ ?_; clear hK K
    (repeat refine ats_seq ?_); refine ats_go (fix0 hcx) fun K hK => ?_; simp only [go_sem, seval]
    first | refine YR_intro (fun _ => acall_free rfl rfl (keq)) ?_ | refine YR_intro (acall_free rfl rfl (keq)) ?_
    simp only [go_sem, seval]
    refine hK _ ?_; clear hK K
    (repeat refine ats_seq ?_); first | refine ats_ifn (p := _) rfl trivial (fun hx1 => ?_) (fun hx1 => ?_) | refine ats_ifp (p := _) rfl trivial (fun hx1 => ?_) (fun hx1 => ?_) | refine ats_cond rfl trivial (fun hx1 => ?_) (fun hx1 => ?_)
    · simp at hx1; omega
    refine ats_skip ?_
    (repeat refine ats_seq ?_); refine ats_go (fix0 hcx) fun K hK => ?_; simp only [go_sem, seval]; refine hK _ ?_; clear hK K
    (repeat refine ats_seq ?_); refine ats_go (fix0 hcx) fun K hK => ?_; simp only [go_sem, seval]
    refine fcall_turn (fun i => i + 5) (markBraiding_ok uO uM uW uC 1 (by decide) (by omega)) rfl rfl rfl (by simp [Aw.ids]) (by simp [find]) ?_; simp only [Aw.ids, renT, List.map_cons, List.map_nil]; simp only [go_sem, seval]
    refine hK _ ?_; clear hK K
    (repeat refine ats_seq ?_); refine ats_go (fix0 hcx) fun K hK => ?_; simp only [go_sem, seval]; refine hK _ ?_; clear hK K
    (repeat refine ats_seq ?_); refine ats_go (fix0 hcx) fun K hK => ?_; simp only [go_sem, seval]
    first | refine fcall_free rfl rfl (heldBraiding_ok uO uM uW uC 1 (by decide) (by omega)) ?_ | refine YR_intro (acall_free rfl rfl (heldBraiding_ok uO uM uW uC 1 (by decide) (by omega))) ?_
    simp only [go_sem, seval]
    refine hK _ ?_; clear hK K
    (repeat refine ats_seq ?_); refine ats_go (fix0 hcx) fun K hK => ?_; simp only [go_sem, seval]; refine hK _ ?_; clear hK K
    (repeat refine ats_seq ?_); first | refine ats_ifn (p := _) rfl trivial (fun hx2 => ?_) (fun hx2 => ?_) | refine ats_ifp (p := _) rfl trivial (fun hx2 => ?_) (fun hx2 => ?_) | refine ats_cond rfl trivial (fun hx2 => ?_) (fun hx2 => ?_)
    · omega
    refine ats_skip ?_
    (repeat refine ats_seq ?_); refine ats_go (fix0 hcx) fun K hK => ?_; simp only [go_sem, seval]; refine hK _ ?_; clear hK K
    (repeat refine ats_seq ?_); first | refine ats_ifn (p := _) rfl trivial (fun hx3 => ?_) (fun hx3 => ?_) | refine ats_ifp (p := _) rfl trivial (fun hx3 => ?_) (fun hx3 => ?_) | refine ats_cond rfl trivial (fun hx3 => ?_) (fun hx3 => ?_)
    · exact absurd trivial hx3
    refine ats_skip ?_
    (repeat refine ats_seq ?_)
    first | refine ats_go (fix0 hcx) fun K hK => ?_ | refine ats_pick (fix0 hcx) mixed (by as_aux_lemma => kernel_rfl) fun K hK => ?_
    simp only [go_sem, seval]
    first | refine fcall_fresh rfl (k0) ?_ | refine YR_intro (acall_fresh rfl (k0)) ?_
    simp only [go_sem, seval]
    first | refine fcall_fresh rfl (ki) ?_ | refine YR_intro (acall_fresh rfl (ki)) ?_
    simp only [go_sem, seval]
    refine hK _ ?_; clear hK K
    (repeat refine ats_seq ?_); refine ats_go (fix0 hcx) fun K hK => ?_; simp only [go_sem, seval]
    first | refine fcall_data (keq) rfl ?_ | refine YR_intro (acall_data (keq) rfl) ?_
    simp only [go_sem, seval]
    refine hK _ ?_; clear hK K
    (repeat refine ats_seq ?_); first | refine ats_ifn (p := _) rfl trivial (fun hx4 => ?_) (fun hx4 => ?_) | refine ats_ifp (p := _) rfl trivial (fun hx4 => ?_) (fun hx4 => ?_) | refine ats_cond rfl trivial (fun hx4 => ?_) (fun hx4 => ?_)
    · simp at hx4
    refine ats_skip ?_
    (repeat refine ats_seq ?_); refine ats_go (fix0 hcx) fun K hK => ?_; simp only [go_sem, seval]; refine hK _ ?_; clear hK K
    (repeat refine ats_seq ?_); refine ats_go (fix0 hcx) fun K hK => ?_; simp only [go_sem, seval]
    first | refine fcall_free rfl rfl (heldBraiding_ok uO uM uW uC 1 (by decide) (by omega)) ?_ | refine YR_intro (acall_free rfl rfl (heldBraiding_ok uO uM uW uC 1 (by decide) (by omega))) ?_
    simp only [go_sem, seval]
    refine hK _ ?_; clear hK K
    (repeat refine ats_seq ?_); refine ats_go (fix0 hcx) fun K hK => ?_; simp only [go_sem, seval]; refine hK _ ?_; clear hK K
    (repeat refine ats_seq ?_); first | refine ats_ifn (p := _) rfl trivial (fun hx5 => ?_) (fun hx5 => ?_) | refine ats_ifp (p := _) rfl trivial (fun hx5 => ?_) (fun hx5 => ?_) | refine ats_cond rfl trivial (fun hx5 => ?_) (fun hx5 => ?_)
    · omega
    refine ats_skip ?_
    (repeat refine ats_seq ?_); refine ats_go (fix0 hcx) fun K hK => ?_; simp only [go_sem, seval]; refine hK _ ?_; clear hK K
    (repeat refine ats_seq ?_); first | refine ats_ifn (p := _) rfl trivial (fun hx6 => ?_) (fun hx6 => ?_) | refine ats_ifp (p := _) rfl trivial (fun hx6 => ?_) (fun hx6 => ?_) | refine ats_cond rfl trivial (fun hx6 => ?_) (fun hx6 => ?_)
    · exact absurd trivial hx6
    refine ats_skip ?_
    (repeat refine ats_seq ?_); refine ats_go (fix0 hcx) fun K hK => ?_; simp only [go_sem, seval]; refine hK _ ?_; clear hK K
    refine ats_ret (finB rfl ?_)
    rfl
theorem own : ownKnob Try.prog.godebug = none := by kernel_rfl
set_option maxRecDepth 100000 in
theorem contract (H : Type) (enc : TypeId × Value → H) (W : World) (base : Nat) (args : Array Value) (ds gs : List (DataW H)) (before : List MemPlace)
    (hval : ∀ (j : Nat) t v, Try.f4.params[j]? = some t → args[j]? = some v → Value.okWide Try.prog W .any base t v)
    (hW : DataW.Whole enc Try.prog Try.f4.params.toList Rows.fnExactFirstBraidingSpec.vars false W args.toList ds gs before) :
    Calls Try.prog 4 args W fun e W' => ∃ v, e = .returned v ∧ Rows.fnExactFirstBraidingSpec.post enc Try.prog Try.f4 false true false false W args v W' := by
  have hW' := hW
  obtain ⟨p, q, hA0, hV, rfl, hfz, hnd⟩ := hW
  have hA : DataW.TrodAll enc Try.prog W 0 (fun _ => true) true Try.f4.params.toList args.toList ds p := hA0
  rw [Try.params4] at hA hval
  obtain ⟨v0, vs0, d0, ds0, p0, q0, hargs, rfl, rfl, h0, r0⟩ := trodAll_cons hA
  obtain ⟨rfl, rfl, rfl⟩ := trodAll_nil r0
  obtain rfl : args = #[v0] := by cases args; simp_all
  obtain ⟨rfl, rfl⟩ := trodVars_none hV
  obtain ⟨cO, cM, cW, g0⟩ := rdCocycle (hval 0 _ v0 rfl rfl) h0
  refine ((law_ok cO cM cW).runs [v0] W (lower W) (fun b hb => hb) ⟨g0, trivial⟩).mono fun e W' ⟨v, he, hx, hr⟩ => ⟨v, he, ?_⟩
  simp only [Rd, rep] at hr
  subst hr
  exact law_post (tb := 4) (by kernel_rfl) rfl (by kernel_rfl) Try.underlying4 (by kernel_rfl) hW' rfl rfl rfl hx
set_option maxHeartbeats 0 in
set_option maxRecDepth 100000 in
theorem lifted (os : Os) (started : os.Started) (H : Type) (enc : TypeId × Value → H) :
    ReturnsInHanded {} Try.checked os 4 .any (Rows.fnExactFirstBraidingSpec.pre6 enc Try.prog Try.f4 Rows.fnExactFirstBraidingRow.domain false) (Rows.fnExactFirstBraidingSpec.post enc Try.prog Try.f4 false true false false) :=
  returnsInHanded_of_change (C := Try.checked) own started (by as_aux_lemma => kernel_rfl) Try.func4
    (ChangeSpec.witness6 (C := Try.checked) false ⟨#[], #[.agg #[.slice none 0 0, .int .i64 0, .slice none 0 0]], []⟩ 8 (by as_aux_lemma => kernel_rfl) (by as_aux_lemma => kernel_rfl) (by as_aux_lemma => kernel_rfl) (by as_aux_lemma => kernel_rfl) (by as_aux_lemma => kernel_rfl))
    (fun W base args ds gs before hval hW _ _ => contract H enc W base args ds gs before hval hW)
set_option maxHeartbeats 0 in
theorem over : Rows.fnExactFirstBraidingRow.holds Try.pinned (OpenSpec.ofChange Rows.fnExactFirstBraidingSpec) :=
  OpenClaim.holds_of_wide 4 Try.f4 rfl rfl rfl rfl rfl rfl rfl ⟨rfl, rfl, rfl, rfl, rfl⟩ rfl rfl rfl rfl rfl (by as_aux_lemma => kernel_rfl) Try.func4 (by as_aux_lemma => kernel_rfl)
    (of_decide_eq_true (by as_aux_lemma => kernel_rfl)) (by unfold Func.isWrapper; first | (rw [if_pos (by decide +kernel)]; as_aux_lemma => kernel_rfl) | (rw [if_neg (by decide +kernel)]; exact ⟨rfl, rfl⟩))
    (fun os started H enc _ => lifted os started H enc)
theorem proved : Rows.FnExactFirstBraidingSaid := over
end Go.Proofs.Ytaijdhkjemffhaa.FnExactFirstBraiding
