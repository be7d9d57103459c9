import Derived.Test.YtaijdhkjemffhaaIf
import Derived.Test.YtaijdhkjemffhaaIh
import Derived.Test.YtaijdhkjemffhaaWx1
import Derived.Test.YtaijdhkjemffhaaBr
import Derived.Test.YtaijdhkjemffhaaRows
import Derived.WalkKit
import Derived.ProofKit
import Derived.OpenShut
import Derived.JoinedOf
set_option linter.unusedSimpArgs false
set_option linter.unusedVariables false
namespace Go.Proofs.Ytaijdhkjemffhaa.FnExactCountBraidings
open Go Go.Aw Go.Pl Go.ChangeShapes Go.WideShapes Go.ChangeAt Go.RowKit
theorem law_ok (cO : List Int) (cM : Int) (cW : List (List (List Int))) : PureCall Try.prog 3 [.agg [.l1 cO, .int cM, .l3 cW]] (.bool true) := by
  refine PureCall.intro (n := 40) (rs := [.tmp 2]) Try.call3 Try.func3 rfl rfl rfl (by simp only [List.length_cons, List.length_nil]; omega) (fun cx hcx => ats_of ?_); simp only [argSlots, Nat.zero_add, Nat.reduceAdd]
  (repeat refine ats_seq ?_); refine ats_go (fix0 hcx) fun K hK => ?_; simp only [go_sem, seval]; refine hK _ ?_; clear hK K
  (repeat refine ats_seq ?_); refine ats_go (fix0 hcx) fun K hK => ?_; simp only [go_sem, seval]; refine hK _ ?_; clear hK K
  have hs0 := szCoc_ok cO cM cW (1048576) (by omega)
  have ho0 := szK_ok cO cM cW (1048576) (by omega)
  (repeat refine ats_seq ?_); refine ats_go (fix0 hcx) fun K hK => ?_; simp only [go_sem, seval]
  first | refine fcall_free rfl rfl (hs0) ?_ | refine YR_intro (acall_free rfl rfl (hs0)) ?_
  simp only [go_sem, seval]
  refine hK _ ?_; clear hK K
  (repeat refine ats_seq ?_); refine ats_go (fix0 hcx) fun K hK => ?_; simp only [go_sem, seval]; refine hK _ ?_; clear hK K
  (repeat refine ats_seq ?_); first | refine ats_ifn (p := _) rfl trivial (fun h0 => ?_) (fun h0 => ?_) | refine ats_ifp (p := _) rfl trivial (fun h0 => ?_) (fun h0 => ?_) | refine ats_cond rfl trivial (fun h0 => ?_) (fun h0 => ?_)
  · (repeat refine ats_seq ?_); refine ats_go (fix0 hcx) fun K hK => ?_; simp only [go_sem, seval]; refine hK _ ?_; clear hK K
    refine ats_ret (finB rfl ?_)
    rfl
  · skip
    refine ats_skip ?_
    obtain ⟨sm0, tt0⟩ := szK_small (l := 1048576) (by omega) h0 (by omega)
    have k0 := toCoc_ok cO cM cW sm0
    have ks := specCount_ok cO cM cW sm0.1
    have ki := implCount_ok cO cM cW sm0.1
    (repeat refine ats_seq ?_)
    first | refine ats_go (fix0 hcx) fun K hK => ?_ | refine ats_pick (fix0 hcx) mixed (by as_aux_lemma => kernel_rfl) fun K hK => ?_
    simp only [go_sem, seval]
    first | refine fcall_fresh rfl (k0) ?_ | refine YR_intro (acall_fresh rfl (k0)) ?_
    simp only [go_sem, seval]
    first | refine fcall_data (ks) rfl ?_ | refine YR_intro (acall_data (ks) rfl) ?_
    simp only [go_sem, seval]
    refine hK _ ?_; clear hK K
    (repeat refine ats_seq ?_); refine ats_go (fix0 hcx) fun K hK => ?_; simp only [go_sem, seval]
    refine fcall_own rfl (k0) rfl ?_; simp only [go_sem, seval]
    refine hK _ ?_; clear hK K
    (repeat refine ats_seq ?_); refine ats_go (fix0 hcx) fun K hK => ?_; simp only [go_sem, seval]
    first | refine fcall_free rfl rfl (ki) ?_ | refine YR_intro (acall_free rfl rfl (ki)) ?_
    simp only [go_sem, seval]
    refine hK _ ?_; clear hK K
    have ke0 : PureCall Try.prog 9 [.agg [.l1 cO, .int cM, .l3 cW], .agg [.l1 cO, .int cM, .l3 cW]] (.bool true) := by simpa using eqCocycle_ok cO cM cW cO cM cW
    (repeat refine ats_seq ?_); refine ats_go (fix0 hcx) fun K hK => ?_; simp only [go_sem, seval]; refine hK _ ?_; clear hK K
    (repeat refine ats_seq ?_); first | refine ats_ifn (p := _) rfl trivial (fun hx => ?_) (fun hx => ?_) | refine ats_ifp (p := _) rfl trivial (fun hx => ?_) (fun hx => ?_) | refine ats_cond rfl trivial (fun hx => ?_) (fun hx => ?_)
    · simp at hx
    refine ats_skip ?_
    (repeat refine ats_seq ?_)
    first | refine ats_go (fix0 hcx) fun K hK => ?_ | refine ats_pick (fix0 hcx) mixed (by as_aux_lemma => kernel_rfl) fun K hK => ?_
    simp only [go_sem, seval]
    first | refine fcall_fresh rfl (k0) ?_ | refine YR_intro (acall_fresh rfl (k0)) ?_
    simp only [go_sem, seval]
    first | refine fcall_free rfl rfl (ke0) ?_ | refine YR_intro (acall_free rfl rfl (ke0)) ?_
    simp only [go_sem, seval]
    refine hK _ ?_; clear hK K
    (repeat refine ats_seq ?_); refine ats_no rfl trivial ?_
    refine ats_skip ?_
    (repeat refine ats_seq ?_); refine ats_go (fix0 hcx) fun K hK => ?_; simp only [go_sem, seval]; refine hK _ ?_; clear hK K
    refine ats_ret (finB rfl ?_)
    rfl
theorem own : ownKnob Try.prog.godebug = none := by kernel_rfl
set_option maxRecDepth 100000 in
theorem contract (H : Type) (enc : TypeId × Value → H) (W : World) (base : Nat) (args : Array Value) (ds gs : List (DataW H)) (before : List MemPlace)
    (hval : ∀ (j : Nat) t v, Try.f3.params[j]? = some t → args[j]? = some v → Value.okWide Try.prog W .any base t v)
    (hW : DataW.Whole enc Try.prog Try.f3.params.toList Rows.fnExactCountBraidingsSpec.vars false W args.toList ds gs before) :
    Calls Try.prog 3 args W fun e W' => ∃ v, e = .returned v ∧ Rows.fnExactCountBraidingsSpec.post enc Try.prog Try.f3 false true false false W args v W' := by
  have hW' := hW
  obtain ⟨p, q, hA0, hV, rfl, hfz, hnd⟩ := hW
  have hA : DataW.TrodAll enc Try.prog W 0 (fun _ => true) true Try.f3.params.toList args.toList ds p := hA0
  rw [Try.params3] at hA hval
  obtain ⟨v0, vs0, d0, ds0, p0, q0, hargs, rfl, rfl, h0, r0⟩ := trodAll_cons hA
  obtain ⟨rfl, rfl, rfl⟩ := trodAll_nil r0
  obtain rfl : args = #[v0] := by cases args; simp_all
  obtain ⟨rfl, rfl⟩ := trodVars_none hV
  obtain ⟨cO, cM, cW, g0⟩ := rdCocycle (hval 0 _ v0 rfl rfl) h0
  refine ((law_ok cO cM cW).runs [v0] W (lower W) (fun b hb => hb) ⟨g0, trivial⟩).mono fun e W' ⟨v, he, hx, hr⟩ => ⟨v, he, ?_⟩
  simp only [Rd, rep] at hr
  subst hr
  exact law_post (tb := 4) (by kernel_rfl) rfl (by kernel_rfl) Try.underlying4 (by kernel_rfl) hW' rfl rfl rfl hx
set_option maxHeartbeats 0 in
set_option maxRecDepth 100000 in
theorem lifted (os : Os) (started : os.Started) (H : Type) (enc : TypeId × Value → H) :
    ReturnsInHanded {} Try.checked os 3 .any (Rows.fnExactCountBraidingsSpec.pre6 enc Try.prog Try.f3 Rows.fnExactCountBraidingsRow.domain false) (Rows.fnExactCountBraidingsSpec.post enc Try.prog Try.f3 false true false false) :=
  returnsInHanded_of_change (C := Try.checked) own started (by as_aux_lemma => kernel_rfl) Try.func3
    (ChangeSpec.witness6 (C := Try.checked) false ⟨#[], #[.agg #[.slice none 0 0, .int .i64 0, .slice none 0 0]], []⟩ 8 (by as_aux_lemma => kernel_rfl) (by as_aux_lemma => kernel_rfl) (by as_aux_lemma => kernel_rfl) (by as_aux_lemma => kernel_rfl) (by as_aux_lemma => kernel_rfl))
    (fun W base args ds gs before hval hW _ _ => contract H enc W base args ds gs before hval hW)
set_option maxHeartbeats 0 in
theorem over : Rows.fnExactCountBraidingsRow.holds Try.pinned (OpenSpec.ofChange Rows.fnExactCountBraidingsSpec) :=
  OpenClaim.holds_of_wide 3 Try.f3 rfl rfl rfl rfl rfl rfl rfl ⟨rfl, rfl, rfl, rfl, rfl⟩ rfl rfl rfl rfl rfl (by as_aux_lemma => kernel_rfl) Try.func3 (by as_aux_lemma => kernel_rfl)
    (of_decide_eq_true (by as_aux_lemma => kernel_rfl)) (by unfold Func.isWrapper; first | (rw [if_pos (by decide +kernel)]; as_aux_lemma => kernel_rfl) | (rw [if_neg (by decide +kernel)]; exact ⟨rfl, rfl⟩))
    (fun os started H enc _ => lifted os started H enc)
theorem proved : Rows.FnExactCountBraidingsSaid := over
end Go.Proofs.Ytaijdhkjemffhaa.FnExactCountBraidings
