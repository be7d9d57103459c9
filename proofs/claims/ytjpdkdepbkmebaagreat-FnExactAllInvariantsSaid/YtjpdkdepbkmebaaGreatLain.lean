/-
 The program's AllInvariants returns what the reference's returns, for all arguments. Conditions: none.
-/
import Derived.Test.YtjpdkdepbkmebaaGreatXd
import Derived.Test.YtjpdkdepbkmebaaGreatDk
import Derived.Test.YtjpdkdepbkmebaaGreatWx1
import Derived.Test.YtjpdkdepbkmebaaGreatBr
import Derived.Test.YtjpdkdepbkmebaaGreatRows
import Derived.WalkKit
import Derived.ProofKit
import Derived.OpenShut
import Derived.JoinedOf
set_option linter.unusedSimpArgs false
set_option linter.unusedVariables false
namespace Go.Proofs.YtjpdkdepbkmebaaGreat.FnExactAllInvariants
open Go Go.Aw Go.Pl Go.ChangeShapes Go.WideShapes Go.ChangeAt Go.RowKit

theorem law_ok (dS : List (List Int)) (dT : List Int) (x : Int) : PureCall Tryz.prog 3 [.agg [.l2 dS, .l1 dT], .int x] (.bool true) := by
 refine PureCall.intro (n := 101) (rs := [.tmp 4]) Tryz.call3 Tryz.func3 rfl rfl rfl (by simp only [List.length_cons, List.length_nil]; omega) (fun cx hcx => ats_of ?_); simp only [argSlots, Nat.zero_add, Nat.reduceAdd]
 refine gA ?_
 refine gA ?_
 have hs0 := szData_ok dS dT (1048576) (by omega)
 have ho0 := szD_ok dS dT (1048576) (by omega)
 refine gC fun K hK => ?_
 first | refine fcall_free rfl rfl (hs0) ?_ | refine YR_intro (acall_free rfl rfl (hs0)) ?_
 simp only [go_sem, seval]
 refine hK _ ?_; clear hK K
 refine gA ?_
 refine gI (fun h0 => ?_) fun h0 => ?_
 ·refine gA ?_
  refine ats_ret (finB rfl ?_)
  rfl
 ·skip
  refine ats_skip ?_
  obtain ⟨sm0, tt0⟩ := szD_small (l := 1048576) (by omega) h0 (by omega)
  have k0 := toData_ok dS dT sm0
  obtain ⟨u, c, ks, ki, smu⟩ := t3Res (specAllI_ok dS dT x) (implAllI_ok dS dT x) (aliA_shape dS dT x)
  (repeat refine ats_seq ?_)
  first | refine ats_go (fix0 hcx) fun K hK => ?_ | refine ats_pick (fix0 hcx) mixed (by as_aux_lemma => kernel_rfl) fun K hK => ?_
  simp only [go_sem, seval]
  first | refine fcall_fresh rfl (k0) ?_ | refine YR_intro (acall_fresh rfl (k0)) ?_
  simp only [go_sem, seval]
  first | refine fcall_data (ks) rfl ?_ | refine YR_intro (acall_data (ks) rfl) ?_
  simp only [go_sem, seval]
  refine hK _ ?_; clear hK K
  refine gC fun K hK => ?_
  refine fcall_own rfl (k0) rfl ?_; simp only [go_sem, seval]
  refine hK _ ?_; clear hK K
  refine gC fun K hK => ?_
  refine fcall_own rfl (ki) rfl ?_; simp only [go_sem, seval]
  refine hK _ ?_; clear hK K
  have keq : PureCall Tryz.prog 8 [.l3 u, .l3 u] (.bool true) := by simpa using eqInt64SSS_ok u u
  have ke0 : PureCall Tryz.prog 9 [.agg [.l2 dS, .l1 dT], .agg [.l2 dS, .l1 dT]] (.bool true) := by simpa using eqData_ok dS dT dS dT
  refine gC fun K hK => ?_
  first | refine fcall_free rfl rfl (keq) ?_ | refine YR_intro (acall_free rfl rfl (keq)) ?_
  simp only [go_sem, seval]
  refine hK _ ?_; clear hK K
  refine gI (fun hx => ?_) fun hx => ?_
  ·simp at hx
  refine ats_skip ?_
  (repeat refine ats_seq ?_)
  first | refine ats_go (fix0 hcx) fun K hK => ?_ | refine ats_pick (fix0 hcx) mixed (by as_aux_lemma => kernel_rfl) fun K hK => ?_
  simp only [go_sem, seval]
  first | refine fcall_fresh rfl (k0) ?_ | refine YR_intro (acall_fresh rfl (k0)) ?_
  simp only [go_sem, seval]
  first | refine fcall_free rfl rfl (ke0) ?_ | refine YR_intro (acall_free rfl rfl (ke0)) ?_
  simp only [go_sem, seval]
  refine hK _ ?_; clear hK K
  (repeat refine ats_seq ?_); refine ats_no rfl trivial ?_
  refine ats_skip ?_
  refine gA ?_
  refine gC fun K hK => ?_
  refine fcall_turn (fun i => i + 1) (markData_ok dS dT (1) (by omega) (by omega)) rfl rfl rfl (by simp [Aw.ids]) (by simp [find]) ?_; simp only [Aw.ids, renT, List.map_cons, List.map_nil]; simp only [go_sem, seval]
  refine hK _ ?_; clear hK K
  refine gC fun K hK => ?_
  first | refine YR_intro (fun _ => acall_free rfl rfl (keq)) ?_ | refine YR_intro (acall_free rfl rfl (keq)) ?_
  simp only [go_sem, seval]
  refine hK _ ?_; clear hK K
  refine gI (fun hx1 => ?_) fun hx1 => ?_
  ·simp at hx1; omega
  refine ats_skip ?_
  refine gA ?_
  refine gC fun K hK => ?_
  refine fcall_turn (fun i => i + 4) (markInt64SSS_ok u 1 (by decide) (by omega)) rfl rfl rfl (by simp [Aw.ids]) (by simp [find]) ?_; simp only [Aw.ids, renT, List.map_cons, List.map_nil]; simp only [go_sem, seval]
  refine hK _ ?_; clear hK K
  refine gA ?_
  refine gC fun K hK => ?_
  first | refine fcall_free rfl rfl (heldInt64SSS_ok u 1 (by decide) (by omega)) ?_ | refine YR_intro (acall_free rfl rfl (heldInt64SSS_ok u 1 (by decide) (by omega))) ?_
  simp only [go_sem, seval]
  refine hK _ ?_; clear hK K
  refine gA ?_
  refine gI (fun hx2 => ?_) fun hx2 => ?_
  ·omega
  refine ats_skip ?_
  refine gA ?_
  refine gI (fun hx3 => ?_) fun hx3 => ?_
  ·exact absurd trivial hx3
  refine ats_skip ?_
  (repeat refine ats_seq ?_)
  first | refine ats_go (fix0 hcx) fun K hK => ?_ | refine ats_pick (fix0 hcx) mixed (by as_aux_lemma => kernel_rfl) fun K hK => ?_
  simp only [go_sem, seval]
  first | refine fcall_fresh rfl (k0) ?_ | refine YR_intro (acall_fresh rfl (k0)) ?_
  simp only [go_sem, seval]
  first | refine fcall_fresh rfl (ki) ?_ | refine YR_intro (acall_fresh rfl (ki)) ?_
  simp only [go_sem, seval]
  refine hK _ ?_; clear hK K
  refine gC fun K hK => ?_
  first | refine fcall_data (keq) rfl ?_ | refine YR_intro (acall_data (keq) rfl) ?_
  simp only [go_sem, seval]
  refine hK _ ?_; clear hK K
  refine gI (fun hx4 => ?_) fun hx4 => ?_
  ·simp at hx4
  refine ats_skip ?_
  refine gA ?_
  refine gC fun K hK => ?_
  first | refine fcall_free rfl rfl (heldInt64SSS_ok u 1 (by decide) (by omega)) ?_ | refine YR_intro (acall_free rfl rfl (heldInt64SSS_ok u 1 (by decide) (by omega))) ?_
  simp only [go_sem, seval]
  refine hK _ ?_; clear hK K
  refine gA ?_
  refine gI (fun hx5 => ?_) fun hx5 => ?_
  ·omega
  refine ats_skip ?_
  refine gA ?_
  refine gI (fun hx6 => ?_) fun hx6 => ?_
  ·exact absurd trivial hx6
  refine ats_skip ?_
  refine gA ?_
  refine ats_ret (finB rfl ?_)
  rfl

theorem own : ownKnob Tryz.prog.godebug = none := by kernel_rfl

set_option maxRecDepth 100000 in
theorem contract (H : Type) (enc : TypeId × Value → H) (W : World) (base : Nat) (args : Array Value) (ds gs : List (DataW H)) (before : List MemPlace)
  (hval : ∀ (j : Nat) t v, Tryz.f3.params[j]? = some t → args[j]? = some v → Value.okWide Tryz.prog W .any base t v)
  (hW : DataW.Whole enc Tryz.prog Tryz.f3.params.toList Rows.fnExactAllInvariantsSpec.vars false W args.toList ds gs before) :
  Calls Tryz.prog 3 args W fun e W' => ∃ v, e = .returned v ∧ Rows.fnExactAllInvariantsSpec.post enc Tryz.prog Tryz.f3 false true false false W args v W' := by
 have hGl : GlobOk W := fun p hp => by simp [glC] at hp
 have hW' := hW
 obtain ⟨p, q, hA0, hV, rfl, hfz, hnd⟩ := hW
 have hA : DataW.TrodAll enc Tryz.prog W 0 (fun _ => true) true Tryz.f3.params.toList args.toList ds p := hA0
 rw [Tryz.params3] at hA hval
 obtain ⟨v0, vs0, d0, ds0, p0, q0, hargs, rfl, rfl, h0, r0⟩ := trodAll_cons hA
 obtain ⟨v1, vs1, d1, ds1, p1, q1, rfl, rfl, rfl, h1, r1⟩ := trodAll_cons r0
 obtain ⟨rfl, rfl, rfl⟩ := trodAll_nil r1
 obtain rfl : args = #[v0, v1] := by cases args; simp_all
 obtain ⟨rfl, rfl⟩ := trodVars_none hV
 obtain ⟨dS, dT, g0⟩ := rdData (hval 0 _ v0 rfl rfl) h0
 obtain ⟨x, g1⟩ := rdInt (hval 1 _ v1 rfl rfl) h1
 refine ((law_ok dS dT x).runs [v0, v1] W (lower W) ⟨fun b hb => hb, hGl⟩ ⟨g0, g1, trivial⟩).mono fun e W' ⟨v, he, hx, hr⟩ => ⟨v, he, ?_⟩
 simp only [Rd, rep] at hr
 subst hr
 exact law_post (tb := 4) (by kernel_rfl) rfl (by kernel_rfl) Tryz.underlying4 (by kernel_rfl) hW' rfl rfl rfl hx

set_option maxHeartbeats 0 in
set_option maxRecDepth 100000 in
theorem lifted (os : Os) (started : os.Started) (H : Type) (enc : TypeId × Value → H) :
  ReturnsInHanded {} Tryz.checked os 3 .any (Rows.fnExactAllInvariantsSpec.pre6 enc Tryz.prog Tryz.f3 Rows.fnExactAllInvariantsRow.domain false) (Rows.fnExactAllInvariantsSpec.post enc Tryz.prog Tryz.f3 false true false false) :=
 returnsInHanded_of_change (C := Tryz.checked) own started (by as_aux_lemma => kernel_rfl) Tryz.func3
  (ChangeSpec.witness6 (C := Tryz.checked) false ⟨#[], #[.agg #[.slice none 0 0, .slice none 0 0], .int .i64 0], []⟩ 8 (by as_aux_lemma => kernel_rfl) (by as_aux_lemma => kernel_rfl) (by as_aux_lemma => kernel_rfl) (by as_aux_lemma => kernel_rfl) (by as_aux_lemma => kernel_rfl))
  (fun W base args ds gs before hval hW _ _ => contract H enc W base args ds gs before hval hW)

set_option maxHeartbeats 0 in
theorem over : Rows.fnExactAllInvariantsRow.holds Tryz.pinned (OpenSpec.ofChange Rows.fnExactAllInvariantsSpec) :=
 OpenClaim.holds_of_wide 3 Tryz.f3 rfl rfl rfl rfl rfl rfl rfl ⟨rfl, rfl, rfl, rfl, rfl⟩ rfl rfl rfl rfl rfl (by as_aux_lemma => kernel_rfl) Tryz.func3 (by as_aux_lemma => kernel_rfl)
  (of_decide_eq_true (by as_aux_lemma => kernel_rfl)) (by unfold Func.isWrapper; first | (rw [if_pos (by decide +kernel)]; as_aux_lemma => kernel_rfl) | (rw [if_neg (by decide +kernel)]; exact ⟨rfl, rfl⟩))
  (fun os started H enc _ => lifted os started H enc)

theorem proved : Rows.FnExactAllInvariantsSaid := over
end Go.Proofs.YtjpdkdepbkmebaaGreat.FnExactAllInvariants
