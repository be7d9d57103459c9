/-
 The program's IsSplit returns what the reference's returns, for all arguments. Conditions: none.
-/
import Derived.Test.YtlngnhbochmcoaaCm
import Derived.Test.YtlngnhbochmcoaaRows
import Derived.WalkKit
import Derived.ProofKit
import Derived.OpenShut
import Derived.JoinedOf
set_option linter.unusedSimpArgs false
set_option linter.unusedVariables false
namespace Go.Proofs.Ytlngnhbochmcoaa.FnExactIsSplit
open Go Go.Aw Go.Pl Go.ChangeShapes Go.WideShapes Go.ChangeAt Go.RowKit

theorem aK5 (t : List (List (List Int))) : PureCall Try.prog 3 [.agg [.l3 t]] (.bool true) := by
 refine gPC 40 [.tmp 2] Try.call3 Try.func3 fun cx hcx => gE ?_
 refine gA ?_
 refine gA ?_
 have hs0 := QZ_ t (1048576) (by omega)
 have ho0 := Jj_ t (1048576) (by omega)
 refine gC fun K hK => ?_
 first | refine xM_ rfl rfl (hs0) ?_ | refine xe_ (xG_ rfl rfl (hs0)) ?_
 refine gV ?_
 refine hK _ ?_; clear hK K
 refine gA ?_
 refine gI (fun h0 => ?_) fun h0 => ?_
 ·refine gA ?_
  refine xd_ (yZ_ rfl ?_)
  rfl
 ·skip
  refine xb_ ?_
  obtain ⟨sm0, tt0⟩ := Q2_ (l := 1048576) (by omega) h0 (by omega)
  have k0 := Q1_ t sm0
  have ks := Va_ t
  have ki := V6_ t
  (repeat refine xa_ ?_)
  first | refine xr_ (xZ_ hcx) fun K hK => ?_ | refine xV_ (xZ_ hcx) mixed (by as_aux_lemma => kernel_rfl) fun K hK => ?_
  refine gV ?_
  first | refine x3_ rfl (k0) ?_ | refine xe_ (xP_ rfl (k0)) ?_
  refine gV ?_
  first | refine xi_ (ks) rfl ?_ | refine xe_ (xg_ (ks) rfl) ?_
  refine gV ?_
  refine hK _ ?_; clear hK K
  refine gC fun K hK => ?_
  refine xK_ rfl (k0) rfl ?_; simp only [go_sem, seval]
  refine hK _ ?_; clear hK K
  refine gC fun K hK => ?_
  first | refine xM_ rfl rfl (ki) ?_ | refine xe_ (xG_ rfl rfl (ki)) ?_
  refine gV ?_
  refine hK _ ?_; clear hK K
  have ke0 : PureCall Try.prog 8 [.agg [.l3 t], .agg [.l3 t]] (.bool true) := by simpa using Q0_ t t
  refine gA ?_
  refine gI (fun hx => ?_) fun hx => ?_
  ·simp at hx
  refine xb_ ?_
  (repeat refine xa_ ?_)
  first | refine xr_ (xZ_ hcx) fun K hK => ?_ | refine xV_ (xZ_ hcx) mixed (by as_aux_lemma => kernel_rfl) fun K hK => ?_
  refine gV ?_
  first | refine x3_ rfl (k0) ?_ | refine xe_ (xP_ rfl (k0)) ?_
  refine gV ?_
  first | refine xM_ rfl rfl (ke0) ?_ | refine xe_ (xG_ rfl rfl (ke0)) ?_
  refine gV ?_
  refine hK _ ?_; clear hK K
  refine gQ ?_
  refine xb_ ?_
  refine gA ?_
  refine xd_ (yZ_ rfl ?_)
  rfl

theorem own : ownKnob Try.prog.godebug = none := by kernel_rfl

set_option maxRecDepth 100000 in
theorem contract (H : Type) (enc : TypeId × Value → H) (W : World) (base : Nat) (args : Array Value) (ds gs : List (DataW H)) (before : List MemPlace)
  (hval : ∀ (j : Nat) t v, Try.f3.params[j]? = some t → args[j]? = some v → Value.okWide Try.prog W .any base t v)
  (hW : DataW.Whole enc Try.prog Try.f3.params.toList Rows.fnExactIsSplitSpec.vars false W args.toList ds gs before) :
  Calls Try.prog 3 args W fun e W' => ∃ v, e = .returned v ∧ Rows.fnExactIsSplitSpec.post enc Try.prog Try.f3 false true false false W args v W' := by
 have hGl : GlobOk W := fun p hp => by simp [glC] at hp
 have hW' := hW
 obtain ⟨p, q, hA0, hV, rfl, hfz, hnd⟩ := hW
 have hA : DataW.TrodAll enc Try.prog W 0 (fun _ => true) true Try.f3.params.toList args.toList ds p := hA0
 rw [Try.params3] at hA hval
 obtain ⟨v0, vs0, d0, ds0, p0, q0, hargs, rfl, rfl, h0, r0⟩ := trodAll_cons hA
 obtain ⟨rfl, rfl, rfl⟩ := trodAll_nil r0
 obtain rfl : args = #[v0] := by cases args; simp_all
 obtain ⟨rfl, rfl⟩ := trodVars_none hV
 obtain ⟨t, g0⟩ := aV4 (hval 0 _ v0 rfl rfl) h0
 refine ((aK5 t).runs [v0] W (lower W) ⟨fun b hb => hb, hGl⟩ ⟨g0, trivial⟩).mono fun e W' ⟨v, he, hx, hr⟩ => ⟨v, he, ?_⟩
 simp only [Rd, rep] at hr
 subst hr
 exact al6 (tb := 4) (by kernel_rfl) rfl (by kernel_rfl) Try.underlying4 (by kernel_rfl) hW' rfl rfl rfl hx

set_option maxHeartbeats 0 in
set_option maxRecDepth 100000 in
theorem lifted (os : Os) (started : os.Started) (H : Type) (enc : TypeId × Value → H) :
  ReturnsInHanded {} Try.checked os 3 .any (Rows.fnExactIsSplitSpec.pre6 enc Try.prog Try.f3 Rows.fnExactIsSplitRow.domain false) (Rows.fnExactIsSplitSpec.post enc Try.prog Try.f3 false true false false) :=
 returnsInHanded_of_change (C := Try.checked) own started (by as_aux_lemma => kernel_rfl) Try.func3
  (ChangeSpec.witness6 (C := Try.checked) false ⟨#[], #[.agg #[.slice none 0 0]], []⟩ 8 (by as_aux_lemma => kernel_rfl) (by as_aux_lemma => kernel_rfl) (by as_aux_lemma => kernel_rfl) (by as_aux_lemma => kernel_rfl) (by as_aux_lemma => kernel_rfl))
  (fun W base args ds gs before hval hW _ _ => contract H enc W base args ds gs before hval hW)

set_option maxHeartbeats 0 in
theorem over : Rows.fnExactIsSplitRow.holds Try.pinned (OpenSpec.ofChange Rows.fnExactIsSplitSpec) :=
 OpenClaim.holds_of_wide 3 Try.f3 rfl rfl rfl rfl rfl rfl rfl ⟨rfl, rfl, rfl, rfl, rfl⟩ rfl rfl rfl rfl rfl (by as_aux_lemma => kernel_rfl) Try.func3 (by as_aux_lemma => kernel_rfl)
  (of_decide_eq_true (by as_aux_lemma => kernel_rfl)) (by unfold Func.isWrapper; first | (rw [if_pos (by decide +kernel)]; as_aux_lemma => kernel_rfl) | (rw [if_neg (by decide +kernel)]; exact ⟨rfl, rfl⟩))
  (fun os started H enc _ => lifted os started H enc)

theorem proved : Rows.FnExactIsSplitSaid := over
end Go.Proofs.Ytlngnhbochmcoaa.FnExactIsSplit
