/-
 The law FnBraidForms returns true, for all codes. Conditions: none.
-/
import Derived.Test.YtjbdiekkjegckaaGreatZt
import Derived.Test.YtjbdiekkjegckaaGreatRows
import Derived.WalkKit
import Derived.ProofKit
import Derived.OpenShut
import Derived.JoinedOf
set_option linter.unusedSimpArgs false
set_option linter.unusedVariables false
namespace Go.Proofs.YtjbdiekkjegckaaGreat.FnBraidForms
open Go Go.Aw Go.Pl Go.ChangeShapes Go.WideShapes Go.ChangeAt Go.RowKit

theorem own : ownKnob Tryz.prog.godebug = none := by kernel_rfl

set_option maxRecDepth 100000 in
theorem contract (H : Type) (enc : TypeId × Value → H) (W : World) (base : Nat) (args : Array Value) (ds gs : List (DataW H)) (before : List MemPlace)
  (hval : ∀ (j : Nat) t v, Tryz.f3.params[j]? = some t → args[j]? = some v → Value.okWide Tryz.prog W .any base t v)
  (hW : DataW.Whole enc Tryz.prog Tryz.f3.params.toList Rows.fnBraidFormsSpec.vars false W args.toList ds gs before) :
  Calls Tryz.prog 3 args W fun e W' => ∃ v, e = .returned v ∧ Rows.fnBraidFormsSpec.post enc Tryz.prog Tryz.f3 false true false false W args v W' := by
 have hW' := hW
 obtain ⟨p, q, hA0, hV, rfl, hfz, hnd⟩ := hW
 have hA : DataW.TrodAll enc Tryz.prog W 0 (fun _ => true) true Tryz.f3.params.toList args.toList ds p := hA0
 rw [Tryz.params3] at hA hval
 obtain ⟨v0, vs0, d0, ds0, p0, q0, hargs, rfl, rfl, h0, r0⟩ := trodAll_cons hA
 obtain ⟨rfl, rfl, rfl⟩ := trodAll_nil r0
 obtain rfl : args = #[v0] := by cases args; simp_all
 obtain ⟨rfl, rfl⟩ := trodVars_none hV
 obtain ⟨c, hc, g0⟩ := au9 (hval 0 _ v0 rfl rfl) h0
 have hGl : GlobOk W := fun p hp => by simp [glC] at hp
 refine ((Zc_ c hc).runs [v0] W (lower W) ⟨fun b hb => hb, hGl⟩ ⟨g0, trivial⟩).mono fun e W' ⟨v, he, hx, hr⟩ => ⟨v, he, ?_⟩
 simp only [Rd, rep] at hr
 subst hr
 exact ab7 (tb := 4) (by kernel_rfl) rfl (by kernel_rfl) Tryz.underlying4 (by kernel_rfl) hW' rfl rfl rfl hx

set_option maxHeartbeats 0 in
set_option maxRecDepth 100000 in
theorem lifted (os : Os) (started : os.Started) (H : Type) (enc : TypeId × Value → H) :
  ReturnsInHanded {} Tryz.checked os 3 .any (Rows.fnBraidFormsSpec.pre6 enc Tryz.prog Tryz.f3 Rows.fnBraidFormsRow.domain false) (Rows.fnBraidFormsSpec.post enc Tryz.prog Tryz.f3 false true false false) :=
 returnsInHanded_of_change (C := Tryz.checked) own started (by as_aux_lemma => kernel_rfl) Tryz.func3
  (ChangeSpec.witness6 (C := Tryz.checked) false ⟨#[], #[.slice none 0 0], []⟩ 8 (by as_aux_lemma => kernel_rfl) (by as_aux_lemma => kernel_rfl) (by as_aux_lemma => kernel_rfl) (by as_aux_lemma => kernel_rfl) (by as_aux_lemma => kernel_rfl))
  (fun W base args ds gs before hval hW _ _ => contract H enc W base args ds gs before hval hW)

set_option maxHeartbeats 0 in
theorem over : Rows.fnBraidFormsRow.holds Tryz.pinned (OpenSpec.ofChange Rows.fnBraidFormsSpec) :=
 OpenClaim.holds_of_wide 3 Tryz.f3 rfl rfl rfl rfl rfl rfl rfl ⟨rfl, rfl, rfl, rfl, rfl⟩ rfl rfl rfl rfl rfl (by as_aux_lemma => kernel_rfl) Tryz.func3 (by as_aux_lemma => kernel_rfl)
  (of_decide_eq_true (by as_aux_lemma => kernel_rfl)) (by unfold Func.isWrapper; first | (rw [if_pos (by decide +kernel)]; as_aux_lemma => kernel_rfl) | (rw [if_neg (by decide +kernel)]; exact ⟨rfl, rfl⟩))
  (fun os started H enc _ => lifted os started H enc)

theorem proved : Rows.FnBraidFormsSaid := over
end Go.Proofs.YtjbdiekkjegckaaGreat.FnBraidForms
