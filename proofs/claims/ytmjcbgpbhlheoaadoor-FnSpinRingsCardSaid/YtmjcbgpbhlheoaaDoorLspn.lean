/-
 The law FnSpinRings returns true, for all codes. Conditions: none. One variable of the standard library is laid (its tied card).
-/
import Derived.Test.YtmjcbgpbhlheoaaDoorSj
import Derived.Test.YtmjcbgpbhlheoaaDoorBb
import Derived.Test.YtmjcbgpbhlheoaaDoorBr
import Derived.Test.YtmjcbgpbhlheoaaDoorCards
import Derived.Test.YtmjcbgpbhlheoaaDoorTie
import Derived.WalkKit
import Derived.ProofKit
import Derived.OpenShut
import Derived.JoinedOf
import Derived.LaidMore
import Derived.LaidLaws
import Derived.Stop.Joined
import Derived.SevenTiedAt
set_option linter.unusedSimpArgs false
set_option linter.unusedVariables false
namespace Go.Proofs.YtmjcbgpbhlheoaaDoor.FnSpinRings
open Go Go.Aw Go.Pl Go.ChangeShapes Go.WideShapes Go.ChangeAt Go.RowKit

theorem own : ownKnob Tryd.prog.godebug = none := by kernel_rfl
theorem gTab : Tryd.prog.globalNamed "math/bits.deBruijn64tab" = some 0 := by kernel_rfl
theorem tTab : (Tryd.prog.globals[0]?).map (·.type) = some 89 := by kernel_rfl
theorem laid1 (p : Nat × List Value) (h : p ∈ glC) : p = (0, (glC.head?.map (·.2)).getD []) := by simpa [glC] using h
theorem laidL : (Rows.laid_math_bits_deBruijn64tab : DataW Unit) = .agg (((glC.head?.map (·.2)).getD []).map fun v => match v with | .int k n => .lit (.int k n) | _ => .nil) := rfl
theorem laidK : ∀ v ∈ ((glC.head?.map (·.2)).getD []), ∃ n, v = .int .u8 n := by simp [glC]
theorem laidN : ((glC.head?.map (·.2)).getD []).length = 64 := rfl
theorem of_laid {W : World} (h : laidMetH Tryd.prog [("math/bits.deBruijn64tab", Rows.laid_math_bits_deBruijn64tab)] W) : GlobOk W := by
 rw [MakeChecks.laidMetH_plain _ _ _ (by kernel_rfl)] at h
 obtain ⟨ps, ⟨g0, t0, cs0, f0, p0, q0, hg0, ht0, hv0, hd0, _, _⟩, _, _⟩ := h
 obtain rfl := Option.some.inj (gTab.symm.trans hg0)
 obtain rfl := Option.some.inj (tTab.symm.trans ht0)
 obtain ⟨xs, m1, rfl, hx1, hlen, hn, hel⟩ := DataW.trod_array Tryd.underlying89 hd0
 have c5 : Tryd.prog.cellsOf 5 = 1 := by kernel_rfl
 rw [laidL] at hx1
 simp only [Prod.mk.injEq, DataW.agg.injEq] at hx1
 have key : ∀ i u, ((glC.head?.map (·.2)).getD [])[i]? = some u → W.cell? ⟨0, i, none⟩ = some u := by
  intro i u hu
  have hi : i < 64 := by
   have := (List.getElem?_eq_some_iff.1 hu).1
   rwa [laidN] at this
  have he := hel i hi
  have hm := congrArg (fun l => l[i]?) hx1.1
  simp only [List.getElem?_map, hu, Option.map_some] at hm
  obtain ⟨x, hx⟩ : ∃ x, xs[i]? = some x := ⟨xs[i], by rw [List.getElem?_eq_getElem (by omega)]⟩
  rw [hx] at he hm
  obtain ⟨n, rfl⟩ := laidK u (List.mem_of_getElem? hu)
  obtain ⟨k, e1, e2, _⟩ := DataW.trod_int Tryd.underlying5 he
  rw [e2] at hm
  have hk : n = k := by simpa using hm
  subst hk
  rw [World.var?_cell hg0 hv0 i]
  rw [c5, Nat.mul_one] at e1
  have e3 := congrArg (fun l => l[0]?) e1
  simpa [List.getElem?_take, List.getElem?_drop] using e3
 intro p hp
 rw [laid1 p hp]
 refine ⟨?_, key⟩
 have h0 := key 0 _ (by rw [List.getElem?_eq_getElem (by rw [laidN]; omega)])
 rcases Nat.lt_or_ge 0 W.heap.size with h | h
 ·exact h
 ·simp [World.cell?, show W.heap[0]? = none from by simp [h]] at h0

/-- The door's own heap meets the condition. -/
theorem door_met (os : Os) (args : Array Value) : laidMetH Tryd.prog [("math/bits.deBruijn64tab", Rows.laid_math_bits_deBruijn64tab)] ((World.doorLaid Tryd.prog 400 os).forCall (fun _ _ => 0) ⟨#[], args, []⟩).memory :=
 laidMetH_of_parts3 (fuel := 8) (laidMet_of_run' 8 (by as_aux_lemma => kernel_rfl) (by as_aux_lemma => kernel_rfl)) (by as_aux_lemma => kernel_rfl) (by as_aux_lemma => kernel_rfl)

set_option maxRecDepth 100000 in
theorem contract (H : Type) (enc : TypeId × Value → H) (W : World) (base : Nat) (args : Array Value) (ds gs : List (DataW H)) (before : List MemPlace) (hGl : GlobOk W)
  (hval : ∀ (j : Nat) t v, Tryd.f3.params[j]? = some t → args[j]? = some v → Value.okWide Tryd.prog W .any base t v)
  (hW : DataW.Whole enc Tryd.prog Tryd.f3.params.toList Rows.fnSpinRingsSpec.vars false W args.toList ds gs before) :
  Calls Tryd.prog 3 args W fun e W' => ∃ v, e = .returned v ∧ Rows.fnSpinRingsSpec.post enc Tryd.prog Tryd.f3 false true false false W args v W' := by
 have hW' := hW
 obtain ⟨p, q, hA0, hV, rfl, hfz, hnd⟩ := hW
 have hA : DataW.TrodAll enc Tryd.prog W 0 (fun _ => true) true Tryd.f3.params.toList args.toList ds p := hA0
 rw [Tryd.params3] at hA hval
 obtain ⟨v0, vs0, d0, ds0, p0, q0, hargs, rfl, rfl, h0, r0⟩ := trodAll_cons hA
 obtain ⟨rfl, rfl, rfl⟩ := trodAll_nil r0
 obtain rfl : args = #[v0] := by cases args; simp_all
 obtain ⟨rfl, rfl⟩ := trodVars_none hV
 obtain ⟨c, hc, g0⟩ := rdBytes (hval 0 _ v0 rfl rfl) h0
 refine ((fnSpinRings_ok c hc).runs [v0] W (lower W) ⟨fun b hb => hb, hGl⟩ ⟨g0, trivial⟩).mono fun e W' ⟨v, he, hx, hr⟩ => ⟨v, he, ?_⟩
 simp only [Rd, rep] at hr
 subst hr
 exact law_post (tb := 4) (by kernel_rfl) rfl (by kernel_rfl) Tryd.underlying4 (by kernel_rfl) hW' rfl rfl rfl hx

set_option maxHeartbeats 0 in
set_option maxRecDepth 100000 in
theorem lifted (os : Os) (started : os.Started) (H : Type) (enc : TypeId × Value → H) :
  ReturnsInHanded {} Tryd.checked os 3 .any (fun w args => (Rows.fnSpinRingsSpec.pre enc Tryd.prog Tryd.f3 [] false w args ∧ laidMetH Tryd.prog [("math/bits.deBruijn64tab", Rows.laid_math_bits_deBruijn64tab)] w) ∧ sizedMet enc Tryd.prog Tryd.f3 (OpenSpec.ofChange Rows.fnSpinRingsSpec) false w args)
   (Rows.fnSpinRingsSpec.post enc Tryd.prog Tryd.f3 false true false false) := by
 refine returnsInHanded_of_change_and (C := Tryd.checked) (X := fun w _ => laidMetH Tryd.prog [("math/bits.deBruijn64tab", Rows.laid_math_bits_deBruijn64tab)] w) (fun _ _ _ hh h => h.of_heap hh) own started (by as_aux_lemma => kernel_rfl) Tryd.func3
  (ChangeSpec.witness_shaped (enc := enc) (C := Tryd.checked) (os := os) (X := fun w _ => laidMetH Tryd.prog [("math/bits.deBruijn64tab", Rows.laid_math_bits_deBruijn64tab)] w) false (World.doorLaid Tryd.prog 400 os) #[.slice none 0 0] 8 rfl (World.shaped_of_RefB (by as_aux_lemma => kernel_rfl) (by as_aux_lemma => kernel_rfl)) (by as_aux_lemma => kernel_rfl) (by as_aux_lemma => kernel_rfl) (by as_aux_lemma => kernel_rfl) (door_met os _)) ?_
 intro W base args ds gs before hval hW _ _ hL _
 exact contract H enc W base args ds gs before (of_laid hL) hval hW

set_option maxHeartbeats 0 in
theorem over : Rows.FnSpinRingsSaid :=
 OpenClaim.holds_of_wide 3 Tryd.f3 rfl rfl rfl rfl rfl rfl rfl ⟨rfl, rfl, rfl, rfl, rfl⟩ rfl rfl rfl rfl rfl (by as_aux_lemma => kernel_rfl) Tryd.func3 (by as_aux_lemma => kernel_rfl)
  (of_decide_eq_true (by as_aux_lemma => kernel_rfl)) (by unfold Func.isWrapper; first | (rw [if_pos (by decide +kernel)]; as_aux_lemma => kernel_rfl) | (rw [if_neg (by decide +kernel)]; exact ⟨rfl, rfl⟩))
  (fun os started H enc _ => lifted os started H enc)

set_option maxHeartbeats 0 in
theorem proved : Rows.FnSpinRingsCardSaid :=
 Claim7.holds_tied_plain_at .later [] [.data] true (true, "4794a07aa6f4e33cd2979dc0e588bc3a366a6760be13bc56d24d49570ea3c6e0") false
  over (fun _ h => by cases h) (by kernel_rfl) (fun _ h => by cases h) fnSpinRings_row_tie rfl ⟨rfl, rfl⟩ (by kernel_rfl) rfl
  (fun f fn hf hfn => by
   obtain rfl : f = 3 := Option.some.inj ((show Tryd.prog.funcNamed Rows.fnSpinRingsRow.func = some 3 by kernel_rfl).symm.trans hf) |>.symm
   obtain rfl : fn = Tryd.f3 := (Option.some.inj (Tryd.func3.symm.trans hfn)).symm
   exact ⟨by kernel_rfl, fun j t ht => by
    rw [Tryd.params3] at ht
    have hm : t ∈ [22] := by simpa using Array.mem_of_getElem? ht
    have hall : ([22].all fun u => !Tryd.prog.wantsStandIn u) = true := by kernel_rfl
    exact (show Tryd.prog.wantsStandIn t = false by simpa using List.all_eq_true.1 hall t hm)⟩)
  (by kernel_rfl)
end Go.Proofs.YtmjcbgpbhlheoaaDoor.FnSpinRings
