/-
  The program's RingText returns what the reference's returns, for all arguments. Conditions: none.
-/
import Derived.Test.YtgaclhdmhipagaaDoorTc
import Derived.Test.YtgaclhdmhipagaaDoorWx1
import Derived.Test.YtgaclhdmhipagaaDoorBr
import Derived.Test.YtgaclhdmhipagaaDoorRows
import Derived.WalkKit
import Derived.ProofKit
import Derived.OpenShut
import Derived.JoinedOf
import Derived.Test.YtgaclhdmhipagaaDoorCards
import Derived.Test.YtgaclhdmhipagaaDoorTie
import Derived.LaidMore
import Derived.LaidLaws
import Derived.Stop.Joined
import Derived.Stop.LaidErr
import Derived.SevenTiedAt
import Derived.Lib.LaidTab
import Derived.Lib.ItoaNum
set_option linter.unusedSimpArgs false
set_option linter.unusedVariables false
namespace Go.Proofs.YtgaclhdmhipagaaDoor.FnExactRingText
open Go Go.Aw Go.Pl Go.ChangeShapes Go.WideShapes Go.ChangeAt Go.RowKit

theorem law_ok (t : List (List (List Int))) : PureCall Tryd.prog 3 [.agg [.l3 t]] (.bool true) := by
  refine PureCall.intro (n := 40) (rs := [.tmp 2]) Tryd.call3 Tryd.func3 rfl rfl rfl (by simp only [List.length_cons, List.length_nil]; omega) (fun cx hcx => ats_of ?_); simp only [argSlots, Nat.zero_add, Nat.reduceAdd]
  (repeat refine ats_seq ?_); refine ats_go (fix0 hcx) fun K hK => ?_; simp only [go_sem, seval]; refine hK _ ?_; clear hK K
  (repeat refine ats_seq ?_); refine ats_go (fix0 hcx) fun K hK => ?_; simp only [go_sem, seval]; refine hK _ ?_; clear hK K
  have hs0 := szRing_ok t (1048576) (by omega)
  have ho0 := sz3_ok t (1048576) (by omega)
  (repeat refine ats_seq ?_); refine ats_go (fix0 hcx) fun K hK => ?_; simp only [go_sem, seval]
  first | refine fcall_free rfl rfl (hs0) ?_ | refine YR_intro (acall_free rfl rfl (hs0)) ?_
  simp only [go_sem, seval]
  refine hK _ ?_; clear hK K
  (repeat refine ats_seq ?_); refine ats_go (fix0 hcx) fun K hK => ?_; simp only [go_sem, seval]; refine hK _ ?_; clear hK K
  (repeat refine ats_seq ?_); first | refine ats_ifn (p := _) rfl trivial (fun h0 => ?_) (fun h0 => ?_) | refine ats_ifp (p := _) rfl trivial (fun h0 => ?_) (fun h0 => ?_) | refine ats_cond rfl trivial (fun h0 => ?_) (fun h0 => ?_)
  · (repeat refine ats_seq ?_); refine ats_go (fix0 hcx) fun K hK => ?_; simp only [go_sem, seval]; refine hK _ ?_; clear hK K
    refine ats_ret (finB rfl ?_)
    rfl
  · skip
    refine ats_skip ?_
    obtain ⟨sm0, tt0⟩ := sz3_small (l := 1048576) (by omega) h0 (by omega)
    have k0 := toRing_ok t sm0
    have ks := specRt_ok t
    have ki := implRt_ok t
    (repeat refine ats_seq ?_)
    first | refine ats_go (fix0 hcx) fun K hK => ?_ | refine ats_pick (fix0 hcx) mixed (by as_aux_lemma => kernel_rfl) fun K hK => ?_
    simp only [go_sem, seval]
    first | refine fcall_fresh rfl (k0) ?_ | refine YR_intro (acall_fresh rfl (k0)) ?_
    simp only [go_sem, seval]
    first | refine fcall_data (ks) rfl ?_ | refine YR_intro (acall_data (ks) rfl) ?_
    simp only [go_sem, seval]
    refine hK _ ?_; clear hK K
    (repeat refine ats_seq ?_); refine ats_go (fix0 hcx) fun K hK => ?_; simp only [go_sem, seval]
    refine fcall_own rfl (k0) rfl ?_; simp only [go_sem, seval]
    refine hK _ ?_; clear hK K
    (repeat refine ats_seq ?_); refine ats_go (fix0 hcx) fun K hK => ?_; simp only [go_sem, seval]
    first | refine fcall_free rfl rfl (ki) ?_ | refine YR_intro (acall_free rfl rfl (ki)) ?_
    simp only [go_sem, seval]
    refine hK _ ?_; clear hK K
    have ke0 : PureCall Tryd.prog 8 [.agg [.l3 t], .agg [.l3 t]] (.bool true) := by simpa using eqRing_ok t t
    (repeat refine ats_seq ?_); refine ats_go (fix0 hcx) fun K hK => ?_; simp only [go_sem, seval]; refine hK _ ?_; clear hK K
    (repeat refine ats_seq ?_); first | refine ats_ifn (p := _) rfl trivial (fun hx => ?_) (fun hx => ?_) | refine ats_ifp (p := _) rfl trivial (fun hx => ?_) (fun hx => ?_) | refine ats_cond rfl trivial (fun hx => ?_) (fun hx => ?_)
    · simp at hx
    refine ats_skip ?_
    (repeat refine ats_seq ?_)
    first | refine ats_go (fix0 hcx) fun K hK => ?_ | refine ats_pick (fix0 hcx) mixed (by as_aux_lemma => kernel_rfl) fun K hK => ?_
    simp only [go_sem, seval]
    first | refine fcall_fresh rfl (k0) ?_ | refine YR_intro (acall_fresh rfl (k0)) ?_
    simp only [go_sem, seval]
    first | refine fcall_free rfl rfl (ke0) ?_ | refine YR_intro (acall_free rfl rfl (ke0)) ?_
    simp only [go_sem, seval]
    refine hK _ ?_; clear hK K
    (repeat refine ats_seq ?_); refine ats_no rfl trivial ?_
    refine ats_skip ?_
    (repeat refine ats_seq ?_); refine ats_go (fix0 hcx) fun K hK => ?_; simp only [go_sem, seval]; refine hK _ ?_; clear hK K
    refine ats_ret (finB rfl ?_)
    rfl

theorem own : ownKnob Tryd.prog.godebug = none := by kernel_rfl

theorem gTab : Tryd.prog.globalNamed "internal/strconv.uint64pow10" = some 1 := by kernel_rfl
theorem tTab : (Tryd.prog.globals[1]?).map (·.type) = some 91 := by kernel_rfl
theorem laidL : (Rows.laid_internal_strconv_uint64pow10 : DataW Unit) = Lib.tabData .u64 Lib.pow10Tab := by kernel_rfl
theorem of_laid {W : World} (h : laidMetH Tryd.prog [("math/bits.deBruijn32tab", Rows.laid_math_bits_deBruijn32tab), ("math/bits.deBruijn64tab", Rows.laid_math_bits_deBruijn64tab), ("internal/strconv.uint64pow10", Rows.laid_internal_strconv_uint64pow10)] W) : GlobOk W := by
  rw [MakeChecks.laidMetH_plain _ _ _ (by kernel_rfl)] at h
  have h3 := h.tail.tail
  rw [laidL] at h3
  have ht : W.var? Tryd.prog "internal/strconv.uint64pow10" = _ := Lib.tabIs_of_head gTab tTab Tryd.underlying91 Tryd.underlying85 (by kernel_rfl) (by kernel_rfl) h3
  unfold World.var? at ht
  rw [gTab] at ht
  simp only [Option.bind_some] at ht
  intro p hp
  have hg : glC = [(1, Lib.pow10Tab.map fun z => Value.int .u64 z)] := by kernel_rfl
  rw [hg] at hp
  obtain rfl := List.mem_singleton.1 hp
  split at ht
  · rename_i cs e x hc
    obtain rfl := Option.some.inj ht
    exact ⟨e, x, hc⟩
  · cases ht

/-- The door's own heap meets the condition. -/
theorem door_met (os : Os) (args : Array Value) : laidMetH Tryd.prog [("math/bits.deBruijn32tab", Rows.laid_math_bits_deBruijn32tab), ("math/bits.deBruijn64tab", Rows.laid_math_bits_deBruijn64tab), ("internal/strconv.uint64pow10", Rows.laid_internal_strconv_uint64pow10)] ((World.doorLaid Tryd.prog 400 os).forCall (fun _ _ => 0) ⟨#[], args, []⟩).memory :=
  laidMetH_of_parts3 (fuel := 8) (laidMet_of_run' 8 (by as_aux_lemma => kernel_rfl) (by as_aux_lemma => kernel_rfl)) (by as_aux_lemma => kernel_rfl) (by as_aux_lemma => kernel_rfl)

set_option maxRecDepth 100000 in
theorem contract (H : Type) (enc : TypeId × Value → H) (W : World) (base : Nat) (args : Array Value) (ds gs : List (DataW H)) (before : List MemPlace) (hGl : GlobOk W)
    (hval : ∀ (j : Nat) t v, Tryd.f3.params[j]? = some t → args[j]? = some v → Value.okWide Tryd.prog W .any base t v)
    (hW : DataW.Whole enc Tryd.prog Tryd.f3.params.toList Rows.fnExactRingTextSpec.vars false W args.toList ds gs before) :
    Calls Tryd.prog 3 args W fun e W' => ∃ v, e = .returned v ∧ Rows.fnExactRingTextSpec.post enc Tryd.prog Tryd.f3 false true false false W args v W' := by
  have hW' := hW
  obtain ⟨p, q, hA0, hV, rfl, hfz, hnd⟩ := hW
  have hA : DataW.TrodAll enc Tryd.prog W 0 (fun _ => true) true Tryd.f3.params.toList args.toList ds p := hA0
  rw [Tryd.params3] at hA hval
  obtain ⟨v0, vs0, d0, ds0, p0, q0, hargs, rfl, rfl, h0, r0⟩ := trodAll_cons hA
  obtain ⟨rfl, rfl, rfl⟩ := trodAll_nil r0
  obtain rfl : args = #[v0] := by cases args; simp_all
  obtain ⟨rfl, rfl⟩ := trodVars_none hV
  obtain ⟨t, g0⟩ := rdRing (hval 0 _ v0 rfl rfl) h0
  refine ((law_ok t).runs [v0] W (lower W) ⟨fun b hb => hb, hGl⟩ ⟨g0, trivial⟩).mono fun e W' ⟨v, he, hx, hr⟩ => ⟨v, he, ?_⟩
  simp only [Rd, rep] at hr
  subst hr
  exact law_post (tb := 4) (by kernel_rfl) rfl (by kernel_rfl) Tryd.underlying4 (by kernel_rfl) hW' rfl rfl rfl hx

set_option maxHeartbeats 0 in
set_option maxRecDepth 100000 in
theorem lifted (os : Os) (started : os.Started) (H : Type) (enc : TypeId × Value → H) :
    ReturnsInHanded {} Tryd.checked os 3 .any (fun w args => (Rows.fnExactRingTextSpec.pre enc Tryd.prog Tryd.f3 [] false w args ∧ laidMetH Tryd.prog [("math/bits.deBruijn32tab", Rows.laid_math_bits_deBruijn32tab), ("math/bits.deBruijn64tab", Rows.laid_math_bits_deBruijn64tab), ("internal/strconv.uint64pow10", Rows.laid_internal_strconv_uint64pow10)] w) ∧ sizedMet enc Tryd.prog Tryd.f3 (OpenSpec.ofChange Rows.fnExactRingTextSpec) false w args)
      (Rows.fnExactRingTextSpec.post enc Tryd.prog Tryd.f3 false true false false) := by
  refine returnsInHanded_of_change_and (C := Tryd.checked) (X := fun w _ => laidMetH Tryd.prog [("math/bits.deBruijn32tab", Rows.laid_math_bits_deBruijn32tab), ("math/bits.deBruijn64tab", Rows.laid_math_bits_deBruijn64tab), ("internal/strconv.uint64pow10", Rows.laid_internal_strconv_uint64pow10)] w) (fun _ _ _ hh h => h.of_heap hh) own started (by as_aux_lemma => kernel_rfl) Tryd.func3
    (ChangeSpec.witness_shaped (enc := enc) (C := Tryd.checked) (os := os) (X := fun w _ => laidMetH Tryd.prog [("math/bits.deBruijn32tab", Rows.laid_math_bits_deBruijn32tab), ("math/bits.deBruijn64tab", Rows.laid_math_bits_deBruijn64tab), ("internal/strconv.uint64pow10", Rows.laid_internal_strconv_uint64pow10)] w) false (World.doorLaid Tryd.prog 400 os) #[.agg #[.slice none 0 0]] 8 rfl (World.shaped_of_RefB (by as_aux_lemma => kernel_rfl) (by as_aux_lemma => kernel_rfl)) (by as_aux_lemma => kernel_rfl) (by as_aux_lemma => kernel_rfl) (by as_aux_lemma => kernel_rfl) (door_met os _)) ?_
  intro W base args ds gs before hval hW _ _ hL _
  exact contract H enc W base args ds gs before (of_laid hL) hval hW

set_option maxHeartbeats 0 in
theorem over : Rows.FnExactRingTextSaid :=
  OpenClaim.holds_of_wide 3 Tryd.f3 rfl rfl rfl rfl rfl rfl rfl ⟨rfl, rfl, rfl, rfl, rfl⟩ rfl rfl rfl rfl rfl (by as_aux_lemma => kernel_rfl) Tryd.func3 (by as_aux_lemma => kernel_rfl)
    (of_decide_eq_true (by as_aux_lemma => kernel_rfl)) (by unfold Func.isWrapper; first | (rw [if_pos (by decide +kernel)]; as_aux_lemma => kernel_rfl) | (rw [if_neg (by decide +kernel)]; exact ⟨rfl, rfl⟩))
    (fun os started H enc _ => lifted os started H enc)

set_option maxHeartbeats 0 in
theorem proved : Rows.FnExactRingTextCardSaid :=
  Claim7.holds_tied_plain_at .later [] [.data, .data, .data] true (true, "ad0804ffe1dc0f7d804be16d6a870f3689ba0fd3bd4f609dabdf42685e408e94") false
    over (fun _ h => by cases h) (by kernel_rfl) (fun _ h => by cases h) fnExactRingText_row_tie rfl ⟨rfl, rfl⟩ (by kernel_rfl) rfl
    (fun f fn hf hfn => by
      obtain rfl : f = 3 := Option.some.inj ((show Tryd.prog.funcNamed Rows.fnExactRingTextRow.func = some 3 by kernel_rfl).symm.trans hf) |>.symm
      obtain rfl : fn = Tryd.f3 := (Option.some.inj (Tryd.func3.symm.trans hfn)).symm
      exact ⟨by kernel_rfl, fun j t ht => by
        rw [Tryd.params3] at ht
        have hm : t ∈ [24] := by simpa using Array.mem_of_getElem? ht
        have hall : ([24].all fun u => !Tryd.prog.wantsStandIn u) = true := by kernel_rfl
        exact (show Tryd.prog.wantsStandIn t = false by simpa using List.all_eq_true.1 hall t hm)⟩)
    (by kernel_rfl)
end Go.Proofs.YtgaclhdmhipagaaDoor.FnExactRingText
