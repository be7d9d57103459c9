/-
  The program's ActionIsomorphism returns what the reference's returns, for all arguments. Conditions: none.
-/
import Derived.Test.YtbddekioaigbhaaGv
import Derived.Test.YtbddekioaigbhaaWx1
import Derived.Test.YtbddekioaigbhaaBr
import Derived.Test.YtbddekioaigbhaaRows
import Derived.WalkKit
import Derived.ProofKit
import Derived.OpenShut
import Derived.JoinedOf
set_option linter.unusedSimpArgs false
set_option linter.unusedVariables false
namespace Go.Proofs.Ytbddekioaigbhaa.FnExactActionIsomorphism
open Go Go.Aw Go.Pl Go.ChangeShapes Go.WideShapes Go.ChangeAt Go.RowKit

theorem law_ok (t : List (List (List Int))) (a : List (List (List Int))) (b : List (List (List Int))) : PureCall Try.prog 3 [.agg [.l3 t], .agg [.l3 a], .agg [.l3 b]] (.bool true) := by
  refine PureCall.intro (n := 142) (rs := [.tmp 6]) Try.call3 Try.func3 rfl rfl rfl (by simp only [List.length_cons, List.length_nil]; omega) (fun cx hcx => ats_of ?_); simp only [argSlots, Nat.zero_add, Nat.reduceAdd]
  (repeat refine ats_seq ?_); refine ats_go (fix0 hcx) fun K hK => ?_; simp only [go_sem, seval]; refine hK _ ?_; clear hK K
  (repeat refine ats_seq ?_); refine ats_go (fix0 hcx) fun K hK => ?_; simp only [go_sem, seval]; refine hK _ ?_; clear hK K
  have hs0 := szRing_ok t (1048576) (by omega)
  have ho0 := sz3_ok t (1048576) (by omega)
  (repeat refine ats_seq ?_); refine ats_go (fix0 hcx) fun K hK => ?_; simp only [go_sem, seval]
  first | refine fcall_free rfl rfl (hs0) ?_ | refine YR_intro (acall_free rfl rfl (hs0)) ?_
  simp only [go_sem, seval]
  refine hK _ ?_; clear hK K
  (repeat refine ats_seq ?_); refine ats_go (fix0 hcx) fun K hK => ?_; simp only [go_sem, seval]; refine hK _ ?_; clear hK K
  (repeat refine ats_seq ?_); first | refine ats_ifn (p := _) rfl trivial (fun h0 => ?_) (fun h0 => ?_) | refine ats_ifp (p := _) rfl trivial (fun h0 => ?_) (fun h0 => ?_) | refine ats_cond rfl trivial (fun h0 => ?_) (fun h0 => ?_)
  · (repeat refine ats_seq ?_); refine ats_go (fix0 hcx) fun K hK => ?_; simp only [go_sem, seval]; refine hK _ ?_; clear hK K
    refine ats_ret (finB rfl ?_)
    rfl
  · skip
    refine ats_skip ?_
    have hs1 := szAction_ok a (sz3 t 1048576) (by omega)
    have ho1 := sz3_ok a (sz3 t 1048576) (by omega)
    (repeat refine ats_seq ?_); refine ats_go (fix0 hcx) fun K hK => ?_; simp only [go_sem, seval]
    first | refine fcall_free rfl rfl (hs1) ?_ | refine YR_intro (acall_free rfl rfl (hs1)) ?_
    simp only [go_sem, seval]
    refine hK _ ?_; clear hK K
    (repeat refine ats_seq ?_); refine ats_go (fix0 hcx) fun K hK => ?_; simp only [go_sem, seval]; refine hK _ ?_; clear hK K
    (repeat refine ats_seq ?_); first | refine ats_ifn (p := _) rfl trivial (fun h1 => ?_) (fun h1 => ?_) | refine ats_ifp (p := _) rfl trivial (fun h1 => ?_) (fun h1 => ?_) | refine ats_cond rfl trivial (fun h1 => ?_) (fun h1 => ?_)
    · (repeat refine ats_seq ?_); refine ats_go (fix0 hcx) fun K hK => ?_; simp only [go_sem, seval]; refine hK _ ?_; clear hK K
      refine ats_ret (finB rfl ?_)
      rfl
    · skip
      refine ats_skip ?_
      have hs2 := szAction_ok b (sz3 a (sz3 t 1048576)) (by omega)
      have ho2 := sz3_ok b (sz3 a (sz3 t 1048576)) (by omega)
      (repeat refine ats_seq ?_); refine ats_go (fix0 hcx) fun K hK => ?_; simp only [go_sem, seval]
      first | refine fcall_free rfl rfl (hs2) ?_ | refine YR_intro (acall_free rfl rfl (hs2)) ?_
      simp only [go_sem, seval]
      refine hK _ ?_; clear hK K
      (repeat refine ats_seq ?_); refine ats_go (fix0 hcx) fun K hK => ?_; simp only [go_sem, seval]; refine hK _ ?_; clear hK K
      (repeat refine ats_seq ?_); first | refine ats_ifn (p := _) rfl trivial (fun h2 => ?_) (fun h2 => ?_) | refine ats_ifp (p := _) rfl trivial (fun h2 => ?_) (fun h2 => ?_) | refine ats_cond rfl trivial (fun h2 => ?_) (fun h2 => ?_)
      · (repeat refine ats_seq ?_); refine ats_go (fix0 hcx) fun K hK => ?_; simp only [go_sem, seval]; refine hK _ ?_; clear hK K
        refine ats_ret (finB rfl ?_)
        rfl
      · skip
        refine ats_skip ?_
        obtain ⟨sm0, tt0⟩ := sz3_small (l := 1048576) (by omega) h0 (by omega)
        have k0 := toRing_ok t sm0
        obtain ⟨sm1, tt1⟩ := sz3_small (l := sz3 t 1048576) (by omega) h1 (by omega)
        have k1 := toAction_ok a sm1
        obtain ⟨sm2, tt2⟩ := sz3_small (l := sz3 a (sz3 t 1048576)) (by omega) h2 (by omega)
        have k2 := toAction_ok b sm2
        obtain ⟨u, c, ks, ki, hul⟩ := listRes (specAi_ok t a b) (implAi_ok t a b) (aiA_shape t a b)
        (repeat refine ats_seq ?_)
        first | refine ats_go (fix0 hcx) fun K hK => ?_ | refine ats_pick (fix0 hcx) mixed (by as_aux_lemma => kernel_rfl) fun K hK => ?_
        simp only [go_sem, seval]
        first | refine fcall_fresh rfl (k0) ?_ | refine YR_intro (acall_fresh rfl (k0)) ?_
        simp only [go_sem, seval]
        first | refine fcall_fresh rfl (k1) ?_ | refine YR_intro (acall_fresh rfl (k1)) ?_
        simp only [go_sem, seval]
        first | refine fcall_fresh rfl (k2) ?_ | refine YR_intro (acall_fresh rfl (k2)) ?_
        simp only [go_sem, seval]
        first | refine fcall_data (ks) rfl ?_ | refine YR_intro (acall_data (ks) rfl) ?_
        simp only [go_sem, seval]
        refine hK _ ?_; clear hK K
        (repeat refine ats_seq ?_); refine ats_go (fix0 hcx) fun K hK => ?_; simp only [go_sem, seval]
        refine fcall_own rfl (k0) rfl ?_; simp only [go_sem, seval]
        refine hK _ ?_; clear hK K
        (repeat refine ats_seq ?_); refine ats_go (fix0 hcx) fun K hK => ?_; simp only [go_sem, seval]
        refine fcall_own rfl (k1) rfl ?_; simp only [go_sem, seval]
        refine hK _ ?_; clear hK K
        (repeat refine ats_seq ?_); refine ats_go (fix0 hcx) fun K hK => ?_; simp only [go_sem, seval]
        refine fcall_own rfl (k2) rfl ?_; simp only [go_sem, seval]
        refine hK _ ?_; clear hK K
        (repeat refine ats_seq ?_); refine ats_go (fix0 hcx) fun K hK => ?_; simp only [go_sem, seval]
        refine fcall_own rfl (ki) rfl ?_; simp only [go_sem, seval]
        refine hK _ ?_; clear hK K
        have keq : PureCall Try.prog 10 [.l1 u, .l1 u] (.bool true) := by simpa using eqInt64S_ok u u
        have ke0 : PureCall Try.prog 11 [.agg [.l3 t], .agg [.l3 t]] (.bool true) := by simpa using eqRing_ok t t
        have ke1 : PureCall Try.prog 12 [.agg [.l3 a], .agg [.l3 a]] (.bool true) := by simpa using eqAction_ok a a
        have ke2 : PureCall Try.prog 12 [.agg [.l3 b], .agg [.l3 b]] (.bool true) := by simpa using eqAction_ok b b
        (repeat refine ats_seq ?_); refine ats_go (fix0 hcx) fun K hK => ?_; simp only [go_sem, seval]
        first | refine fcall_free rfl rfl (keq) ?_ | refine YR_intro (acall_free rfl rfl (keq)) ?_
        simp only [go_sem, seval]
        refine hK _ ?_; clear hK K
        (repeat refine ats_seq ?_); first | refine ats_ifn (p := _) rfl trivial (fun hx => ?_) (fun hx => ?_) | refine ats_ifp (p := _) rfl trivial (fun hx => ?_) (fun hx => ?_) | refine ats_cond rfl trivial (fun hx => ?_) (fun hx => ?_)
        · simp at hx
        refine ats_skip ?_
        (repeat refine ats_seq ?_)
        first | refine ats_go (fix0 hcx) fun K hK => ?_ | refine ats_pick (fix0 hcx) mixed (by as_aux_lemma => kernel_rfl) fun K hK => ?_
        simp only [go_sem, seval]
        first | refine fcall_fresh rfl (k0) ?_ | refine YR_intro (acall_fresh rfl (k0)) ?_
        simp only [go_sem, seval]
        first | refine fcall_free rfl rfl (ke0) ?_ | refine YR_intro (acall_free rfl rfl (ke0)) ?_
        simp only [go_sem, seval]
        refine hK _ ?_; clear hK K
        (repeat refine ats_seq ?_); refine ats_no rfl trivial ?_
        refine ats_skip ?_
        (repeat refine ats_seq ?_)
        first | refine ats_go (fix0 hcx) fun K hK => ?_ | refine ats_pick (fix0 hcx) mixed (by as_aux_lemma => kernel_rfl) fun K hK => ?_
        simp only [go_sem, seval]
        first | refine fcall_fresh rfl (k1) ?_ | refine YR_intro (acall_fresh rfl (k1)) ?_
        simp only [go_sem, seval]
        first | refine fcall_free rfl rfl (ke1) ?_ | refine YR_intro (acall_free rfl rfl (ke1)) ?_
        simp only [go_sem, seval]
        refine hK _ ?_; clear hK K
        (repeat refine ats_seq ?_); refine ats_no rfl trivial ?_
        refine ats_skip ?_
        (repeat refine ats_seq ?_)
        first | refine ats_go (fix0 hcx) fun K hK => ?_ | refine ats_pick (fix0 hcx) mixed (by as_aux_lemma => kernel_rfl) fun K hK => ?_
        simp only [go_sem, seval]
        first | refine fcall_fresh rfl (k2) ?_ | refine YR_intro (acall_fresh rfl (k2)) ?_
        simp only [go_sem, seval]
        first | refine fcall_free rfl rfl (ke2) ?_ | refine YR_intro (acall_free rfl rfl (ke2)) ?_
        simp only [go_sem, seval]
        refine hK _ ?_; clear hK K
        (repeat refine ats_seq ?_); refine ats_no rfl trivial ?_
        refine ats_skip ?_
        (repeat refine ats_seq ?_); refine ats_go (fix0 hcx) fun K hK => ?_; simp only [go_sem, seval]; refine hK _ ?_; clear hK K
        (repeat refine ats_seq ?_); refine ats_go (fix0 hcx) fun K hK => ?_; simp only [go_sem, seval]
        refine fcall_turn (fun i => i + 3) (markRing_ok t (1) (by omega) (by omega)) rfl rfl rfl (by simp [Aw.ids]) (by simp [find]) ?_; simp only [Aw.ids, renT, List.map_cons, List.map_nil]; simp only [go_sem, seval]
        refine hK _ ?_; clear hK K
        (repeat refine ats_seq ?_); refine ats_go (fix0 hcx) fun K hK => ?_; simp only [go_sem, seval]
        refine fcall_turn (fun i => i + 5) (markAction_ok a (1 + (tot3 t : Nat)) (by omega) (by omega)) rfl rfl rfl (by simp [Aw.ids]) (by simp [find]) ?_; simp only [Aw.ids, renT, List.map_cons, List.map_nil]; simp only [go_sem, seval]
        refine hK _ ?_; clear hK K
        (repeat refine ats_seq ?_); refine ats_go (fix0 hcx) fun K hK => ?_; simp only [go_sem, seval]
        refine fcall_turn (fun i => i + 7) (markAction_ok b (1 + (tot3 t : Nat) + (tot3 a : Nat)) (by omega) (by omega)) rfl rfl rfl (by simp [Aw.ids]) (by simp [find]) ?_; simp only [Aw.ids, renT, List.map_cons, List.map_nil]; simp only [go_sem, seval]
        refine hK _ ?_; clear hK K
        (repeat refine ats_seq ?_); refine ats_go (fix0 hcx) fun K hK => ?_; simp only [go_sem, seval]
        first | refine YR_intro (fun _ => acall_free rfl rfl (keq)) ?_ | refine YR_intro (acall_free rfl rfl (keq)) ?_
        simp only [go_sem, seval]
        refine hK _ ?_; clear hK K
        (repeat refine ats_seq ?_); first | refine ats_ifn (p := _) rfl trivial (fun hx1 => ?_) (fun hx1 => ?_) | refine ats_ifp (p := _) rfl trivial (fun hx1 => ?_) (fun hx1 => ?_) | refine ats_cond rfl trivial (fun hx1 => ?_) (fun hx1 => ?_)
        · simp at hx1; omega
        refine ats_skip ?_
        (repeat refine ats_seq ?_); refine ats_go (fix0 hcx) fun K hK => ?_; simp only [go_sem, seval]; refine hK _ ?_; clear hK K
        (repeat refine ats_seq ?_); refine ats_go (fix0 hcx) fun K hK => ?_; simp only [go_sem, seval]
        refine fcall_turn (fun i => i + 9) (markInt64S_ok u 1 (by decide) (by omega)) rfl rfl rfl (by simp [Aw.ids]) (by simp [find]) ?_; simp only [Aw.ids, renT, List.map_cons, List.map_nil]; simp only [go_sem, seval]
        refine hK _ ?_; clear hK K
        (repeat refine ats_seq ?_); refine ats_go (fix0 hcx) fun K hK => ?_; simp only [go_sem, seval]; refine hK _ ?_; clear hK K
        (repeat refine ats_seq ?_); refine ats_go (fix0 hcx) fun K hK => ?_; simp only [go_sem, seval]
        first | refine fcall_free rfl rfl (heldInt64S_ok u.length 1 (by decide) (by omega)) ?_ | refine YR_intro (acall_free rfl rfl (heldInt64S_ok u.length 1 (by decide) (by omega))) ?_
        simp only [go_sem, seval]
        refine hK _ ?_; clear hK K
        (repeat refine ats_seq ?_); refine ats_go (fix0 hcx) fun K hK => ?_; simp only [go_sem, seval]; refine hK _ ?_; clear hK K
        (repeat refine ats_seq ?_); first | refine ats_ifn (p := _) rfl trivial (fun hx2 => ?_) (fun hx2 => ?_) | refine ats_ifp (p := _) rfl trivial (fun hx2 => ?_) (fun hx2 => ?_) | refine ats_cond rfl trivial (fun hx2 => ?_) (fun hx2 => ?_)
        · omega
        refine ats_skip ?_
        (repeat refine ats_seq ?_); refine ats_go (fix0 hcx) fun K hK => ?_; simp only [go_sem, seval]; refine hK _ ?_; clear hK K
        (repeat refine ats_seq ?_); first | refine ats_ifn (p := _) rfl trivial (fun hx3 => ?_) (fun hx3 => ?_) | refine ats_ifp (p := _) rfl trivial (fun hx3 => ?_) (fun hx3 => ?_) | refine ats_cond rfl trivial (fun hx3 => ?_) (fun hx3 => ?_)
        · exact absurd trivial hx3
        refine ats_skip ?_
        (repeat refine ats_seq ?_)
        first | refine ats_go (fix0 hcx) fun K hK => ?_ | refine ats_pick (fix0 hcx) mixed (by as_aux_lemma => kernel_rfl) fun K hK => ?_
        simp only [go_sem, seval]
        first | refine fcall_fresh rfl (k0) ?_ | refine YR_intro (acall_fresh rfl (k0)) ?_
        simp only [go_sem, seval]
        first | refine fcall_fresh rfl (k1) ?_ | refine YR_intro (acall_fresh rfl (k1)) ?_
        simp only [go_sem, seval]
        first | refine fcall_fresh rfl (k2) ?_ | refine YR_intro (acall_fresh rfl (k2)) ?_
        simp only [go_sem, seval]
        first | refine fcall_fresh rfl (ki) ?_ | refine YR_intro (acall_fresh rfl (ki)) ?_
        simp only [go_sem, seval]
        refine hK _ ?_; clear hK K
        (repeat refine ats_seq ?_); refine ats_go (fix0 hcx) fun K hK => ?_; simp only [go_sem, seval]
        first | refine fcall_data (keq) rfl ?_ | refine YR_intro (acall_data (keq) rfl) ?_
        simp only [go_sem, seval]
        refine hK _ ?_; clear hK K
        (repeat refine ats_seq ?_); first | refine ats_ifn (p := _) rfl trivial (fun hx4 => ?_) (fun hx4 => ?_) | refine ats_ifp (p := _) rfl trivial (fun hx4 => ?_) (fun hx4 => ?_) | refine ats_cond rfl trivial (fun hx4 => ?_) (fun hx4 => ?_)
        · simp at hx4
        refine ats_skip ?_
        (repeat refine ats_seq ?_); refine ats_go (fix0 hcx) fun K hK => ?_; simp only [go_sem, seval]; refine hK _ ?_; clear hK K
        (repeat refine ats_seq ?_); refine ats_go (fix0 hcx) fun K hK => ?_; simp only [go_sem, seval]
        first | refine fcall_free rfl rfl (heldInt64S_ok u.length 1 (by decide) (by omega)) ?_ | refine YR_intro (acall_free rfl rfl (heldInt64S_ok u.length 1 (by decide) (by omega))) ?_
        simp only [go_sem, seval]
        refine hK _ ?_; clear hK K
        (repeat refine ats_seq ?_); refine ats_go (fix0 hcx) fun K hK => ?_; simp only [go_sem, seval]; refine hK _ ?_; clear hK K
        (repeat refine ats_seq ?_); first | refine ats_ifn (p := _) rfl trivial (fun hx5 => ?_) (fun hx5 => ?_) | refine ats_ifp (p := _) rfl trivial (fun hx5 => ?_) (fun hx5 => ?_) | refine ats_cond rfl trivial (fun hx5 => ?_) (fun hx5 => ?_)
        · omega
        refine ats_skip ?_
        (repeat refine ats_seq ?_); refine ats_go (fix0 hcx) fun K hK => ?_; simp only [go_sem, seval]; refine hK _ ?_; clear hK K
        (repeat refine ats_seq ?_); first | refine ats_ifn (p := _) rfl trivial (fun hx6 => ?_) (fun hx6 => ?_) | refine ats_ifp (p := _) rfl trivial (fun hx6 => ?_) (fun hx6 => ?_) | refine ats_cond rfl trivial (fun hx6 => ?_) (fun hx6 => ?_)
        · exact absurd trivial hx6
        refine ats_skip ?_
        (repeat refine ats_seq ?_); refine ats_go (fix0 hcx) fun K hK => ?_; simp only [go_sem, seval]; refine hK _ ?_; clear hK K
        refine ats_ret (finB rfl ?_)
        rfl

theorem own : ownKnob Try.prog.godebug = none := by kernel_rfl

set_option maxRecDepth 100000 in
theorem contract (H : Type) (enc : TypeId × Value → H) (W : World) (base : Nat) (args : Array Value) (ds gs : List (DataW H)) (before : List MemPlace)
    (hval : ∀ (j : Nat) t v, Try.f3.params[j]? = some t → args[j]? = some v → Value.okWide Try.prog W .any base t v)
    (hW : DataW.Whole enc Try.prog Try.f3.params.toList Rows.fnExactActionIsomorphismSpec.vars false W args.toList ds gs before) :
    Calls Try.prog 3 args W fun e W' => ∃ v, e = .returned v ∧ Rows.fnExactActionIsomorphismSpec.post enc Try.prog Try.f3 false true false false W args v W' := by
  have hW' := hW
  obtain ⟨p, q, hA0, hV, rfl, hfz, hnd⟩ := hW
  have hA : DataW.TrodAll enc Try.prog W 0 (fun _ => true) true Try.f3.params.toList args.toList ds p := hA0
  rw [Try.params3] at hA hval
  obtain ⟨v0, vs0, d0, ds0, p0, q0, hargs, rfl, rfl, h0, r0⟩ := trodAll_cons hA
  obtain ⟨v1, vs1, d1, ds1, p1, q1, rfl, rfl, rfl, h1, r1⟩ := trodAll_cons r0
  obtain ⟨v2, vs2, d2, ds2, p2, q2, rfl, rfl, rfl, h2, r2⟩ := trodAll_cons r1
  obtain ⟨rfl, rfl, rfl⟩ := trodAll_nil r2
  obtain rfl : args = #[v0, v1, v2] := by cases args; simp_all
  obtain ⟨rfl, rfl⟩ := trodVars_none hV
  obtain ⟨t, g0⟩ := rdRing (hval 0 _ v0 rfl rfl) h0
  obtain ⟨a, g1⟩ := rdAction (hval 1 _ v1 rfl rfl) h1
  obtain ⟨b, g2⟩ := rdAction (hval 2 _ v2 rfl rfl) h2
  refine ((law_ok t a b).runs [v0, v1, v2] W (lower W) (fun b hb => hb) ⟨g0, g1, g2, trivial⟩).mono fun e W' ⟨v, he, hx, hr⟩ => ⟨v, he, ?_⟩
  simp only [Rd, rep] at hr
  subst hr
  exact law_post (tb := 4) (by kernel_rfl) rfl (by kernel_rfl) Try.underlying4 (by kernel_rfl) hW' rfl rfl rfl hx

set_option maxHeartbeats 0 in
set_option maxRecDepth 100000 in
theorem lifted (os : Os) (started : os.Started) (H : Type) (enc : TypeId × Value → H) :
    ReturnsInHanded {} Try.checked os 3 .any (Rows.fnExactActionIsomorphismSpec.pre6 enc Try.prog Try.f3 Rows.fnExactActionIsomorphismRow.domain false) (Rows.fnExactActionIsomorphismSpec.post enc Try.prog Try.f3 false true false false) :=
  returnsInHanded_of_change (C := Try.checked) own started (by as_aux_lemma => kernel_rfl) Try.func3
    (ChangeSpec.witness6 (C := Try.checked) false ⟨#[], #[.agg #[.slice none 0 0], .agg #[.slice none 0 0], .agg #[.slice none 0 0]], []⟩ 8 (by as_aux_lemma => kernel_rfl) (by as_aux_lemma => kernel_rfl) (by as_aux_lemma => kernel_rfl) (by as_aux_lemma => kernel_rfl) (by as_aux_lemma => kernel_rfl))
    (fun W base args ds gs before hval hW _ _ => contract H enc W base args ds gs before hval hW)

set_option maxHeartbeats 0 in
theorem over : Rows.fnExactActionIsomorphismRow.holds Try.pinned (OpenSpec.ofChange Rows.fnExactActionIsomorphismSpec) :=
  OpenClaim.holds_of_wide 3 Try.f3 rfl rfl rfl rfl rfl rfl rfl ⟨rfl, rfl, rfl, rfl, rfl⟩ rfl rfl rfl rfl rfl (by as_aux_lemma => kernel_rfl) Try.func3 (by as_aux_lemma => kernel_rfl)
    (of_decide_eq_true (by as_aux_lemma => kernel_rfl)) (by unfold Func.isWrapper; first | (rw [if_pos (by decide +kernel)]; as_aux_lemma => kernel_rfl) | (rw [if_neg (by decide +kernel)]; exact ⟨rfl, rfl⟩))
    (fun os started H enc _ => lifted os started H enc)

theorem proved : Rows.FnExactActionIsomorphismSaid := over
end Go.Proofs.Ytbddekioaigbhaa.FnExactActionIsomorphism
