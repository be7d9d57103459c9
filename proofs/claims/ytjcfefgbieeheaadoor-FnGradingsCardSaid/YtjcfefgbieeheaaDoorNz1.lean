import Derived.Test.YtjcfefgbieeheaaDoorMn
import Derived.Test.YtjcfefgbieeheaaDoorMz1
import Derived.Test.YtjcfefgbieeheaaDoorMz3
import Derived.Test.YtjcfefgbieeheaaDoorQd2
import Derived.Test.YtjcfefgbieeheaaDoorQd3
set_option linter.unusedSimpArgs false
set_option linter.unusedVariables false
namespace Go.Pl
variable {t : Cu}
noncomputable def cmR (t : Cu) : Option (List Int) × Int := if isRing t = true then (some (clsL t.length (CoR t (adj t))), 0) else (none, 1)
theorem comp_iff (h : RingP t) {A i j : Nat} (hA : ClosP t A) (hi : i < t.length) (hj : j < t.length) : suS t (dN t i) j &&& A ≠ 0 ↔ CoR t A i j := by
 constructor
 ·intro hne
  by_cases hx : ∃ k, (suS t (dN t i) j &&& A).testBit k = true
  ·obtain ⟨k, hk⟩ := hx
   rw [and_bit] at hk
   obtain ⟨hk, ho⟩ := And.intro (suS_bit.1 hk.1) hk.2
   exact ⟨k, hk.1, ho, (h.oc_t1 hi hk.1 hj).2 hk.2⟩
  ·refine absurd (bits_ext fun k => ?_) hne
   constructor
   ·intro hk
    exact absurd ⟨k, hk⟩ hx
   ·intro hk
    rw [Nat.zero_testBit] at hk
    cases hk
 ·rintro ⟨k, hk, hb, ho⟩ e
  have : (suS t (dN t i) j &&& A).testBit k = true := and_bit.2 ⟨suS_bit.2 ⟨hk, (h.oc_t1 hi hk hj).1 ho⟩, hb⟩
  rw [e, Nat.zero_testBit] at this
  cases this
end Go.Pl
namespace Go.Proofs.YtjcfefgbieeheaaDoor
open Go Go.Aw Go.Pl
attribute [local go_sem] pl_fin pl_stop pl_one pl_alt PK_ap pickO List.getElem?_toArray List.getElem?_cons_zero List.getElem?_cons_succ
theorem specCmp_ok (t : Cu) : FreshCall Tryd.prog 11 [.agg [.l3 t]] (.tup [optA (cmR t).1, .int (cmR t).2]) := by
 have h0 := l03Is_ok t
 cases hr : isRing t with
 | false =>
  rw [hr] at h0
  have e : cmR t = (none, 1) := by unfold cmR; rw [hr]; rfl
  rw [e]
  refine FreshCall.intro (n := 11) (rs := [.tmp 2, .tmp 3]) Tryd.call11 Tryd.func11 rfl rfl rfl (by simp only [List.length_cons, List.length_nil]; omega) (fun cx hcx => ats_of ?_); simp only [argSlots, Nat.zero_add, Nat.reduceAdd]
  refine gA ?_
  refine gC fun K hK => ?_
  first | refine fcall_data (h0) rfl ?_ | refine YR_intro (acall_data (h0) rfl) ?_
  simp only [go_sem, seval]
  refine hK _ ?_; clear hK K
  (repeat refine ats_seq ?_); refine ats_yes rfl trivial ?_
  refine gA ?_
  exact ats_ret (own2 (is := []) trivial trivial rfl (by simp))
 | true =>
  rw [hr] at h0
  have h := isRing_P hr
  have e : cmR t = (some (clsL t.length (CoR t (adj t))), 0) := by unfold cmR; rw [hr]; rfl
  rw [e]
  have hA := l05Adjoint_ok t h
  have hS := l05Cosets_ok t h (adj t) (adj_clos h)
  refine FreshCall.intro (n := 11) (rs := [.tmp 2, .tmp 3]) Tryd.call11 Tryd.func11 rfl rfl rfl (by simp only [List.length_cons, List.length_nil]; omega) (fun cx hcx => ats_of ?_); simp only [argSlots, Nat.zero_add, Nat.reduceAdd]
  refine gA ?_
  refine gC fun K hK => ?_
  first | refine fcall_data (h0) rfl ?_ | refine YR_intro (acall_data (h0) rfl) ?_
  simp only [go_sem, seval]
  refine hK _ ?_; clear hK K
  (repeat refine ats_seq ?_); refine ats_no rfl trivial ?_
  refine ats_skip ?_
  (repeat refine ats_seq ?_)
  refine ats_plan [3] (.one 0 (.one 1 (.one 2 (.alt 3 (.one 4 (.one 5 .fin)) .stop)))) ⟨[(1, .bptr 0 0), (2, .ref 1 []), (3, .int 0)], [(1, .t1 (clsL t.length (CoR t (adj t)))), (0, .bx [.l3 t])]⟩ (fix0 hcx) mixed (by kernel_rfl) (fun K hK => ?_) ?_
  ·simp only [go_sem, seval, Option.getD_some, and_true, true_and, and_self, List.contains_cons, List.contains_nil, Bool.or_false, Bool.or_true]
   repeat' (first | exact hK _ (by refine And.intro ?_ rfl; simp only [leS, Nat.reduceEqDiff, ↓reduceIte, true_and, and_true])  | with_reducible refine And.intro ?_ ?_ | omega | ((first | refine fcall_data (hA) rfl ?_ | refine YR_intro (acall_data (hA) rfl) ?_); simp only [go_sem, seval, Option.getD_some, and_true, true_and, and_self, List.contains_cons, List.contains_nil, Bool.or_false, Bool.or_true]) | (refine fcall_own rfl (hS) rfl ?_; simp only [go_sem, seval, Option.getD_some, and_true, true_and, and_self, List.contains_cons, List.contains_nil, Bool.or_false, Bool.or_true]))
  exact ats_ret (own2 (is := [1]) trivial trivial rfl (by simp))
theorem components1_ok (t : Cu) (h : RingP t) (i j : Nat) (hi : i < t.length) (hj : j < t.length) : PureCall Tryd.prog 58 [.int i, .int j, .cptr [.l2 (supL t)] 0, .cptr [.l1 (ds t)] 0, .cptr [.int (adj t : Nat)] 0] (.bool (bd (CoR t (adj t) i j))) := by
 have hA := adj_clos h
 have h16 := h.cube.2.1
 have hdl := h.dlt hi
 have gd := ds_get (t := t) hi
 rw [← h.dI hi] at gd
 have ld := ds_length t
 have sg := sup_get (t := t) hdl hj
 have sr := sup_row (t := t) hdl
 have sl := sup_len (t := t)
 have ea := andS (full_in h16 (suS_lt (t := t) (i := dN t i) (j := j))) (full_in h16 hA.lt)
 have hq : (!decide (((suS t (dN t i) j &&& adj t : Nat) : Int) = 0)) = bd (CoR t (adj t) i j) := by
  have hc := comp_iff h hA hi hj
  by_cases hb : CoR t (adj t) i j
  ·rw [bd_true hb, decide_eq_false (fun e => hc.2 hb (by omega))]
   rfl
  ·rw [bd_false hb, decide_eq_true]
   ·rfl
   ·have : suS t (dN t i) j &&& adj t = 0 := Decidable.of_not_not fun e => hb (hc.1 e)
    omega
 rw [← hq]
 generalize ds t = D at *
 generalize supL t = S at *
 refine PureCall.intro (n := 21) (rs := [.tmp 7]) Tryd.call58 Tryd.func58 rfl rfl rfl (by simp only [List.length_cons, List.length_nil]; omega) (fun cx hcx => ats_of ?_); simp only [argSlots, Nat.zero_add, Nat.reduceAdd]
 refine gA ?_
 (repeat refine ats_seq ?_); refine ats_pick (fix0 hcx) mixed (by kernel_rfl) fun K hK => ?_; simp only [go_sem, seval]
 try simp only [Int.toNat_natCast]
 rw [gd]
 simp only [Int.toNat_natCast, sg, ea]
 (repeat refine aI (hb := ?_))
 refine hK _ ?_; clear hK K
 refine ats_ret (finB rfl ?_)
 first | rfl | simp
end Go.Proofs.YtjcfefgbieeheaaDoor
namespace Go.Aw
open Go.ChangeShapes Go.WideShapes Go.RowKit Go.Deep
theorem ats_plan6 {P : Program} {cx : Cx} {n : Nat} {Q : SQ} {st : St} {cs : List Code} (own : List Nat) (p : Plan) (z1 z2 z3 z4 z5 z6 : St) {id : Nat} {l : List Oper} (hx : ∀ o ∈ l, ∀ d, o.dst = some d → cx.fix d = false) (hm : P.follows .mixedOrders = true) (hB : drawPl P own p l.toArray = true) (h : ∀ K : St → Prop, (∀ s, Le s z1 → K s) → (∀ s, Le s z2 → K s) → (∀ s, Le s z3 → K s) → (∀ s, Le s z4 → K s) → (∀ s, Le s z5 → K s) → (∀ s, Le s z6 → K s) → plRun P l.toArray n own p st K) (h1 : ATs P cx n cs Q z1) (h2 : ATs P cx n cs Q z2) (h3 : ATs P cx n cs Q z3) (h4 : ATs P cx n cs Q z4) (h5 : ATs P cx n cs Q z5) (h6 : ATs P cx n cs Q z6) : ATs P cx n (.region id l.toArray true :: cs) Q st :=
 AT.weak (AT.drawPl hx hm hB (h _ (fun s hl => ⟨z1, hl, h1⟩) (fun s hl => ⟨z2, hl, h2⟩) (fun s hl => ⟨z3, hl, h3⟩) (fun s hl => ⟨z4, hl, h4⟩) (fun s hl => ⟨z5, hl, h5⟩) (fun s hl => ⟨z6, hl, h6⟩)))
end Go.Aw
namespace Go.Proofs.YtjcfefgbieeheaaDoor
open Go Go.Aw Go.Pl
attribute [local go_sem] pl_fin pl_stop pl_one pl_alt PK_ap pickO List.getElem?_toArray List.getElem?_cons_zero List.getElem?_cons_succ
theorem components_ok (t : Cu) (h : RingP t) : FreshCall Tryd.prog 31 [.agg [.l3 t]] (.l1 (clsL t.length (CoR t (adj t)))) := by
 have h16 := h.cube.2.1
 have hS := supports_ok t h.cube
 have hD := duals_ok t h.cube
 have hA := implAdj_ok t h
 have hCl := classes_ok t h16 58 [.cptr [.l2 (supL t)] 0, .cptr [.l1 (ds t)] 0, .cptr [.int (adj t : Nat)] 0] rfl (CoR t (adj t)) (co_eqv h (adj_clos h)) (components1_ok t h)
 refine FreshCall.intro (n := 15) (rs := [.tmp 2]) Tryd.call31 Tryd.func31 rfl rfl rfl (by simp only [List.length_cons, List.length_nil]; omega) (fun cx hcx => ats_of ?_); simp only [argSlots, Nat.zero_add, Nat.reduceAdd]
 refine gB ?_
 (repeat refine ats_seq ?_)
 refine ats_plan6 [] (.one 0 (.one 1 (.one 2 (.one 3 (.one 4 (.one 5 (.alt 6 (.alt 7 (.alt 8 (.alt 9 (.alt 10 (.alt 11 .fin .stop) .stop) .stop) .stop) (.alt 8 (.alt 7 (.alt 9 (.alt 10 (.alt 11 .fin .stop) .stop) .stop) .stop) .stop)) (.alt 7 (.alt 6 (.alt 8 (.alt 9 (.alt 10 (.alt 11 .fin .stop) .stop) .stop) .stop) (.alt 8 (.alt 6 (.alt 9 (.alt 10 (.alt 11 .fin .stop) .stop) .stop) .stop) .stop)) (.alt 8 (.alt 6 (.alt 7 (.alt 9 (.alt 10 (.alt 11 .fin .stop) .stop) .stop) .stop) (.alt 7 (.alt 6 (.alt 9 (.alt 10 (.alt 11 .fin .stop) .stop) .stop) .stop) .stop)) .stop))))))))) ⟨[(1, .bptr 0 0), (3, .bptr 1 0), (4, .bptr 2 0), (5, .bptr 3 0)], [(0, .bx [.l3 t]), (1, .bx [.l2 (supL t)]), (2, .bx [.l1 (ds t)]), (3, .bx [.int (adj t : Nat)])]⟩ ⟨[(1, .bptr 0 0), (3, .bptr 1 0), (4, .bptr 3 0), (5, .bptr 2 0)], [(0, .bx [.l3 t]), (1, .bx [.l2 (supL t)]), (2, .bx [.int (adj t : Nat)]), (3, .bx [.l1 (ds t)])]⟩ ⟨[(1, .bptr 0 0), (3, .bptr 2 0), (4, .bptr 1 0), (5, .bptr 3 0)], [(0, .bx [.l3 t]), (1, .bx [.l1 (ds t)]), (2, .bx [.l2 (supL t)]), (3, .bx [.int (adj t : Nat)])]⟩ ⟨[(1, .bptr 0 0), (3, .bptr 2 0), (4, .bptr 3 0), (5, .bptr 1 0)], [(0, .bx [.l3 t]), (1, .bx [.int (adj t : Nat)]), (2, .bx [.l2 (supL t)]), (3, .bx [.l1 (ds t)])]⟩ ⟨[(1, .bptr 0 0), (3, .bptr 3 0), (4, .bptr 1 0), (5, .bptr 2 0)], [(0, .bx [.l3 t]), (1, .bx [.l1 (ds t)]), (2, .bx [.int (adj t : Nat)]), (3, .bx [.l2 (supL t)])]⟩ ⟨[(1, .bptr 0 0), (3, .bptr 3 0), (4, .bptr 2 0), (5, .bptr 1 0)], [(0, .bx [.l3 t]), (1, .bx [.int (adj t : Nat)]), (2, .bx [.l1 (ds t)]), (3, .bx [.l2 (supL t)])]⟩ (fix0 hcx) mixed (by kernel_rfl) (fun K k1 k2 k3 k4 k5 k6 => ?_) ?_ ?_ ?_ ?_ ?_ ?_
 ·simp only [go_sem, seval, Option.getD_some, and_true, true_and, and_self, List.contains_cons, List.contains_nil, Bool.or_false, Bool.or_true]
  repeat' (first | exact k1 _ (by refine And.intro ?_ rfl; simp only [leS, Nat.reduceEqDiff, ↓reduceIte, true_and, and_true]) | exact k2 _ (by refine And.intro ?_ rfl; simp only [leS, Nat.reduceEqDiff, ↓reduceIte, true_and, and_true]) | exact k3 _ (by refine And.intro ?_ rfl; simp only [leS, Nat.reduceEqDiff, ↓reduceIte, true_and, and_true]) | exact k4 _ (by refine And.intro ?_ rfl; simp only [leS, Nat.reduceEqDiff, ↓reduceIte, true_and, and_true]) | exact k5 _ (by refine And.intro ?_ rfl; simp only [leS, Nat.reduceEqDiff, ↓reduceIte, true_and, and_true]) | exact k6 _ (by refine And.intro ?_ rfl; simp only [leS, Nat.reduceEqDiff, ↓reduceIte, true_and, and_true]) | with_reducible refine And.intro ?_ ?_ | omega | ((first | refine fcall_fresh rfl (hS) ?_ | refine YR_intro (acall_fresh rfl (hS)) ?_); simp only [go_sem, seval, Option.getD_some, and_true, true_and, and_self, List.contains_cons, List.contains_nil, Bool.or_false, Bool.or_true]) | ((first | refine fcall_fresh rfl (hD) ?_ | refine YR_intro (acall_fresh rfl (hD)) ?_); simp only [go_sem, seval, Option.getD_some, and_true, true_and, and_self, List.contains_cons, List.contains_nil, Bool.or_false, Bool.or_true]) | ((first | refine fcall_data (hA) rfl ?_ | refine YR_intro (acall_data (hA) rfl) ?_); simp only [go_sem, seval, Option.getD_some, and_true, true_and, and_self, List.contains_cons, List.contains_nil, Bool.or_false, Bool.or_true]))
 all_goals
  refine gC fun K hK => ?_
  refine fcall_own rfl (hCl) rfl ?_; simp only [go_sem, seval]
  refine hK _ ?_; clear hK K
  exact ats_ret (ownV (is := [4]) rfl ⟨rfl, trivial⟩ rfl (by simp))
theorem implCmp_ok (t : Cu) : FreshCall Tryd.prog 10 [.agg [.l3 t]] (.tup [optA (cmR t).1, .int (cmR t).2]) := by
 have h0 := IsRing_ok t
 cases hr : isRing t with
 | false =>
  rw [hr] at h0
  have e : cmR t = (none, 1) := by unfold cmR; rw [hr]; rfl
  rw [e]
  refine FreshCall.intro (n := 9) (rs := [.tmp 2, .tmp 3]) Tryd.call10 Tryd.func10 rfl rfl rfl (by simp only [List.length_cons, List.length_nil]; omega) (fun cx hcx => ats_of ?_); simp only [argSlots, Nat.zero_add, Nat.reduceAdd]
  refine gB ?_
  refine gC fun K hK => ?_
  first | refine fcall_data (h0) rfl ?_ | refine YR_intro (acall_data (h0) rfl) ?_
  simp only [go_sem, seval]
  refine hK _ ?_; clear hK K
  (repeat refine ats_seq ?_); refine ats_yes rfl trivial ?_
  refine gA ?_
  exact ats_ret (own2 (is := []) trivial trivial rfl (by simp))
 | true =>
  rw [hr] at h0
  have e : cmR t = (some (clsL t.length (CoR t (adj t))), 0) := by unfold cmR; rw [hr]; rfl
  rw [e]
  have hS := components_ok t (isRing_P hr)
  refine FreshCall.intro (n := 9) (rs := [.tmp 2, .tmp 3]) Tryd.call10 Tryd.func10 rfl rfl rfl (by simp only [List.length_cons, List.length_nil]; omega) (fun cx hcx => ats_of ?_); simp only [argSlots, Nat.zero_add, Nat.reduceAdd]
  refine gB ?_
  refine gC fun K hK => ?_
  first | refine fcall_data (h0) rfl ?_ | refine YR_intro (acall_data (h0) rfl) ?_
  simp only [go_sem, seval]
  refine hK _ ?_; clear hK K
  (repeat refine ats_seq ?_); refine ats_no rfl trivial ?_
  refine ats_skip ?_
  refine gC fun K hK => ?_
  refine fcall_own rfl (hS) rfl ?_; simp only [go_sem, seval]
  refine hK _ ?_; clear hK K
  exact ats_ret (own2 (is := [1]) trivial trivial rfl (by simp))
end Go.Proofs.YtjcfefgbieeheaaDoor
namespace Go.Proofs.YtjcfefgbieeheaaDoor
open Go Go.Aw Go.Pl
attribute [local go_sem] pl_fin pl_stop pl_one pl_alt PK_ap pickO List.getElem?_toArray List.getElem?_cons_zero List.getElem?_cons_succ
theorem specGr_ok (t : Cu) : FreshCall Tryd.prog 8 [.agg [.l3 t]] (.tup [optM (grR t).1, .int (grR t).2]) := by
 have h0 := l03Is_ok t
 cases hr : isRing t with
 | false =>
  rw [hr] at h0
  have e : grR t = (none, 1) := by unfold grR; rw [hr]; rfl
  rw [e]
  refine FreshCall.intro (n := 71) (rs := [.tmp 2, .tmp 3]) Tryd.call8 Tryd.func8 rfl rfl rfl (by simp only [List.length_cons, List.length_nil]; omega) (fun cx hcx => ats_of ?_); simp only [argSlots, Nat.zero_add, Nat.reduceAdd]
  refine gB ?_
  refine gC fun K hK => ?_
  first | refine fcall_data (h0) rfl ?_ | refine YR_intro (acall_data (h0) rfl) ?_
  simp only [go_sem, seval]
  refine hK _ ?_; clear hK K
  (repeat refine ats_seq ?_); refine ats_yes rfl trivial ?_
  refine gB ?_
  exact ats_ret (own2 (is := []) trivial trivial rfl (by simp))
 | true =>
  rw [hr] at h0
  have h := isRing_P hr
  have hc := h.cube
  have h16 := hc.2.1
  have e : grR t = (some (ggM t), 0) := by unfold grR; rw [hr]; rfl
  rw [e]
  have hA := l05Adjoint_ok t h
  have hS := l05Cosets_ok t h (adj t) (adj_clos h)
  have hE := co_eqv h (adj_clos h)
  obtain ⟨R, hR⟩ : ∃ R, CoR t (adj t) = R := ⟨_, rfl⟩
  rw [hR] at hS hE
  have cl : (clsL t.length R).length = t.length := clsL_len
  refine FreshCall.intro (n := 71) (rs := [.tmp 2, .tmp 3]) Tryd.call8 Tryd.func8 rfl rfl rfl (by simp only [List.length_cons, List.length_nil]; omega) (fun cx hcx => ats_of ?_); simp only [argSlots, Nat.zero_add, Nat.reduceAdd]
  refine gB ?_
  refine gC fun K hK => ?_
  first | refine fcall_data (h0) rfl ?_ | refine YR_intro (acall_data (h0) rfl) ?_
  simp only [go_sem, seval]
  refine hK _ ?_; clear hK K
  (repeat refine ats_seq ?_); refine ats_no rfl trivial ?_
  refine ats_skip ?_
  (repeat refine ats_seq ?_)
  refine ats_planG [3] (.one 0 (.one 1 (.one 2 (.alt 3 (.one 5 (.alt 4 (.one 6 .fin) .stop)) (.alt 4 (.alt 3 (.one 5 (.one 6 .fin)) .stop) .stop))))) ⟨[(1, .bptr 0 0), (4, .ref 1 []), (5, .ref 2 [])], [(0, .bx [.l3 t]), (1, .t1 (clsL t.length R)), (2, .t2 [])]⟩ (fix0 hcx) mixed (by kernel_rfl) (fun K hK => ?_) ?_
  ·simp only [go_sem, seval, Option.getD_some, and_true, true_and, and_self, List.contains_cons, List.contains_nil, Bool.or_false, Bool.or_true]
   repeat' (first | (refine hK _ (ghost_can [] ?_ ?_); (focus (simp only [rnLs, rnL, rn, rns, sw, SlotsLe, St.get, slotGet, List.map_cons, List.map_nil, seval, AV.int.injEq, AV.bool.injEq, AV.l1.injEq, AV.l2.injEq, AV.l3.injEq, true_and, and_true]; done)); (focus (simp only [sortH, insH, rnHs, rnH, rnT, rn, rns, sw, List.map_cons, List.map_nil, seval]; done))) | (refine hK _ (ghost_can [(1, 2)] ?_ ?_); (focus (simp only [rnLs, rnL, rn, rns, sw, SlotsLe, St.get, slotGet, List.map_cons, List.map_nil, seval, AV.int.injEq, AV.bool.injEq, AV.l1.injEq, AV.l2.injEq, AV.l3.injEq, true_and, and_true]; done)); (focus (simp only [sortH, insH, rnHs, rnH, rnT, rn, rns, sw, List.map_cons, List.map_nil, seval]; done))) | with_reducible refine And.intro ?_ ?_ | omega | ((first | refine fcall_data (hA) rfl ?_ | refine YR_intro (acall_data (hA) rfl) ?_); simp only [go_sem, seval, Option.getD_some, and_true, true_and, and_self, List.contains_cons, List.contains_nil, Bool.or_false, Bool.or_true]) | (refine fcall_own rfl (hS) rfl ?_; simp only [go_sem, seval, Option.getD_some, and_true, true_and, and_self, List.contains_cons, List.contains_nil, Bool.or_false, Bool.or_true]))
  (repeat refine ats_seq ?_); refine AT.ghost (ghost_frz [1]) ?_; simp only [frzV, find, killA, killAs, qOf, rmT, killH, killT, List.map_cons, List.map_nil, List.filter_cons, List.filter_nil, List.contains_cons, List.contains_nil, Bool.or_false, Bool.or_true, Bool.false_and, Bool.not_true, Bool.not_false, Bool.false_eq_true, if_true, if_false, seval]
  refine gB ?_
  (repeat refine ats_seq ?_); refine ats_loop (fun i : Nat => ⟨[(1, .bptr 0 0), (4, .l1 (clsL t.length R)), (5, .ref 2 []), (6, .int i)], [(0, .bx [.l3 t]), (2, .t2 (matF (cnt R i) (ncG t) (gg t)))]⟩) (fun i => i ≤ t.length) (fun i => t.length - i) 0 (Nat.zero_le _) (by
   refine And.intro ?_ rfl; simp only [leS, Nat.reduceEqDiff, ↓reduceIte, true_and, and_true]
   first | done | rfl) (fun i hi => ?_)
  have ml : (matF (cnt R i) (ncG t) (gg t)).length = cnt R i := matF_length _ _ _
  refine gB ?_
  refine gI (fun hl => ?_) fun hl => ?_
  ·have hin : i < t.length := by omega
   have ci := clsL_get (R := R) hin
   have cil := cnt_le (R := R) (m := i)
   refine ats_skip ?_
   (repeat refine ats_seq ?_); refine ats_block ?_
   refine gC fun K hK => ?_
   simp only [ci, ml]
   (repeat refine aI (hb := ?_))
   refine hK _ ?_; clear hK K
   refine gI (fun h1 => ?_) fun h1 => ?_
   ·have hne : ¬ rp R i = i := fun e => by
     have := (hE.num_new hin).2 e
     omega
    have es : cnt R (i + 1) = cnt R i := by
     show cnt R i + (if rp R i = i then 1 else 0) = cnt R i
     rw [if_neg hne]; rfl
    refine ats_exit (bq_x ?_)
    refine gB ?_
    refine ⟨i + 1,  by omega, by omega, .inl ⟨by simp only [leS, Nat.reduceEqDiff, ↓reduceIte, true_and, and_true]; omega,  (by rw [es])⟩⟩
   ·have hi1 : num R i = cnt R i := by omega
    have hrp := (hE.num_new hin).1 hi1
    have es : cnt R (i + 1) = cnt R i + 1 := by
     show cnt R i + (if rp R i = i then 1 else 0) = cnt R i + 1
     rw [if_pos hrp]
    have rl := (hc.2.2 i hin).1
    refine ats_skip ?_
    refine gB ?_
    refine gB ?_
    (repeat refine ats_seq ?_); refine ats_loop (fun j : Nat => ⟨[(1, .bptr 0 0), (4, .l1 (clsL t.length R)), (5, .ref 2 []), (6, .int i), (7, .ref 3 []), (8, .int j)], [(0, .bx [.l3 t]), (2, .t2 (matF (cnt R i) (ncG t) (gg t))), (3, .t1 (rowF (cnt R j) (gg t (cnt R i))))]⟩) (fun j => j ≤ t.length) (fun j => t.length - j) 0 (Nat.zero_le _) (by
     refine And.intro ?_ rfl; simp only [leS, Nat.reduceEqDiff, ↓reduceIte, true_and, and_true]
     first | done | rfl) (fun j hj => ?_)
    have ml2 : (rowF (cnt R j) (gg t (cnt R i))).length = cnt R j := rowF_length _ _
    refine gB ?_
    refine gI (fun hl2 => ?_) fun hl2 => ?_
    ·have hjn : j < t.length := by omega
     have cj := clsL_get (R := R) hjn
     have cjl := cnt_le (R := R) (m := j)
     refine ats_skip ?_
     (repeat refine ats_seq ?_); refine ats_block ?_
     refine gC fun K hK => ?_
     simp only [cj, ml2]
     (repeat refine aI (hb := ?_))
     refine hK _ ?_; clear hK K
     refine gI (fun h2 => ?_) fun h2 => ?_
     ·have hne : ¬ rp R j = j := fun e => by
       have := (hE.num_new hjn).2 e
       omega
      have es2 : cnt R (j + 1) = cnt R j := by
       show cnt R j + (if rp R j = j then 1 else 0) = cnt R j
       rw [if_neg hne]; rfl
      refine ats_exit (bq_x ?_)
      refine gB ?_
      refine ⟨j + 1,  by omega, by omega, .inl ⟨by simp only [leS, Nat.reduceEqDiff, ↓reduceIte, true_and, and_true]; omega,  (by rw [es2])⟩⟩
     ·have hj1 : num R j = cnt R j := by omega
      have hrp2 := (hE.num_new hjn).1 hj1
      have es2 : cnt R (j + 1) = cnt R j + 1 := by
       show cnt R j + (if rp R j = j then 1 else 0) = cnt R j + 1
       rw [if_pos hrp2]
      have rl2 : ((t.getD i []).getD j []).length = t.length := ((hc.2.2 i hin).2 j hjn).1
      obtain ⟨k1, k2, k3⟩ := gk_ok h hin hjn
      have hnum := gnum_oc h hin hjn k1 k2
      have hgg := gg_eq h hin hjn
      rw [hR, hi1, hj1] at hgg
      rw [hR] at hnum
      refine ats_skip ?_
      refine gB ?_
      (repeat refine ats_seq ?_); refine ats_loop (fun k : Nat => ⟨[(1, .bptr 0 0), (4, .l1 (clsL t.length R)), (5, .ref 2 []), (6, .int i), (7, .ref 3 []), (8, .int j), (9, .int k)], [(0, .bx [.l3 t]), (2, .t2 (matF (cnt R i) (ncG t) (gg t))), (3, .t1 (rowF (cnt R j) (gg t (cnt R i))))]⟩) (fun k => k ≤ gk t i j) (fun k => gk t i j - k) 0 (Nat.zero_le _) (by
       refine And.intro ?_ rfl; simp only [leS, Nat.reduceEqDiff, ↓reduceIte, true_and, and_true]
       first | done | rfl) (fun k hk => ?_)
      have hkn : k < t.length := by omega
      have nn := h.nn hin hjn hkn
      refine gB ?_
      refine gI (fun h3 => ?_) fun h3 => ?_
      ·have hkg : k ≠ gk t i j := fun e => by
        subst e
        unfold Oc at k2
        simp only [e3] at k2
        omega
       refine ats_skip ?_
       (repeat refine ats_seq ?_); refine ats_block ?_
       refine gB ?_
       refine ⟨k + 1,  by omega, by omega, .inl ⟨by simp only [leS, Nat.reduceEqDiff, ↓reduceIte, true_and, and_true]; omega,  rfl⟩⟩
      ·have hkg : k = gk t i j := by
        refine Nat.le_antisymm hk (Nat.le_of_not_lt fun hlt => ?_)
        have := k3 k hlt
        unfold Oc at this
        simp only [e3] at this nn
        omega
       have ck := clsL_get (R := R) hkn
       rw [hkg, hnum, ← hgg, ← hkg] at ck
       have ers : rowF (cnt R j) (gg t (cnt R i)) ++ [gg t (cnt R i) (cnt R j)] = rowF (cnt R (j + 1)) (gg t (cnt R i)) := by
        rw [es2]; exact rowF_snoc
       refine ats_exit (lq_x ?_)
       refine gC fun K hK => ?_
       simp only [ck, ml2]
       rw [ers]
       (repeat refine aI (hb := ?_))
       refine hK _ ?_; clear hK K
       refine gB ?_
       refine ⟨j + 1, by omega, by omega, .inr ⟨[4], by simp only [killL, List.map_cons, List.map_nil, killA, killAs, qOf, rmT, killH, killT, List.filter_cons, List.filter_nil, List.contains_cons, List.contains_nil, SlotsLe, St.get, slotGet, Nat.reduceEqDiff, Nat.reduceBEq, Bool.or_false, Bool.or_true, Bool.false_and, Bool.not_true, Bool.not_false, Bool.false_eq_true, ↓reduceIte, if_true, if_false, AV.int.injEq, AV.bool.injEq, AV.l1.injEq, AV.l2.injEq, AV.l3.injEq, true_and, and_true]; omega, by simp only [killL, List.map_cons, List.map_nil, killA, killAs, qOf, rmT, killH, killT, List.filter_cons, List.filter_nil, List.contains_cons, List.contains_nil, SlotsLe, St.get, slotGet, Nat.reduceEqDiff, Nat.reduceBEq, Bool.or_false, Bool.or_true, Bool.false_and, Bool.not_true, Bool.not_false, Bool.false_eq_true, ↓reduceIte, if_true, if_false, AV.int.injEq, AV.bool.injEq, AV.l1.injEq, AV.l2.injEq, AV.l3.injEq, true_and, and_true]; skip⟩⟩
    ·obtain rfl : j = t.length := by omega
     have emt : matF (cnt R i) (ncG t) (gg t) ++ [rowF (ncG t) (gg t (cnt R i))] = matF (cnt R (i + 1)) (ncG t) (gg t) := by
      rw [es]; exact matF_succ'
     have en : cnt R t.length = ncG t := by unfold ncG; rw [hR]
     rw [en]
     refine ats_exit (lq_x ?_)
     refine gB ?_
     rw [emt]
     refine gB ?_
     refine ⟨i + 1,  by omega, by omega, .inl ⟨by simp only [leS, Nat.reduceEqDiff, ↓reduceIte, true_and, and_true]; omega,  rfl⟩⟩
  ·obtain rfl : i = t.length := by omega
   have en : cnt R t.length = ncG t := by unfold ncG; rw [hR]
   refine ats_exit (lq_x ?_)
   rw [en]
   refine gB ?_
   exact ats_ret (own2 (is := [2]) trivial trivial rfl (by simp))
end Go.Proofs.YtjcfefgbieeheaaDoor
namespace Go.Proofs.YtjcfefgbieeheaaDoor
open Go Go.Aw Go.Pl
attribute [local go_sem] mv_nil mv_cons MVK_ap pl_fin pl_stop pl_one pl_alt PK_ap pickO List.getElem?_toArray List.getElem?_cons_zero List.getElem?_cons_succ
set_option maxRecDepth 5000 in
theorem implGr_ok (t : Cu) : FreshCall Tryd.prog 7 [.agg [.l3 t]] (.tup [optM (grR t).1, .int (grR t).2]) := by
 have h0 := IsRing_ok t
 cases hr : isRing t with
 | false =>
  rw [hr] at h0
  have e : grR t = (none, 1) := by unfold grR; rw [hr]; rfl
  rw [e]
  refine FreshCall.intro (n := 71) (rs := [.tmp 2, .tmp 3]) Tryd.call7 Tryd.func7 rfl rfl rfl (by simp only [List.length_cons, List.length_nil]; omega) (fun cx hcx => ats_of ?_); simp only [argSlots, Nat.zero_add, Nat.reduceAdd]
  refine gB ?_
  refine gC fun K hK => ?_
  first | refine fcall_data (h0) rfl ?_ | refine YR_intro (acall_data (h0) rfl) ?_
  simp only [go_sem, seval]
  refine hK _ ?_; clear hK K
  (repeat refine ats_seq ?_); refine ats_yes rfl trivial ?_
  refine gB ?_
  exact ats_ret (own2 (is := []) trivial trivial rfl (by simp))
 | true =>
  rw [hr] at h0
  have h := isRing_P hr
  have hc := h.cube
  have h16 := hc.2.1
  have e : grR t = (some (ggM t), 0) := by unfold grR; rw [hr]; rfl
  rw [e]
  have hC := components_ok t h
  have hS := supports_ok t hc
  have hE := co_eqv h (adj_clos h)
  obtain ⟨R, hR⟩ : ∃ R, CoR t (adj t) = R := ⟨_, rfl⟩
  rw [hR] at hC hE
  have cl : (clsL t.length R).length = t.length := clsL_len
  have en : cnt R t.length = ncG t := by unfold ncG; rw [hR]
  have ncl : ncG t ≤ t.length := by rw [← en]; exact cnt_le
  have sl := sup_len (t := t)
  refine FreshCall.introR (n := 71) (rs := [.tmp 2, .tmp 3]) Tryd.call7 Tryd.func7 rfl rfl rfl (by simp only [List.length_cons, List.length_nil]; omega) (fun cx hcx hrd => ats_of ?_); simp only [argSlots, Nat.zero_add, Nat.reduceAdd]
  refine gB ?_
  refine gC fun K hK => ?_
  first | refine fcall_data (h0) rfl ?_ | refine YR_intro (acall_data (h0) rfl) ?_
  simp only [go_sem, seval]
  refine hK _ ?_; clear hK K
  (repeat refine ats_seq ?_); refine ats_no rfl trivial ?_
  refine ats_skip ?_
  (repeat refine ats_seq ?_)
  refine ats_planG [1, 3] (.one 0 (.alt 1 (.one 2 (.alt 3 (.one 4 (.one 5 .fin)) .stop)) (.alt 2 (.alt 1 (.alt 3 (.one 4 (.one 5 .fin)) .stop) .stop) .stop))) ⟨[(4, .ref 1 []), (5, .ref 2 [])], [(0, .bx [.l3 t]), (1, .t1 (clsL t.length R)), (2, .t2 (supL t))]⟩ (fix0 hcx) mixed (by kernel_rfl) (fun K hK => ?_) ?_
  ·simp only [go_sem, seval, Option.getD_some, and_true, true_and, and_self, List.contains_cons, List.contains_nil, Bool.or_false, Bool.or_true]
   repeat' (first | (refine hK _ (ghost_can [] ?_ ?_); (focus (simp only [rnLs, rnL, rn, rns, sw, SlotsLe, St.get, slotGet, List.map_cons, List.map_nil, seval, AV.int.injEq, AV.bool.injEq, AV.l1.injEq, AV.l2.injEq, AV.l3.injEq, true_and, and_true]; done)); (focus (simp only [sortH, insH, rnHs, rnH, rnT, rn, rns, sw, List.map_cons, List.map_nil, seval]; done))) | (refine hK _ (ghost_can [(1, 2)] ?_ ?_); (focus (simp only [rnLs, rnL, rn, rns, sw, SlotsLe, St.get, slotGet, List.map_cons, List.map_nil, seval, AV.int.injEq, AV.bool.injEq, AV.l1.injEq, AV.l2.injEq, AV.l3.injEq, true_and, and_true]; done)); (focus (simp only [sortH, insH, rnHs, rnH, rnT, rn, rns, sw, List.map_cons, List.map_nil, seval]; done))) | with_reducible refine And.intro ?_ ?_ | omega | (refine fcall_own rfl (hC) rfl ?_; simp only [go_sem, seval, Option.getD_some, and_true, true_and, and_self, List.contains_cons, List.contains_nil, Bool.or_false, Bool.or_true]) | (refine fcall_own rfl (hS) rfl ?_; simp only [go_sem, seval, Option.getD_some, and_true, true_and, and_self, List.contains_cons, List.contains_nil, Bool.or_false, Bool.or_true]))
  (repeat refine ats_seq ?_); refine AT.ghost (ghost_frz [1, 2]) ?_; simp only [frzV, find, killA, killAs, qOf, rmT, killH, killT, List.map_cons, List.map_nil, List.filter_cons, List.filter_nil, List.contains_cons, List.contains_nil, Bool.or_false, Bool.or_true, Bool.false_and, Bool.not_true, Bool.not_false, Bool.false_eq_true, if_true, if_false, seval]
  refine gB ?_
  refine gB ?_
  (repeat refine ats_seq ?_); refine ats_loop (fun j : Nat => ⟨[(4, .l1 (clsL t.length R)), (5, .l2 (supL t)), (6, .int (cnt R j)), (21, .l1 (clsL t.length R)), (22, .int t.length), (23, .int j)], [(0, .bx [.l3 t])]⟩) (fun j => j ≤ t.length) (fun j => t.length - j) 0 (Nat.zero_le _) (by
   refine And.intro ?_ rfl; simp only [leS, Nat.reduceEqDiff, ↓reduceIte, true_and, and_true, cl]
   first | done | rfl | exact ⟨rfl, rfl⟩) (fun j hj => ?_)
  refine gB ?_
  refine gI (fun hl => ?_) fun hl => ?_
  ·have hjn : j < t.length := by omega
   have cj := clsL_get (R := R) hjn
   have hmx := hE.num_max hjn
   have cle := cnt_le (R := R) (m := j)
   have nle := num_le (R := R) (j := j)
   refine ats_skip ?_
   (repeat refine ats_seq ?_); refine ats_block ?_
   refine gC fun K hK => ?_
   simp only [cj]
   (repeat refine aI (hb := ?_))
   refine hK _ ?_; clear hK K
   refine gC fun K hK => ?_
   (repeat refine aI (hb := ?_))
   refine hK _ ?_; clear hK K
   refine gB ?_
   refine ⟨j + 1,  by omega, by omega, .inl ⟨by simp only [leS, Nat.reduceEqDiff, ↓reduceIte, true_and, and_true]; (rw [← hmx]; split <;> omega),  rfl⟩⟩
  ·obtain rfl : j = t.length := by omega
   refine ats_exit (lq_x ?_)
   rw [en]
   refine gC fun K hK => ?_
   refine fcall_own rfl (zeros_ok (ncG t) (ncG t) (by omega) (by omega)) rfl ?_; simp only [go_sem, seval]
   (repeat refine aI (hb := ?_))
   refine hK _ ?_; clear hK K
   have ez : List.replicate (ncG t) (List.replicate (ncG t) (0 : Int)) = matF (ncG t) (ncG t) (wrG t 0 0) := by
    have : wrG t 0 0 = fun _ _ => 0 := by funext a b; exact wr_zero a b
    rw [this]
    simp only [matF, rowF, List.map_const', List.length_range]
   rw [ez]
   refine gB ?_
   rw [cl]
   (repeat refine ats_seq ?_); refine AT.ghost (st' := ⟨[(4, .l1 (clsL t.length R)), (5, .l2 (supL t)), (9, .ref 1 []), (35, .l1 (clsL t.length R)), (36, .int t.length), (37, .int 0)], [(0, .bx [.l3 t]), (1, .t2 (matF (ncG t) (ncG t) (wrG t 0 0)))]⟩) (ghost_can [] (by simp only [rnLs, rnL, rn, rns, sw, SlotsLe, St.get, slotGet, List.map_cons, List.map_nil, seval, AV.int.injEq, AV.bool.injEq, AV.l1.injEq, AV.l2.injEq, AV.l3.injEq, true_and, and_true]) (by simp only [sortH, insH, rnHs, rnH, rnT, rn, rns, sw, List.map_cons, List.map_nil, seval])) ?_
   (repeat refine ats_seq ?_); refine ats_loop (fun i : Nat => ⟨[(4, .l1 (clsL t.length R)), (5, .l2 (supL t)), (9, .ref 1 []), (35, .l1 (clsL t.length R)), (36, .int t.length), (37, .int i)], [(0, .bx [.l3 t]), (1, .t2 (matF (ncG t) (ncG t) (wrG t i 0)))]⟩) (fun i => i ≤ t.length) (fun i => t.length - i) 0 (Nat.zero_le _) (by
    refine And.intro ?_ rfl; simp only [leS, Nat.reduceEqDiff, ↓reduceIte, true_and, and_true, cl]
    first | done | rfl | exact ⟨rfl, rfl⟩) (fun i hi => ?_)
   refine gB ?_
   refine gI (fun hl1 => ?_) fun hl1 => ?_
   ·have hin : i < t.length := by omega
    have ci := clsL_get (R := R) hin
    refine ats_skip ?_
    (repeat refine ats_seq ?_); refine ats_block ?_
    refine gC fun K hK => ?_
    simp only [ci]
    (repeat refine aI (hb := ?_))
    refine hK _ ?_; clear hK K
    refine gB ?_
    (repeat refine ats_seq ?_); refine ats_loop (fun j : Nat => ⟨[(4, .l1 (clsL t.length R)), (5, .l2 (supL t)), (9, .ref 1 []), (10, .int i), (11, .int (num R i : Nat)), (35, .l1 (clsL t.length R)), (36, .int t.length), (37, .int i), (42, .l1 (clsL t.length R)), (43, .int t.length), (44, .int j)], [(0, .bx [.l3 t]), (1, .t2 (matF (ncG t) (ncG t) (wrG t i j)))]⟩) (fun j => j ≤ t.length) (fun j => t.length - j) 0 (Nat.zero_le _) (by
     refine And.intro ?_ rfl; simp only [leS, Nat.reduceEqDiff, ↓reduceIte, true_and, and_true, cl]
     first | done | rfl | exact ⟨rfl, rfl⟩) (fun j hj => ?_)
    refine gB ?_
    refine gI (fun hl2 => ?_) fun hl2 => ?_
    ·have hjn : j < t.length := by omega
     have cj := clsL_get (R := R) hjn
     have hi1 := hE.num_lt hin
     have hj1 := hE.num_lt hjn
     rw [en] at hi1 hj1
     have hLb := labelsIn_ok t.length h16 (suS t i j) suS_lt
     have sg := sup_get (t := t) hin hjn
     obtain ⟨f1, f2⟩ := lbI_first h hin hjn
     obtain ⟨k1, k2, k3⟩ := gk_ok h hin hjn
     have ck := clsL_get (R := R) k1
     have hnum := gnum_oc h hin hjn k1 k2
     rw [hR] at hnum
     rw [hnum] at ck
     have hws := wr_step h hin hjn
     rw [hR] at hws
     have ml := matF_length (ncG t) (ncG t) (wrG t i j)
     have mr := matF_get (c := ncG t) (f := wrG t i j) hi1
     have ml2 : ((matF (ncG t) (ncG t) (wrG t i j)).getD (num R i) []).length = ncG t := by rw [mr]; exact rowF_length _ _
     have ms : (matF (ncG t) (ncG t) (wrG t i j)).set (num R i) (((matF (ncG t) (ncG t) (wrG t i j)).getD (num R i) []).set (num R j) (gnum t i j : Int)) = matF (ncG t) (ncG t) (wrG t i (j + 1)) := by
      rw [matF_set hi1, hws]
     have sri := sup_row (t := t) hin
     refine ats_skip ?_
     (repeat refine ats_seq ?_); refine ats_block ?_
     refine gC fun K hK => ?_
     simp only [cj]
     (repeat refine aI (hb := ?_))
     refine hK _ ?_; clear hK K
     (repeat refine ats_seq ?_); refine AT.ghost (st' := ⟨[(4, .l1 (clsL t.length R)), (5, .l2 (supL t)), (9, .ref 1 []), (10, .int i), (11, .int (num R i : Nat)), (12, .int j), (13, .int (num R j : Nat)), (35, .l1 (clsL t.length R)), (36, .int t.length), (37, .int i), (42, .l1 (clsL t.length R)), (43, .int t.length), (44, .int j)], [(0, .bx [.l3 t]), (1, .t2 (matF (ncG t) (ncG t) (wrG t i j)))]⟩) (ghost_can [] (by simp only [rnLs, rnL, rn, rns, sw, SlotsLe, St.get, slotGet, List.map_cons, List.map_nil, seval, AV.int.injEq, AV.bool.injEq, AV.l1.injEq, AV.l2.injEq, AV.l3.injEq, true_and, and_true]) (by simp only [sortH, insH, rnHs, rnH, rnT, rn, rns, sw, List.map_cons, List.map_nil, seval])) ?_
     clear h0 hS hC hE k3 hws e
     (repeat refine ats_seq ?_)
     refine ats_planM [13] [0, 1, 4, 5, 6, 7, 10] (.one 8 (.one 9 (.one 11 (.one 12 (.alt 2 (.alt 3 (.alt 13 (.one 14 (.one 15 (.one 16 (.one 17 (.one 18 (.alt 19 .fin .stop)))))) .stop) (.alt 13 (.one 3 (.one 14 (.one 15 (.one 16 (.one 17 (.one 18 (.alt 19 .fin .stop))))))) .stop)) (.alt 13 (.one 2 (.one 3 (.one 14 (.one 15 (.one 16 (.one 17 (.one 18 (.alt 19 .fin .stop)))))))) .stop)))))) ⟨[(4, .l1 (clsL t.length R)), (5, .l2 (supL t)), (9, .ref 1 []), (10, .int i), (11, .int (num R i : Nat)), (35, .l1 (clsL t.length R)), (36, .int t.length), (37, .int i), (42, .l1 (clsL t.length R)), (43, .int t.length), (44, .int j)], [(2, .t1 (lbI t.length (suS t i j))), (0, .bx [.l3 t]), (1, .t2 (matF (ncG t) (ncG t) (wrG t i (j + 1))))]⟩ hrd (fix0 hcx) mixed (by kernel_rfl) (fun K hK => ?_) ?_
     ·as_aux_lemma =>
       simp only [go_sem, seval, Option.getD_some, and_true, true_and, and_self, List.contains_cons, List.contains_nil, Bool.or_false, Bool.or_true]
       repeat' (first | exact hK _ (by refine And.intro ?_ rfl; simp only [leS, Nat.reduceEqDiff, ↓reduceIte, true_and, and_true]) | with_reducible refine And.intro ?_ ?_ | omega | (refine fcall_own rfl (hLb) rfl ?_; simp only [go_sem, seval, Option.getD_some, and_true, true_and, and_self, List.contains_cons, List.contains_nil, Bool.or_false, Bool.or_true]) | ((simp only [sg, f1, ck, ml, ml2, ms, sri, sl, cl, Int.toNat_natCast])))
     refine gB ?_
     refine ⟨j + 1, by omega, by omega, .inr ⟨[2], by simp only [killL, List.map_cons, List.map_nil, killA, killAs, qOf, rmT, killH, killT, List.filter_cons, List.filter_nil, List.contains_cons, List.contains_nil, SlotsLe, St.get, slotGet, Nat.reduceEqDiff, Nat.reduceBEq, Bool.or_false, Bool.or_true, Bool.false_and, Bool.not_true, Bool.not_false, Bool.false_eq_true, ↓reduceIte, if_true, if_false, AV.int.injEq, AV.bool.injEq, AV.l1.injEq, AV.l2.injEq, AV.l3.injEq, true_and, and_true]; omega, by simp only [killL, List.map_cons, List.map_nil, killA, killAs, qOf, rmT, killH, killT, List.filter_cons, List.filter_nil, List.contains_cons, List.contains_nil, SlotsLe, St.get, slotGet, Nat.reduceEqDiff, Nat.reduceBEq, Bool.or_false, Bool.or_true, Bool.false_and, Bool.not_true, Bool.not_false, Bool.false_eq_true, ↓reduceIte, if_true, if_false, AV.int.injEq, AV.bool.injEq, AV.l1.injEq, AV.l2.injEq, AV.l3.injEq, true_and, and_true]; skip⟩⟩
    ·obtain rfl : j = t.length := by omega
     refine ats_exit (lq_x ?_)
     rw [wr_row]
     refine gB ?_
     refine ⟨i + 1,  by omega, by omega, .inl ⟨by simp only [leS, Nat.reduceEqDiff, ↓reduceIte, true_and, and_true]; omega,  rfl⟩⟩
   ·obtain rfl : i = t.length := by omega
    refine ats_exit (lq_x ?_)
    rw [wr_end rfl]
    refine gB ?_
    exact ats_ret (own2 (is := [1]) trivial trivial rfl (by simp))
end Go.Proofs.YtjcfefgbieeheaaDoor
