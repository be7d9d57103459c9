import Derived.Test.YtmjcbgpbhlheoaaMz2
import Derived.Test.YtmjcbgpbhlheoaaQd2
import Derived.Test.YtmjcbgpbhlheoaaWx4
import Derived.Test.YtmjcbgpbhlheoaaWz1
import Derived.Test.YtmjcbgpbhlheoaaJz4
import Derived.Test.YtmjcbgpbhlheoaaDz1
import Derived.Test.YtmjcbgpbhlheoaaHd
import Derived.Test.YtmjcbgpbhlheoaaWx1
set_option linter.unusedSimpArgs false
set_option linter.unusedVariables false
namespace Go.Proofs.Ytmjcbgpbhlheoaa
open Go Go.Aw Go.Pl
end Go.Proofs.Ytmjcbgpbhlheoaa
namespace Go.Proofs.Ytmjcbgpbhlheoaa
open Go Go.Aw Go.Pl
end Go.Proofs.Ytmjcbgpbhlheoaa
namespace Go.Proofs.Ytmjcbgpbhlheoaa
open Go Go.Aw Go.Pl
theorem isInv_ok (t : Cu) (h : RingP t) (i : Nat) (hi : i < t.length) : PureCall Try.prog 58 [.agg [.l3 t], .int i] (.bool ((unS t).testBit i)) := by
 have hc := h.cube
 have hO := onlyOf_ok t hc i hi
 rw [← h.dI hi] at hO
 have hV := vectorOf_ok t hc.2.1 0 h.pos
 have ml := hc.mat hi
 have ddi := h.dlt hi
 have hE := sliceEqual_ok ((t.getD i []).getD (dN t i) []) (oneV t.length 0)
 have eb : decide ((t.getD i []).getD (dN t i) [] = oneV t.length 0) = (unS t).testBit i := by
  have h1 := inv_row h hi
  have h2 := un_bit (t := t) hi
  cases hb : (unS t).testBit i with
  | true => exact decide_eq_true (h1.2 (h2.1 hb))
  | false => exact decide_eq_false fun e => by rw [h2.2 (h1.1 e)] at hb; cases hb
 rw [eb] at hE
 refine PureCall.intro (n := 18) (rs := [.tmp 4]) Try.call58 Try.func58 rfl rfl rfl (by simp only [List.length_cons, List.length_nil]; omega) (fun cx hcx => ats_of ?_); simp only [argSlots, Nat.zero_add, Nat.reduceAdd]
 refine gA ?_
 (repeat refine ats_seq ?_); refine ats_pick (fix0 hcx) mixed (by kernel_rfl) fun K hK => ?_; simp only [go_sem, seval]
 (repeat refine aI (hb := ?_))
 first | refine fcall_data (hO) rfl ?_ | refine YR_intro (acall_data (hO) rfl) ?_
 simp only [go_sem, seval]
 (repeat refine aI (hb := ?_))
 first | refine fcall_fresh rfl (hV) ?_ | refine YR_intro (acall_fresh rfl (hV)) ?_
 simp only [go_sem, seval]
 (repeat refine aI (hb := ?_))
 first | refine fcall_data (hE) rfl ?_ | refine YR_intro (acall_data (hE) rfl) ?_
 simp only [go_sem, seval]
 (repeat refine aI (hb := ?_))
 refine hK _ ?_; clear hK K
 refine ats_ret (finB rfl ?_)
 rfl
theorem implIl_ok (t : Cu) : FreshCall Try.prog 33 [.agg [.l3 t]] (.tup [optA (ilR t).1, .int (ilR t).2]) := by
 have h0 := IsRing_ok t
 cases hr : isRing t with
 | false =>
  rw [hr] at h0
  have e : ilR t = (none, 1) := by unfold ilR; rw [hr]; rfl
  rw [e]
  refine FreshCall.intro (n := 25) (rs := [.tmp 2, .tmp 3]) Try.call33 Try.func33 rfl rfl rfl (by simp only [List.length_cons, List.length_nil]; omega) (fun cx hcx => ats_of ?_); simp only [argSlots, Nat.zero_add, Nat.reduceAdd]
  refine gA ?_
  refine gC fun K hK => ?_
  first | refine fcall_data (h0) rfl ?_ | refine YR_intro (acall_data (h0) rfl) ?_
  simp only [go_sem, seval]
  refine hK _ ?_; clear hK K
  (repeat refine ats_seq ?_); refine ats_yes rfl trivial ?_
  refine gA ?_
  exact ats_ret (own2 (is := []) trivial trivial rfl (by simp))
 | true =>
  rw [hr] at h0
  have h := isRing_P hr
  have h16 := h.cube.2.1
  have e : ilR t = (some (lbI t.length (unS t)), 0) := by unfold ilR; rw [hr]; rfl
  rw [e]
  refine FreshCall.intro (n := 25) (rs := [.tmp 2, .tmp 3]) Try.call33 Try.func33 rfl rfl rfl (by simp only [List.length_cons, List.length_nil]; omega) (fun cx hcx => ats_of ?_); simp only [argSlots, Nat.zero_add, Nat.reduceAdd]
  refine gA ?_
  refine gC fun K hK => ?_
  first | refine fcall_data (h0) rfl ?_ | refine YR_intro (acall_data (h0) rfl) ?_
  simp only [go_sem, seval]
  refine hK _ ?_; clear hK K
  (repeat refine ats_seq ?_); refine ats_no rfl trivial ?_
  refine ats_skip ?_
  refine gB ?_
  refine gB ?_
  (repeat refine ats_seq ?_); refine ats_loop (fun i : Nat => ⟨[(1, .bptr 0 0), (4, .ref 1 []), (12, .int t.length), (13, .int i)], [(0, .bx [.l3 t]), (1, .t1 (lbI i (unS t)))]⟩) (fun i => i ≤ t.length) (fun i => t.length - i) 0 (Nat.zero_le _) (by refine And.intro ?_ rfl; simp only [leS, Nat.reduceEqDiff, ↓reduceIte, true_and, and_true]; repeat' (first | rfl | with_reducible refine And.intro ?_ ?_ | omega)) (fun i hi => ?_)
  have hl : (lbI i (unS t)).length ≤ i := by rw [lbI_len]; exact lbl_len
  refine gA ?_
  refine gI (fun hli => ?_) fun hli => ?_
  ·have hb := isInv_ok t h i (by omega)
   refine ats_skip ?_
   (repeat refine ats_seq ?_); refine ats_block ?_
   refine gA ?_
   cases hx : (unS t).testBit i with
   | true =>
    rw [hx] at hb
    refine gC fun K hK => ?_
    first | refine fcall_data (hb) rfl ?_ | refine YR_intro (acall_data (hb) rfl) ?_
    simp only [go_sem, seval]
    refine hK _ ?_; clear hK K
    (repeat refine ats_seq ?_); refine ats_yes rfl trivial ?_
    refine gB ?_
    refine gB ?_
    refine ⟨i + 1, by omega, by omega, .inr ⟨[2], by simp only [killL, List.map_cons, List.map_nil, killA, killAs, qOf, rmT, killH, killT, List.filter_cons, List.filter_nil, List.contains_cons, List.contains_nil, SlotsLe, St.get, slotGet, Nat.reduceEqDiff, Nat.reduceBEq, Bool.or_false, Bool.or_true, Bool.false_and, Bool.not_true, Bool.not_false, Bool.false_eq_true, ↓reduceIte, if_true, if_false, AV.int.injEq, AV.bool.injEq, AV.l1.injEq, AV.l2.injEq, AV.l3.injEq, true_and, and_true]; omega, by simp only [killL, List.map_cons, List.map_nil, killA, killAs, qOf, rmT, killH, killT, List.filter_cons, List.filter_nil, List.contains_cons, List.contains_nil, SlotsLe, St.get, slotGet, Nat.reduceEqDiff, Nat.reduceBEq, Bool.or_false, Bool.or_true, Bool.false_and, Bool.not_true, Bool.not_false, Bool.false_eq_true, ↓reduceIte, if_true, if_false, AV.int.injEq, AV.bool.injEq, AV.l1.injEq, AV.l2.injEq, AV.l3.injEq, true_and, and_true]; rw [← lbI_yes hx]⟩⟩
   | false =>
    rw [hx] at hb
    refine gC fun K hK => ?_
    first | refine fcall_data (hb) rfl ?_ | refine YR_intro (acall_data (hb) rfl) ?_
    simp only [go_sem, seval]
    refine hK _ ?_; clear hK K
    (repeat refine ats_seq ?_); refine ats_no rfl trivial ?_
    refine ats_skip ?_
    refine gB ?_
    refine ⟨i + 1,  by omega, by omega, .inl ⟨by simp only [leS, Nat.reduceEqDiff, ↓reduceIte, true_and, and_true]; omega,  by rw [← lbI_no hx]⟩⟩
  ·obtain rfl : i = t.length := by omega
   refine ats_exit (lq_x ?_)
   refine gA ?_
   exact ats_ret (own2 (is := [1]) trivial trivial rfl (by simp))
end Go.Proofs.Ytmjcbgpbhlheoaa
namespace Go.Proofs.Ytmjcbgpbhlheoaa
open Go Go.Aw Go.Pl
end Go.Proofs.Ytmjcbgpbhlheoaa
