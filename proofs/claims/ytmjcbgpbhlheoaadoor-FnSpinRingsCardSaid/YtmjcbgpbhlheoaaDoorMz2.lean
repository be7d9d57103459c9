import Derived.Test.YtmjcbgpbhlheoaaDoorMz1
import Derived.Test.YtmjcbgpbhlheoaaDoorLib7
import Derived.Test.YtmjcbgpbhlheoaaDoorWx1
import Derived.Test.YtmjcbgpbhlheoaaDoorHd
import Derived.Test.YtmjcbgpbhlheoaaDoorQd2
import Derived.Test.YtmjcbgpbhlheoaaDoorWx2
import Derived.Test.YtmjcbgpbhlheoaaDoorWx4
set_option linter.unusedSimpArgs false
set_option linter.unusedVariables false
namespace Go.Proofs.YtmjcbgpbhlheoaaDoor
open Go Go.Aw Go.Pl
end Go.Proofs.YtmjcbgpbhlheoaaDoor
namespace Go.Proofs.YtmjcbgpbhlheoaaDoor
open Go Go.Aw Go.Pl
end Go.Proofs.YtmjcbgpbhlheoaaDoor
namespace Go.Proofs.YtmjcbgpbhlheoaaDoor
open Go Go.Aw Go.Pl
end Go.Proofs.YtmjcbgpbhlheoaaDoor
namespace Go.Proofs.YtmjcbgpbhlheoaaDoor
open Go Go.Aw Go.Pl
attribute [local go_sem] pl_fin pl_stop pl_one pl_alt PK_ap pickO List.getElem?_toArray List.getElem?_cons_zero List.getElem?_cons_succ
theorem isSet_ok (t : Cu) (h16 : t.length ≤ 16) (x : Int) : PureCall Tryd.prog 46 [.agg [.l3 t], .int x] (.bool (decide (0 ≤ x) && decide (x ≤ (2 ^ t.length - 1 : Nat)))) := by
 have hI := within_ok x 0 (2 ^ t.length - 1 : Nat)
 have h2 := p16 h16
 have h3 := Nat.pow_pos (n := t.length) (show 0 < 2 by decide)
 have e := shlI_one (k := t.length) (by omega)
 have e2 : ((2 ^ t.length : Nat) : Int) - 1 = ((2 ^ t.length - 1 : Nat) : Int) := by omega
 refine PureCall.intro (n := 12) (rs := [.tmp 4]) Tryd.call46 Tryd.func46 rfl rfl rfl (by simp only [List.length_cons, List.length_nil]; omega) (fun cx hcx => ats_of ?_); simp only [argSlots, Nat.zero_add, Nat.reduceAdd]
 refine gA ?_
 refine gC fun K hK => ?_
 rw [e, e2]
 (repeat refine aI (hb := ?_))
 first | refine fcall_data (hI) rfl ?_ | refine YR_intro (acall_data (hI) rfl) ?_
 simp only [go_sem, seval]
 refine hK _ ?_; clear hK K
 refine ats_ret (finB rfl ?_)
 rfl
theorem labelsIn_ok (n : Nat) (h16 : n ≤ 16) (s : Nat) (hs : s < 2 ^ n) : FreshCall Tryd.prog 49 [.int s] (.l1 (lbI n s)) := by
 have hb := full_in h16 hs
 refine FreshCall.intro (n := 18) (rs := [.tmp 2]) Tryd.call49 Tryd.func49 rfl rfl rfl (by simp only [List.length_cons, List.length_nil]; omega) (fun cx hcx => ats_of ?_); simp only [argSlots, Nat.zero_add, Nat.reduceAdd]
 refine gA ?_
 refine gB ?_
 (repeat refine ats_seq ?_); refine ats_loop (fun p : List Int × Nat => ⟨[(0, .int p.2), (3, .ref 0 [])], [(0, .t1 p.1)]⟩) (fun p => p.2 < 2 ^ n ∧ p.1 ++ lbI n p.2 = lbI n s) (fun p => p.2) ([], s) ⟨hs, rfl⟩ (by
  refine And.intro ?_ rfl; simp only [leS, Nat.reduceEqDiff, ↓reduceIte, true_and, and_true]
  done) (fun p hp => ?_)
 obtain ⟨o, u⟩ := p
 obtain ⟨hu, ho⟩ := hp
 dsimp only at hu ho ⊢
 have hub := full_in h16 hu
 have lo : o.length ≤ 16 := by
  have h1 := congrArg List.length ho
  have h2 := lbl_len (n := n) (s := s)
  rw [List.length_append, lbI_len (s := s)] at h1
  omega
 refine gA ?_
 refine gI (fun hx => ?_) fun hx => ?_
 ·have hz := tz_ok u (by omega)
  obtain ⟨b1, b2, b3, b4⟩ := low_bit (x := u) (by omega) hub
  have hk := bits_lt hu b1
  have hh := lbl_head hk b1 b3 b4
  have hI : lbI n u = ((Lib.ctz 64 u : Nat) : Int) :: lbI n (u &&& (u - 1)) := by unfold lbI; rw [hh]; rfl
  have ew : (u : Int) % 18446744073709551616 = u := by omega
  have ea : andI u ((u : Int) - 1) = ((u &&& (u - 1) : Nat) : Int) := by
   rw [show (u : Int) - 1 = ((u - 1 : Nat) : Int) by omega]
   exact andS hub (by omega)
  have hlt : u &&& (u - 1) < u := by
   have : u &&& (u - 1) ≤ u - 1 := Nat.and_le_right
   omega
  refine ats_skip ?_
  (repeat refine ats_seq ?_); refine ats_block ?_
  refine gC fun K hK => ?_
  rw [ew]
  first | refine fcall_data (hz) rfl ?_ | refine YR_intro (acall_data (hz) rfl) ?_
  simp only [go_sem, seval]
  (repeat refine aI (hb := ?_))
  refine hK _ ?_; clear hK K
  refine gC fun K hK => ?_
  rw [ea]
  (repeat refine aI (hb := ?_))
  refine hK _ ?_; clear hK K
  refine ⟨(o ++ [((Lib.ctz 64 u : Nat) : Int)], u &&& (u - 1)), ⟨by dsimp only; omega, by dsimp only; rw [← ho, hI, List.append_assoc]; rfl⟩, by omega, .inr ⟨[1], by simp only [killL, List.map_cons, List.map_nil, killA, killAs, qOf, rmT, killH, killT, List.filter_cons, List.filter_nil, List.contains_cons, List.contains_nil, SlotsLe, St.get, slotGet, Nat.reduceEqDiff, Nat.reduceBEq, Bool.or_false, Bool.or_true, Bool.false_and, Bool.not_true, Bool.not_false, Bool.false_eq_true, ↓reduceIte, if_true, if_false, AV.int.injEq, AV.bool.injEq, AV.l1.injEq, AV.l2.injEq, AV.l3.injEq, true_and, and_true]; done, by simp only [killL, List.map_cons, List.map_nil, killA, killAs, qOf, rmT, killH, killT, List.filter_cons, List.filter_nil, List.contains_cons, List.contains_nil, SlotsLe, St.get, slotGet, Nat.reduceEqDiff, Nat.reduceBEq, Bool.or_false, Bool.or_true, Bool.false_and, Bool.not_true, Bool.not_false, Bool.false_eq_true, ↓reduceIte, if_true, if_false, AV.int.injEq, AV.bool.injEq, AV.l1.injEq, AV.l2.injEq, AV.l3.injEq, true_and, and_true]; done⟩⟩
 ·obtain rfl : u = 0 := by omega
  rw [lbI_zero, List.append_nil] at ho
  subst ho
  refine ats_exit (lq_x ?_)
  refine gA ?_
  exact ats_ret (ownV (is := [0]) rfl ⟨rfl, trivial⟩ rfl (by simp))
theorem supports_ok (t : Cu) (hc : Cube t) : FreshCall Tryd.prog 47 [.agg [.l3 t]] (.l2 (supL t)) := by
 have h16 := hc.2.1
 have hm := hc.2.2
 have hz := zeros_ok t.length t.length (by omega) (by omega)
 rw [← suM_start] at hz
 refine FreshCall.intro (n := 56) (rs := [.tmp 2]) Tryd.call47 Tryd.func47 rfl rfl rfl (by simp only [List.length_cons, List.length_nil]; omega) (fun cx hcx => ats_of ?_); simp only [argSlots, Nat.zero_add, Nat.reduceAdd]
 refine gA ?_
 refine gC fun K hK => ?_
 refine fcall_own rfl (hz) rfl ?_; simp only [go_sem, seval]
 (repeat refine aI (hb := ?_))
 refine hK _ ?_; clear hK K
 refine gA ?_
 (repeat refine ats_seq ?_); refine ats_loop (fun i : Nat => ⟨[(1, .bptr 0 0), (3, .ref 1 []), (18, .l3 t), (19, .int t.length), (20, .int i)], [(1, .t2 (suM t i 0 0)), (0, .bx [.l3 t])]⟩) (fun i => i ≤ t.length) (fun i => t.length - i) 0 (Nat.zero_le _) (by refine And.intro ?_ rfl; simp only [leS, Nat.reduceEqDiff, ↓reduceIte, true_and, and_true]; repeat' (first | rfl | with_reducible refine And.intro ?_ ?_ | omega)) (fun i hi => ?_)
 refine gA ?_
 refine gI (fun hli => ?_) fun hli => ?_
 ·have mi := hm i (by omega)
  have ml := mi.1
  refine ats_skip ?_
  (repeat refine ats_seq ?_); refine ats_block ?_
  refine gB ?_
  refine gB ?_
  rw [ml]
  (repeat refine ats_seq ?_); refine ats_loop (fun j : Nat => ⟨[(1, .bptr 0 0), (3, .ref 1 []), (4, .int i), (18, .l3 t), (19, .int t.length), (20, .int i), (25, .l2 (t.getD i [])), (26, .int t.length), (27, .int j)], [(1, .t2 (suM t i j 0)), (0, .bx [.l3 t])]⟩) (fun j => j ≤ t.length) (fun j => t.length - j) 0 (Nat.zero_le _) (by refine And.intro ?_ rfl; simp only [leS, Nat.reduceEqDiff, ↓reduceIte, true_and, and_true]; repeat' (first | rfl | with_reducible refine And.intro ?_ ?_ | omega)) (fun j hj => ?_)
  refine gA ?_
  refine gI (fun hlj => ?_) fun hlj => ?_
  ·have mj := mi.2 j (by omega)
   have rl := mj.1
   refine ats_skip ?_
   (repeat refine ats_seq ?_); refine ats_block ?_
   refine gB ?_
   refine gB ?_
   rw [rl]
   (repeat refine ats_seq ?_); refine ats_loop (fun k : Nat => ⟨[(1, .bptr 0 0), (3, .ref 1 []), (4, .int i), (6, .int j), (18, .l3 t), (19, .int t.length), (20, .int i), (25, .l2 (t.getD i [])), (26, .int t.length), (27, .int j), (32, .l1 ((t.getD i []).getD j [])), (33, .int t.length), (34, .int k)], [(1, .t2 (suM t i j k)), (0, .bx [.l3 t])]⟩) (fun k => k ≤ t.length) (fun k => t.length - k) 0 (Nat.zero_le _) (by refine And.intro ?_ rfl; simp only [leS, Nat.reduceEqDiff, ↓reduceIte, true_and, and_true]; repeat' (first | rfl | with_reducible refine And.intro ?_ ?_ | omega)) (fun k hk => ?_)
   refine gA ?_
   refine gI (fun hlk => ?_) fun hlk => ?_
   ·have sl := suM_len (t := t) (i := i) (j := j) (k := k)
    have sr := suM_row (t := t) (i := i) (j := j) (k := k) (x := i) (by omega)
    have sg := suM_get (t := t) (i := i) (j := j) (k := k) (x := i) (y := j) (by omega) (by omega)
    have esh := shlI_one (show k ≤ 62 by omega)
    have eo := orS (full_in h16 (suP_lt (t := t) (i := i) (j := j) (k := k) (x := i) (y := j))) (full_in h16 (pow_lt (show k < t.length by omega)))
    refine ats_skip ?_
    (repeat refine ats_seq ?_); refine ats_block ?_
    refine gB ?_
    refine gB ?_
    refine gI (fun hp => ?_) fun hp => ?_
    ·have st := suM_yes (show i < t.length by omega) (show k < t.length by omega) hp
     rw [← eo, ← esh, ← sg] at st
     (repeat refine ats_seq ?_)
     refine ats_plan [] (.one 0 (.one 1 (.one 2 (.one 3 (.one 4 (.one 5 (.one 6 (.one 7 (.one 8 (.one 9 (.one 10 (.alt 11 .fin .stop)))))))))))) ⟨[(1, .bptr 0 0), (3, .ref 1 []), (4, .int i), (6, .int j), (18, .l3 t), (19, .int t.length), (20, .int i), (25, .l2 (t.getD i [])), (26, .int t.length), (27, .int j), (32, .l1 ((t.getD i []).getD j [])), (33, .int t.length), (34, .int k)], [(1, .t2 ((suM t i j k).set i (((suM t i j k).getD i []).set j (orI (((suM t i j k).getD i []).getD j 0) (shlI 1 k))))), (0, .bx [.l3 t])]⟩ (fix0 hcx) mixed (by kernel_rfl) (fun K hK => ?_) ?_
     ·simp only [go_sem, seval, Option.getD_some, and_true, true_and, and_self, List.contains_cons, List.contains_nil, Bool.or_false, Bool.or_true]
      repeat' (first | exact hK _ (by refine And.intro ?_ rfl; simp only [leS, Nat.reduceEqDiff, ↓reduceIte, true_and, and_true])  | with_reducible refine And.intro ?_ ?_ | omega)
     rw [st]
     refine gB ?_
     refine ⟨k + 1,  by omega, by omega, .inl ⟨by simp only [leS, Nat.reduceEqDiff, ↓reduceIte, true_and, and_true]; omega,  rfl⟩⟩
    ·have st := suM_no hp
     refine ats_skip ?_
     refine gB ?_
     refine ⟨k + 1,  by omega, by omega, .inl ⟨by simp only [leS, Nat.reduceEqDiff, ↓reduceIte, true_and, and_true]; omega,  by rw [st]⟩⟩
   ·obtain rfl : k = t.length := by omega
    have st := suM_j (t := t) (i := i) (j := j)
    refine ats_exit (lq_x ?_)
    refine gB ?_
    refine ⟨j + 1,  by omega, by omega, .inl ⟨by simp only [leS, Nat.reduceEqDiff, ↓reduceIte, true_and, and_true]; omega,  by rw [st]⟩⟩
  ·obtain rfl : j = t.length := by omega
   have st := suM_i (t := t) (i := i)
   refine ats_exit (lq_x ?_)
   refine gB ?_
   refine ⟨i + 1,  by omega, by omega, .inl ⟨by simp only [leS, Nat.reduceEqDiff, ↓reduceIte, true_and, and_true]; omega,  by rw [st]⟩⟩
 ·obtain rfl : i = t.length := by omega
  have st := suM_end (t := t)
  rw [st]
  refine ats_exit (lq_x ?_)
  refine gA ?_
  exact ats_ret (ownV (is := [1]) rfl ⟨rfl, trivial⟩ rfl (by simp))
end Go.Proofs.YtmjcbgpbhlheoaaDoor
