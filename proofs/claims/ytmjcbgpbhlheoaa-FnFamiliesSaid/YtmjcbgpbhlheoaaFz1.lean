import Derived.Test.YtmjcbgpbhlheoaaPl5
import Derived.Test.YtmjcbgpbhlheoaaLib6
import Derived.Test.YtmjcbgpbhlheoaaDz2
import Derived.Test.YtmjcbgpbhlheoaaWz1
import Derived.Test.YtmjcbgpbhlheoaaWx4
import Derived.Test.YtmjcbgpbhlheoaaPl3
import Derived.Test.YtmjcbgpbhlheoaaDz1
import Derived.Test.YtmjcbgpbhlheoaaKp2
set_option linter.unusedSimpArgs false
set_option linter.unusedVariables false
namespace Go.Proofs.Ytmjcbgpbhlheoaa
open Go Go.Aw Go.Pl
end Go.Proofs.Ytmjcbgpbhlheoaa
namespace Go.Proofs.Ytmjcbgpbhlheoaa
open Go Go.Aw Go.Pl
theorem tables1_ok (a b : List (List Int)) : PureCall Try.prog 76 [.l2 a, .l2 b] (.bool (decide (a = b))) := by
 refine PureCall.intro (n := 8) (rs := [.tmp 4]) Try.call76 Try.func76 rfl rfl rfl (by simp only [List.length_cons, List.length_nil]; omega) (fun cx hcx => ats_of ?_); simp only [argSlots, Nat.zero_add, Nat.reduceAdd]
 refine gA ?_
 refine gC fun K hK => ?_
 first | refine fcall_data (equalFunc_ok a b) rfl ?_ | refine YR_intro (acall_data (equalFunc_ok a b) rfl) ?_
 simp only [go_sem, seval]
 refine hK _ ?_; clear hK K
 refine ats_ret (finB rfl ?_)
 rfl
theorem equalFunc3_ok (xs ys : List (List (List Int))) : PureCall Try.prog 75 [.l3 xs, .l3 ys, .fn 76 []] (.bool (decide (xs = ys))) := by
 refine PureCall.intro (n := 32) (rs := [.tmp 6]) Try.call75 Try.func75 rfl rfl rfl (by simp only [List.length_cons, List.length_nil]; omega) (fun cx hcx => ats_of ?_); simp only [argSlots, Nat.zero_add, Nat.reduceAdd]
 refine gA ?_
 refine ats_know 0 fun h0 => ?_; simp only [St.get, slotGet, Nat.reduceEqDiff, ↓reduceIte, if_true, fact, facts] at h0
 have hlen := h0.1
 refine gA ?_
 refine gI (fun hc => ?_) fun hc => ?_
 ·refine gA ?_
  refine ats_ret (finB rfl ?_)
  simp only [Bool.false_eq, decide_eq_false_iff_not]
  exact fun e => hc (by rw [e])
 ·refine ats_skip ?_
  refine gA ?_
  (repeat refine ats_seq ?_); refine ats_loop (fun k : Nat => ⟨[(0, .l3 xs), (1, .l3 ys), (2, .fn 76 []), (15, .l3 xs), (16, .int xs.length), (17, .int k)], []⟩) (fun k => k ≤ xs.length ∧ xs.take k = ys.take k) (fun k => xs.length - k) 0 ⟨Nat.zero_le _, rfl⟩ (by
   refine And.intro ?_ rfl; simp only [leS, Nat.reduceEqDiff, ↓reduceIte, true_and, and_true]
   rfl) (fun k hk => ?_)
  refine gA ?_
  refine gI (fun h1 => ?_) fun h1 => ?_
  ·refine ats_skip ?_
   (repeat refine ats_seq ?_); refine ats_block ?_
   refine gB ?_
   refine gB ?_
   refine gC fun K hK => ?_
   first | refine fcall_data (tables1_ok _ _) rfl ?_ | refine YR_intro (acall_data (tables1_ok _ _) rfl) ?_
   simp only [go_sem, seval]
   refine hK _ ?_; clear hK K
   refine gI (fun h2 => ?_) fun h2 => ?_
   ·refine gA ?_
    refine ats_ret (finB rfl ?_)
    simp only [Bool.false_eq, decide_eq_false_iff_not]
    exact ne_of_getD h2
   ·refine ats_skip ?_
    refine gB ?_
    refine ⟨k + 1,  ⟨by omega, take_succ_eq (by omega) (by omega) hk.2 h2⟩, by omega, .inl ⟨?_, rfl⟩⟩; simp only [leS, Nat.reduceEqDiff, ↓reduceIte, true_and, and_true]
    omega
  ·refine ats_exit (lq_x ?_)
   refine gA ?_
   refine ats_ret (finB rfl ?_)
   have h := hk.2
   rw [List.take_of_length_le (by omega), List.take_of_length_le (by omega)] at h
   simp only [h, decide_true]
theorem equalTables_ok (xs ys : List (List (List Int))) : PureCall Try.prog 59 [.l3 xs, .l3 ys] (.bool (decide (xs = ys))) := by
 refine PureCall.intro (n := 8) (rs := [.tmp 4]) Try.call59 Try.func59 rfl rfl rfl (by simp only [List.length_cons, List.length_nil]; omega) (fun cx hcx => ats_of ?_); simp only [argSlots, Nat.zero_add, Nat.reduceAdd]
 refine gA ?_
 refine gC fun K hK => ?_
 first | refine fcall_data (equalFunc3_ok xs ys) rfl ?_ | refine YR_intro (acall_data (equalFunc3_ok xs ys) rfl) ?_
 simp only [go_sem, seval]
 refine hK _ ?_; clear hK K
 refine ats_ret (finB rfl ?_)
 rfl
set_option maxHeartbeats 4000000 in
theorem opposite_ok (t : List (List (List Int))) (hc : Cube t) : FreshCall Try.prog 60 [.agg [.l3 t]] (.agg [.l3 (oppL t t.length)]) := by
 have h1 := hc.1
 have h16 := hc.2.1
 obtain ⟨n, en⟩ : ∃ n, t.length = n := ⟨_, rfl⟩
 have hm := hc.2.2
 rw [en] at h1 h16 hm
 refine FreshCall.intro (n := 42) (rs := [.cell 2 28]) Try.call60 Try.func60 rfl rfl rfl (by simp only [List.length_cons, List.length_nil]; omega) (fun cx hcx => ats_of ?_); simp only [argSlots, Nat.zero_add, Nat.reduceAdd]
 refine gA ?_
 refine gA ?_
 refine gB ?_
 (repeat refine ats_seq ?_)
 refine ats_loop (fun o : Option Nat => match o with
  | none => ⟨[(1, .bptr 0 0), (2, .bptr 1 0), (3, .bptr 2 0), (10, .int t.length), (11, .int 0)], [(0, .bx [.l3 t]), (1, .bx [.nil]), (2, .bx [.nil])]⟩
  | some i => ⟨[(1, .bptr 0 0), (2, .bptr 1 0), (3, .bptr 2 0), (10, .int t.length), (11, .int i)], [(0, .bx [.l3 t]), (1, .bx [.nil]), (2, .bx [.ref 5 []]), (5, .t3 (oppL t i))]⟩) (fun o => match o with
  | none => True
  | some i => 1 ≤ i ∧ i ≤ n) (fun o => match o with
  | none => n + 1
  | some i => n - i) none trivial ⟨by simp only [SlotsLe, St.get, slotGet, Nat.reduceEqDiff, ↓reduceIte, true_and, and_true], rfl⟩ (fun o ho => ?_)
 cases o with
 | none =>
  dsimp only at ho ⊢
  refine gA ?_
  refine gI (fun hli => ?_) fun hli => ?_
  ·have mi := hm 0 (by omega)
   refine ats_skip ?_
   (repeat refine ats_seq ?_); refine ats_block ?_
   refine gA ?_
   refine gB ?_
   refine gB ?_
   (repeat refine ats_seq ?_); refine ats_loop (fun j : Nat => ⟨[(1, .bptr 0 0), (2, .bptr 1 0), (3, .bptr 2 0), (4, .int 0), (5, .ref 3 []), (10, .int t.length), (11, .int 0), (17, .int t.length), (18, .int j)], [(0, .bx [.l3 t]), (1, .bx [.nil]), (2, .bx [.nil]), (3, .t2 (oppR t 0 j))]⟩) (fun j => j ≤ n) (fun j => n - j) 0 (Nat.zero_le _) (by refine And.intro ?_ rfl; simp only [leS, Nat.reduceEqDiff, ↓reduceIte, true_and, and_true]; repeat' (first | rfl | with_reducible refine And.intro ?_ ?_ | omega)) (fun j hj => ?_)
   have lj := oppR_length (t := t) (i := 0) (j := j)
   have sj := oppR_succ (t := t) (i := 0) (j := j)
   refine gB ?_
   refine gI (fun hlj => ?_) fun hlj => ?_
   ·have mj := hm j (by omega)
    have lj2 := mj.1
    have rj := mj.row (show 0 < n by omega)
    have hcl := clone_ok ((t.getD j []).getD 0 []) (by omega) (by omega)
    refine ats_skip ?_
    (repeat refine ats_seq ?_); refine ats_block ?_
    refine gB ?_
    refine gC fun K hK => ?_
    (repeat refine aI (hb := ?_))
    refine fcall_own rfl (hcl) rfl ?_; simp only [go_sem, seval]
    (repeat refine aI (hb := ?_))
    refine hK _ ?_; clear hK K
    refine gB ?_
    refine ⟨j + 1,  by omega, by omega, .inl ⟨by simp only [leS, Nat.reduceEqDiff, ↓reduceIte, true_and, and_true]; omega,  by rw [sj]⟩⟩
   ·obtain rfl : j = n := by omega
    refine ats_exit (lq_x ?_)
    refine gB ?_
    refine gB ?_
    refine ⟨some (0 + 1), ⟨by omega, by omega⟩, by show j - (0 + 1) < j + 1; omega, .inl ⟨?_, ?_⟩⟩
    ·simp only [SlotsLe, St.get, slotGet, Nat.reduceEqDiff, ↓reduceIte, AV.int.injEq, true_and, and_true]
     omega
    ·have es : oppL t (0 + 1) =  [oppR t 0 t.length] := by rw [oppL_succ] <;> rfl
     dsimp only
     rw [es, en]
  ·omega
 | some i =>
  dsimp only at ho ⊢
  have ls := oppL_length (t := t) (i := i)
  refine gA ?_
  refine gI (fun hli => ?_) fun hli => ?_
  ·have mi := hm i (by omega)
   refine ats_skip ?_
   (repeat refine ats_seq ?_); refine ats_block ?_
   refine gA ?_
   refine gB ?_
   refine gB ?_
   (repeat refine ats_seq ?_); refine ats_loop (fun j : Nat => ⟨[(1, .bptr 0 0), (2, .bptr 1 0), (3, .bptr 2 0), (4, .int i), (5, .ref 6 []), (10, .int t.length), (11, .int i), (17, .int t.length), (18, .int j)], [(0, .bx [.l3 t]), (1, .bx [.nil]), (2, .bx [.ref 5 []]), (5, .t3 (oppL t i)), (6, .t2 (oppR t i j))]⟩) (fun j => j ≤ n) (fun j => n - j) 0 (Nat.zero_le _) (by refine And.intro ?_ rfl; simp only [leS, Nat.reduceEqDiff, ↓reduceIte, true_and, and_true]; repeat' (first | rfl | with_reducible refine And.intro ?_ ?_ | omega)) (fun j hj => ?_)
   have lj := oppR_length (t := t) (i := i) (j := j)
   have sj := oppR_succ (t := t) (i := i) (j := j)
   refine gB ?_
   refine gI (fun hlj => ?_) fun hlj => ?_
   ·have mj := hm j (by omega)
    have lj2 := mj.1
    have rj := mj.row (show i < n by omega)
    have hcl := clone_ok ((t.getD j []).getD i []) (by omega) (by omega)
    refine ats_skip ?_
    (repeat refine ats_seq ?_); refine ats_block ?_
    refine gB ?_
    refine gC fun K hK => ?_
    (repeat refine aI (hb := ?_))
    refine fcall_own rfl (hcl) rfl ?_; simp only [go_sem, seval]
    (repeat refine aI (hb := ?_))
    refine hK _ ?_; clear hK K
    refine gB ?_
    refine ⟨j + 1,  by omega, by omega, .inl ⟨by simp only [leS, Nat.reduceEqDiff, ↓reduceIte, true_and, and_true]; omega,  by rw [sj]⟩⟩
   ·obtain rfl : j = n := by omega
    refine ats_exit (lq_x ?_)
    refine gB ?_
    refine gB ?_
    refine ⟨some (i + 1), ⟨by omega, by omega⟩, by show j - (i + 1) < j - i; omega, .inl ⟨?_, ?_⟩⟩
    ·simp only [SlotsLe, St.get, slotGet, Nat.reduceEqDiff, ↓reduceIte, AV.int.injEq, true_and, and_true]
     omega
    ·have es : oppL t (i + 1) = oppL t i ++ [oppR t i t.length] := by rw [oppL_succ] <;> rfl
     dsimp only
     rw [es, en]
  ·obtain rfl : i = t.length := by omega
   refine ats_exit (lq_x ?_)
   refine gA ?_
   exact ats_ret (ownC (v := .agg [.ref 5 []]) (by simp only [go_sem, seval]) rfl (by simp))
theorem isComm_ok (t : List (List (List Int))) (hc : Cube t) : PureCall Try.prog 34 [.agg [.l3 t]] (.bool (bd (CommP t))) := by
 have ho := opposite_ok t hc
 have he := equalTables_ok t (oppL t t.length)
 have hb : decide (t = oppL t t.length) = bd (CommP t) := by
  by_cases h : CommP t
  ·rw [bd_iff.2 h, decide_eq_true_eq]; exact (comm_iff hc).1 h
  ·rw [bd_false h, decide_eq_false_iff_not]; exact fun e => h ((comm_iff hc).2 e)
 rw [hb] at he
 refine PureCall.intro (n := 9) (rs := [.tmp 2]) Try.call34 Try.func34 rfl rfl rfl (by simp only [List.length_cons, List.length_nil]; omega) (fun cx hcx => ats_of ?_); simp only [argSlots, Nat.zero_add, Nat.reduceAdd]
 refine gA ?_
 (repeat refine ats_seq ?_); refine ats_pick (fix0 hcx) mixed (by kernel_rfl) fun K hK => ?_; simp only [go_sem, seval]
 first | refine fcall_fresh rfl (ho) ?_ | refine YR_intro (acall_fresh rfl (ho)) ?_
 simp only [go_sem, seval]
 first | refine fcall_data (he) rfl ?_ | refine YR_intro (acall_data (he) rfl) ?_
 simp only [go_sem, seval]
 refine hK _ ?_; clear hK K
 refine ats_ret (finB rfl ?_)
 rfl
end Go.Proofs.Ytmjcbgpbhlheoaa
namespace Go.Proofs.Ytmjcbgpbhlheoaa
open Go Go.Aw Go.Pl
end Go.Proofs.Ytmjcbgpbhlheoaa
namespace Go.Proofs.Ytmjcbgpbhlheoaa
open Go Go.Aw Go.Pl
end Go.Proofs.Ytmjcbgpbhlheoaa
