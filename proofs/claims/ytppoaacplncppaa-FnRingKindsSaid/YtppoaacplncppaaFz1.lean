import Derived.Test.YtppoaacplncppaaPl5
import Derived.Test.YtppoaacplncppaaLib6
import Derived.Test.YtppoaacplncppaaDz2
import Derived.Test.YtppoaacplncppaaWz1
import Derived.Test.YtppoaacplncppaaWx4
import Derived.Test.YtppoaacplncppaaPl3
import Derived.Test.YtppoaacplncppaaDz1
import Derived.Test.YtppoaacplncppaaKp2
set_option linter.unusedSimpArgs false
set_option linter.unusedVariables false
namespace Go.Proofs.Ytppoaacplncppaa
open Go Go.Aw Go.Pl
end Go.Proofs.Ytppoaacplncppaa
namespace Go.Proofs.Ytppoaacplncppaa
open Go Go.Aw Go.Pl
theorem tables1_ok (a b : List (List Int)) : PureCall Try.prog 75 [.l2 a, .l2 b] (.bool (decide (a = b))) := by
 refine PureCall.intro (n := 8) (rs := [.tmp 4]) Try.call75 Try.func75 rfl rfl rfl (by simp only [List.length_cons, List.length_nil]; omega) (fun cx hcx => ats_of ?_); simp only [argSlots, Nat.zero_add, Nat.reduceAdd]
 (repeat refine ats_seq ?_); refine ats_go (fix0 hcx) fun K hK => ?_; simp only [go_sem, seval]; refine hK _ ?_; clear hK K
 (repeat refine ats_seq ?_); refine ats_go (fix0 hcx) fun K hK => ?_; simp only [go_sem, seval]
 first | refine fcall_data (equalFunc_ok a b) rfl ?_ | refine YR_intro (acall_data (equalFunc_ok a b) rfl) ?_
 simp only [go_sem, seval]
 refine hK _ ?_; clear hK K
 refine ats_ret (finB rfl ?_)
 rfl
theorem equalFunc3_ok (xs ys : List (List (List Int))) : PureCall Try.prog 74 [.l3 xs, .l3 ys, .fn 75 []] (.bool (decide (xs = ys))) := by
 refine PureCall.intro (n := 32) (rs := [.tmp 6]) Try.call74 Try.func74 rfl rfl rfl (by simp only [List.length_cons, List.length_nil]; omega) (fun cx hcx => ats_of ?_); simp only [argSlots, Nat.zero_add, Nat.reduceAdd]
 (repeat refine ats_seq ?_); refine ats_go (fix0 hcx) fun K hK => ?_; simp only [go_sem, seval]; refine hK _ ?_; clear hK K
 refine ats_know 0 fun h0 => ?_; simp only [St.get, slotGet, Nat.reduceEqDiff, ↓reduceIte, if_true, fact, facts] at h0
 have hlen := h0.1
 (repeat refine ats_seq ?_); refine ats_go (fix0 hcx) fun K hK => ?_; simp only [go_sem, seval]; refine hK _ ?_; clear hK K
 (repeat refine ats_seq ?_); first | refine ats_ifn (p := _) rfl trivial (fun hc => ?_) (fun hc => ?_) | refine ats_ifp (p := _) rfl trivial (fun hc => ?_) (fun hc => ?_) | refine ats_cond rfl trivial (fun hc => ?_) (fun hc => ?_)
 ·(repeat refine ats_seq ?_); refine ats_go (fix0 hcx) fun K hK => ?_; simp only [go_sem, seval]; refine hK _ ?_; clear hK K
  refine ats_ret (finB rfl ?_)
  simp only [Bool.false_eq, decide_eq_false_iff_not]
  exact fun e => hc (by rw [e])
 ·refine ats_skip ?_
  (repeat refine ats_seq ?_); refine ats_go (fix0 hcx) fun K hK => ?_; simp only [go_sem, seval]; refine hK _ ?_; clear hK K
  (repeat refine ats_seq ?_); refine ats_loop (fun k : Nat => ⟨[(0, .l3 xs), (1, .l3 ys), (2, .fn 75 []), (15, .l3 xs), (16, .int xs.length), (17, .int k)], []⟩) (fun k => k ≤ xs.length ∧ xs.take k = ys.take k) (fun k => xs.length - k) 0 ⟨Nat.zero_le _, rfl⟩ (by
   refine And.intro ?_ rfl; simp only [leS, Nat.reduceEqDiff, ↓reduceIte, true_and, and_true]
   rfl) (fun k hk => ?_)
  (repeat refine ats_seq ?_); refine ats_go (fix0 hcx) fun K hK => ?_; simp only [go_sem, seval]; refine hK _ ?_; clear hK K
  (repeat refine ats_seq ?_); first | refine ats_ifn (p := _) rfl trivial (fun h1 => ?_) (fun h1 => ?_) | refine ats_ifp (p := _) rfl trivial (fun h1 => ?_) (fun h1 => ?_) | refine ats_cond rfl trivial (fun h1 => ?_) (fun h1 => ?_)
  ·refine ats_skip ?_
   (repeat refine ats_seq ?_); refine ats_block ?_
   (repeat refine ats_seq ?_); refine ats_go (fix0 hcx) fun K hK => ?_; simp only [go_sem, seval]; (repeat refine aI (hb := ?_)); refine hK _ ?_; clear hK K
   (repeat refine ats_seq ?_); refine ats_go (fix0 hcx) fun K hK => ?_; simp only [go_sem, seval]; (repeat refine aI (hb := ?_)); refine hK _ ?_; clear hK K
   (repeat refine ats_seq ?_); refine ats_go (fix0 hcx) fun K hK => ?_; simp only [go_sem, seval]
   first | refine fcall_data (tables1_ok _ _) rfl ?_ | refine YR_intro (acall_data (tables1_ok _ _) rfl) ?_
   simp only [go_sem, seval]
   refine hK _ ?_; clear hK K
   (repeat refine ats_seq ?_); first | refine ats_ifn (p := _) rfl trivial (fun h2 => ?_) (fun h2 => ?_) | refine ats_ifp (p := _) rfl trivial (fun h2 => ?_) (fun h2 => ?_) | refine ats_cond rfl trivial (fun h2 => ?_) (fun h2 => ?_)
   ·(repeat refine ats_seq ?_); refine ats_go (fix0 hcx) fun K hK => ?_; simp only [go_sem, seval]; refine hK _ ?_; clear hK K
    refine ats_ret (finB rfl ?_)
    simp only [Bool.false_eq, decide_eq_false_iff_not]
    exact ne_of_getD h2
   ·refine ats_skip ?_
    (repeat refine ats_seq ?_); refine ats_go (fix0 hcx) fun K hK => ?_; simp only [go_sem, seval]; (repeat refine aI (hb := ?_)); refine hK _ ?_; clear hK K
    refine ⟨k + 1,  ⟨by omega, take_succ_eq (by omega) (by omega) hk.2 h2⟩, by omega, .inl ⟨?_, rfl⟩⟩; simp only [leS, Nat.reduceEqDiff, ↓reduceIte, true_and, and_true]
    omega
  ·refine ats_exit (lq_x ?_)
   (repeat refine ats_seq ?_); refine ats_go (fix0 hcx) fun K hK => ?_; simp only [go_sem, seval]; refine hK _ ?_; clear hK K
   refine ats_ret (finB rfl ?_)
   have h := hk.2
   rw [List.take_of_length_le (by omega), List.take_of_length_le (by omega)] at h
   simp only [h, decide_true]
theorem equalTables_ok (xs ys : List (List (List Int))) : PureCall Try.prog 65 [.l3 xs, .l3 ys] (.bool (decide (xs = ys))) := by
 refine PureCall.intro (n := 8) (rs := [.tmp 4]) Try.call65 Try.func65 rfl rfl rfl (by simp only [List.length_cons, List.length_nil]; omega) (fun cx hcx => ats_of ?_); simp only [argSlots, Nat.zero_add, Nat.reduceAdd]
 (repeat refine ats_seq ?_); refine ats_go (fix0 hcx) fun K hK => ?_; simp only [go_sem, seval]; refine hK _ ?_; clear hK K
 (repeat refine ats_seq ?_); refine ats_go (fix0 hcx) fun K hK => ?_; simp only [go_sem, seval]
 first | refine fcall_data (equalFunc3_ok xs ys) rfl ?_ | refine YR_intro (acall_data (equalFunc3_ok xs ys) rfl) ?_
 simp only [go_sem, seval]
 refine hK _ ?_; clear hK K
 refine ats_ret (finB rfl ?_)
 rfl
set_option maxHeartbeats 4000000 in
theorem opposite_ok (t : List (List (List Int))) (hc : Cube t) : FreshCall Try.prog 49 [.agg [.l3 t]] (.agg [.l3 (oppL t t.length)]) := by
 have h1 := hc.1
 have h16 := hc.2.1
 obtain ⟨n, en⟩ : ∃ n, t.length = n := ⟨_, rfl⟩
 have hm := hc.2.2
 rw [en] at h1 h16 hm
 refine FreshCall.intro (n := 42) (rs := [.cell 2 26]) Try.call49 Try.func49 rfl rfl rfl (by simp only [List.length_cons, List.length_nil]; omega) (fun cx hcx => ats_of ?_); simp only [argSlots, Nat.zero_add, Nat.reduceAdd]
 (repeat refine ats_seq ?_); refine ats_go (fix0 hcx) fun K hK => ?_; simp only [go_sem, seval]; refine hK _ ?_; clear hK K
 (repeat refine ats_seq ?_); refine ats_go (fix0 hcx) fun K hK => ?_; simp only [go_sem, seval]; refine hK _ ?_; clear hK K
 (repeat refine ats_seq ?_); refine ats_go (fix0 hcx) fun K hK => ?_; simp only [go_sem, seval]; (repeat refine aI (hb := ?_)); refine hK _ ?_; clear hK K
 (repeat refine ats_seq ?_)
 refine ats_loop (fun o : Option Nat => match o with
  | none => ⟨[(1, .bptr 0 0), (2, .bptr 1 0), (3, .bptr 2 0), (10, .int t.length), (11, .int 0)], [(0, .bx [.l3 t]), (1, .bx [.nil]), (2, .bx [.nil])]⟩
  | some i => ⟨[(1, .bptr 0 0), (2, .bptr 1 0), (3, .bptr 2 0), (10, .int t.length), (11, .int i)], [(0, .bx [.l3 t]), (1, .bx [.nil]), (2, .bx [.ref 5 []]), (5, .t3 (oppL t i))]⟩) (fun o => match o with
  | none => True
  | some i => 1 ≤ i ∧ i ≤ n) (fun o => match o with
  | none => n + 1
  | some i => n - i) none trivial ⟨by simp only [SlotsLe, St.get, slotGet, Nat.reduceEqDiff, ↓reduceIte, true_and, and_true], rfl⟩ (fun o ho => ?_)
 cases o with
 | none =>
  dsimp only at ho ⊢
  (repeat refine ats_seq ?_); refine ats_go (fix0 hcx) fun K hK => ?_; simp only [go_sem, seval]; refine hK _ ?_; clear hK K
  (repeat refine ats_seq ?_); first | refine ats_ifn (p := _) rfl trivial (fun hli => ?_) (fun hli => ?_) | refine ats_ifp (p := _) rfl trivial (fun hli => ?_) (fun hli => ?_) | refine ats_cond rfl trivial (fun hli => ?_) (fun hli => ?_)
  ·have mi := hm 0 (by omega)
   refine ats_skip ?_
   (repeat refine ats_seq ?_); refine ats_block ?_
   (repeat refine ats_seq ?_); refine ats_go (fix0 hcx) fun K hK => ?_; simp only [go_sem, seval]; refine hK _ ?_; clear hK K
   (repeat refine ats_seq ?_); refine ats_go (fix0 hcx) fun K hK => ?_; simp only [go_sem, seval]; (repeat refine aI (hb := ?_)); refine hK _ ?_; clear hK K
   (repeat refine ats_seq ?_); refine ats_go (fix0 hcx) fun K hK => ?_; simp only [go_sem, seval]; (repeat refine aI (hb := ?_)); refine hK _ ?_; clear hK K
   (repeat refine ats_seq ?_); refine ats_loop (fun j : Nat => ⟨[(1, .bptr 0 0), (2, .bptr 1 0), (3, .bptr 2 0), (4, .int 0), (5, .ref 3 []), (10, .int t.length), (11, .int 0), (17, .int t.length), (18, .int j)], [(0, .bx [.l3 t]), (1, .bx [.nil]), (2, .bx [.nil]), (3, .t2 (oppR t 0 j))]⟩) (fun j => j ≤ n) (fun j => n - j) 0 (Nat.zero_le _) (by refine And.intro ?_ rfl; simp only [leS, Nat.reduceEqDiff, ↓reduceIte, true_and, and_true]; repeat' (first | rfl | with_reducible refine And.intro ?_ ?_ | omega)) (fun j hj => ?_)
   have lj := oppR_length (t := t) (i := 0) (j := j)
   have sj := oppR_succ (t := t) (i := 0) (j := j)
   (repeat refine ats_seq ?_); refine ats_go (fix0 hcx) fun K hK => ?_; simp only [go_sem, seval]; (repeat refine aI (hb := ?_)); refine hK _ ?_; clear hK K
   (repeat refine ats_seq ?_); first | refine ats_ifn (p := _) rfl trivial (fun hlj => ?_) (fun hlj => ?_) | refine ats_ifp (p := _) rfl trivial (fun hlj => ?_) (fun hlj => ?_) | refine ats_cond rfl trivial (fun hlj => ?_) (fun hlj => ?_)
   ·have mj := hm j (by omega)
    have lj2 := mj.1
    have rj := mj.row (show 0 < n by omega)
    have hcl := clone_ok ((t.getD j []).getD 0 []) (by omega) (by omega)
    refine ats_skip ?_
    (repeat refine ats_seq ?_); refine ats_block ?_
    (repeat refine ats_seq ?_); refine ats_go (fix0 hcx) fun K hK => ?_; simp only [go_sem, seval]; (repeat refine aI (hb := ?_)); refine hK _ ?_; clear hK K
    (repeat refine ats_seq ?_); refine ats_go (fix0 hcx) fun K hK => ?_; simp only [go_sem, seval]
    (repeat refine aI (hb := ?_))
    refine fcall_own rfl (hcl) rfl ?_; simp only [go_sem, seval]
    (repeat refine aI (hb := ?_))
    refine hK _ ?_; clear hK K
    (repeat refine ats_seq ?_); refine ats_go (fix0 hcx) fun K hK => ?_; simp only [go_sem, seval]; (repeat refine aI (hb := ?_)); refine hK _ ?_; clear hK K
    refine ⟨j + 1,  by omega, by omega, .inl ⟨by simp only [leS, Nat.reduceEqDiff, ↓reduceIte, true_and, and_true]; omega,  by rw [sj]⟩⟩
   ·obtain rfl : j = n := by omega
    refine ats_exit (lq_x ?_)
    (repeat refine ats_seq ?_); refine ats_go (fix0 hcx) fun K hK => ?_; simp only [go_sem, seval]; (repeat refine aI (hb := ?_)); refine hK _ ?_; clear hK K
    (repeat refine ats_seq ?_); refine ats_go (fix0 hcx) fun K hK => ?_; simp only [go_sem, seval]; (repeat refine aI (hb := ?_)); refine hK _ ?_; clear hK K
    refine ⟨some (0 + 1), ⟨by omega, by omega⟩, by show j - (0 + 1) < j + 1; omega, .inl ⟨?_, ?_⟩⟩
    ·simp only [SlotsLe, St.get, slotGet, Nat.reduceEqDiff, ↓reduceIte, AV.int.injEq, true_and, and_true]
     omega
    ·have es : oppL t (0 + 1) =  [oppR t 0 t.length] := by rw [oppL_succ] <;> rfl
     dsimp only
     rw [es, en]
  ·omega
 | some i =>
  dsimp only at ho ⊢
  have ls := oppL_length (t := t) (i := i)
  (repeat refine ats_seq ?_); refine ats_go (fix0 hcx) fun K hK => ?_; simp only [go_sem, seval]; refine hK _ ?_; clear hK K
  (repeat refine ats_seq ?_); first | refine ats_ifn (p := _) rfl trivial (fun hli => ?_) (fun hli => ?_) | refine ats_ifp (p := _) rfl trivial (fun hli => ?_) (fun hli => ?_) | refine ats_cond rfl trivial (fun hli => ?_) (fun hli => ?_)
  ·have mi := hm i (by omega)
   refine ats_skip ?_
   (repeat refine ats_seq ?_); refine ats_block ?_
   (repeat refine ats_seq ?_); refine ats_go (fix0 hcx) fun K hK => ?_; simp only [go_sem, seval]; refine hK _ ?_; clear hK K
   (repeat refine ats_seq ?_); refine ats_go (fix0 hcx) fun K hK => ?_; simp only [go_sem, seval]; (repeat refine aI (hb := ?_)); refine hK _ ?_; clear hK K
   (repeat refine ats_seq ?_); refine ats_go (fix0 hcx) fun K hK => ?_; simp only [go_sem, seval]; (repeat refine aI (hb := ?_)); refine hK _ ?_; clear hK K
   (repeat refine ats_seq ?_); refine ats_loop (fun j : Nat => ⟨[(1, .bptr 0 0), (2, .bptr 1 0), (3, .bptr 2 0), (4, .int i), (5, .ref 6 []), (10, .int t.length), (11, .int i), (17, .int t.length), (18, .int j)], [(0, .bx [.l3 t]), (1, .bx [.nil]), (2, .bx [.ref 5 []]), (5, .t3 (oppL t i)), (6, .t2 (oppR t i j))]⟩) (fun j => j ≤ n) (fun j => n - j) 0 (Nat.zero_le _) (by refine And.intro ?_ rfl; simp only [leS, Nat.reduceEqDiff, ↓reduceIte, true_and, and_true]; repeat' (first | rfl | with_reducible refine And.intro ?_ ?_ | omega)) (fun j hj => ?_)
   have lj := oppR_length (t := t) (i := i) (j := j)
   have sj := oppR_succ (t := t) (i := i) (j := j)
   (repeat refine ats_seq ?_); refine ats_go (fix0 hcx) fun K hK => ?_; simp only [go_sem, seval]; (repeat refine aI (hb := ?_)); refine hK _ ?_; clear hK K
   (repeat refine ats_seq ?_); first | refine ats_ifn (p := _) rfl trivial (fun hlj => ?_) (fun hlj => ?_) | refine ats_ifp (p := _) rfl trivial (fun hlj => ?_) (fun hlj => ?_) | refine ats_cond rfl trivial (fun hlj => ?_) (fun hlj => ?_)
   ·have mj := hm j (by omega)
    have lj2 := mj.1
    have rj := mj.row (show i < n by omega)
    have hcl := clone_ok ((t.getD j []).getD i []) (by omega) (by omega)
    refine ats_skip ?_
    (repeat refine ats_seq ?_); refine ats_block ?_
    (repeat refine ats_seq ?_); refine ats_go (fix0 hcx) fun K hK => ?_; simp only [go_sem, seval]; (repeat refine aI (hb := ?_)); refine hK _ ?_; clear hK K
    (repeat refine ats_seq ?_); refine ats_go (fix0 hcx) fun K hK => ?_; simp only [go_sem, seval]
    (repeat refine aI (hb := ?_))
    refine fcall_own rfl (hcl) rfl ?_; simp only [go_sem, seval]
    (repeat refine aI (hb := ?_))
    refine hK _ ?_; clear hK K
    (repeat refine ats_seq ?_); refine ats_go (fix0 hcx) fun K hK => ?_; simp only [go_sem, seval]; (repeat refine aI (hb := ?_)); refine hK _ ?_; clear hK K
    refine ⟨j + 1,  by omega, by omega, .inl ⟨by simp only [leS, Nat.reduceEqDiff, ↓reduceIte, true_and, and_true]; omega,  by rw [sj]⟩⟩
   ·obtain rfl : j = n := by omega
    refine ats_exit (lq_x ?_)
    (repeat refine ats_seq ?_); refine ats_go (fix0 hcx) fun K hK => ?_; simp only [go_sem, seval]; (repeat refine aI (hb := ?_)); refine hK _ ?_; clear hK K
    (repeat refine ats_seq ?_); refine ats_go (fix0 hcx) fun K hK => ?_; simp only [go_sem, seval]; (repeat refine aI (hb := ?_)); refine hK _ ?_; clear hK K
    refine ⟨some (i + 1), ⟨by omega, by omega⟩, by show j - (i + 1) < j - i; omega, .inl ⟨?_, ?_⟩⟩
    ·simp only [SlotsLe, St.get, slotGet, Nat.reduceEqDiff, ↓reduceIte, AV.int.injEq, true_and, and_true]
     omega
    ·have es : oppL t (i + 1) = oppL t i ++ [oppR t i t.length] := by rw [oppL_succ] <;> rfl
     dsimp only
     rw [es, en]
  ·obtain rfl : i = t.length := by omega
   refine ats_exit (lq_x ?_)
   (repeat refine ats_seq ?_); refine ats_go (fix0 hcx) fun K hK => ?_; simp only [go_sem, seval]; refine hK _ ?_; clear hK K
   exact ats_ret (ownC (v := .agg [.ref 5 []]) (by simp only [go_sem, seval]) rfl (by simp))
theorem isComm_ok (t : List (List (List Int))) (hc : Cube t) : PureCall Try.prog 52 [.agg [.l3 t]] (.bool (bd (CommP t))) := by
 have ho := opposite_ok t hc
 have he := equalTables_ok t (oppL t t.length)
 have hb : decide (t = oppL t t.length) = bd (CommP t) := by
  by_cases h : CommP t
  ·rw [bd_iff.2 h, decide_eq_true_eq]; exact (comm_iff hc).1 h
  ·rw [bd_false h, decide_eq_false_iff_not]; exact fun e => h ((comm_iff hc).2 e)
 rw [hb] at he
 refine PureCall.intro (n := 9) (rs := [.tmp 2]) Try.call52 Try.func52 rfl rfl rfl (by simp only [List.length_cons, List.length_nil]; omega) (fun cx hcx => ats_of ?_); simp only [argSlots, Nat.zero_add, Nat.reduceAdd]
 (repeat refine ats_seq ?_); refine ats_go (fix0 hcx) fun K hK => ?_; simp only [go_sem, seval]; refine hK _ ?_; clear hK K
 (repeat refine ats_seq ?_); refine ats_pick (fix0 hcx) mixed (by kernel_rfl) fun K hK => ?_; simp only [go_sem, seval]
 first | refine fcall_fresh rfl (ho) ?_ | refine YR_intro (acall_fresh rfl (ho)) ?_
 simp only [go_sem, seval]
 first | refine fcall_data (he) rfl ?_ | refine YR_intro (acall_data (he) rfl) ?_
 simp only [go_sem, seval]
 refine hK _ ?_; clear hK K
 refine ats_ret (finB rfl ?_)
 rfl
end Go.Proofs.Ytppoaacplncppaa
namespace Go.Proofs.Ytppoaacplncppaa
open Go Go.Aw Go.Pl
end Go.Proofs.Ytppoaacplncppaa
namespace Go.Proofs.Ytppoaacplncppaa
open Go Go.Aw Go.Pl
attribute [local go_sem] pl_fin pl_stop pl_one pl_alt PK_ap pickO List.getElem?_toArray List.getElem?_cons_zero List.getElem?_cons_succ
theorem take_getD {α : Type} {xs : List α} {d : α} {k : Nat} (h : k < xs.length) : xs.take (k + 1) = xs.take k ++ [xs.getD k d] := by
 rw [← List.take_append_getElem h, List.getD_eq_getElem?_getD, List.getElem?_eq_getElem h]
 rfl
theorem l01Own2_ok (n : Nat) (h16 : n ≤ 16) (m : List (List Int)) (hm : MatOk n m) : FreshCall Try.prog 64 [.l2 m] (.l2 m) := by
 have lm := hm.1
 refine FreshCall.intro (n := 21) (rs := [.tmp 2]) Try.call64 Try.func64 rfl rfl rfl (by simp only [List.length_cons, List.length_nil]; omega) (fun cx hcx => ats_of ?_); simp only [argSlots, Nat.zero_add, Nat.reduceAdd]
 (repeat refine ats_seq ?_); refine ats_go (by first | exact fix0 hcx | exact fix1 hcx rfl) fun K hK => ?_; simp only [go_sem, seval]; refine hK _ ?_; clear hK K
 (repeat refine ats_seq ?_); refine ats_go (by first | exact fix0 hcx | exact fix1 hcx rfl) fun K hK => ?_; simp only [go_sem, seval]; refine hK _ ?_; clear hK K
 (repeat refine ats_seq ?_); refine ats_go (by first | exact fix0 hcx | exact fix1 hcx rfl) fun K hK => ?_; simp only [go_sem, seval]; refine hK _ ?_; clear hK K
 (repeat refine ats_seq ?_); refine ats_loop (fun i : Nat => ⟨[(0, .l2 m), (3, .ref 0 []), (4, .int i)], [(0, .t2 (m.take i))]⟩) (fun i => i ≤ n) (fun i => n - i) 0 (Nat.zero_le _) (by refine And.intro ?_ rfl; simp only [leS, Nat.reduceEqDiff, ↓reduceIte, true_and, and_true]; repeat' (first | rfl | with_reducible refine And.intro ?_ ?_ | omega)) (fun i hi => ?_)
 have lt : (m.take i).length = i := by rw [List.length_take]; omega
 (repeat refine ats_seq ?_); refine ats_go (by first | exact fix0 hcx | exact fix1 hcx rfl) fun K hK => ?_; simp only [go_sem, seval]; (repeat refine aI (hb := ?_)); refine hK _ ?_; clear hK K
 (repeat refine ats_seq ?_); first | refine ats_ifn (p := _) rfl trivial (fun h2 => ?_) (fun h2 => ?_) | refine ats_ifp (p := _) rfl trivial (fun h2 => ?_) (fun h2 => ?_) | refine ats_cond rfl trivial (fun h2 => ?_) (fun h2 => ?_)
 ·have ri := hm.row (show i < n by omega)
  have ho := l01Own_ok (m.getD i []) (by omega)
  have st := take_getD (xs := m) (d := []) (k := i) (by omega)
  refine ats_skip ?_
  (repeat refine ats_seq ?_); refine ats_block ?_
  (repeat refine ats_seq ?_); refine ats_go (by first | exact fix0 hcx | exact fix1 hcx rfl) fun K hK => ?_; simp only [go_sem, seval]
  (repeat refine aI (hb := ?_))
  refine fcall_own rfl (ho) rfl ?_; simp only [go_sem, seval]
  (repeat refine aI (hb := ?_))
  refine hK _ ?_; clear hK K
  (repeat refine ats_seq ?_); refine ats_go (by first | exact fix0 hcx | exact fix1 hcx rfl) fun K hK => ?_; simp only [go_sem, seval]; (repeat refine aI (hb := ?_)); refine hK _ ?_; clear hK K
  refine ⟨i + 1,  by omega, by omega, .inl ⟨by simp only [leS, Nat.reduceEqDiff, ↓reduceIte, true_and, and_true]; omega,  by rw [st]⟩⟩
 ·obtain rfl : i = n := by omega
  rw [List.take_of_length_le (by omega)]
  refine ats_exit (lq_x ?_)
  (repeat refine ats_seq ?_); refine ats_go (by first | exact fix0 hcx | exact fix1 hcx rfl) fun K hK => ?_; simp only [go_sem, seval]; (repeat refine aI (hb := ?_)); refine hK _ ?_; clear hK K
  exact ats_ret (ownV (is := [0]) rfl ⟨rfl, trivial⟩ rfl (by simp))
theorem l03Own_ok (t : List (List (List Int))) (hc : Cube t) : FreshCall Try.prog 50 [.l3 t] (.l3 t) := by
 have h16 := hc.2.1
 refine FreshCall.intro (n := 21) (rs := [.tmp 2]) Try.call50 Try.func50 rfl rfl rfl (by simp only [List.length_cons, List.length_nil]; omega) (fun cx hcx => ats_of ?_); simp only [argSlots, Nat.zero_add, Nat.reduceAdd]
 (repeat refine ats_seq ?_); refine ats_go (by first | exact fix0 hcx | exact fix1 hcx rfl) fun K hK => ?_; simp only [go_sem, seval]; refine hK _ ?_; clear hK K
 (repeat refine ats_seq ?_); refine ats_go (by first | exact fix0 hcx | exact fix1 hcx rfl) fun K hK => ?_; simp only [go_sem, seval]; refine hK _ ?_; clear hK K
 (repeat refine ats_seq ?_); refine ats_go (by first | exact fix0 hcx | exact fix1 hcx rfl) fun K hK => ?_; simp only [go_sem, seval]; refine hK _ ?_; clear hK K
 (repeat refine ats_seq ?_); refine ats_loop (fun i : Nat => ⟨[(0, .l3 t), (3, .ref 0 []), (4, .int i)], [(0, .t3 (t.take i))]⟩) (fun i => i ≤ t.length) (fun i => t.length - i) 0 (Nat.zero_le _) (by refine And.intro ?_ rfl; simp only [leS, Nat.reduceEqDiff, ↓reduceIte, true_and, and_true]; repeat' (first | rfl | with_reducible refine And.intro ?_ ?_ | omega)) (fun i hi => ?_)
 have lt : (t.take i).length = i := by rw [List.length_take]; omega
 (repeat refine ats_seq ?_); refine ats_go (by first | exact fix0 hcx | exact fix1 hcx rfl) fun K hK => ?_; simp only [go_sem, seval]; (repeat refine aI (hb := ?_)); refine hK _ ?_; clear hK K
 (repeat refine ats_seq ?_); first | refine ats_ifn (p := _) rfl trivial (fun h2 => ?_) (fun h2 => ?_) | refine ats_ifp (p := _) rfl trivial (fun h2 => ?_) (fun h2 => ?_) | refine ats_cond rfl trivial (fun h2 => ?_) (fun h2 => ?_)
 ·have ho := l01Own2_ok t.length h16 (t.getD i []) (hc.2.2 i (by omega))
  have st := take_getD (xs := t) (d := []) (k := i) (by omega)
  refine ats_skip ?_
  (repeat refine ats_seq ?_); refine ats_block ?_
  (repeat refine ats_seq ?_); refine ats_go (by first | exact fix0 hcx | exact fix1 hcx rfl) fun K hK => ?_; simp only [go_sem, seval]
  (repeat refine aI (hb := ?_))
  refine fcall_own rfl (ho) rfl ?_; simp only [go_sem, seval]
  (repeat refine aI (hb := ?_))
  refine hK _ ?_; clear hK K
  (repeat refine ats_seq ?_); refine ats_go (by first | exact fix0 hcx | exact fix1 hcx rfl) fun K hK => ?_; simp only [go_sem, seval]; (repeat refine aI (hb := ?_)); refine hK _ ?_; clear hK K
  refine ⟨i + 1,  by omega, by omega, .inl ⟨by simp only [leS, Nat.reduceEqDiff, ↓reduceIte, true_and, and_true]; omega,  by rw [st]⟩⟩
 ·obtain rfl : i = t.length := by omega
  rw [List.take_of_length_le (by omega)]
  refine ats_exit (lq_x ?_)
  (repeat refine ats_seq ?_); refine ats_go (by first | exact fix0 hcx | exact fix1 hcx rfl) fun K hK => ?_; simp only [go_sem, seval]; (repeat refine aI (hb := ?_)); refine hK _ ?_; clear hK K
  exact ats_ret (ownV (is := [0]) rfl ⟨rfl, trivial⟩ rfl (by simp))
end Go.Proofs.Ytppoaacplncppaa
