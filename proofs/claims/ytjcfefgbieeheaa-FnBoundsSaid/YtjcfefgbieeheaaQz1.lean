import Derived.Test.YtjcfefgbieeheaaQd5
import Derived.Test.YtjcfefgbieeheaaEx1
import Derived.Test.YtjcfefgbieeheaaJz4
import Derived.Test.YtjcfefgbieeheaaMz3
import Derived.Test.YtjcfefgbieeheaaWz1
set_option linter.unusedSimpArgs false
set_option linter.unusedVariables false
namespace Go.Proofs.Ytjcfefgbieeheaa
open Go Go.Aw Go.Pl
attribute [local go_sem] pl_fin pl_stop pl_one pl_alt PK_ap pickO List.getElem?_toArray List.getElem?_cons_zero List.getElem?_cons_succ
def rpK (m k : Nat) (v : Int) : List Int := List.replicate k v ++ List.replicate (m - k) 0
theorem rpK_length {m k : Nat} {v : Int} (h : k ≤ m) : (rpK m k v).length = m := by simp [rpK]; omega
theorem rpK_take {m k : Nat} {v : Int} : (rpK m k v).take k = List.replicate k v := by simp [rpK]
theorem rpK_step {m k : Nat} {v : Int} (h : k ≤ m) : cpL (rpK m k v) (((rpK m k v).take k).drop 0) k m = rpK m (k + min (m - k) k) v := by
 rw [rpK_take, List.drop_zero]
 unfold cpL
 rw [rpK_take, List.take_replicate, List.length_replicate]
 unfold rpK
 rw [List.drop_append, List.drop_replicate, List.drop_replicate, List.length_replicate, List.replicate_append_replicate]
 have e1 : k - (k + min (m - k) k) = 0 := by omega
 have e2 : m - k - (k + min (m - k) k - k) = m - (k + min (m - k) k) := by omega
 rw [e1, e2, List.replicate_zero, List.nil_append]
theorem repeat1_ok (m : Nat) (v : Int) (h1 : 1 ≤ m) (hm : m ≤ 16) : FreshCall Try.prog 96 [.l1 [v], .int m] (.l1 (rowF m fun _ => v)) := by
 have h := mul_ok m hm
 have hw : (m : Int) % 18446744073709551616 = m := by omega
 refine FreshCall.intro (n := 48) (rs := [.tmp 4]) Try.call96 Try.func96 rfl rfl rfl (by simp only [List.length_cons, List.length_nil]; omega) (fun cx hcx => ats_of ?_); simp only [argSlots, Nat.zero_add, Nat.reduceAdd]
 refine gB ?_
 refine gB ?_
 refine gI (fun hc1 => ?_) fun hc1 => ?_
 ·omega
 ·refine ats_skip ?_
  refine gC fun K hK => ?_
  simp only [hw]
  first | refine fcall_data (h) rfl ?_ | refine YR_intro (acall_data (h) rfl) ?_
  simp only [go_sem, seval]
  (repeat refine aI (hb := ?_))
  refine hK _ ?_; clear hK K
  refine gB ?_
  refine gI (fun hc2 => ?_) fun hc2 => ?_
  ·omega
  ·refine ats_skip ?_
   have e0 : cpL (List.replicate m 0) [v] 0 m = rpK m 1 v := by
    obtain ⟨k, rfl⟩ : ∃ k, m = k + 1 := ⟨m - 1, by omega⟩
    simp [cpL, rpK, List.replicate_succ]
   have em : min m 1 = 1 := by omega
   refine gB ?_
   refine gC fun K hK => ?_
   simp only [e0, em, List.length_replicate, List.length_cons, List.length_nil, Nat.zero_add]
   (repeat refine aI (hb := ?_))
   refine hK _ ?_; clear hK K
   (repeat refine ats_seq ?_); refine ats_loop (fun k : Nat => ⟨[(7, .ref 0 []), (8, .int k)], [(0, .t1 (rpK m k v))]⟩) (fun k => 1 ≤ k ∧ k ≤ m) (fun k => m - k) 1 ⟨by omega, by omega⟩ (by
    refine And.intro ?_ rfl; simp only [leS, Nat.reduceEqDiff, ↓reduceIte, true_and, and_true]
    done) (fun k hk => ?_)
   have lk := rpK_length (m := m) (k := k) (v := v) (by omega)
   have ld : (((rpK m k v).take k).drop 0).length = k := by rw [rpK_take]; simp
   have sk := rpK_step (m := m) (k := k) (v := v) (by omega)
   have ld' := ld
   have sk' := sk
   rw [List.drop_zero] at ld' sk'
   refine gB ?_
   refine gI (fun hl => ?_) fun hl => ?_
   ·refine ats_skip ?_
    (repeat refine ats_seq ?_); refine ats_block ?_
    (repeat refine ats_seq ?_)
    refine ats_plan [] (.one 1 (.one 2 (.one 3 (.one 4 (.one 5 (.one 6 (.alt 0 (.alt 7 (.one 8 (.one 9 .fin)) .stop) (.alt 7 (.one 0 (.one 8 (.one 9 .fin))) .stop)))))))) ⟨[(7, .ref 0 []), (8, .int ((k : Int) + (min (m - k) k : Nat)))], [(0, .t1 (rpK m (k + min (m - k) k) v))]⟩ (fix0 hcx) mixed (by kernel_rfl) (fun K hK => ?_) ?_
    ·simp only [go_sem, seval, Option.getD_some, and_true, true_and, and_self, List.contains_cons, List.contains_nil, Bool.or_false, Bool.or_true]
     repeat' (first | exact hK _ (by refine And.intro ?_ rfl; simp only [leS, Nat.reduceEqDiff, ↓reduceIte, true_and, and_true])  | with_reducible refine And.intro ?_ ?_ | omega | ((simp only [lk, ld, sk, ld', sk'])))
    refine ⟨k + min (m - k) k,  by omega, by omega, .inl ⟨by simp only [leS, Nat.reduceEqDiff, ↓reduceIte, true_and, and_true]; omega,  rfl⟩⟩
   ·obtain rfl : k = m := by omega
    refine ats_exit (lq_x ?_)
    refine gB ?_
    have er : rpK k k v = rowF k fun _ => v := by simp only [rpK, Nat.sub_self, List.replicate_zero, List.append_nil, rowF, List.map_const', List.length_range]
    exact ats_ret (ownV (is := [0]) rfl ⟨rfl, trivial⟩ (by rw [er]; rfl) (by simp))
theorem next_w_ok (t : Cu) (hc : Cube t) (W : Nat → Int) (hW : WB t.length W) : FreshCall Try.prog 97 [.agg [.l3 t], .l1 (rowF t.length W)] (.l1 (rowF t.length (nxW t W))) := by
 have h16 := hc.2.1
 have h1 := hc.1
 have lW : (rowF t.length W).length = t.length := rowF_length _ _
 have ez : List.replicate t.length (0 : Int) = rowF t.length fun a => nS t W a 0 := by
  have : (fun a => nS t W a 0) = fun _ => 0 := rfl
  rw [this]
  simp only [rowF, List.map_const', List.length_range]
 refine FreshCall.intro (n := 52) (rs := [.tmp 4]) Try.call97 Try.func97 rfl rfl rfl (by simp only [List.length_cons, List.length_nil]; omega) (fun cx hcx => ats_of ?_); simp only [argSlots, Nat.zero_add, Nat.reduceAdd]
 refine gB ?_
 refine gC fun K hK => ?_
 simp only [lW]
 (repeat refine aI (hb := ?_))
 refine hK _ ?_; clear hK K
 rw [ez]
 refine gB ?_
 (repeat refine ats_seq ?_); refine ats_loop (fun i : Nat => ⟨[(1, .l1 (rowF t.length W)), (5, .ref 1 []), (16, .l3 t), (17, .int t.length), (18, .int i)], [(0, .bx [.l3 t]), (1, .t1 (rowF t.length fun a => nS t W a i))]⟩) (fun i => i ≤ t.length) (fun i => t.length - i) 0 (Nat.zero_le _) (by
  refine And.intro ?_ rfl; simp only [leS, Nat.reduceEqDiff, ↓reduceIte, true_and, and_true]
  first | done | rfl) (fun i hi => ?_)
 refine gB ?_
 refine gI (fun hl => ?_) fun hl => ?_
 ·have hin : i < t.length := by omega
  have rl := (hc.2.2 i hin).1
  refine ats_skip ?_
  (repeat refine ats_seq ?_); refine ats_block ?_
  refine gB ?_
  refine gB ?_
  (repeat refine ats_seq ?_); refine ats_loop (fun j : Nat => ⟨[(1, .l1 (rowF t.length W)), (5, .ref 1 []), (16, .l3 t), (17, .int t.length), (18, .int i), (22, .l2 (t.getD i [])), (23, .int t.length), (24, .int j)], [(0, .bx [.l3 t]), (1, .t1 (rowF t.length (nq t W i j)))]⟩) (fun j => j ≤ t.length) (fun j => t.length - j) 0 (Nat.zero_le _) (by
   rw [nq_zero]
   refine And.intro ?_ rfl; simp only [leS, Nat.reduceEqDiff, ↓reduceIte, true_and, and_true, rl]
   first | done | rfl) (fun j hj => ?_)
  refine gB ?_
  refine gI (fun hl2 => ?_) fun hl2 => ?_
  ·have hjn : j < t.length := by omega
   have rl2 : ((t.getD i []).getD j []).length = t.length := ((hc.2.2 i hin).2 j hjn).1
   refine ats_skip ?_
   (repeat refine ats_seq ?_); refine ats_block ?_
   refine gB ?_
   refine gB ?_
   (repeat refine ats_seq ?_); refine ats_loop (fun k : Nat => ⟨[(1, .l1 (rowF t.length W)), (5, .ref 1 []), (8, .int j), (16, .l3 t), (17, .int t.length), (18, .int i), (22, .l2 (t.getD i [])), (23, .int t.length), (24, .int j), (29, .l1 ((t.getD i []).getD j [])), (30, .int t.length), (31, .int k)], [(0, .bx [.l3 t]), (1, .t1 (rowF t.length (nqk t W i j k)))]⟩) (fun k => k ≤ t.length) (fun k => t.length - k) 0 (Nat.zero_le _) (by
    rw [nqk_zero]
    refine And.intro ?_ rfl; simp only [leS, Nat.reduceEqDiff, ↓reduceIte, true_and, and_true, rl2]
    first | done | rfl) (fun k hk => ?_)
   refine gB ?_
   refine gI (fun hl3 => ?_) fun hl3 => ?_
   ·have hkn : k < t.length := by omega
    have b1 : 0 ≤ ((t.getD i []).getD j []).getD k 0 * W k ∧ ((t.getD i []).getD j []).getD k 0 * W k ≤ 1000000000 := tm_bd hc hW hin hjn hkn
    have b2 := rsP_bd hc hW hin hjn hk
    have b3 := nS_bd hc hW hjn (show i ≤ t.length by omega)
    have g1 : (rowF t.length (nqk t W i j k)).getD j 0 = nS t W j i + rsP t i W j k := by
     rw [rowF_get hjn]; unfold nqk; rw [if_pos rfl]
    have g2 : (rowF t.length W).getD k 0 = W k := rowF_get hkn
    have g3 : (rowF t.length (nqk t W i j k)).set j (nS t W j i + rsP t i W j k + ((t.getD i []).getD j []).getD k 0 * W k) = rowF t.length (nqk t W i j (k + 1)) := by
     rw [rowF_set, ← nqk_step]
    have l1 : (rowF t.length (nqk t W i j k)).length = t.length := rowF_length _ _
    refine ats_skip ?_
    (repeat refine ats_seq ?_); refine ats_block ?_
    refine gB ?_
    (repeat refine ats_seq ?_); refine ats_pick (fix0 hcx) mixed (by kernel_rfl) fun K hK => ?_; simp only [go_sem, seval]
    simp only [g1, g2, g3, Int.toNat_natCast]
    (repeat refine aI (hb := ?_))
    refine hK _ ?_; clear hK K
    refine gB ?_
    refine ⟨k + 1,  by omega, by omega, .inl ⟨by simp only [leS, Nat.reduceEqDiff, ↓reduceIte, true_and, and_true]; omega,  rfl⟩⟩
   ·obtain rfl : k = t.length := by omega
    refine ats_exit (lq_x ?_)
    rw [nqk_done]
    refine gB ?_
    refine ⟨j + 1,  by omega, by omega, .inl ⟨by simp only [leS, Nat.reduceEqDiff, ↓reduceIte, true_and, and_true]; omega,  rfl⟩⟩
  ·obtain rfl : j = t.length := by omega
   refine ats_exit (lq_x ?_)
   rw [nq_end W i rfl]
   refine gB ?_
   refine ⟨i + 1,  by omega, by omega, .inl ⟨by simp only [leS, Nat.reduceEqDiff, ↓reduceIte, true_and, and_true]; omega,  rfl⟩⟩
 ·obtain rfl : i = t.length := by omega
  refine ats_exit (lq_x ?_)
  refine gB ?_
  exact ats_ret (ownV (is := [1]) rfl ⟨rfl, trivial⟩ rfl (by simp))
theorem l04Next_ok (t : Cu) (hc : Cube t) (W : Nat → Int) (hW : WB t.length W) : FreshCall Try.prog 92 [.agg [.l3 t], .l1 (rowF t.length W)] (.l1 (rowF t.length (nxW t W))) := by
 have h16 := hc.2.1
 have h1 := hc.1
 have lW : (rowF t.length W).length = t.length := rowF_length _ _
 have ez : List.replicate t.length (0 : Int) = rowF t.length fun a => nS t W a 0 := by
  have : (fun a => nS t W a 0) = fun _ => 0 := rfl
  rw [this]
  simp only [rowF, List.map_const', List.length_range]
 refine FreshCall.intro (n := 55) (rs := [.tmp 4]) Try.call92 Try.func92 rfl rfl rfl (by simp only [List.length_cons, List.length_nil]; omega) (fun cx hcx => ats_of ?_); simp only [argSlots, Nat.zero_add, Nat.reduceAdd]
 refine gB ?_
 refine gC fun K hK => ?_
 simp only [lW]
 (repeat refine aI (hb := ?_))
 refine hK _ ?_; clear hK K
 rw [ez]
 refine gB ?_
 (repeat refine ats_seq ?_); refine ats_loop (fun i : Nat => ⟨[(1, .l1 (rowF t.length W)), (2, .bptr 0 0), (5, .ref 1 []), (6, .int i)], [(0, .bx [.l3 t]), (1, .t1 (rowF t.length fun a => nS t W a i))]⟩) (fun i => i ≤ t.length) (fun i => t.length - i) 0 (Nat.zero_le _) (by
  refine And.intro ?_ rfl; simp only [leS, Nat.reduceEqDiff, ↓reduceIte, true_and, and_true]
  first | done | rfl) (fun i hi => ?_)
 refine gB ?_
 refine gI (fun hl => ?_) fun hl => ?_
 ·have hin : i < t.length := by omega
  have rl := (hc.2.2 i hin).1
  refine ats_skip ?_
  (repeat refine ats_seq ?_); refine ats_block ?_
  refine gB ?_
  (repeat refine ats_seq ?_); refine ats_loop (fun j : Nat => ⟨[(1, .l1 (rowF t.length W)), (2, .bptr 0 0), (5, .ref 1 []), (6, .int i), (7, .int j)], [(0, .bx [.l3 t]), (1, .t1 (rowF t.length (nq t W i j)))]⟩) (fun j => j ≤ t.length) (fun j => t.length - j) 0 (Nat.zero_le _) (by
   rw [nq_zero]
   refine And.intro ?_ rfl; simp only [leS, Nat.reduceEqDiff, ↓reduceIte, true_and, and_true]
   first | done | rfl) (fun j hj => ?_)
  refine gB ?_
  refine gI (fun hl2 => ?_) fun hl2 => ?_
  ·have hjn : j < t.length := by omega
   have rl2 : ((t.getD i []).getD j []).length = t.length := ((hc.2.2 i hin).2 j hjn).1
   refine ats_skip ?_
   (repeat refine ats_seq ?_); refine ats_block ?_
   refine gB ?_
   (repeat refine ats_seq ?_); refine ats_loop (fun k : Nat => ⟨[(1, .l1 (rowF t.length W)), (2, .bptr 0 0), (5, .ref 1 []), (6, .int i), (7, .int j), (8, .int k)], [(0, .bx [.l3 t]), (1, .t1 (rowF t.length (nqk t W i j k)))]⟩) (fun k => k ≤ t.length) (fun k => t.length - k) 0 (Nat.zero_le _) (by
    rw [nqk_zero]
    refine And.intro ?_ rfl; simp only [leS, Nat.reduceEqDiff, ↓reduceIte, true_and, and_true]
    first | done | rfl) (fun k hk => ?_)
   refine gB ?_
   refine gI (fun hl3 => ?_) fun hl3 => ?_
   ·have hkn : k < t.length := by omega
    have b1 : 0 ≤ ((t.getD i []).getD j []).getD k 0 * W k ∧ ((t.getD i []).getD j []).getD k 0 * W k ≤ 1000000000 := tm_bd hc hW hin hjn hkn
    have b2 := rsP_bd hc hW hin hjn hk
    have b3 := nS_bd hc hW hjn (show i ≤ t.length by omega)
    have g1 : (rowF t.length (nqk t W i j k)).getD j 0 = nS t W j i + rsP t i W j k := by
     rw [rowF_get hjn]; unfold nqk; rw [if_pos rfl]
    have g2 : (rowF t.length W).getD k 0 = W k := rowF_get hkn
    have g3 : (rowF t.length (nqk t W i j k)).set j (nS t W j i + rsP t i W j k + ((t.getD i []).getD j []).getD k 0 * W k) = rowF t.length (nqk t W i j (k + 1)) := by
     rw [rowF_set, ← nqk_step]
    have l1 : (rowF t.length (nqk t W i j k)).length = t.length := rowF_length _ _
    refine ats_skip ?_
    (repeat refine ats_seq ?_); refine ats_block ?_
    (repeat refine ats_seq ?_); refine ats_pick (fix0 hcx) mixed (by kernel_rfl) fun K hK => ?_; simp only [go_sem, seval]
    simp only [g1, g2, g3, Int.toNat_natCast]
    (repeat refine aI (hb := ?_))
    refine hK _ ?_; clear hK K
    refine gB ?_
    refine ⟨k + 1,  by omega, by omega, .inl ⟨by simp only [leS, Nat.reduceEqDiff, ↓reduceIte, true_and, and_true]; omega,  rfl⟩⟩
   ·obtain rfl : k = t.length := by omega
    refine ats_exit (lq_x ?_)
    rw [nqk_done]
    refine gB ?_
    refine ⟨j + 1,  by omega, by omega, .inl ⟨by simp only [leS, Nat.reduceEqDiff, ↓reduceIte, true_and, and_true]; omega,  rfl⟩⟩
  ·obtain rfl : j = t.length := by omega
   refine ats_exit (lq_x ?_)
   rw [nq_end W i rfl]
   refine gB ?_
   refine ⟨i + 1,  by omega, by omega, .inl ⟨by simp only [leS, Nat.reduceEqDiff, ↓reduceIte, true_and, and_true]; omega,  rfl⟩⟩
 ·obtain rfl : i = t.length := by omega
  refine ats_exit (lq_x ?_)
  refine gB ?_
  exact ats_ret (ownV (is := [1]) rfl ⟨rfl, trivial⟩ rfl (by simp))
end Go.Proofs.Ytjcfefgbieeheaa
namespace Go.Proofs.Ytjcfefgbieeheaa
open Go Go.Aw Go.Pl
theorem mxB {xs : List Int} {B : Int} : ∀ {k : Nat}, mx xs k ≤ B ↔ ∀ j, j ≤ k → xs.getD j 0 ≤ B
 | 0 => ⟨fun h j hj => by
   obtain rfl : j = 0 := by omega
   exact h, fun h => h 0 (Nat.le_refl 0)⟩
 | k + 1 => by
  have ih := mxB (xs := xs) (B := B) (k := k)
  have e : mx xs (k + 1) = max (mx xs k) (xs.getD (k + 1) 0) := rfl
  rw [e]
  constructor
  ·intro h j hj
   by_cases e : j = k + 1
   ·subst e; omega
   ·exact ih.1 (by omega) j (by omega)
  ·intro h
   have h1 := ih.2 fun j hj => h j (by omega)
   have h2 := h (k + 1) (Nat.le_refl _)
   omega
theorem mx_row {n : Nat} {f : Nat → Int} {B : Int} (hn : 1 ≤ n) : mx (rowF n f) (n - 1) ≤ B ↔ ∀ j, j < n → f j ≤ B := by
 rw [mxB]
 constructor
 ·intro h j hj
  have := h j (by omega)
  rwa [rowF_get hj] at this
 ·intro h j hj
  rw [rowF_get (by omega)]
  exact h j (by omega)
theorem weightsOf_ok (t : Cu) (h : RingP t) (m : Nat) (hm : m ≤ 20) : PureCall Try.prog 64 [.agg [.l3 t], .int m] (.tup [optA (wR t m).1, .int (wR t m).2]) := by
 have hc := h.cube
 have h16 := hc.2.1
 have h1 := hc.1
 have hR := repeat1_ok t.length 1 h1 h16
 have e0 : wR t m = if bd (okW t m) = true then (some (rowF t.length (wtS t m)), 0) else (none, 3) := by unfold wR; rw [Int.toNat_natCast]
 rw [e0]
 refine PureCall.intro (n := 23) (rs := [.tmp 4, .tmp 5]) Try.call64 Try.func64 rfl rfl rfl (by simp only [List.length_cons, List.length_nil]; omega) (fun cx hcx => ats_of ?_); simp only [argSlots, Nat.zero_add, Nat.reduceAdd]
 refine gB ?_
 refine gC fun K hK => ?_
 (repeat refine aI (hb := ?_))
 refine fcall_own rfl (hR) rfl ?_; simp only [go_sem, seval]
 (repeat refine aI (hb := ?_))
 refine hK _ ?_; clear hK K
 refine gB ?_
 (repeat refine ats_seq ?_); refine AT.ghost (ghost_frz [1, 2]) ?_; simp only [frzV, find, killA, killAs, qOf, rmT, killH, killT, List.map_cons, List.map_nil, List.filter_cons, List.filter_nil, List.contains_cons, List.contains_nil, Bool.or_false, Bool.or_true, Bool.false_and, Bool.not_true, Bool.not_false, Bool.false_eq_true, if_true, if_false, seval]
 (repeat refine ats_seq ?_); refine ats_loop (fun r : Nat => ⟨[(2, .bptr 0 0), (4, .nil), (5, .int 0), (6, .l1 (rowF t.length (wtS t r))), (12, .int m), (13, .int r)], [(0, .bx [.l3 t])]⟩) (fun r => r ≤ m ∧ okW t r) (fun r => m - r) 0 ⟨Nat.zero_le _, fun r hr => absurd hr (Nat.not_lt_zero r)⟩ (by
  refine And.intro ?_ rfl; simp only [leS, Nat.reduceEqDiff, ↓reduceIte, true_and, and_true]
  first | done | exact ⟨rfl, rfl⟩) (fun r hr => ?_)
 obtain ⟨hr, hok⟩ := hr
 refine gB ?_
 refine gI (fun hl => ?_) fun hl => ?_
 ·have hN := next_w_ok t hc (wtS t r) (wtS_WB h hok)
  have hX := max_ok (rowF t.length (nxW t (wtS t r))) (by rw [rowF_length]; exact h1)
  have lr : (rowF t.length (nxW t (wtS t r))).length = t.length := rowF_length _ _
  rw [lr] at hX
  have hb := mx_row (f := nxW t (wtS t r)) (B := 1000000) h1
  have hs := okW_succ (t := t) (s := r)
  refine ats_skip ?_
  (repeat refine ats_seq ?_); refine ats_block ?_
  refine gC fun K hK => ?_
  refine fcall_own rfl (hN) rfl ?_; simp only [go_sem, seval]
  (repeat refine aI (hb := ?_))
  refine hK _ ?_; clear hK K
  refine gC fun K hK => ?_
  first | refine fcall_free rfl rfl (hX) ?_ | refine YR_intro (acall_free rfl rfl (hX)) ?_
  simp only [go_sem, seval]
  (repeat refine aI (hb := ?_))
  refine hK _ ?_; clear hK K
  refine gI (fun h2 => ?_) fun h2 => ?_
  ·have hno : ¬ okW t m := fun hm' => by
    have := (hs.1 (okW_mono hm' (by omega))).2
    have := hb.2 this
    omega
   rw [bd_false hno]
   refine gB ?_
   exact ats_ret (fin2 trivial trivial rfl)
  ·have hyes : okW t (r + 1) := hs.2 ⟨hok, hb.1 (by omega)⟩
   refine ats_skip ?_
   (repeat refine ats_seq ?_); refine AT.ghost (ghost_frz [1]) ?_; simp only [frzV, find, killA, killAs, qOf, rmT, killH, killT, List.map_cons, List.map_nil, List.filter_cons, List.filter_nil, List.contains_cons, List.contains_nil, Bool.or_false, Bool.or_true, Bool.false_and, Bool.not_true, Bool.not_false, Bool.false_eq_true, if_true, if_false, seval]
   refine gB ?_
   refine ⟨r + 1,  ⟨by omega, hyes⟩, by omega, .inl ⟨by simp only [leS, Nat.reduceEqDiff, ↓reduceIte, true_and, and_true]; (exact ⟨rfl, rfl⟩),  rfl⟩⟩
 ·obtain rfl : r = m := by omega
  rw [bd_true hok]
  refine ats_exit (lq_x ?_)
  refine gB ?_
  exact ats_ret (fin2 trivial trivial rfl)
theorem l04Weights_ok (t : Cu) (h : RingP t) (m : Nat) (hm : m ≤ 20) : PureCall Try.prog 68 [.agg [.l3 t], .int m] (.tup [optA (wR t m).1, .bool (bd (okW t m))]) := by
 have hc := h.cube
 have h16 := hc.2.1
 have h1 := hc.1
 have e0 : wR t m = if bd (okW t m) = true then (some (rowF t.length (wtS t m)), 0) else (none, 3) := by unfold wR; rw [Int.toNat_natCast]
 rw [e0]
 refine PureCall.intro (n := 39) (rs := [.tmp 4, .tmp 5]) Try.call68 Try.func68 rfl rfl rfl (by simp only [List.length_cons, List.length_nil]; omega) (fun cx hcx => ats_of ?_); simp only [argSlots, Nat.zero_add, Nat.reduceAdd]
 refine gB ?_
 refine gB ?_
 refine gB ?_
 (repeat refine ats_seq ?_); refine ats_loop (fun i : Nat => ⟨[(1, .int m), (2, .bptr 0 0), (4, .nil), (5, .bool false), (6, .ref 1 []), (7, .int i)], [(0, .bx [.l3 t]), (1, .t1 (rowF i fun _ => 1))]⟩) (fun i => i ≤ t.length) (fun i => t.length - i) 0 (Nat.zero_le _) (by
  refine And.intro ?_ rfl; simp only [leS, Nat.reduceEqDiff, ↓reduceIte, true_and, and_true]
  first | done | rfl) (fun i hi => ?_)
 have li : (rowF i fun _ => (1 : Int)).length = i := rowF_length _ _
 have ei : (rowF i fun _ => (1 : Int)) ++ [1] = rowF (i + 1) fun _ => 1 := by simp [rowF, List.range_succ]
 refine gB ?_
 refine gI (fun hl => ?_) fun hl => ?_
 ·refine ats_skip ?_
  (repeat refine ats_seq ?_); refine ats_block ?_
  refine gC fun K hK => ?_
  rw [ei]
  (repeat refine aI (hb := ?_))
  refine hK _ ?_; clear hK K
  refine gB ?_
  refine ⟨i + 1, by omega, by omega, .inr ⟨[2], by simp only [killL, List.map_cons, List.map_nil, killA, killAs, qOf, rmT, killH, killT, List.filter_cons, List.filter_nil, List.contains_cons, List.contains_nil, SlotsLe, St.get, slotGet, Nat.reduceEqDiff, Nat.reduceBEq, Bool.or_false, Bool.or_true, Bool.false_and, Bool.not_true, Bool.not_false, Bool.false_eq_true, ↓reduceIte, if_true, if_false, AV.int.injEq, AV.bool.injEq, AV.l1.injEq, AV.l2.injEq, AV.l3.injEq, true_and, and_true]; omega, by simp only [killL, List.map_cons, List.map_nil, killA, killAs, qOf, rmT, killH, killT, List.filter_cons, List.filter_nil, List.contains_cons, List.contains_nil, SlotsLe, St.get, slotGet, Nat.reduceEqDiff, Nat.reduceBEq, Bool.or_false, Bool.or_true, Bool.false_and, Bool.not_true, Bool.not_false, Bool.false_eq_true, ↓reduceIte, if_true, if_false, AV.int.injEq, AV.bool.injEq, AV.l1.injEq, AV.l2.injEq, AV.l3.injEq, true_and, and_true]; skip⟩⟩
 ·obtain rfl : i = t.length := by omega
  refine ats_exit (lq_x ?_)
  (repeat refine ats_seq ?_); refine AT.ghost (ghost_frz [1]) ?_; simp only [frzV, find, killA, killAs, qOf, rmT, killH, killT, List.map_cons, List.map_nil, List.filter_cons, List.filter_nil, List.contains_cons, List.contains_nil, Bool.or_false, Bool.or_true, Bool.false_and, Bool.not_true, Bool.not_false, Bool.false_eq_true, if_true, if_false, seval]
  (repeat refine ats_seq ?_); refine ats_loop (fun r : Nat => ⟨[(1, .int ((m : Int) - r)), (2, .bptr 0 0), (4, .nil), (5, .bool false), (6, .l1 (rowF t.length (wtS t r)))], [(0, .bx [.l3 t])]⟩) (fun r => r ≤ m ∧ okW t r) (fun r => m - r) 0 ⟨Nat.zero_le _, fun r hr => absurd hr (Nat.not_lt_zero r)⟩ (by
   refine And.intro ?_ rfl; simp only [leS, Nat.reduceEqDiff, ↓reduceIte, true_and, and_true]
   first | done | rfl | exact ⟨by omega, rfl⟩) (fun r hr => ?_)
  obtain ⟨hr, hok⟩ := hr
  refine gB ?_
  refine gI (fun hl2 => ?_) fun hl2 => ?_
  ·have hN := l04Next_ok t hc (wtS t r) (wtS_WB h hok)
   have lr : (rowF t.length (nxW t (wtS t r))).length = t.length := rowF_length _ _
   have hs := okW_succ (t := t) (s := r)
   refine ats_skip ?_
   (repeat refine ats_seq ?_); refine ats_block ?_
   refine gC fun K hK => ?_
   refine fcall_own rfl (hN) rfl ?_; simp only [go_sem, seval]
   (repeat refine aI (hb := ?_))
   refine hK _ ?_; clear hK K
   (repeat refine ats_seq ?_); refine AT.ghost (ghost_frz [1]) ?_; simp only [frzV, find, killA, killAs, qOf, rmT, killH, killT, List.map_cons, List.map_nil, List.filter_cons, List.filter_nil, List.contains_cons, List.contains_nil, Bool.or_false, Bool.or_true, Bool.false_and, Bool.not_true, Bool.not_false, Bool.false_eq_true, if_true, if_false, seval]
   refine gB ?_
   (repeat refine ats_seq ?_); refine ats_loop (fun j : Nat => ⟨[(1, .int ((m : Int) - r)), (2, .bptr 0 0), (4, .nil), (5, .bool false), (6, .l1 (rowF t.length (nxW t (wtS t r)))), (8, .int j)], [(0, .bx [.l3 t])]⟩) (fun j => j ≤ t.length ∧ ∀ a, a < j → nxW t (wtS t r) a ≤ 1000000) (fun j => t.length - j) 0 ⟨Nat.zero_le _, fun a ha => absurd ha (Nat.not_lt_zero a)⟩ (by
    refine And.intro ?_ rfl; simp only [leS, Nat.reduceEqDiff, ↓reduceIte, true_and, and_true]
    first | done | rfl) (fun j hj => ?_)
   obtain ⟨hj, hJ⟩ := hj
   refine gB ?_
   refine gI (fun hl3 => ?_) fun hl3 => ?_
   ·have hjn : j < t.length := by omega
    have gj : (rowF t.length (nxW t (wtS t r))).getD j 0 = nxW t (wtS t r) j := rowF_get hjn
    refine ats_skip ?_
    (repeat refine ats_seq ?_); refine ats_block ?_
    refine gC fun K hK => ?_
    simp only [gj, Int.toNat_natCast]
    (repeat refine aI (hb := ?_))
    refine hK _ ?_; clear hK K
    refine gI (fun h2 => ?_) fun h2 => ?_
    ·have hno : ¬ okW t m := fun hm' => by
      have := (hs.1 (okW_mono hm' (by omega))).2 j hjn
      have : nxW t (wtS t r) j ≤ 1000000 := this
      omega
     rw [bd_false hno]
     refine gB ?_
     exact ats_ret (fin2 trivial trivial rfl)
    ·refine ats_skip ?_
     refine gB ?_
     refine ⟨j + 1,  ⟨by omega, fun a ha => by rcases Nat.lt_succ_iff_lt_or_eq.1 ha with h | rfl; exact hJ a h; omega⟩, by omega, .inl ⟨by simp only [leS, Nat.reduceEqDiff, ↓reduceIte, true_and, and_true]; omega,  rfl⟩⟩
   ·obtain rfl : j = t.length := by omega
    have hyes : okW t (r + 1) := hs.2 ⟨hok, hJ⟩
    refine ats_exit (lq_x ?_)
    refine gB ?_
    refine ⟨r + 1,  ⟨by omega, hyes⟩, by omega, .inl ⟨by simp only [leS, Nat.reduceEqDiff, ↓reduceIte, true_and, and_true]; (exact ⟨by omega, rfl⟩),  rfl⟩⟩
  ·obtain rfl : r = m := by omega
   rw [bd_true hok]
   refine ats_exit (lq_x ?_)
   refine gB ?_
   exact ats_ret (fin2 trivial trivial rfl)
theorem implWt_ok (t : Cu) (s : Int) : PureCall Try.prog 23 [.agg [.l3 t], .int s] (.tup [optA (wtR t s).1, .int (wtR t s).2]) := by
 have h0 := IsRing_ok t
 cases hr : isRing t with
 | false =>
  rw [hr] at h0
  have e : wtR t s = (none, 1) := by unfold wtR; rw [hr]; rfl
  rw [e]
  refine PureCall.intro (n := 17) (rs := [.tmp 4, .tmp 5]) Try.call23 Try.func23 rfl rfl rfl (by simp only [List.length_cons, List.length_nil]; omega) (fun cx hcx => ats_of ?_); simp only [argSlots, Nat.zero_add, Nat.reduceAdd]
  refine gB ?_
  refine gC fun K hK => ?_
  first | refine fcall_data (h0) rfl ?_ | refine YR_intro (acall_data (h0) rfl) ?_
  simp only [go_sem, seval]
  refine hK _ ?_; clear hK K
  (repeat refine ats_seq ?_); refine ats_yes rfl trivial ?_
  refine gB ?_
  exact ats_ret (fin2 trivial trivial rfl)
 | true =>
  rw [hr] at h0
  have hw := within_ok s 0 20
  have h := isRing_P hr
  by_cases hs : 0 ≤ s ∧ s ≤ 20
  ·rw [decide_eq_true hs.1, decide_eq_true hs.2] at hw
   obtain ⟨m, rfl⟩ : ∃ m : Nat, s = m := ⟨s.toNat, by omega⟩
   have hW := weightsOf_ok t h m (by omega)
   have e : wtR t m = wR t m := by unfold wtR; rw [hr, if_pos rfl, if_pos hs]
   rw [e]
   generalize (wR t m).2 = c at *
   generalize (wR t m).1 = o at *
   cases o with
   | none =>
    have hW : PureCall Try.prog 64 [.agg [.l3 t], .int m] (.tup [.nil, .int c]) := hW
    show PureCall Try.prog 23 [.agg [.l3 t], .int m] (.tup [.nil, .int c])
    refine PureCall.intro (n := 17) (rs := [.tmp 4, .tmp 5]) Try.call23 Try.func23 rfl rfl rfl (by simp only [List.length_cons, List.length_nil]; omega) (fun cx hcx => ats_of ?_); simp only [argSlots, Nat.zero_add, Nat.reduceAdd]
    refine gB ?_
    refine gC fun K hK => ?_
    first | refine fcall_data (h0) rfl ?_ | refine YR_intro (acall_data (h0) rfl) ?_
    simp only [go_sem, seval]
    refine hK _ ?_; clear hK K
    (repeat refine ats_seq ?_); refine ats_no rfl trivial ?_
    refine ats_skip ?_
    refine gC fun K hK => ?_
    first | refine fcall_data (hw) rfl ?_ | refine YR_intro (acall_data (hw) rfl) ?_
    simp only [go_sem, seval]
    refine hK _ ?_; clear hK K
    (repeat refine ats_seq ?_); refine ats_no rfl trivial ?_
    refine ats_skip ?_
    refine gC fun K hK => ?_
    first | refine fcall_data (hW) rfl ?_ | refine YR_intro (acall_data (hW) rfl) ?_
    simp only [go_sem, seval]
    refine hK _ ?_; clear hK K
    exact ats_ret (fin2 trivial trivial rfl)
   | some L =>
    have hW : PureCall Try.prog 64 [.agg [.l3 t], .int m] (.tup [.l1 L, .int c]) := hW
    show PureCall Try.prog 23 [.agg [.l3 t], .int m] (.tup [.l1 L, .int c])
    refine PureCall.intro (n := 17) (rs := [.tmp 4, .tmp 5]) Try.call23 Try.func23 rfl rfl rfl (by simp only [List.length_cons, List.length_nil]; omega) (fun cx hcx => ats_of ?_); simp only [argSlots, Nat.zero_add, Nat.reduceAdd]
    refine gB ?_
    refine gC fun K hK => ?_
    first | refine fcall_data (h0) rfl ?_ | refine YR_intro (acall_data (h0) rfl) ?_
    simp only [go_sem, seval]
    refine hK _ ?_; clear hK K
    (repeat refine ats_seq ?_); refine ats_no rfl trivial ?_
    refine ats_skip ?_
    refine gC fun K hK => ?_
    first | refine fcall_data (hw) rfl ?_ | refine YR_intro (acall_data (hw) rfl) ?_
    simp only [go_sem, seval]
    refine hK _ ?_; clear hK K
    (repeat refine ats_seq ?_); refine ats_no rfl trivial ?_
    refine ats_skip ?_
    refine gC fun K hK => ?_
    first | refine fcall_data (hW) rfl ?_ | refine YR_intro (acall_data (hW) rfl) ?_
    simp only [go_sem, seval]
    refine hK _ ?_; clear hK K
    exact ats_ret (fin2 trivial trivial rfl)
  ·have e : wtR t s = (none, 2) := by unfold wtR; rw [hr, if_pos rfl, if_neg hs]
   have hd : (decide (0 ≤ s) && decide (s ≤ 20)) = false := by
    by_cases h1 : 0 ≤ s
    ·rw [decide_eq_true h1, Bool.true_and]; exact decide_eq_false fun h2 => hs ⟨h1, h2⟩
    ·rw [decide_eq_false h1]; rfl
   rw [hd] at hw
   rw [e]
   refine PureCall.intro (n := 17) (rs := [.tmp 4, .tmp 5]) Try.call23 Try.func23 rfl rfl rfl (by simp only [List.length_cons, List.length_nil]; omega) (fun cx hcx => ats_of ?_); simp only [argSlots, Nat.zero_add, Nat.reduceAdd]
   refine gB ?_
   refine gC fun K hK => ?_
   first | refine fcall_data (h0) rfl ?_ | refine YR_intro (acall_data (h0) rfl) ?_
   simp only [go_sem, seval]
   refine hK _ ?_; clear hK K
   (repeat refine ats_seq ?_); refine ats_no rfl trivial ?_
   refine ats_skip ?_
   refine gC fun K hK => ?_
   first | refine fcall_data (hw) rfl ?_ | refine YR_intro (acall_data (hw) rfl) ?_
   simp only [go_sem, seval]
   refine hK _ ?_; clear hK K
   (repeat refine ats_seq ?_); refine ats_yes rfl trivial ?_
   refine gB ?_
   exact ats_ret (fin2 trivial trivial rfl)
theorem wR_code {t : Cu} {m : Nat} : bd (okW t m) = true → wR t m = (some (rowF t.length (wtS t m)), 0) := fun h => by unfold wR; rw [Int.toNat_natCast, if_pos h]
theorem wR_no {t : Cu} {m : Nat} : bd (okW t m) = false → wR t m = (none, 3) := fun h => by unfold wR; rw [Int.toNat_natCast, h]; rfl
theorem specWt_ok (t : Cu) (s : Int) : PureCall Try.prog 24 [.agg [.l3 t], .int s] (.tup [optA (wtR t s).1, .int (wtR t s).2]) := by
 have h0 := l03Is_ok t
 cases hr : isRing t with
 | false =>
  rw [hr] at h0
  have e : wtR t s = (none, 1) := by unfold wtR; rw [hr]; rfl
  rw [e]
  refine PureCall.intro (n := 25) (rs := [.tmp 4, .tmp 5]) Try.call24 Try.func24 rfl rfl rfl (by simp only [List.length_cons, List.length_nil]; omega) (fun cx hcx => ats_of ?_); simp only [argSlots, Nat.zero_add, Nat.reduceAdd]
  refine gB ?_
  (repeat refine ats_seq ?_); refine ats_block ?_
  refine gC fun K hK => ?_
  first | refine fcall_data (h0) rfl ?_ | refine YR_intro (acall_data (h0) rfl) ?_
  simp only [go_sem, seval]
  refine hK _ ?_; clear hK K
  (repeat refine ats_seq ?_); refine ats_yes rfl trivial ?_
  refine gB ?_
  exact ats_ret (fin2 trivial trivial rfl)
 | true =>
  rw [hr] at h0
  have hw := l01In_ok s 0 20
  have h := isRing_P hr
  by_cases hs : 0 ≤ s ∧ s ≤ 20
  ·rw [decide_eq_true hs.1, decide_eq_true hs.2] at hw
   obtain ⟨m, rfl⟩ : ∃ m : Nat, s = m := ⟨s.toNat, by omega⟩
   have hW := l04Weights_ok t h m (by omega)
   have e : wtR t m = wR t m := by unfold wtR; rw [hr, if_pos rfl, if_pos hs]
   rw [e]
   cases hb : bd (okW t m) with
   | false =>
    rw [wR_no hb, hb] at hW
    rw [wR_no hb]
    have hW : PureCall Try.prog 68 [.agg [.l3 t], .int m] (.tup [.nil, .bool false]) := hW
    show PureCall Try.prog 24 [.agg [.l3 t], .int m] (.tup [.nil, .int 3])
    refine PureCall.intro (n := 25) (rs := [.tmp 4, .tmp 5]) Try.call24 Try.func24 rfl rfl rfl (by simp only [List.length_cons, List.length_nil]; omega) (fun cx hcx => ats_of ?_); simp only [argSlots, Nat.zero_add, Nat.reduceAdd]
    refine gB ?_
    (repeat refine ats_seq ?_); refine ats_block ?_
    refine gC fun K hK => ?_
    first | refine fcall_data (h0) rfl ?_ | refine YR_intro (acall_data (h0) rfl) ?_
    simp only [go_sem, seval]
    refine hK _ ?_; clear hK K
    (repeat refine ats_seq ?_); refine ats_no rfl trivial ?_
    refine gC fun K hK => ?_
    first | refine fcall_data (hw) rfl ?_ | refine YR_intro (acall_data (hw) rfl) ?_
    simp only [go_sem, seval]
    refine hK _ ?_; clear hK K
    (repeat refine ats_seq ?_); refine ats_no rfl trivial ?_
    refine ats_skip ?_
    refine gC fun K hK => ?_
    first | refine fcall_data (hW) rfl ?_ | refine YR_intro (acall_data (hW) rfl) ?_
    simp only [go_sem, seval]
    refine hK _ ?_; clear hK K
    refine gB ?_
    (repeat refine ats_seq ?_); refine ats_yes rfl trivial ?_
    refine gB ?_
    exact ats_ret (fin2 trivial trivial rfl)
   | true =>
    rw [wR_code hb, hb] at hW
    rw [wR_code hb]
    generalize rowF t.length (wtS t m) = L at *
    have hW : PureCall Try.prog 68 [.agg [.l3 t], .int m] (.tup [.l1 L, .bool true]) := hW
    show PureCall Try.prog 24 [.agg [.l3 t], .int m] (.tup [.l1 L, .int 0])
    refine PureCall.intro (n := 25) (rs := [.tmp 4, .tmp 5]) Try.call24 Try.func24 rfl rfl rfl (by simp only [List.length_cons, List.length_nil]; omega) (fun cx hcx => ats_of ?_); simp only [argSlots, Nat.zero_add, Nat.reduceAdd]
    refine gB ?_
    (repeat refine ats_seq ?_); refine ats_block ?_
    refine gC fun K hK => ?_
    first | refine fcall_data (h0) rfl ?_ | refine YR_intro (acall_data (h0) rfl) ?_
    simp only [go_sem, seval]
    refine hK _ ?_; clear hK K
    (repeat refine ats_seq ?_); refine ats_no rfl trivial ?_
    refine gC fun K hK => ?_
    first | refine fcall_data (hw) rfl ?_ | refine YR_intro (acall_data (hw) rfl) ?_
    simp only [go_sem, seval]
    refine hK _ ?_; clear hK K
    (repeat refine ats_seq ?_); refine ats_no rfl trivial ?_
    refine ats_skip ?_
    refine gC fun K hK => ?_
    first | refine fcall_data (hW) rfl ?_ | refine YR_intro (acall_data (hW) rfl) ?_
    simp only [go_sem, seval]
    refine hK _ ?_; clear hK K
    refine gB ?_
    (repeat refine ats_seq ?_); refine ats_no rfl trivial ?_
    refine ats_skip ?_
    refine gB ?_
    exact ats_ret (fin2 trivial trivial rfl)
  ·have e : wtR t s = (none, 2) := by unfold wtR; rw [hr, if_pos rfl, if_neg hs]
   have hd : (decide (0 ≤ s) && decide (s ≤ 20)) = false := by
    by_cases h1 : 0 ≤ s
    ·rw [decide_eq_true h1, Bool.true_and]; exact decide_eq_false fun h2 => hs ⟨h1, h2⟩
    ·rw [decide_eq_false h1]; rfl
   rw [hd] at hw
   rw [e]
   refine PureCall.intro (n := 25) (rs := [.tmp 4, .tmp 5]) Try.call24 Try.func24 rfl rfl rfl (by simp only [List.length_cons, List.length_nil]; omega) (fun cx hcx => ats_of ?_); simp only [argSlots, Nat.zero_add, Nat.reduceAdd]
   refine gB ?_
   (repeat refine ats_seq ?_); refine ats_block ?_
   refine gC fun K hK => ?_
   first | refine fcall_data (h0) rfl ?_ | refine YR_intro (acall_data (h0) rfl) ?_
   simp only [go_sem, seval]
   refine hK _ ?_; clear hK K
   (repeat refine ats_seq ?_); refine ats_no rfl trivial ?_
   refine gC fun K hK => ?_
   first | refine fcall_data (hw) rfl ?_ | refine YR_intro (acall_data (hw) rfl) ?_
   simp only [go_sem, seval]
   refine hK _ ?_; clear hK K
   (repeat refine ats_seq ?_); refine ats_yes rfl trivial ?_
   refine gB ?_
   exact ats_ret (fin2 trivial trivial rfl)
end Go.Proofs.Ytjcfefgbieeheaa
namespace Go.Proofs.Ytjcfefgbieeheaa
open Go Go.Aw Go.Pl
attribute [local go_sem] pl_fin pl_stop pl_one pl_alt PK_ap pickO List.getElem?_toArray List.getElem?_cons_zero List.getElem?_cons_succ
def bdV (b : Bd) : List AV := [.int b.lt, .int b.lb, .int b.ht, .int b.hb]
theorem bs_step {t : Cu} {i j : Nat} {W : Nat → Int} {s : Bd} {top : Int} (hs : bsF t i W j = s) (ht : rsW t i W j = top) {lo hi : Bool}
  (hlo : (decide ((j : Int) = 0) || decide (top * s.lb < s.lt * W j)) = lo) (hhi : (decide ((j : Int) = 0) || decide (s.ht * W j < top * s.hb)) = hi) :
  bsF t i W (j + 1) = ⟨bif lo then top else s.lt, bif lo then W j else s.lb, bif hi then top else s.ht, bif hi then W j else s.hb⟩ := by
 have e : decide (j = 0) = decide ((j : Int) = 0) := by rw [decide_eq_decide]; omega
 show Bd.mk _ _ _ _ = _
 rw [hs, ht, e, hlo, hhi]
theorem boundsOf_ok (t : Cu) (h : RingP t) (i : Nat) (hi : i < t.length) (W : Nat → Int) (hW : WB t.length W) : PureCall Try.prog 65 [.agg [.l3 t], .int i, .l1 (rowF t.length W)] (.agg (bdV (bsF t i W t.length))) := by
 have hc := h.cube
 have h16 := hc.2.1
 have h1 := hc.1
 have lW : (rowF t.length W).length = t.length := rowF_length _ _
 have rl := (hc.2.2 i hi).1
 refine PureCall.intro (n := 89) (rs := [.cell 6 48]) Try.call65 Try.func65 rfl rfl rfl (by simp only [List.length_cons, List.length_nil]; omega) (fun cx hcx => ats_of ?_); simp only [argSlots, Nat.zero_add, Nat.reduceAdd]
 refine gB ?_
 refine gB ?_
 refine gB ?_
 (repeat refine ats_seq ?_); refine ats_loop (fun j : Nat => ⟨[(2, .l1 (rowF t.length W)), (6, .bptr 1 0), (7, .bptr 2 0), (18, .l2 (t.getD i [])), (19, .int t.length), (20, .int j)], [(0, .bx [.l3 t]), (1, .bx [.int 0, .int 0, .int 0, .int 0]), (2, .bx (bdV (bsF t i W j)))]⟩) (fun j => j ≤ t.length) (fun j => t.length - j) 0 (Nat.zero_le _) (by
  refine And.intro ?_ rfl; simp only [leS, Nat.reduceEqDiff, ↓reduceIte, true_and, and_true, rl]
  first | done | rfl) (fun j hj => ?_)
 refine gB ?_
 refine gI (fun hl => ?_) fun hl => ?_
 ·have hjn : j < t.length := by omega
  have rl2 : ((t.getD i []).getD j []).length = t.length := ((hc.2.2 i hi).2 j hjn).1
  have gw : (rowF t.length W).getD j 0 = W j := rowF_get hjn
  have wb := hW j hjn
  obtain ⟨s, hs⟩ : ∃ s, bsF t i W j = s := ⟨_, rfl⟩
  have sb := bs_bd hc hW hi j (by omega)
  rw [hs] at sb ⊢
  refine ats_skip ?_
  (repeat refine ats_seq ?_); refine ats_block ?_
  refine gB ?_
  refine gB ?_
  refine gB ?_
  (repeat refine ats_seq ?_); refine ats_loop (fun k : Nat => ⟨[(2, .l1 (rowF t.length W)), (6, .bptr 1 0), (7, .bptr 2 0), (8, .int j), (10, .int (rsP t i W j k)), (18, .l2 (t.getD i [])), (19, .int t.length), (20, .int j), (25, .l1 ((t.getD i []).getD j [])), (26, .int t.length), (27, .int k)], [(0, .bx [.l3 t]), (1, .bx [.int 0, .int 0, .int 0, .int 0]), (2, .bx (bdV s))]⟩) (fun k => k ≤ t.length) (fun k => t.length - k) 0 (Nat.zero_le _) (by
   refine And.intro ?_ rfl; simp only [leS, Nat.reduceEqDiff, ↓reduceIte, true_and, and_true, rl2]
   first | done | exact ⟨rfl, rfl⟩) (fun k hk => ?_)
  refine gB ?_
  refine gI (fun hl2 => ?_) fun hl2 => ?_
  ·have hkn : k < t.length := by omega
   have b1 : 0 ≤ ((t.getD i []).getD j []).getD k 0 * W k ∧ ((t.getD i []).getD j []).getD k 0 * W k ≤ 1000000000 := tm_bd hc hW hi hjn hkn
   have b2 := rsP_bd hc hW hi hjn hk
   have g2 : (rowF t.length W).getD k 0 = W k := rowF_get hkn
   have es : rsP t i W j k + ((t.getD i []).getD j []).getD k 0 * W k = rsP t i W j (k + 1) := rfl
   refine ats_skip ?_
   (repeat refine ats_seq ?_); refine ats_block ?_
   refine gB ?_
   refine gC fun K hK => ?_
   simp only [g2, Int.toNat_natCast]
   (repeat refine aI (hb := ?_))
   refine hK _ ?_; clear hK K
   refine gB ?_
   refine ⟨k + 1,  by omega, by omega, .inl ⟨by simp only [leS, Nat.reduceEqDiff, ↓reduceIte, true_and, and_true]; (exact ⟨es, rfl⟩),  rfl⟩⟩
  ·obtain rfl : k = t.length := by omega
   have b2 := rsP_bd hc hW hi hjn (Nat.le_refl t.length)
   obtain ⟨top, htop⟩ : ∃ top, rsW t i W j = top := ⟨_, rfl⟩
   have htop2 : rsP t i W j t.length = top := htop
   rw [htop2] at b2 ⊢
   obtain ⟨⟨s1, s2⟩, ⟨s3, s4⟩, ⟨s5, s6⟩, s7, s8⟩ := sb
   have m1 := mul16 b2 ⟨s3, s4⟩
   have m2 := mul16 ⟨s1, s2⟩ wb
   have m3 := mul16 b2 ⟨s7, s8⟩
   have m4 := mul16 ⟨s5, s6⟩ wb
   obtain ⟨lo, hlo⟩ : ∃ lo, (decide ((j : Int) = 0) || decide (top * s.lb < s.lt * W j)) = lo := ⟨_, rfl⟩
   obtain ⟨hh, hhh⟩ : ∃ hh, (decide ((j : Int) = 0) || decide (s.ht * W j < top * s.hb)) = hh := ⟨_, rfl⟩
   have es := bs_step hs htop hlo hhh
   unfold bdV
   refine ats_exit (lq_x ?_)
   (repeat refine ats_seq ?_); refine ats_pick (fix0 hcx) mixed (by kernel_rfl) fun K hK => ?_; simp only [go_sem, seval]
   simp only [gw, Int.toNat_natCast]
   (repeat refine aI (hb := ?_))
   refine hK _ ?_; clear hK K
   rw [hlo]
   cases lo with
   | true =>
    (repeat refine ats_seq ?_); refine ats_yes rfl trivial ?_
    (repeat refine ats_seq ?_)
    refine ats_plan [] (.one 0 (.one 5 (.alt 1 (.alt 2 (.alt 3 (.alt 4 (.alt 6 (.one 7 (.alt 8 .fin .stop)) .stop) (.alt 6 (.one 4 (.one 7 (.alt 8 .fin .stop))) .stop)) (.alt 6 (.one 3 (.one 4 (.one 7 (.alt 8 .fin .stop)))) .stop)) (.alt 6 (.one 2 (.one 3 (.one 4 (.one 7 (.alt 8 .fin .stop))))) .stop)) (.alt 2 (.alt 1 (.alt 3 (.alt 4 (.alt 6 (.one 7 (.alt 8 .fin .stop)) .stop) (.alt 6 (.one 4 (.one 7 (.alt 8 .fin .stop))) .stop)) (.alt 6 (.one 3 (.one 4 (.one 7 (.alt 8 .fin .stop)))) .stop)) (.alt 6 (.one 1 (.one 3 (.one 4 (.one 7 (.alt 8 .fin .stop))))) .stop)) (.alt 6 (.one 1 (.one 2 (.one 3 (.one 4 (.one 7 (.alt 8 .fin .stop)))))) .stop))))) ⟨[(2, .l1 (rowF t.length W)), (6, .bptr 1 0), (7, .bptr 2 0), (8, .int j), (10, .int top), (18, .l2 (t.getD i [])), (19, .int t.length), (20, .int j)], [(0, .bx [.l3 t]), (1, .bx [.int 0, .int 0, .int 0, .int 0]), (2, .bx [.int top, .int (W j), .int s.ht, .int s.hb])]⟩ (fix0 hcx) mixed (by kernel_rfl) (fun K hK => ?_) ?_
    ·simp only [go_sem, seval, Option.getD_some, and_true, true_and, and_self, List.contains_cons, List.contains_nil, Bool.or_false, Bool.or_true]
     repeat' (first | exact hK _ (by refine And.intro ?_ rfl; simp only [leS, Nat.reduceEqDiff, ↓reduceIte, true_and, and_true])  | with_reducible refine And.intro ?_ ?_ | omega | ((simp only [gw, Int.toNat_natCast])))
    (repeat refine ats_seq ?_); refine ats_pick (fix0 hcx) mixed (by kernel_rfl) fun K hK => ?_; simp only [go_sem, seval]
    simp only [gw, Int.toNat_natCast]
    (repeat refine aI (hb := ?_))
    refine hK _ ?_; clear hK K
    rw [hhh]
    cases hh with
    | true =>
     (repeat refine ats_seq ?_); refine ats_yes rfl trivial ?_
     (repeat refine ats_seq ?_)
     refine ats_plan [] (.one 0 (.one 5 (.alt 1 (.alt 2 (.alt 3 (.alt 4 (.alt 6 (.one 7 (.alt 8 .fin .stop)) .stop) (.alt 6 (.one 4 (.one 7 (.alt 8 .fin .stop))) .stop)) (.alt 6 (.one 3 (.one 4 (.one 7 (.alt 8 .fin .stop)))) .stop)) (.alt 6 (.one 2 (.one 3 (.one 4 (.one 7 (.alt 8 .fin .stop))))) .stop)) (.alt 2 (.alt 1 (.alt 3 (.alt 4 (.alt 6 (.one 7 (.alt 8 .fin .stop)) .stop) (.alt 6 (.one 4 (.one 7 (.alt 8 .fin .stop))) .stop)) (.alt 6 (.one 3 (.one 4 (.one 7 (.alt 8 .fin .stop)))) .stop)) (.alt 6 (.one 1 (.one 3 (.one 4 (.one 7 (.alt 8 .fin .stop))))) .stop)) (.alt 6 (.one 1 (.one 2 (.one 3 (.one 4 (.one 7 (.alt 8 .fin .stop)))))) .stop))))) ⟨[(2, .l1 (rowF t.length W)), (6, .bptr 1 0), (7, .bptr 2 0), (8, .int j), (10, .int top), (18, .l2 (t.getD i [])), (19, .int t.length), (20, .int j)], [(0, .bx [.l3 t]), (1, .bx [.int 0, .int 0, .int 0, .int 0]), (2, .bx [.int top, .int (W j), .int top, .int (W j)])]⟩ (fix0 hcx) mixed (by kernel_rfl) (fun K hK => ?_) ?_
     ·simp only [go_sem, seval, Option.getD_some, and_true, true_and, and_self, List.contains_cons, List.contains_nil, Bool.or_false, Bool.or_true]
      repeat' (first | exact hK _ (by refine And.intro ?_ rfl; simp only [leS, Nat.reduceEqDiff, ↓reduceIte, true_and, and_true])  | with_reducible refine And.intro ?_ ?_ | omega | ((simp only [gw, Int.toNat_natCast])))
     refine gB ?_
     refine ⟨j + 1,  by omega, by omega, .inl ⟨by simp only [leS, Nat.reduceEqDiff, ↓reduceIte, true_and, and_true]; omega,  (by rw [es]; rfl)⟩⟩
    | false =>
     (repeat refine ats_seq ?_); refine ats_no rfl trivial ?_
     refine ats_skip ?_
     refine gB ?_
     refine ⟨j + 1,  by omega, by omega, .inl ⟨by simp only [leS, Nat.reduceEqDiff, ↓reduceIte, true_and, and_true]; omega,  (by rw [es]; rfl)⟩⟩
   | false =>
    (repeat refine ats_seq ?_); refine ats_no rfl trivial ?_
    refine ats_skip ?_
    (repeat refine ats_seq ?_); refine ats_pick (fix0 hcx) mixed (by kernel_rfl) fun K hK => ?_; simp only [go_sem, seval]
    simp only [gw, Int.toNat_natCast]
    (repeat refine aI (hb := ?_))
    refine hK _ ?_; clear hK K
    rw [hhh]
    cases hh with
    | true =>
     (repeat refine ats_seq ?_); refine ats_yes rfl trivial ?_
     (repeat refine ats_seq ?_)
     refine ats_plan [] (.one 0 (.one 5 (.alt 1 (.alt 2 (.alt 3 (.alt 4 (.alt 6 (.one 7 (.alt 8 .fin .stop)) .stop) (.alt 6 (.one 4 (.one 7 (.alt 8 .fin .stop))) .stop)) (.alt 6 (.one 3 (.one 4 (.one 7 (.alt 8 .fin .stop)))) .stop)) (.alt 6 (.one 2 (.one 3 (.one 4 (.one 7 (.alt 8 .fin .stop))))) .stop)) (.alt 2 (.alt 1 (.alt 3 (.alt 4 (.alt 6 (.one 7 (.alt 8 .fin .stop)) .stop) (.alt 6 (.one 4 (.one 7 (.alt 8 .fin .stop))) .stop)) (.alt 6 (.one 3 (.one 4 (.one 7 (.alt 8 .fin .stop)))) .stop)) (.alt 6 (.one 1 (.one 3 (.one 4 (.one 7 (.alt 8 .fin .stop))))) .stop)) (.alt 6 (.one 1 (.one 2 (.one 3 (.one 4 (.one 7 (.alt 8 .fin .stop)))))) .stop))))) ⟨[(2, .l1 (rowF t.length W)), (6, .bptr 1 0), (7, .bptr 2 0), (8, .int j), (10, .int top), (18, .l2 (t.getD i [])), (19, .int t.length), (20, .int j)], [(0, .bx [.l3 t]), (1, .bx [.int 0, .int 0, .int 0, .int 0]), (2, .bx [.int s.lt, .int s.lb, .int top, .int (W j)])]⟩ (fix0 hcx) mixed (by kernel_rfl) (fun K hK => ?_) ?_
     ·simp only [go_sem, seval, Option.getD_some, and_true, true_and, and_self, List.contains_cons, List.contains_nil, Bool.or_false, Bool.or_true]
      repeat' (first | exact hK _ (by refine And.intro ?_ rfl; simp only [leS, Nat.reduceEqDiff, ↓reduceIte, true_and, and_true])  | with_reducible refine And.intro ?_ ?_ | omega | ((simp only [gw, Int.toNat_natCast])))
     refine gB ?_
     refine ⟨j + 1,  by omega, by omega, .inl ⟨by simp only [leS, Nat.reduceEqDiff, ↓reduceIte, true_and, and_true]; omega,  (by rw [es]; rfl)⟩⟩
    | false =>
     (repeat refine ats_seq ?_); refine ats_no rfl trivial ?_
     refine ats_skip ?_
     refine gB ?_
     refine ⟨j + 1,  by omega, by omega, .inl ⟨by simp only [leS, Nat.reduceEqDiff, ↓reduceIte, true_and, and_true]; omega,  (by rw [es]; rfl)⟩⟩
 ·obtain rfl : j = t.length := by omega
  unfold bdV
  refine ats_exit (lq_x ?_)
  refine gB ?_
  exact ats_ret ⟨.inr rfl, .agg (bdV (bsF t i W t.length)), by simp only [resL, resA, go_sem, seval]; rfl, rfl⟩
theorem l04Bounds_ok (t : Cu) (h : RingP t) (i : Nat) (hi : i < t.length) (W : Nat → Int) (hW : WB t.length W) : PureCall Try.prog 69 [.agg [.l3 t], .int i, .l1 (rowF t.length W)] (.agg (bdV (bsF t i W t.length))) := by
 have hc := h.cube
 have h16 := hc.2.1
 have h1 := hc.1
 have lW : (rowF t.length W).length = t.length := rowF_length _ _
 have rl := (hc.2.2 i hi).1
 refine PureCall.intro (n := 89) (rs := [.cell 6 48]) Try.call69 Try.func69 rfl rfl rfl (by simp only [List.length_cons, List.length_nil]; omega) (fun cx hcx => ats_of ?_); simp only [argSlots, Nat.zero_add, Nat.reduceAdd]
 refine gB ?_
 refine gB ?_
 refine gB ?_
 (repeat refine ats_seq ?_); refine ats_loop (fun j : Nat => ⟨[(1, .int i), (2, .l1 (rowF t.length W)), (3, .bptr 0 0), (6, .bptr 1 0), (7, .bptr 2 0), (8, .int j)], [(0, .bx [.l3 t]), (1, .bx [.int 0, .int 0, .int 0, .int 0]), (2, .bx (bdV (bsF t i W j)))]⟩) (fun j => j ≤ t.length) (fun j => t.length - j) 0 (Nat.zero_le _) (by
  refine And.intro ?_ rfl; simp only [leS, Nat.reduceEqDiff, ↓reduceIte, true_and, and_true]
  first | done | rfl) (fun j hj => ?_)
 refine gB ?_
 refine gI (fun hl => ?_) fun hl => ?_
 ·have hjn : j < t.length := by omega
  have rl2 : ((t.getD i []).getD j []).length = t.length := ((hc.2.2 i hi).2 j hjn).1
  have gw : (rowF t.length W).getD j 0 = W j := rowF_get hjn
  have wb := hW j hjn
  obtain ⟨s, hs⟩ : ∃ s, bsF t i W j = s := ⟨_, rfl⟩
  have sb := bs_bd hc hW hi j (by omega)
  rw [hs] at sb ⊢
  refine ats_skip ?_
  (repeat refine ats_seq ?_); refine ats_block ?_
  refine gB ?_
  refine gB ?_
  (repeat refine ats_seq ?_); refine ats_loop (fun k : Nat => ⟨[(1, .int i), (2, .l1 (rowF t.length W)), (3, .bptr 0 0), (6, .bptr 1 0), (7, .bptr 2 0), (8, .int j), (9, .int (rsP t i W j k)), (10, .int k)], [(0, .bx [.l3 t]), (1, .bx [.int 0, .int 0, .int 0, .int 0]), (2, .bx (bdV s))]⟩) (fun k => k ≤ t.length) (fun k => t.length - k) 0 (Nat.zero_le _) (by
   refine And.intro ?_ rfl; simp only [leS, Nat.reduceEqDiff, ↓reduceIte, true_and, and_true]
   first | done | exact ⟨rfl, rfl⟩ | rfl) (fun k hk => ?_)
  refine gB ?_
  refine gI (fun hl2 => ?_) fun hl2 => ?_
  ·have hkn : k < t.length := by omega
   have b1 : 0 ≤ ((t.getD i []).getD j []).getD k 0 * W k ∧ ((t.getD i []).getD j []).getD k 0 * W k ≤ 1000000000 := tm_bd hc hW hi hjn hkn
   have b2 := rsP_bd hc hW hi hjn hk
   have g2 : (rowF t.length W).getD k 0 = W k := rowF_get hkn
   have es : rsP t i W j k + ((t.getD i []).getD j []).getD k 0 * W k = rsP t i W j (k + 1) := rfl
   refine ats_skip ?_
   (repeat refine ats_seq ?_); refine ats_block ?_
   (repeat refine ats_seq ?_); refine ats_pick (fix0 hcx) mixed (by kernel_rfl) fun K hK => ?_; simp only [go_sem, seval]
   simp only [g2, Int.toNat_natCast]
   (repeat refine aI (hb := ?_))
   refine hK _ ?_; clear hK K
   refine gB ?_
   refine ⟨k + 1,  by omega, by omega, .inl ⟨by simp only [leS, Nat.reduceEqDiff, ↓reduceIte, true_and, and_true]; (exact ⟨es, rfl⟩),  rfl⟩⟩
  ·obtain rfl : k = t.length := by omega
   have b2 := rsP_bd hc hW hi hjn (Nat.le_refl t.length)
   obtain ⟨top, htop⟩ : ∃ top, rsW t i W j = top := ⟨_, rfl⟩
   have htop2 : rsP t i W j t.length = top := htop
   rw [htop2] at b2 ⊢
   obtain ⟨⟨s1, s2⟩, ⟨s3, s4⟩, ⟨s5, s6⟩, s7, s8⟩ := sb
   have m1 := mul16 b2 ⟨s3, s4⟩
   have m2 := mul16 ⟨s1, s2⟩ wb
   have m3 := mul16 b2 ⟨s7, s8⟩
   have m4 := mul16 ⟨s5, s6⟩ wb
   obtain ⟨lo, hlo⟩ : ∃ lo, (decide ((j : Int) = 0) || decide (top * s.lb < s.lt * W j)) = lo := ⟨_, rfl⟩
   obtain ⟨hh, hhh⟩ : ∃ hh, (decide ((j : Int) = 0) || decide (s.ht * W j < top * s.hb)) = hh := ⟨_, rfl⟩
   have es := bs_step hs htop hlo hhh
   unfold bdV
   refine ats_exit (lq_x ?_)
   (repeat refine ats_seq ?_); refine ats_pick (fix0 hcx) mixed (by kernel_rfl) fun K hK => ?_; simp only [go_sem, seval]
   simp only [gw, Int.toNat_natCast]
   (repeat refine aI (hb := ?_))
   refine hK _ ?_; clear hK K
   rw [hlo]
   cases lo with
   | true =>
    (repeat refine ats_seq ?_); refine ats_yes rfl trivial ?_
    refine gB ?_
    refine gC fun K hK => ?_
    simp only [gw, Int.toNat_natCast]
    (repeat refine aI (hb := ?_))
    refine hK _ ?_; clear hK K
    (repeat refine ats_seq ?_); refine ats_pick (fix0 hcx) mixed (by kernel_rfl) fun K hK => ?_; simp only [go_sem, seval]
    simp only [gw, Int.toNat_natCast]
    (repeat refine aI (hb := ?_))
    refine hK _ ?_; clear hK K
    rw [hhh]
    cases hh with
    | true =>
     (repeat refine ats_seq ?_); refine ats_yes rfl trivial ?_
     refine gB ?_
     refine gC fun K hK => ?_
     simp only [gw, Int.toNat_natCast]
     (repeat refine aI (hb := ?_))
     refine hK _ ?_; clear hK K
     refine gB ?_
     refine ⟨j + 1,  by omega, by omega, .inl ⟨by simp only [leS, Nat.reduceEqDiff, ↓reduceIte, true_and, and_true]; omega,  (by rw [es]; rfl)⟩⟩
    | false =>
     (repeat refine ats_seq ?_); refine ats_no rfl trivial ?_
     refine ats_skip ?_
     refine gB ?_
     refine ⟨j + 1,  by omega, by omega, .inl ⟨by simp only [leS, Nat.reduceEqDiff, ↓reduceIte, true_and, and_true]; omega,  (by rw [es]; rfl)⟩⟩
   | false =>
    (repeat refine ats_seq ?_); refine ats_no rfl trivial ?_
    refine ats_skip ?_
    (repeat refine ats_seq ?_); refine ats_pick (fix0 hcx) mixed (by kernel_rfl) fun K hK => ?_; simp only [go_sem, seval]
    simp only [gw, Int.toNat_natCast]
    (repeat refine aI (hb := ?_))
    refine hK _ ?_; clear hK K
    rw [hhh]
    cases hh with
    | true =>
     (repeat refine ats_seq ?_); refine ats_yes rfl trivial ?_
     refine gB ?_
     refine gC fun K hK => ?_
     simp only [gw, Int.toNat_natCast]
     (repeat refine aI (hb := ?_))
     refine hK _ ?_; clear hK K
     refine gB ?_
     refine ⟨j + 1,  by omega, by omega, .inl ⟨by simp only [leS, Nat.reduceEqDiff, ↓reduceIte, true_and, and_true]; omega,  (by rw [es]; rfl)⟩⟩
    | false =>
     (repeat refine ats_seq ?_); refine ats_no rfl trivial ?_
     refine ats_skip ?_
     refine gB ?_
     refine ⟨j + 1,  by omega, by omega, .inl ⟨by simp only [leS, Nat.reduceEqDiff, ↓reduceIte, true_and, and_true]; omega,  (by rw [es]; rfl)⟩⟩
 ·obtain rfl : j = t.length := by omega
  unfold bdV
  refine ats_exit (lq_x ?_)
  refine gB ?_
  exact ats_ret ⟨.inr rfl, .agg (bdV (bsF t i W t.length)), by simp only [resL, resA, go_sem, seval]; rfl, rfl⟩
end Go.Proofs.Ytjcfefgbieeheaa
namespace Go.Proofs.Ytjcfefgbieeheaa
open Go Go.Aw Go.Pl
theorem boR_no {t : Cu} {i s : Int} (h : isRing t = false) : boR t i s = ([0, 0, 0, 0], 1) := by unfold boR; rw [h]; rfl
theorem boR_rng {t : Cu} {i s : Int} (h : isRing t = true) (hn : ¬ ((0 ≤ i ∧ i < t.length) ∧ 0 ≤ s ∧ s ≤ 20)) : boR t i s = ([0, 0, 0, 0], 2) := by unfold boR; rw [h, if_pos rfl, if_neg hn]
theorem boR_lim {t : Cu} {i m : Nat} (h : isRing t = true) (hi : i < t.length) (hm : m ≤ 20) (hb : bd (okW t m) = false) : boR t i m = ([0, 0, 0, 0], 3) := by
 unfold boR
 rw [h, if_pos rfl, if_pos (by omega), Int.toNat_natCast, hb]; rfl
theorem boR_yes {t : Cu} {i m : Nat} (h : isRing t = true) (hi : i < t.length) (hm : m ≤ 20) (hb : bd (okW t m) = true) : boR t i m = (bsL (bsF t i (wtS t m) t.length), 0) := by
 unfold boR
 rw [h, if_pos rfl, if_pos (by omega), Int.toNat_natCast, Int.toNat_natCast, hb]; rfl
theorem implBo_ok (t : Cu) (i s : Int) : PureCall Try.prog 21 [.agg [.l3 t], .int i, .int s] (.tup [.agg ((boR t i s).1.map AV.int), .int (boR t i s).2]) := by
 have h0 := IsRing_ok t
 cases hr : isRing t with
 | false =>
  rw [hr] at h0
  rw [boR_no hr]
  refine PureCall.intro (n := 38) (rs := [.cell 6 48, .tmp 7]) Try.call21 Try.func21 rfl rfl rfl (by simp only [List.length_cons, List.length_nil]; omega) (fun cx hcx => ats_of ?_); simp only [argSlots, Nat.zero_add, Nat.reduceAdd]
  refine gB ?_
  refine gC fun K hK => ?_
  first | refine fcall_data (h0) rfl ?_ | refine YR_intro (acall_data (h0) rfl) ?_
  simp only [go_sem, seval]
  refine hK _ ?_; clear hK K
  (repeat refine ats_seq ?_); refine ats_yes rfl trivial ?_
  refine gB ?_
  exact ats_ret ⟨.inr rfl, .tup [.agg [.int 0, .int 0, .int 0, .int 0], .int 1], by simp only [resL, resA, go_sem, seval], rfl⟩
 | true =>
  rw [hr] at h0
  have h := isRing_P hr
  have h16 := h.cube.2.1
  have hl := isLabel_ok t h16 i
  have hw := within_ok s 0 20
  by_cases hg : (0 ≤ i ∧ i < t.length) ∧ 0 ≤ s ∧ s ≤ 20
  ·obtain ⟨⟨g1, g2⟩, g3, g4⟩ := hg
   rw [decide_eq_true g3, decide_eq_true g4] at hw
   obtain ⟨k, rfl⟩ : ∃ k : Nat, i = k := ⟨i.toNat, by omega⟩
   obtain ⟨m, rfl⟩ : ∃ m : Nat, s = m := ⟨s.toNat, by omega⟩
   have hkn : k < t.length := by omega
   have hlb : lblB t k = true := lblB_iff.2 ⟨by omega, by omega⟩
   rw [hlb] at hl
   have hW := weightsOf_ok t h m (by omega)
   cases hb : bd (okW t m) with
   | false =>
    rw [boR_lim hr hkn (by omega) hb]
    rw [wR_no hb] at hW
    have hW : PureCall Try.prog 64 [.agg [.l3 t], .int m] (.tup [.nil, .int 3]) := hW
    refine PureCall.intro (n := 38) (rs := [.cell 6 48, .tmp 7]) Try.call21 Try.func21 rfl rfl rfl (by simp only [List.length_cons, List.length_nil]; omega) (fun cx hcx => ats_of ?_); simp only [argSlots, Nat.zero_add, Nat.reduceAdd]
    refine gB ?_
    refine gC fun K hK => ?_
    first | refine fcall_data (h0) rfl ?_ | refine YR_intro (acall_data (h0) rfl) ?_
    simp only [go_sem, seval]
    refine hK _ ?_; clear hK K
    (repeat refine ats_seq ?_); refine ats_no rfl trivial ?_
    refine ats_skip ?_
    refine gC fun K hK => ?_
    first | refine fcall_data (hl) rfl ?_ | refine YR_intro (acall_data (hl) rfl) ?_
    simp only [go_sem, seval]
    first | refine YR_intro (fun _ => acall_data (hw) rfl) ?_ | refine YR_intro (acall_data (hw) rfl) ?_
    simp only [go_sem, seval]
    (repeat refine aI (hb := ?_))
    refine hK _ ?_; clear hK K
    (repeat refine ats_seq ?_); refine ats_no rfl trivial ?_
    refine ats_skip ?_
    refine gC fun K hK => ?_
    first | refine fcall_data (hW) rfl ?_ | refine YR_intro (acall_data (hW) rfl) ?_
    simp only [go_sem, seval]
    refine hK _ ?_; clear hK K
    refine gB ?_
    (repeat refine ats_seq ?_); refine ats_yes rfl trivial ?_
    refine gB ?_
    exact ats_ret ⟨.inr rfl, .tup [.agg [.int 0, .int 0, .int 0, .int 0], .int 3], by simp only [resL, resA, go_sem, seval], rfl⟩
   | true =>
    have hB := boundsOf_ok t h k hkn (wtS t m) (wtS_WB h (bd_iff.1 hb))
    rw [boR_yes hr hkn (by omega) hb]
    rw [wR_code hb] at hW
    obtain ⟨L, eL⟩ : ∃ L, rowF t.length (wtS t m) = L := ⟨_, rfl⟩
    rw [eL] at hW hB
    generalize bsF t k (wtS t m) t.length = b at *
    unfold bdV at hB
    unfold bsL
    have hW : PureCall Try.prog 64 [.agg [.l3 t], .int m] (.tup [.l1 L, .int 0]) := hW
    refine PureCall.intro (n := 38) (rs := [.cell 6 48, .tmp 7]) Try.call21 Try.func21 rfl rfl rfl (by simp only [List.length_cons, List.length_nil]; omega) (fun cx hcx => ats_of ?_); simp only [argSlots, Nat.zero_add, Nat.reduceAdd]
    refine gB ?_
    refine gC fun K hK => ?_
    first | refine fcall_data (h0) rfl ?_ | refine YR_intro (acall_data (h0) rfl) ?_
    simp only [go_sem, seval]
    refine hK _ ?_; clear hK K
    (repeat refine ats_seq ?_); refine ats_no rfl trivial ?_
    refine ats_skip ?_
    refine gC fun K hK => ?_
    first | refine fcall_data (hl) rfl ?_ | refine YR_intro (acall_data (hl) rfl) ?_
    simp only [go_sem, seval]
    first | refine YR_intro (fun _ => acall_data (hw) rfl) ?_ | refine YR_intro (acall_data (hw) rfl) ?_
    simp only [go_sem, seval]
    (repeat refine aI (hb := ?_))
    refine hK _ ?_; clear hK K
    (repeat refine ats_seq ?_); refine ats_no rfl trivial ?_
    refine ats_skip ?_
    refine gC fun K hK => ?_
    first | refine fcall_data (hW) rfl ?_ | refine YR_intro (acall_data (hW) rfl) ?_
    simp only [go_sem, seval]
    refine hK _ ?_; clear hK K
    refine gB ?_
    (repeat refine ats_seq ?_); refine ats_no rfl trivial ?_
    refine ats_skip ?_
    refine gC fun K hK => ?_
    first | refine fcall_data (hB) rfl ?_ | refine YR_intro (acall_data (hB) rfl) ?_
    simp only [go_sem, seval]
    (repeat refine aI (hb := ?_))
    refine hK _ ?_; clear hK K
    exact ats_ret ⟨.inr rfl, .tup [.agg [.int b.lt, .int b.lb, .int b.ht, .int b.hb], .int 0], by simp only [resL, resA, go_sem, seval], rfl⟩
  ·rw [boR_rng hr hg]
   cases hlb : lblB t i with
   | false =>
    rw [hlb] at hl
    refine PureCall.intro (n := 38) (rs := [.cell 6 48, .tmp 7]) Try.call21 Try.func21 rfl rfl rfl (by simp only [List.length_cons, List.length_nil]; omega) (fun cx hcx => ats_of ?_); simp only [argSlots, Nat.zero_add, Nat.reduceAdd]
    refine gB ?_
    refine gC fun K hK => ?_
    first | refine fcall_data (h0) rfl ?_ | refine YR_intro (acall_data (h0) rfl) ?_
    simp only [go_sem, seval]
    refine hK _ ?_; clear hK K
    (repeat refine ats_seq ?_); refine ats_no rfl trivial ?_
    refine ats_skip ?_
    refine gC fun K hK => ?_
    first | refine fcall_data (hl) rfl ?_ | refine YR_intro (acall_data (hl) rfl) ?_
    simp only [go_sem, seval]
    first | refine YR_intro (fun _ => acall_data (hw) rfl) ?_ | refine YR_intro (acall_data (hw) rfl) ?_
    simp only [go_sem, seval]
    (repeat refine aI (hb := ?_))
    refine hK _ ?_; clear hK K
    (repeat refine ats_seq ?_); refine ats_yes rfl trivial ?_
    refine gB ?_
    exact ats_ret ⟨.inr rfl, .tup [.agg [.int 0, .int 0, .int 0, .int 0], .int 2], by simp only [resL, resA, go_sem, seval], rfl⟩
   | true =>
    have hl2 := lblB_iff.1 hlb
    have hd : (decide (0 ≤ s) && decide (s ≤ 20)) = false := by
     by_cases h1 : 0 ≤ s
     ·rw [decide_eq_true h1, Bool.true_and]; exact decide_eq_false fun h2 => hg ⟨by omega, h1, h2⟩
     ·rw [decide_eq_false h1]; rfl
    rw [hlb] at hl
    rw [hd] at hw
    refine PureCall.intro (n := 38) (rs := [.cell 6 48, .tmp 7]) Try.call21 Try.func21 rfl rfl rfl (by simp only [List.length_cons, List.length_nil]; omega) (fun cx hcx => ats_of ?_); simp only [argSlots, Nat.zero_add, Nat.reduceAdd]
    refine gB ?_
    refine gC fun K hK => ?_
    first | refine fcall_data (h0) rfl ?_ | refine YR_intro (acall_data (h0) rfl) ?_
    simp only [go_sem, seval]
    refine hK _ ?_; clear hK K
    (repeat refine ats_seq ?_); refine ats_no rfl trivial ?_
    refine ats_skip ?_
    refine gC fun K hK => ?_
    first | refine fcall_data (hl) rfl ?_ | refine YR_intro (acall_data (hl) rfl) ?_
    simp only [go_sem, seval]
    first | refine YR_intro (fun _ => acall_data (hw) rfl) ?_ | refine YR_intro (acall_data (hw) rfl) ?_
    simp only [go_sem, seval]
    (repeat refine aI (hb := ?_))
    refine hK _ ?_; clear hK K
    (repeat refine ats_seq ?_); refine ats_yes rfl trivial ?_
    refine gB ?_
    exact ats_ret ⟨.inr rfl, .tup [.agg [.int 0, .int 0, .int 0, .int 0], .int 2], by simp only [resL, resA, go_sem, seval], rfl⟩
theorem specBo_ok (t : Cu) (i s : Int) : PureCall Try.prog 22 [.agg [.l3 t], .int i, .int s] (.tup [.agg ((boR t i s).1.map AV.int), .int (boR t i s).2]) := by
 have h0 := l03Is_ok t
 cases hr : isRing t with
 | false =>
  rw [hr] at h0
  rw [boR_no hr]
  refine PureCall.intro (n := 39) (rs := [.cell 6 48, .tmp 7]) Try.call22 Try.func22 rfl rfl rfl (by simp only [List.length_cons, List.length_nil]; omega) (fun cx hcx => ats_of ?_); simp only [argSlots, Nat.zero_add, Nat.reduceAdd]
  refine gB ?_
  (repeat refine ats_seq ?_); refine ats_block ?_
  refine gC fun K hK => ?_
  first | refine fcall_data (h0) rfl ?_ | refine YR_intro (acall_data (h0) rfl) ?_
  simp only [go_sem, seval]
  refine hK _ ?_; clear hK K
  (repeat refine ats_seq ?_); refine ats_yes rfl trivial ?_
  refine gB ?_
  exact ats_ret ⟨.inr rfl, .tup [.agg [.int 0, .int 0, .int 0, .int 0], .int 1], by simp only [resL, resA, go_sem, seval], rfl⟩
 | true =>
  rw [hr] at h0
  have h := isRing_P hr
  have h16 := h.cube.2.1
  have hl := l03Label_ok t h16 i
  have hw := l01In_ok s 0 20
  by_cases hg : (0 ≤ i ∧ i < t.length) ∧ 0 ≤ s ∧ s ≤ 20
  ·obtain ⟨⟨g1, g2⟩, g3, g4⟩ := hg
   rw [decide_eq_true g3, decide_eq_true g4] at hw
   obtain ⟨k, rfl⟩ : ∃ k : Nat, i = k := ⟨i.toNat, by omega⟩
   obtain ⟨m, rfl⟩ : ∃ m : Nat, s = m := ⟨s.toNat, by omega⟩
   have hkn : k < t.length := by omega
   have hlb : lblB t k = true := lblB_iff.2 ⟨by omega, by omega⟩
   rw [hlb] at hl
   have hW := l04Weights_ok t h m (by omega)
   cases hb : bd (okW t m) with
   | false =>
    rw [boR_lim hr hkn (by omega) hb]
    rw [wR_no hb, hb] at hW
    have hW : PureCall Try.prog 68 [.agg [.l3 t], .int m] (.tup [.nil, .bool false]) := hW
    refine PureCall.intro (n := 39) (rs := [.cell 6 48, .tmp 7]) Try.call22 Try.func22 rfl rfl rfl (by simp only [List.length_cons, List.length_nil]; omega) (fun cx hcx => ats_of ?_); simp only [argSlots, Nat.zero_add, Nat.reduceAdd]
    refine gB ?_
    (repeat refine ats_seq ?_); refine ats_block ?_
    refine gC fun K hK => ?_
    first | refine fcall_data (h0) rfl ?_ | refine YR_intro (acall_data (h0) rfl) ?_
    simp only [go_sem, seval]
    refine hK _ ?_; clear hK K
    (repeat refine ats_seq ?_); refine ats_no rfl trivial ?_
    refine gC fun K hK => ?_
    first | refine fcall_data (hl) rfl ?_ | refine YR_intro (acall_data (hl) rfl) ?_
    simp only [go_sem, seval]
    first | refine YR_intro (fun _ => acall_data (hw) rfl) ?_ | refine YR_intro (acall_data (hw) rfl) ?_
    simp only [go_sem, seval]
    (repeat refine aI (hb := ?_))
    refine hK _ ?_; clear hK K
    (repeat refine ats_seq ?_); refine ats_no rfl trivial ?_
    refine ats_skip ?_
    refine gC fun K hK => ?_
    first | refine fcall_data (hW) rfl ?_ | refine YR_intro (acall_data (hW) rfl) ?_
    simp only [go_sem, seval]
    refine hK _ ?_; clear hK K
    refine gB ?_
    (repeat refine ats_seq ?_); refine ats_yes rfl trivial ?_
    refine gB ?_
    exact ats_ret ⟨.inr rfl, .tup [.agg [.int 0, .int 0, .int 0, .int 0], .int 3], by simp only [resL, resA, go_sem, seval], rfl⟩
   | true =>
    have hB := l04Bounds_ok t h k hkn (wtS t m) (wtS_WB h (bd_iff.1 hb))
    rw [boR_yes hr hkn (by omega) hb]
    rw [wR_code hb, hb] at hW
    obtain ⟨L, eL⟩ : ∃ L, rowF t.length (wtS t m) = L := ⟨_, rfl⟩
    rw [eL] at hW hB
    generalize bsF t k (wtS t m) t.length = b at *
    unfold bdV at hB
    unfold bsL
    have hW : PureCall Try.prog 68 [.agg [.l3 t], .int m] (.tup [.l1 L, .bool true]) := hW
    refine PureCall.intro (n := 39) (rs := [.cell 6 48, .tmp 7]) Try.call22 Try.func22 rfl rfl rfl (by simp only [List.length_cons, List.length_nil]; omega) (fun cx hcx => ats_of ?_); simp only [argSlots, Nat.zero_add, Nat.reduceAdd]
    refine gB ?_
    (repeat refine ats_seq ?_); refine ats_block ?_
    refine gC fun K hK => ?_
    first | refine fcall_data (h0) rfl ?_ | refine YR_intro (acall_data (h0) rfl) ?_
    simp only [go_sem, seval]
    refine hK _ ?_; clear hK K
    (repeat refine ats_seq ?_); refine ats_no rfl trivial ?_
    refine gC fun K hK => ?_
    first | refine fcall_data (hl) rfl ?_ | refine YR_intro (acall_data (hl) rfl) ?_
    simp only [go_sem, seval]
    first | refine YR_intro (fun _ => acall_data (hw) rfl) ?_ | refine YR_intro (acall_data (hw) rfl) ?_
    simp only [go_sem, seval]
    (repeat refine aI (hb := ?_))
    refine hK _ ?_; clear hK K
    (repeat refine ats_seq ?_); refine ats_no rfl trivial ?_
    refine ats_skip ?_
    refine gC fun K hK => ?_
    first | refine fcall_data (hW) rfl ?_ | refine YR_intro (acall_data (hW) rfl) ?_
    simp only [go_sem, seval]
    refine hK _ ?_; clear hK K
    refine gB ?_
    (repeat refine ats_seq ?_); refine ats_no rfl trivial ?_
    refine ats_skip ?_
    refine gC fun K hK => ?_
    first | refine fcall_data (hB) rfl ?_ | refine YR_intro (acall_data (hB) rfl) ?_
    simp only [go_sem, seval]
    (repeat refine aI (hb := ?_))
    refine hK _ ?_; clear hK K
    exact ats_ret ⟨.inr rfl, .tup [.agg [.int b.lt, .int b.lb, .int b.ht, .int b.hb], .int 0], by simp only [resL, resA, go_sem, seval], rfl⟩
  ·rw [boR_rng hr hg]
   cases hlb : lblB t i with
   | false =>
    rw [hlb] at hl
    refine PureCall.intro (n := 39) (rs := [.cell 6 48, .tmp 7]) Try.call22 Try.func22 rfl rfl rfl (by simp only [List.length_cons, List.length_nil]; omega) (fun cx hcx => ats_of ?_); simp only [argSlots, Nat.zero_add, Nat.reduceAdd]
    refine gB ?_
    (repeat refine ats_seq ?_); refine ats_block ?_
    refine gC fun K hK => ?_
    first | refine fcall_data (h0) rfl ?_ | refine YR_intro (acall_data (h0) rfl) ?_
    simp only [go_sem, seval]
    refine hK _ ?_; clear hK K
    (repeat refine ats_seq ?_); refine ats_no rfl trivial ?_
    refine gC fun K hK => ?_
    first | refine fcall_data (hl) rfl ?_ | refine YR_intro (acall_data (hl) rfl) ?_
    simp only [go_sem, seval]
    first | refine YR_intro (fun _ => acall_data (hw) rfl) ?_ | refine YR_intro (acall_data (hw) rfl) ?_
    simp only [go_sem, seval]
    (repeat refine aI (hb := ?_))
    refine hK _ ?_; clear hK K
    (repeat refine ats_seq ?_); refine ats_yes rfl trivial ?_
    refine gB ?_
    exact ats_ret ⟨.inr rfl, .tup [.agg [.int 0, .int 0, .int 0, .int 0], .int 2], by simp only [resL, resA, go_sem, seval], rfl⟩
   | true =>
    have hl2 := lblB_iff.1 hlb
    have hd : (decide (0 ≤ s) && decide (s ≤ 20)) = false := by
     by_cases h1 : 0 ≤ s
     ·rw [decide_eq_true h1, Bool.true_and]; exact decide_eq_false fun h2 => hg ⟨by omega, h1, h2⟩
     ·rw [decide_eq_false h1]; rfl
    rw [hlb] at hl
    rw [hd] at hw
    refine PureCall.intro (n := 39) (rs := [.cell 6 48, .tmp 7]) Try.call22 Try.func22 rfl rfl rfl (by simp only [List.length_cons, List.length_nil]; omega) (fun cx hcx => ats_of ?_); simp only [argSlots, Nat.zero_add, Nat.reduceAdd]
    refine gB ?_
    (repeat refine ats_seq ?_); refine ats_block ?_
    refine gC fun K hK => ?_
    first | refine fcall_data (h0) rfl ?_ | refine YR_intro (acall_data (h0) rfl) ?_
    simp only [go_sem, seval]
    refine hK _ ?_; clear hK K
    (repeat refine ats_seq ?_); refine ats_no rfl trivial ?_
    refine gC fun K hK => ?_
    first | refine fcall_data (hl) rfl ?_ | refine YR_intro (acall_data (hl) rfl) ?_
    simp only [go_sem, seval]
    first | refine YR_intro (fun _ => acall_data (hw) rfl) ?_ | refine YR_intro (acall_data (hw) rfl) ?_
    simp only [go_sem, seval]
    (repeat refine aI (hb := ?_))
    refine hK _ ?_; clear hK K
    (repeat refine ats_seq ?_); refine ats_yes rfl trivial ?_
    refine gB ?_
    exact ats_ret ⟨.inr rfl, .tup [.agg [.int 0, .int 0, .int 0, .int 0], .int 2], by simp only [resL, resA, go_sem, seval], rfl⟩
theorem implPtd_ok (t : Cu) : PureCall Try.prog 26 [.agg [.l3 t]] (.tup [.bool (isRing t && decide ((lbI t.length (unS t)).length = t.length)), .int (if isRing t = true then 0 else 1)]) := by
 have h0 := implIl_ok t
 unfold ilR at h0
 cases hr : isRing t with
 | false =>
  rw [hr] at h0
  have h0 : FreshCall Try.prog 27 [.agg [.l3 t]] (.tup [.nil, .int 1]) := h0
  refine PureCall.intro (n := 22) (rs := [.tmp 2, .tmp 3]) Try.call26 Try.func26 rfl rfl rfl (by simp only [List.length_cons, List.length_nil]; omega) (fun cx hcx => ats_of ?_); simp only [argSlots, Nat.zero_add, Nat.reduceAdd]
  refine gB ?_
  refine gC fun K hK => ?_
  first | refine fcall_fresh rfl (h0) ?_ | refine YR_intro (acall_fresh rfl (h0)) ?_
  simp only [go_sem, seval]
  refine hK _ ?_; clear hK K
  refine gB ?_
  exact ats_ret (fin2 trivial trivial rfl)
 | true =>
  rw [hr] at h0
  have h16 := (isRing_P hr).cube.2.1
  generalize lbI t.length (unS t) = L at *
  have h0 : FreshCall Try.prog 27 [.agg [.l3 t]] (.tup [.l1 L, .int 0]) := h0
  have e : decide (L.length = t.length) = decide ((L.length : Int) = (t.length : Int)) := by rw [decide_eq_decide]; omega
  rw [e]
  refine PureCall.intro (n := 22) (rs := [.tmp 2, .tmp 3]) Try.call26 Try.func26 rfl rfl rfl (by simp only [List.length_cons, List.length_nil]; omega) (fun cx hcx => ats_of ?_); simp only [argSlots, Nat.zero_add, Nat.reduceAdd]
  refine gB ?_
  refine gC fun K hK => ?_
  first | refine fcall_fresh rfl (h0) ?_ | refine YR_intro (acall_fresh rfl (h0)) ?_
  simp only [go_sem, seval]
  refine hK _ ?_; clear hK K
  refine gB ?_
  exact ats_ret (fin2 trivial trivial rfl)
end Go.Proofs.Ytjcfefgbieeheaa
