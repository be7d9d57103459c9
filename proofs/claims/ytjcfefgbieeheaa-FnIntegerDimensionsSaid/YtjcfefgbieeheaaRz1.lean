import Derived.Test.YtjcfefgbieeheaaRa
import Derived.Test.YtjcfefgbieeheaaEx1
import Derived.Test.YtjcfefgbieeheaaJz4
import Derived.Test.YtjcfefgbieeheaaWz1
import Derived.Test.YtjcfefgbieeheaaJz3
import Derived.Test.YtjcfefgbieeheaaQd3
set_option linter.unusedSimpArgs false
set_option linter.unusedVariables false
namespace Go.Proofs.Ytjcfefgbieeheaa
open Go Go.Aw Go.Pl
theorem l04NextB_ok (t : Cu) (hc : Cube t) (W : Nat → Int) (hW : WB11 t.length W) : FreshCall Try.prog 92 [.agg [.l3 t], .l1 (rowF t.length W)] (.l1 (rowF t.length (nxW t W))) := by
 have h16 := hc.2.1
 have h1 := hc.1
 have lW : (rowF t.length W).length = t.length := rowF_length _ _
 have ez : List.replicate t.length (0 : Int) = rowF t.length fun a => nS t W a 0 := by
  have : (fun a => nS t W a 0) = fun _ => 0 := rfl
  rw [this]
  simp only [rowF, List.map_const', List.length_range]
 refine FreshCall.intro (n := 55) (rs := [.tmp 4]) Try.call92 Try.func92 rfl rfl rfl (by simp only [List.length_cons, List.length_nil]; omega) (fun cx hcx => ats_of ?_); simp only [argSlots, Nat.zero_add, Nat.reduceAdd]
 refine gB ?_
 refine gC fun K hK => ?_
 simp only [lW]
 (repeat refine aI (hb := ?_))
 refine hK _ ?_; clear hK K
 rw [ez]
 refine gB ?_
 (repeat refine ats_seq ?_); refine ats_loop (fun i : Nat => ⟨[(1, .l1 (rowF t.length W)), (2, .bptr 0 0), (5, .ref 1 []), (6, .int i)], [(0, .bx [.l3 t]), (1, .t1 (rowF t.length fun a => nS t W a i))]⟩) (fun i => i ≤ t.length) (fun i => t.length - i) 0 (Nat.zero_le _) (by
  refine And.intro ?_ rfl; simp only [leS, Nat.reduceEqDiff, ↓reduceIte, true_and, and_true]
  first | done | rfl) (fun i hi => ?_)
 refine gB ?_
 refine gI (fun hl => ?_) fun hl => ?_
 ·have hin : i < t.length := by omega
  have rl := (hc.2.2 i hin).1
  refine ats_skip ?_
  (repeat refine ats_seq ?_); refine ats_block ?_
  refine gB ?_
  (repeat refine ats_seq ?_); refine ats_loop (fun j : Nat => ⟨[(1, .l1 (rowF t.length W)), (2, .bptr 0 0), (5, .ref 1 []), (6, .int i), (7, .int j)], [(0, .bx [.l3 t]), (1, .t1 (rowF t.length (nq t W i j)))]⟩) (fun j => j ≤ t.length) (fun j => t.length - j) 0 (Nat.zero_le _) (by
   rw [nq_zero]
   refine And.intro ?_ rfl; simp only [leS, Nat.reduceEqDiff, ↓reduceIte, true_and, and_true]
   first | done | rfl) (fun j hj => ?_)
  refine gB ?_
  refine gI (fun hl2 => ?_) fun hl2 => ?_
  ·have hjn : j < t.length := by omega
   have rl2 : ((t.getD i []).getD j []).length = t.length := ((hc.2.2 i hin).2 j hjn).1
   refine ats_skip ?_
   (repeat refine ats_seq ?_); refine ats_block ?_
   refine gB ?_
   (repeat refine ats_seq ?_); refine ats_loop (fun k : Nat => ⟨[(1, .l1 (rowF t.length W)), (2, .bptr 0 0), (5, .ref 1 []), (6, .int i), (7, .int j), (8, .int k)], [(0, .bx [.l3 t]), (1, .t1 (rowF t.length (nqk t W i j k)))]⟩) (fun k => k ≤ t.length) (fun k => t.length - k) 0 (Nat.zero_le _) (by
    rw [nqk_zero]
    refine And.intro ?_ rfl; simp only [leS, Nat.reduceEqDiff, ↓reduceIte, true_and, and_true]
    first | done | rfl) (fun k hk => ?_)
   refine gB ?_
   refine gI (fun hl3 => ?_) fun hl3 => ?_
   ·have hkn : k < t.length := by omega
    have b1 : 0 ≤ ((t.getD i []).getD j []).getD k 0 * W k ∧ ((t.getD i []).getD j []).getD k 0 * W k ≤ 100000000000000 := tm_bd11 hc hW hin hjn hkn
    have b2 := rsP_bd11 hc hW hin hjn hk
    have b3 := nS_bd11 hc hW hjn (show i ≤ t.length by omega)
    have g1 : (rowF t.length (nqk t W i j k)).getD j 0 = nS t W j i + rsP t i W j k := by
     rw [rowF_get hjn]; unfold nqk; rw [if_pos rfl]
    have g2 : (rowF t.length W).getD k 0 = W k := rowF_get hkn
    have g3 : (rowF t.length (nqk t W i j k)).set j (nS t W j i + rsP t i W j k + ((t.getD i []).getD j []).getD k 0 * W k) = rowF t.length (nqk t W i j (k + 1)) := by
     rw [rowF_set, ← nqk_step]
    have l1 : (rowF t.length (nqk t W i j k)).length = t.length := rowF_length _ _
    refine ats_skip ?_
    (repeat refine ats_seq ?_); refine ats_block ?_
    (repeat refine ats_seq ?_); refine ats_pick (fix0 hcx) mixed (by kernel_rfl) fun K hK => ?_; simp only [go_sem, seval]
    simp only [g1, g2, g3, Int.toNat_natCast]
    (repeat refine aI (hb := ?_))
    refine hK _ ?_; clear hK K
    refine gB ?_
    refine ⟨k + 1,  by omega, by omega, .inl ⟨by simp only [leS, Nat.reduceEqDiff, ↓reduceIte, true_and, and_true]; omega,  rfl⟩⟩
   ·obtain rfl : k = t.length := by omega
    refine ats_exit (lq_x ?_)
    rw [nqk_done]
    refine gB ?_
    refine ⟨j + 1,  by omega, by omega, .inl ⟨by simp only [leS, Nat.reduceEqDiff, ↓reduceIte, true_and, and_true]; omega,  rfl⟩⟩
  ·obtain rfl : j = t.length := by omega
   refine ats_exit (lq_x ?_)
   rw [nq_end W i rfl]
   refine gB ?_
   refine ⟨i + 1,  by omega, by omega, .inl ⟨by simp only [leS, Nat.reduceEqDiff, ↓reduceIte, true_and, and_true]; omega,  rfl⟩⟩
 ·obtain rfl : i = t.length := by omega
  refine ats_exit (lq_x ?_)
  refine gB ?_
  exact ats_ret (ownV (is := [1]) rfl ⟨rfl, trivial⟩ rfl (by simp))
theorem l04Is_ok (t : Cu) (hc : Cube t) (L : List Int) (hL : VB29 t.length L) : PureCall Try.prog 55 [.agg [.l3 t], .l1 L] (.bool (bd (DimP t L))) := by
 have h16 := hc.2.1
 have h1 := hc.1
 have lL := hL.1
 refine PureCall.intro (n := 63) (rs := [.tmp 4]) Try.call55 Try.func55 rfl rfl rfl (by simp only [List.length_cons, List.length_nil]; omega) (fun cx hcx => ats_of ?_); simp only [argSlots, Nat.zero_add, Nat.reduceAdd]
 refine gB ?_
 refine gB ?_
 (repeat refine ats_seq ?_); refine ats_loop (fun i : Nat => ⟨[(1, .l1 L), (2, .bptr 0 0), (5, .int i)], [(0, .bx [.l3 t])]⟩) (fun i => i ≤ t.length ∧ ∀ a, a < i → 0 < L.getD a 0 ∧ ∀ b, b < t.length → dsum t L a b t.length = L.getD a 0 * L.getD b 0) (fun i => t.length - i) 0 ⟨Nat.zero_le _, fun a h => absurd h (Nat.not_lt_zero a)⟩ (by
  refine And.intro ?_ rfl; simp only [leS, Nat.reduceEqDiff, ↓reduceIte, true_and, and_true]
  first | done | rfl) (fun i hi => ?_)
 obtain ⟨hi, hI⟩ := hi
 refine gB ?_
 refine gI (fun hc2 => ?_) fun hc2 => ?_
 ·have hin : i < t.length := by omega
  have rl := (hc.2.2 i hin).1
  refine ats_skip ?_
  (repeat refine ats_seq ?_); refine ats_block ?_
  refine gB ?_
  (repeat refine ats_seq ?_); refine ats_loop (fun j : Nat => ⟨[(1, .l1 L), (2, .bptr 0 0), (5, .int i), (6, .int j)], [(0, .bx [.l3 t])]⟩) (fun j => j ≤ t.length ∧ ∀ b, b < j → 0 < L.getD i 0 ∧ dsum t L i b t.length = L.getD i 0 * L.getD b 0) (fun j => t.length - j) 0 ⟨Nat.zero_le _, fun a h => absurd h (Nat.not_lt_zero a)⟩ (by
   refine And.intro ?_ rfl; simp only [leS, Nat.reduceEqDiff, ↓reduceIte, true_and, and_true]
   first | done | rfl) (fun j hj => ?_)
  obtain ⟨hj, hJ⟩ := hj
  refine gB ?_
  refine gI (fun hc4 => ?_) fun hc4 => ?_
  ·have hjn : j < t.length := by omega
   have rl2 : ((t.getD i []).getD j []).length = t.length := ((hc.2.2 i hin).2 j hjn).1
   refine ats_skip ?_
   (repeat refine ats_seq ?_); refine ats_block ?_
   refine gB ?_
   refine gB ?_
   (repeat refine ats_seq ?_); refine ats_loop (fun k : Nat => ⟨[(1, .l1 L), (2, .bptr 0 0), (5, .int i), (6, .int j), (7, .int (dsum t L i j k)), (8, .int k)], [(0, .bx [.l3 t])]⟩) (fun k => k ≤ t.length) (fun k => t.length - k) 0 (Nat.zero_le _) (by
    refine And.intro ?_ rfl; simp only [leS, Nat.reduceEqDiff, ↓reduceIte, true_and, and_true]
    first | done | rfl | exact ⟨rfl, rfl⟩) (fun k hk => ?_)
   refine gB ?_
   refine gI (fun hc6 => ?_) fun hc6 => ?_
   ·have hkn : k < t.length := by omega
    have b1 := dsum_le hc hL hin hjn hk
    have b2 : 0 ≤ ((t.getD i []).getD j []).getD k 0 * L.getD k 0 ∧ ((t.getD i []).getD j []).getD k 0 * L.getD k 0 ≤ 536870912000 := term_bd hc hL hin hjn hkn
    have es : dsum t L i j k + ((t.getD i []).getD j []).getD k 0 * L.getD k 0 = dsum t L i j (k + 1) := rfl
    refine ats_skip ?_
    (repeat refine ats_seq ?_); refine ats_block ?_
    (repeat refine ats_seq ?_); refine ats_pick (fix0 hcx) mixed (by kernel_rfl) fun K hK => ?_; simp only [go_sem, seval]
    (repeat refine aI (hb := ?_))
    refine hK _ ?_; clear hK K
    refine gB ?_
    refine ⟨k + 1,  by omega, by omega, .inl ⟨by simp only [leS, Nat.reduceEqDiff, ↓reduceIte, true_and, and_true]; (exact ⟨es, by omega⟩),  rfl⟩⟩
   ·obtain rfl : k = t.length := by omega
    have b1 := dsum_le hc hL hin hjn (Nat.le_refl t.length)
    have b3 := prod_bd hL hin hjn
    refine ats_exit (lq_x ?_)
    (repeat refine ats_seq ?_); refine ats_pick (fix0 hcx) mixed (by kernel_rfl) fun K hK => ?_; simp only [go_sem, seval]
    (repeat refine aI (hb := ?_))
    refine hK _ ?_; clear hK K
    refine gI (fun hc7 => ?_) fun hc7 => ?_
    ·have hno : ¬ DimP t L := fun hp => by
      have p1 := hp.1 i hin j hjn
      have p2 := hp.2 i hin
      simp only [Bool.or_eq_true, decide_eq_true_iff, Bool.not_eq_true', decide_eq_false_iff_not] at hc7
      omega
     rw [bd_false hno]
     refine gB ?_
     refine ats_ret (finB rfl ?_)
     rfl
    ·simp only [Bool.or_eq_false_iff, decide_eq_false_iff_not, Bool.not_eq_false', decide_eq_true_iff] at hc7
     refine ats_skip ?_
     refine gB ?_
     refine ⟨j + 1,  ⟨by omega, fun b hb => by rcases Nat.lt_succ_iff_lt_or_eq.1 hb with h | rfl; exact hJ b h; exact ⟨by omega, hc7.2⟩⟩, by omega, .inl ⟨by simp only [leS, Nat.reduceEqDiff, ↓reduceIte, true_and, and_true]; omega,  rfl⟩⟩
  ·obtain rfl : j = t.length := by omega
   refine ats_exit (lq_x ?_)
   refine gB ?_
   refine ⟨i + 1,  ⟨by omega, fun a ha => by rcases Nat.lt_succ_iff_lt_or_eq.1 ha with h | rfl; exact hI a h; exact ⟨(hJ 0 h1).1, fun b hb => (hJ b hb).2⟩⟩, by omega, .inl ⟨by simp only [leS, Nat.reduceEqDiff, ↓reduceIte, true_and, and_true]; omega,  rfl⟩⟩
 ·obtain rfl : i = t.length := by omega
  have hp : DimP t L := ⟨fun a ha b hb => (hI a ha).2 b hb, fun a ha => (hI a ha).1⟩
  rw [bd_true hp]
  refine ats_exit (lq_x ?_)
  refine gB ?_
  refine ats_ret (finB rfl ?_)
  rfl
def mW (t : Cu) (s j : Nat) : Nat → Int := fun a => if a < j then iW t (s + 1) a else nxW t (iW t s) a
theorem mW_zero (t : Cu) (s : Nat) : mW t s 0 = nxW t (iW t s) := by
 funext a; unfold mW; rw [if_neg (Nat.not_lt_zero a)]
theorem mW_end {t : Cu} (s : Nat) {n : Nat} (hn : t.length = n) : rowF n (mW t s n) = rowF n (iW t (s + 1)) :=
 rowF_congr fun a ha => by unfold mW; rw [if_pos ha]
theorem mW_step (t : Cu) (s j : Nat) (v : Int) : (fun a => if a = j then iW t (s + 1) j else if a = j then v else mW t s j a) = mW t s (j + 1) := by
 funext a; unfold mW
 by_cases e : a = j
 ·subst e; rw [if_pos rfl, if_pos (Nat.lt_succ_self a)]
 ·rw [if_neg e, if_neg e]
  by_cases h : a < j
  ·rw [if_pos h, if_pos (by omega)]
  ·rw [if_neg h, if_neg (by omega)]
theorem div_rng {x y : Int} (x1 : 0 ≤ x) (y1 : 1 ≤ y) (y2 : y ≤ 1600000000000) (xy : x ≤ 16000 * y) : 0 ≤ x / y ∧ x / y ≤ 16000 ∧ 0 ≤ x % y ∧ x % y ≤ 1600000000000 ∧ 0 ≤ x % y * 1000000 / y ∧ x % y * 1000000 / y ≤ 1000000 := by
 have e1 := Int.emod_nonneg x (show y ≠ 0 by omega)
 have e2 := Int.emod_lt_of_pos x (show 0 < y by omega)
 refine ⟨Int.ediv_nonneg x1 (by omega), Int.ediv_le_of_le_mul (by omega) xy, e1, by omega, Int.ediv_nonneg (by omega) (by omega), Int.ediv_le_of_le_mul (by omega) ?_⟩
 omega
theorem iW_WB {t : Cu} {n : Nat} (s : Nat) : WB11 n (iW t s) := fun k _ => ⟨Int.le_trans (by decide) (iW_bd (t := t) s k).1, (iW_bd s k).2⟩
theorem nx_rng {t : Cu} (h : RingP t) (s : Nat) {j : Nat} (hj : j < t.length) : 1 ≤ nxW t (iW t s) 0 ∧ nxW t (iW t s) 0 ≤ 1600000000000 ∧ nxW t (iW t s) j ≤ 16000 * nxW t (iW t s) 0 := by
 have hWB : WB11 t.length (iW t s) := iW_WB s
 have h1 := nx0_bd h hWB
 have h2 := nx_ge h (W := iW t s) (fun k _ => (iW_bd s k).1) h.pos
 have h3 := Cv.e_le (W := Cv.rW (gT t) t.length s) (ring_UOk h) hj
 rw [nx_cast h (iW_eq h s) hj]
 rw [nx_cast h (iW_eq h s) h.pos] at h1 h2 ⊢
 omega
set_option maxRecDepth 100000 in
set_option maxHeartbeats 4000000 in
theorem l04Integers_ok (t : Cu) (h : RingP t) : PureCall Try.prog 50 [.agg [.l3 t]] (.tup [.l1 (outL t), .bool (bd (DimP t (outL t)))]) := by
 have hc := h.cube
 have h16 := hc.2.1
 have h1 := hc.1
 have hIs := l04Is_ok t hc (outL t) out_bd
 refine PureCall.intro (n := 87) (rs := [.tmp 2, .tmp 3]) Try.call50 Try.func50 rfl rfl rfl (by simp only [List.length_cons, List.length_nil]; omega) (fun cx hcx => ats_of ?_); simp only [argSlots, Nat.zero_add, Nat.reduceAdd]
 refine gB ?_
 refine gB ?_
 refine gB ?_
 (repeat refine ats_seq ?_); refine ats_loop (fun i : Nat => ⟨[(1, .bptr 0 0), (4, .ref 1 []), (5, .int i)], [(0, .bx [.l3 t]), (1, .t1 (rowF i fun _ => 1000000))]⟩) (fun i => i ≤ t.length) (fun i => t.length - i) 0 (Nat.zero_le _) (by
  refine And.intro ?_ rfl; simp only [leS, Nat.reduceEqDiff, ↓reduceIte, true_and, and_true]
  first | done | rfl) (fun i hi => ?_)
 have li : (rowF i fun _ => (1000000 : Int)).length = i := rowF_length _ _
 have ei : (rowF i fun _ => (1000000 : Int)) ++ [1000000] = rowF (i + 1) fun _ => 1000000 := by simp [rowF, List.range_succ]
 refine gB ?_
 refine gI (fun hl => ?_) fun hl => ?_
 ·refine ats_skip ?_
  (repeat refine ats_seq ?_); refine ats_block ?_
  refine gC fun K hK => ?_
  rw [ei]
  (repeat refine aI (hb := ?_))
  refine hK _ ?_; clear hK K
  refine gB ?_
  refine ⟨i + 1, by omega, by omega, .inr ⟨[2], by simp only [killL, List.map_cons, List.map_nil, killA, killAs, qOf, rmT, killH, killT, List.filter_cons, List.filter_nil, List.contains_cons, List.contains_nil, SlotsLe, St.get, slotGet, Nat.reduceEqDiff, Nat.reduceBEq, Bool.or_false, Bool.or_true, Bool.false_and, Bool.not_true, Bool.not_false, Bool.false_eq_true, ↓reduceIte, if_true, if_false, AV.int.injEq, AV.bool.injEq, AV.l1.injEq, AV.l2.injEq, AV.l3.injEq, true_and, and_true]; omega, by simp only [killL, List.map_cons, List.map_nil, killA, killAs, qOf, rmT, killH, killT, List.filter_cons, List.filter_nil, List.contains_cons, List.contains_nil, SlotsLe, St.get, slotGet, Nat.reduceEqDiff, Nat.reduceBEq, Bool.or_false, Bool.or_true, Bool.false_and, Bool.not_true, Bool.not_false, Bool.false_eq_true, ↓reduceIte, if_true, if_false, AV.int.injEq, AV.bool.injEq, AV.l1.injEq, AV.l2.injEq, AV.l3.injEq, true_and, and_true]; skip⟩⟩
 ·obtain rfl : i = t.length := by omega
  refine ats_exit (lq_x ?_)
  (repeat refine ats_seq ?_); refine AT.ghost (ghost_frz [1]) ?_; simp only [frzV, find, killA, killAs, qOf, rmT, killH, killT, List.map_cons, List.map_nil, List.filter_cons, List.filter_nil, List.contains_cons, List.contains_nil, Bool.or_false, Bool.or_true, Bool.false_and, Bool.not_true, Bool.not_false, Bool.false_eq_true, if_true, if_false, seval]
  refine gB ?_
  (repeat refine ats_seq ?_); refine ats_loop (fun s : Nat => ⟨[(1, .bptr 0 0), (4, .l1 (rowF t.length (iW t s))), (6, .int s)], [(0, .bx [.l3 t])]⟩) (fun s => s ≤ 400) (fun s => 400 - s) 0 (Nat.zero_le _) (by
   refine And.intro ?_ rfl; simp only [leS, Nat.reduceEqDiff, ↓reduceIte, true_and, and_true]
   first | done | rfl | exact ⟨rfl, rfl⟩) (fun s hs => ?_)
  have hWB : WB11 t.length (iW t s) := iW_WB s
  have lW : (rowF t.length (iW t s)).length = t.length := rowF_length _ _
  refine gB ?_
  refine gI (fun hl2 => ?_) fun hl2 => ?_
  ·have hN := l04NextB_ok t hc (iW t s) hWB
   have lN : (rowF t.length (nxW t (iW t s))).length = t.length := rowF_length _ _
   have g0 : (rowF t.length (nxW t (iW t s))).getD 0 0 = nxW t (iW t s) 0 := rowF_get h1
   refine ats_skip ?_
   (repeat refine ats_seq ?_); refine ats_block ?_
   refine gC fun K hK => ?_
   refine fcall_own rfl (hN) rfl ?_; simp only [go_sem, seval]
   (repeat refine aI (hb := ?_))
   refine hK _ ?_; clear hK K
   refine gC fun K hK => ?_
   simp only [g0]
   (repeat refine aI (hb := ?_))
   refine hK _ ?_; clear hK K
   refine gB ?_
   (repeat refine ats_seq ?_); refine ats_loop (fun j : Nat => ⟨[(1, .bptr 0 0), (4, .ref 1 []), (6, .int s), (7, .int (nxW t (iW t s) 0)), (8, .int j)], [(1, .t1 (rowF t.length (mW t s j))), (0, .bx [.l3 t])]⟩) (fun j => j ≤ t.length) (fun j => t.length - j) 0 (Nat.zero_le _) (by
    rw [mW_zero]
    refine And.intro ?_ rfl; simp only [leS, Nat.reduceEqDiff, ↓reduceIte, true_and, and_true]
    first | done | rfl | exact ⟨rfl, rfl⟩) (fun j hj => ?_)
   have lm : (rowF t.length (mW t s j)).length = t.length := rowF_length _ _
   refine gB ?_
   refine gI (fun hl3 => ?_) fun hl3 => ?_
   ·have hjn : j < t.length := by omega
    obtain ⟨y1, y2, xy⟩ := nx_rng h s hjn
    have x1 := (nx_bd11 hc hWB hjn).1
    have g1 : (rowF t.length (mW t s j)).getD j 0 = nxW t (iW t s) j := by
     rw [rowF_get hjn]; unfold mW; rw [if_neg (Nat.lt_irrefl j)]
    obtain ⟨x, ex⟩ : ∃ x, nxW t (iW t s) j = x := ⟨_, rfl⟩
    obtain ⟨y, ey⟩ : ∃ y, nxW t (iW t s) 0 = y := ⟨_, rfl⟩
    rw [ex] at g1 x1 xy
    rw [ey] at y1 y2 xy ⊢
    obtain ⟨d1, d2, d3, d4, d5, d6⟩ := div_rng x1 y1 y2 xy
    have et : (x % y * 1000000).tdiv y = x % y * 1000000 / y := Int.tdiv_eq_ediv_of_nonneg (by omega)
    obtain ⟨v, hv⟩ : ∃ v, x / y * 1000000 + x % y * 1000000 / y = v := ⟨_, rfl⟩
    have ec : iW t (s + 1) j = max 1 (min v 100000000000) := by
     show clW (nxW t (iW t s) j) (nxW t (iW t s) 0) = _
     rw [ex, ey]
     unfold clW
     rw [hv]
    have g2 : (rowF t.length (mW t s j)).set j v = rowF t.length fun a => if a = j then v else mW t s j a := rowF_set
    have g3 : (rowF t.length fun a => if a = j then v else mW t s j a).getD j 0 = v := by rw [rowF_get hjn, if_pos rfl]
    have em : (if (if 100000000000 < v then 100000000000 else v) > 1 then if 100000000000 < v then 100000000000 else v else 1) = iW t (s + 1) j := by
     rw [ec]; split <;> split at * <;> omega
    have g4 : (rowF t.length fun a => if a = j then v else mW t s j a).set j (iW t (s + 1) j) = rowF t.length (mW t s (j + 1)) := by
     rw [rowF_set, mW_step]
    have lv : (rowF t.length fun a => if a = j then v else mW t s j a).length = t.length := rowF_length _ _
    refine ats_skip ?_
    (repeat refine ats_seq ?_); refine ats_block ?_
    (repeat refine ats_seq ?_); refine ats_pick (fix0 hcx) mixed (by kernel_rfl) fun K hK => ?_; simp only [go_sem, seval]; (try simp (disch := omega) only [tmP, tdP])
    simp only [g1, et, hv, g2, Int.toNat_natCast]
    (repeat refine aI (hb := ?_))
    refine hK _ ?_; clear hK K
    refine gC fun K hK => ?_
    simp only [g3, em, g4, Int.toNat_natCast]
    (repeat refine aI (hb := ?_))
    refine hK _ ?_; clear hK K
    refine gB ?_
    refine ⟨j + 1,  by omega, by omega, .inl ⟨by simp only [leS, Nat.reduceEqDiff, ↓reduceIte, true_and, and_true]; omega,  rfl⟩⟩
   ·obtain rfl : j = t.length := by omega
    refine ats_exit (lq_x ?_)
    rw [mW_end s rfl]
    (repeat refine ats_seq ?_); refine AT.ghost (ghost_frz [1]) ?_; simp only [frzV, find, killA, killAs, qOf, rmT, killH, killT, List.map_cons, List.map_nil, List.filter_cons, List.filter_nil, List.contains_cons, List.contains_nil, Bool.or_false, Bool.or_true, Bool.false_and, Bool.not_true, Bool.not_false, Bool.false_eq_true, if_true, if_false, seval]
    refine gB ?_
    refine ⟨s + 1,  by omega, by omega, .inl ⟨by simp only [leS, Nat.reduceEqDiff, ↓reduceIte, true_and, and_true]; omega,  rfl⟩⟩
  ·obtain rfl : s = 400 := by omega
   refine ats_exit (lq_x ?_)
   refine gB ?_
   refine gB ?_
   have lW4 : (rowF t.length (iW t 400)).length = t.length := rowF_length _ _
   obtain ⟨R, hR⟩ : ∃ R : Nat → Int, (fun j => (iW t 400 j + 500000) / 1000000) = R := ⟨_, rfl⟩
   have eo : outL t = rowF t.length R := by unfold outL; rw [hR]
   (repeat refine ats_seq ?_); refine ats_loop (fun k : Nat => ⟨[(1, .bptr 0 0), (4, .l1 (rowF t.length (iW t 400))), (9, .ref 1 []), (10, .int k)], [(0, .bx [.l3 t]), (1, .t1 (rowF k R))]⟩) (fun k => k ≤ t.length) (fun k => t.length - k) 0 (Nat.zero_le _) (by
    refine And.intro ?_ rfl; simp only [leS, Nat.reduceEqDiff, ↓reduceIte, true_and, and_true]
    first | done | rfl | exact ⟨rfl, rfl⟩) (fun k hk => ?_)
   have lk : (rowF k R).length = k := rowF_length _ _
   refine gB ?_
   refine gI (fun hl4 => ?_) fun hl4 => ?_
   ·have hkn : k < t.length := by omega
    have gk : (rowF t.length (iW t 400)).getD k 0 = iW t 400 k := rowF_get hkn
    have bk := iW_bd (t := t) 400 k
    have hRk : (iW t 400 k + 500000) / 1000000 = R k := by rw [← hR]
    have ek : (rowF k R) ++ [R k] = rowF (k + 1) R := by simp [rowF, List.range_succ]
    generalize iW t 400 k = z at *
    have et : (z + 500000).tdiv 1000000 = (z + 500000) / 1000000 := Int.tdiv_eq_ediv_of_nonneg (by omega)
    refine ats_skip ?_
    (repeat refine ats_seq ?_); refine ats_block ?_
    refine gC fun K hK => ?_
    simp only [gk, et, hRk, ek, Int.toNat_natCast]
    (repeat refine aI (hb := ?_))
    refine hK _ ?_; clear hK K
    refine gB ?_
    refine ⟨k + 1, by omega, by omega, .inr ⟨[2], by simp only [killL, List.map_cons, List.map_nil, killA, killAs, qOf, rmT, killH, killT, List.filter_cons, List.filter_nil, List.contains_cons, List.contains_nil, SlotsLe, St.get, slotGet, Nat.reduceEqDiff, Nat.reduceBEq, Bool.or_false, Bool.or_true, Bool.false_and, Bool.not_true, Bool.not_false, Bool.false_eq_true, ↓reduceIte, if_true, if_false, AV.int.injEq, AV.bool.injEq, AV.l1.injEq, AV.l2.injEq, AV.l3.injEq, true_and, and_true]; omega, by simp only [killL, List.map_cons, List.map_nil, killA, killAs, qOf, rmT, killH, killT, List.filter_cons, List.filter_nil, List.contains_cons, List.contains_nil, SlotsLe, St.get, slotGet, Nat.reduceEqDiff, Nat.reduceBEq, Bool.or_false, Bool.or_true, Bool.false_and, Bool.not_true, Bool.not_false, Bool.false_eq_true, ↓reduceIte, if_true, if_false, AV.int.injEq, AV.bool.injEq, AV.l1.injEq, AV.l2.injEq, AV.l3.injEq, true_and, and_true]; skip⟩⟩
   ·obtain rfl : k = t.length := by omega
    refine ats_exit (lq_x ?_)
    rw [← eo]
    (repeat refine ats_seq ?_); refine AT.ghost (ghost_frz [1]) ?_; simp only [frzV, find, killA, killAs, qOf, rmT, killH, killT, List.map_cons, List.map_nil, List.filter_cons, List.filter_nil, List.contains_cons, List.contains_nil, Bool.or_false, Bool.or_true, Bool.false_and, Bool.not_true, Bool.not_false, Bool.false_eq_true, if_true, if_false, seval]
    refine gC fun K hK => ?_
    first | refine fcall_data (hIs) rfl ?_ | refine YR_intro (acall_data (hIs) rfl) ?_
    simp only [go_sem, seval]
    refine hK _ ?_; clear hK K
    exact ats_ret (fin2 trivial trivial rfl)
end Go.Proofs.Ytjcfefgbieeheaa
namespace Go.Proofs.Ytjcfefgbieeheaa
open Go Go.Aw Go.Pl
theorem dn_small {t : Cu} (h : RingP t) (hD : DimP t (dnL t)) : ∀ k, k < t.length → 1 ≤ (dnL t).getD k 0 ∧ (dnL t).getD k 0 ≤ 16000 := fun k hk => by
 obtain ⟨D, m, e, ok, hm, h0⟩ := hD.toF.nat h
 have h1 : (dnL t).getD k 0 = ((D k : Nat) : Int) := e k hk
 have h2 := ok.le k hk
 have h3 := ok.pos k hk
 rw [h1]
 omega
theorem specId_ok (t : Cu) : PureCall Try.prog 12 [.agg [.l3 t]] (.tup [optA (idR t).1, .int (idR t).2]) := by
 have h0 := l03Is_ok t
 cases hr : isRing t with
 | false =>
  rw [hr] at h0
  have e : idR t = (none, 1) := by unfold idR; rw [hr]; rfl
  rw [e]
  refine PureCall.intro (n := 17) (rs := [.tmp 2, .tmp 3]) Try.call12 Try.func12 rfl rfl rfl (by simp only [List.length_cons, List.length_nil]; omega) (fun cx hcx => ats_of ?_); simp only [argSlots, Nat.zero_add, Nat.reduceAdd]
  refine gB ?_
  refine gC fun K hK => ?_
  first | refine fcall_data (h0) rfl ?_ | refine YR_intro (acall_data (h0) rfl) ?_
  simp only [go_sem, seval]
  refine hK _ ?_; clear hK K
  (repeat refine ats_seq ?_); refine ats_yes rfl trivial ?_
  refine gB ?_
  exact ats_ret (fin2 trivial trivial rfl)
 | true =>
  rw [hr] at h0
  have h := isRing_P hr
  have hI := l04Integers_ok t h
  obtain ⟨d1, d2⟩ := dim_same h
  rw [d1] at hI
  cases hb : bd (DimP t (dnL t)) with
  | false =>
   have e : idR t = (none, 4) := by unfold idR; rw [hr, hb]; rfl
   rw [e]
   rw [hb] at hI
   generalize outL t = L at *
   refine PureCall.intro (n := 17) (rs := [.tmp 2, .tmp 3]) Try.call12 Try.func12 rfl rfl rfl (by simp only [List.length_cons, List.length_nil]; omega) (fun cx hcx => ats_of ?_); simp only [argSlots, Nat.zero_add, Nat.reduceAdd]
   refine gB ?_
   refine gC fun K hK => ?_
   first | refine fcall_data (h0) rfl ?_ | refine YR_intro (acall_data (h0) rfl) ?_
   simp only [go_sem, seval]
   refine hK _ ?_; clear hK K
   (repeat refine ats_seq ?_); refine ats_no rfl trivial ?_
   refine ats_skip ?_
   refine gC fun K hK => ?_
   first | refine fcall_data (hI) rfl ?_ | refine YR_intro (acall_data (hI) rfl) ?_
   simp only [go_sem, seval]
   refine hK _ ?_; clear hK K
   refine gB ?_
   (repeat refine ats_seq ?_); refine ats_yes rfl trivial ?_
   refine gB ?_
   exact ats_ret (fin2 trivial trivial rfl)
  | true =>
   have e : idR t = (some (dnL t), 0) := by unfold idR; rw [hr, hb]; rfl
   rw [e]
   rw [d2 hb, hb] at hI
   generalize dnL t = L at *
   show PureCall Try.prog 12 [.agg [.l3 t]] (.tup [.l1 L, .int 0])
   refine PureCall.intro (n := 17) (rs := [.tmp 2, .tmp 3]) Try.call12 Try.func12 rfl rfl rfl (by simp only [List.length_cons, List.length_nil]; omega) (fun cx hcx => ats_of ?_); simp only [argSlots, Nat.zero_add, Nat.reduceAdd]
   refine gB ?_
   refine gC fun K hK => ?_
   first | refine fcall_data (h0) rfl ?_ | refine YR_intro (acall_data (h0) rfl) ?_
   simp only [go_sem, seval]
   refine hK _ ?_; clear hK K
   (repeat refine ats_seq ?_); refine ats_no rfl trivial ?_
   refine ats_skip ?_
   refine gC fun K hK => ?_
   first | refine fcall_data (hI) rfl ?_ | refine YR_intro (acall_data (hI) rfl) ?_
   simp only [go_sem, seval]
   refine hK _ ?_; clear hK K
   refine gB ?_
   (repeat refine ats_seq ?_); refine ats_no rfl trivial ?_
   refine ats_skip ?_
   refine gB ?_
   exact ats_ret (fin2 trivial trivial rfl)
theorem sumOfB_ok (r v : List Int) (n : Nat) (hn : r.length = n) (hv : v.length = n) (h16 : n ≤ 16) (bd : ∀ y, y < n → 0 ≤ dotG r v y ∧ dotG r v y ≤ 16000000000) : PureCall Try.prog 58 [.l1 r, .l1 v] (.int (dot v r)) := by
 refine PureCall.intro (n := 25) (rs := [.tmp 4]) Try.call58 Try.func58 rfl rfl rfl (by simp only [List.length_cons, List.length_nil]; omega) (fun cx hcx => ats_of ?_); simp only [argSlots, Nat.zero_add, Nat.reduceAdd]
 refine gA ?_
 refine gA ?_
 refine gA ?_
 (repeat refine ats_seq ?_); refine ats_loop (fun y : Nat => ⟨[(0, .l1 r), (1, .l1 v), (5, .int (sumTo (dotG r v) y)), (8, .int r.length), (9, .int y)], []⟩) (fun y => y ≤ r.length) (fun y => r.length - y) 0 (Nat.zero_le _) (by refine And.intro ?_ rfl; simp only [leS, Nat.reduceEqDiff, ↓reduceIte, true_and, and_true]; repeat' (first | rfl | with_reducible refine And.intro ?_ ?_ | omega)) (fun y hy => ?_)
 refine gA ?_
 refine gI (fun hly => ?_) fun hly => ?_
 ·have sL := sumTo_le (n := y) (fun x hx => bd x (by omega))
  have cL := bd y (by omega)
  simp only [dotG] at cL
  refine ats_skip ?_
  (repeat refine ats_seq ?_); refine ats_block ?_
  refine gA ?_
  (repeat refine ats_seq ?_); refine ats_pick (fix0 hcx) mixed (by kernel_rfl) fun K hK => ?_; simp only [go_sem, seval]; (repeat refine aI (hb := ?_)); refine hK _ ?_; clear hK K
  refine gB ?_
  refine ⟨y + 1,  by omega, by omega, .inl ⟨by simp only [leS, Nat.reduceEqDiff, ↓reduceIte, true_and, and_true]; exact ⟨rfl, by omega⟩,  rfl⟩⟩
 ·obtain rfl : y = r.length := by omega
  refine ats_exit (lq_x ?_)
  refine gA ?_
  refine ats_ret (finI rfl ?_)
  rfl
noncomputable def isdR (t : Cu) (x : List Int) : Bool × Int := if isRing t = true then (if bd (VecX t.length 1000000 x) = true then (bd (DimP t x), 0) else (false, 2)) else (false, 1)
theorem vecX_29 {n : Nat} {x : List Int} (h : VecX n 1000000 x) : VB29 n x := ⟨h.1, fun j hj => by have := h.2 j hj; omega⟩
theorem implIsd_ok (t : Cu) (x : List Int) : PureCall Try.prog 8 [.agg [.l3 t], .l1 x] (.tup [.bool (isdR t x).1, .int (isdR t x).2]) := by
 have h0 := IsRing_ok t
 unfold isdR
 cases hr : isRing t with
 | false =>
  rw [hr] at h0
  refine PureCall.intro (n := 16) (rs := [.tmp 4, .tmp 5]) Try.call8 Try.func8 rfl rfl rfl (by simp only [List.length_cons, List.length_nil]; omega) (fun cx hcx => ats_of ?_); simp only [argSlots, Nat.zero_add, Nat.reduceAdd]
  refine gB ?_
  refine gC fun K hK => ?_
  first | refine fcall_data (h0) rfl ?_ | refine YR_intro (acall_data (h0) rfl) ?_
  simp only [go_sem, seval]
  refine hK _ ?_; clear hK K
  (repeat refine ats_seq ?_); refine ats_yes rfl trivial ?_
  refine gB ?_
  exact ats_ret (fin2 trivial trivial rfl)
 | true =>
  rw [hr] at h0
  have h := isRing_P hr
  have hv := isVector_ok t h.cube.2.1 x
  cases hb : bd (VecX t.length 1000000 x) with
  | false =>
   rw [hb] at hv
   refine PureCall.intro (n := 16) (rs := [.tmp 4, .tmp 5]) Try.call8 Try.func8 rfl rfl rfl (by simp only [List.length_cons, List.length_nil]; omega) (fun cx hcx => ats_of ?_); simp only [argSlots, Nat.zero_add, Nat.reduceAdd]
   refine gB ?_
   refine gC fun K hK => ?_
   first | refine fcall_data (h0) rfl ?_ | refine YR_intro (acall_data (h0) rfl) ?_
   simp only [go_sem, seval]
   refine hK _ ?_; clear hK K
   (repeat refine ats_seq ?_); refine ats_no rfl trivial ?_
   refine ats_skip ?_
   refine gC fun K hK => ?_
   first | refine fcall_data (hv) rfl ?_ | refine YR_intro (acall_data (hv) rfl) ?_
   simp only [go_sem, seval]
   refine hK _ ?_; clear hK K
   (repeat refine ats_seq ?_); refine ats_yes rfl trivial ?_
   refine gB ?_
   exact ats_ret (fin2 trivial trivial rfl)
  | true =>
   rw [hb] at hv
   have hd := isDim_ok t h.cube x (vecX_29 (bd_iff.1 hb))
   refine PureCall.intro (n := 16) (rs := [.tmp 4, .tmp 5]) Try.call8 Try.func8 rfl rfl rfl (by simp only [List.length_cons, List.length_nil]; omega) (fun cx hcx => ats_of ?_); simp only [argSlots, Nat.zero_add, Nat.reduceAdd]
   refine gB ?_
   refine gC fun K hK => ?_
   first | refine fcall_data (h0) rfl ?_ | refine YR_intro (acall_data (h0) rfl) ?_
   simp only [go_sem, seval]
   refine hK _ ?_; clear hK K
   (repeat refine ats_seq ?_); refine ats_no rfl trivial ?_
   refine ats_skip ?_
   refine gC fun K hK => ?_
   first | refine fcall_data (hv) rfl ?_ | refine YR_intro (acall_data (hv) rfl) ?_
   simp only [go_sem, seval]
   refine hK _ ?_; clear hK K
   (repeat refine ats_seq ?_); refine ats_no rfl trivial ?_
   refine ats_skip ?_
   refine gC fun K hK => ?_
   first | refine fcall_data (hd) rfl ?_ | refine YR_intro (acall_data (hd) rfl) ?_
   simp only [go_sem, seval]
   refine hK _ ?_; clear hK K
   exact ats_ret (fin2 trivial trivial rfl)
theorem specIsd_ok (t : Cu) (x : List Int) : PureCall Try.prog 9 [.agg [.l3 t], .l1 x] (.tup [.bool (isdR t x).1, .int (isdR t x).2]) := by
 have h0 := l03Is_ok t
 unfold isdR
 cases hr : isRing t with
 | false =>
  rw [hr] at h0
  refine PureCall.intro (n := 18) (rs := [.tmp 4, .tmp 5]) Try.call9 Try.func9 rfl rfl rfl (by simp only [List.length_cons, List.length_nil]; omega) (fun cx hcx => ats_of ?_); simp only [argSlots, Nat.zero_add, Nat.reduceAdd]
  refine gB ?_
  (repeat refine ats_seq ?_); refine ats_block ?_
  refine gC fun K hK => ?_
  first | refine fcall_data (h0) rfl ?_ | refine YR_intro (acall_data (h0) rfl) ?_
  simp only [go_sem, seval]
  refine hK _ ?_; clear hK K
  (repeat refine ats_seq ?_); refine ats_yes rfl trivial ?_
  refine gB ?_
  exact ats_ret (fin2 trivial trivial rfl)
 | true =>
  rw [hr] at h0
  have h := isRing_P hr
  have hv := l03Vector_ok t h.cube.2.1 x
  cases hb : bd (VecX t.length 1000000 x) with
  | false =>
   rw [hb] at hv
   refine PureCall.intro (n := 18) (rs := [.tmp 4, .tmp 5]) Try.call9 Try.func9 rfl rfl rfl (by simp only [List.length_cons, List.length_nil]; omega) (fun cx hcx => ats_of ?_); simp only [argSlots, Nat.zero_add, Nat.reduceAdd]
   refine gB ?_
   (repeat refine ats_seq ?_); refine ats_block ?_
   refine gC fun K hK => ?_
   first | refine fcall_data (h0) rfl ?_ | refine YR_intro (acall_data (h0) rfl) ?_
   simp only [go_sem, seval]
   refine hK _ ?_; clear hK K
   (repeat refine ats_seq ?_); refine ats_no rfl trivial ?_
   refine gC fun K hK => ?_
   first | refine fcall_data (hv) rfl ?_ | refine YR_intro (acall_data (hv) rfl) ?_
   simp only [go_sem, seval]
   refine hK _ ?_; clear hK K
   (repeat refine ats_seq ?_); refine ats_yes rfl trivial ?_
   refine gB ?_
   exact ats_ret (fin2 trivial trivial rfl)
  | true =>
   rw [hb] at hv
   have hd := l04Is_ok t h.cube x (vecX_29 (bd_iff.1 hb))
   refine PureCall.intro (n := 18) (rs := [.tmp 4, .tmp 5]) Try.call9 Try.func9 rfl rfl rfl (by simp only [List.length_cons, List.length_nil]; omega) (fun cx hcx => ats_of ?_); simp only [argSlots, Nat.zero_add, Nat.reduceAdd]
   refine gB ?_
   (repeat refine ats_seq ?_); refine ats_block ?_
   refine gC fun K hK => ?_
   first | refine fcall_data (h0) rfl ?_ | refine YR_intro (acall_data (h0) rfl) ?_
   simp only [go_sem, seval]
   refine hK _ ?_; clear hK K
   (repeat refine ats_seq ?_); refine ats_no rfl trivial ?_
   refine gC fun K hK => ?_
   first | refine fcall_data (hv) rfl ?_ | refine YR_intro (acall_data (hv) rfl) ?_
   simp only [go_sem, seval]
   refine hK _ ?_; clear hK K
   (repeat refine ats_seq ?_); refine ats_no rfl trivial ?_
   refine ats_skip ?_
   refine gC fun K hK => ?_
   first | refine fcall_data (hd) rfl ?_ | refine YR_intro (acall_data (hd) rfl) ?_
   simp only [go_sem, seval]
   refine hK _ ?_; clear hK K
   exact ats_ret (fin2 trivial trivial rfl)
theorem implWd_ok (t : Cu) : PureCall Try.prog 14 [.agg [.l3 t]] (.tup [.int (dot ((idR t).1.getD []) ((idR t).1.getD [])), .int (idR t).2]) := by
 have hk : FreshCall Try.prog 11 [.agg [.l3 t]] (.tup [.l1 ((idR t).1.getD []), .int (idR t).2]) := by
  have h := implId_ok t
  generalize (idR t).2 = c at *
  generalize (idR t).1 = u at *
  cases u with
  | none => exact fresh_nil h
  | some u => exact h
 have hS : PureCall Try.prog 58 [.l1 ((idR t).1.getD []), .l1 ((idR t).1.getD [])] (.int (dot ((idR t).1.getD []) ((idR t).1.getD []))) := by
  have hnil : PureCall Try.prog 58 [.l1 [], .l1 []] (.int (dot [] [])) := sumOfB_ok [] [] 0 rfl rfl (by decide) fun y hy => absurd hy (Nat.not_lt_zero y)
  cases hr : isRing t with
  | false =>
   have e : idR t = (none, 1) := by unfold idR; rw [hr]; rfl
   rw [e]; exact hnil
  | true =>
   cases hb : bd (DimP t (dnL t)) with
   | false =>
    have e : idR t = (none, 4) := by unfold idR; rw [hr, hb]; rfl
    rw [e]; exact hnil
   | true =>
    have e : idR t = (some (dnL t), 0) := by unfold idR; rw [hr, hb]; rfl
    rw [e]
    have h := isRing_P hr
    have hs := dn_small h (bd_iff.1 hb)
    have lL := (dnL_bd h).1
    refine sumOfB_ok (dnL t) (dnL t) t.length lL lL h.cube.2.1 fun y hy => ?_
    have h1 := hs y hy
    unfold dotG
    refine ⟨Int.mul_nonneg (by omega) (by omega), ?_⟩
    have : (dnL t).getD y 0 * (dnL t).getD y 0 ≤ 16000 * 16000 := Int.mul_le_mul h1.2 h1.2 (by omega) (by decide)
    omega
 generalize (idR t).1.getD [] = L at *
 generalize (idR t).2 = c at *
 refine PureCall.intro (n := 15) (rs := [.tmp 2, .tmp 3]) Try.call14 Try.func14 rfl rfl rfl (by simp only [List.length_cons, List.length_nil]; omega) (fun cx hcx => ats_of ?_); simp only [argSlots, Nat.zero_add, Nat.reduceAdd]
 refine gB ?_
 refine gC fun K hK => ?_
 first | refine fcall_fresh rfl (hk) ?_ | refine YR_intro (acall_fresh rfl (hk)) ?_
 simp only [go_sem, seval]
 refine hK _ ?_; clear hK K
 refine gC fun K hK => ?_
 first | refine fcall_data (hS) rfl ?_ | refine YR_intro (acall_data (hS) rfl) ?_
 simp only [go_sem, seval]
 refine hK _ ?_; clear hK K
 exact ats_ret (fin2 trivial trivial rfl)
theorem implIr_ok (t : Cu) : PureCall Try.prog 15 [.agg [.l3 t]] (.tup [.bool (isRing t && bd (DimP t (dnL t))), .int (if isRing t = true then 0 else 1)]) := by
 have h0 := IsRing_ok t
 cases hr : isRing t with
 | false =>
  rw [hr] at h0
  refine PureCall.intro (n := 10) (rs := [.tmp 2, .tmp 3]) Try.call15 Try.func15 rfl rfl rfl (by simp only [List.length_cons, List.length_nil]; omega) (fun cx hcx => ats_of ?_); simp only [argSlots, Nat.zero_add, Nat.reduceAdd]
  refine gB ?_
  refine gC fun K hK => ?_
  first | refine fcall_data (h0) rfl ?_ | refine YR_intro (acall_data (h0) rfl) ?_
  simp only [go_sem, seval]
  refine hK _ ?_; clear hK K
  (repeat refine ats_seq ?_); refine ats_yes rfl trivial ?_
  refine gB ?_
  exact ats_ret (fin2 trivial trivial rfl)
 | true =>
  rw [hr] at h0
  have h := isRing_P hr
  have hI := intDim_ok t h
  cases hb : bd (DimP t (dnL t)) with
  | false =>
   have e : idF t = none := by unfold idF; rw [hb]; rfl
   rw [e] at hI
   have hI : FreshCall Try.prog 57 [.agg [.l3 t]] .nil := hI
   refine PureCall.intro (n := 10) (rs := [.tmp 2, .tmp 3]) Try.call15 Try.func15 rfl rfl rfl (by simp only [List.length_cons, List.length_nil]; omega) (fun cx hcx => ats_of ?_); simp only [argSlots, Nat.zero_add, Nat.reduceAdd]
   refine gB ?_
   refine gC fun K hK => ?_
   first | refine fcall_data (h0) rfl ?_ | refine YR_intro (acall_data (h0) rfl) ?_
   simp only [go_sem, seval]
   refine hK _ ?_; clear hK K
   (repeat refine ats_seq ?_); refine ats_no rfl trivial ?_
   refine ats_skip ?_
   refine gC fun K hK => ?_
   first | refine fcall_fresh rfl (hI) ?_ | refine YR_intro (acall_fresh rfl (hI)) ?_
   simp only [go_sem, seval]
   refine hK _ ?_; clear hK K
   exact ats_ret (fin2 trivial trivial rfl)
  | true =>
   have e : idF t = some (dnL t) := by unfold idF; rw [hb]; rfl
   rw [e] at hI
   have lL := (dnL_bd h).1
   have h1 := h.pos
   generalize dnL t = L at *
   have hI : FreshCall Try.prog 57 [.agg [.l3 t]] (.l1 L) := hI
   refine PureCall.intro (n := 10) (rs := [.tmp 2, .tmp 3]) Try.call15 Try.func15 rfl rfl rfl (by simp only [List.length_cons, List.length_nil]; omega) (fun cx hcx => ats_of ?_); simp only [argSlots, Nat.zero_add, Nat.reduceAdd]
   refine gB ?_
   refine gC fun K hK => ?_
   first | refine fcall_data (h0) rfl ?_ | refine YR_intro (acall_data (h0) rfl) ?_
   simp only [go_sem, seval]
   refine hK _ ?_; clear hK K
   (repeat refine ats_seq ?_); refine ats_no rfl trivial ?_
   refine ats_skip ?_
   refine gC fun K hK => ?_
   first | refine fcall_fresh rfl (hI) ?_ | refine YR_intro (acall_fresh rfl (hI)) ?_
   simp only [go_sem, seval]
   (repeat refine aI (hb := ?_))
   refine hK _ ?_; clear hK K
   exact ats_ret (fin2 trivial trivial rfl)
end Go.Proofs.Ytjcfefgbieeheaa
namespace Go.Proofs.Ytjcfefgbieeheaa
open Go Go.Aw Go.Pl
attribute [local go_sem] pickO List.getElem?_toArray List.getElem?_cons_zero List.getElem?_cons_succ Option.getD_some and_true true_and and_self
set_option maxRecDepth 100000 in
set_option maxHeartbeats 4000000 in
theorem DrawIsRing_ok (c : List Int) (hc : CodeOk c) : ∃ (t : Cu), t.length ≤ 8 ∧ PureCall Try.prog 56 [.lv (bsV c)] (.agg [.l3 t]) := by
 have hF := from_ok c hc.len hc.byte
 have ok0 := frS_ok hc.len hc.byte
 generalize frS c = s at *
 obtain ⟨t, s1, lt, ok1, hA⟩ := l03DrawAny_ok s ok0 8 (by decide) (by decide)
 refine ⟨t, lt, ?_⟩
 unfold AnyC at hA
 refine PureCall.introR (n := 6) (rs := [.cell 2 26]) Try.call56 Try.func56 rfl rfl rfl (by simp only [List.length_cons, List.length_nil]; omega) (fun cx hcx hrd => ats_of ?_); simp only [argSlots, Nat.zero_add, Nat.reduceAdd]
 refine gB ?_
 (repeat refine ats_seq ?_); refine AT.ghost (st' := ⟨[(0, .lv (bsV c)), (2, .bptr 7 0)], [(7, .bx [.nil])]⟩) (ghost_trans (ghost_drop []) (ghost_can [(0, 7)] (by simp only [killL, killA, killAs, killT_srcB, killAs_bsV, qOf, rmT, killH, killT_e, List.filter_cons, List.filter_nil, List.contains_cons, List.contains_nil, Bool.or_false, Bool.or_true, Bool.false_and, Bool.not_true, Bool.not_false, Bool.false_eq_true, if_true, if_false, rnLs, rnL, rn, rns, rns_bsV, sw, SlotsLe, St.get, slotGet, List.map_cons, List.map_nil, seval, AV.int.injEq, AV.bool.injEq, AV.l1.injEq, AV.l2.injEq, AV.l3.injEq, true_and, and_true]) (by simp only [killL, killA, killAs, killT_srcB, killAs_bsV, qOf, rmT, killH, killT_e, List.filter_cons, List.filter_nil, List.contains_cons, List.contains_nil, Bool.or_false, Bool.or_true, Bool.false_and, Bool.not_true, Bool.not_false, Bool.false_eq_true, if_true, if_false, sortH, insH, rnHs, rnH, rnT_e, rnT_srcB, rn, rns, rns_bsV, sw, List.map_cons, List.map_nil, seval]))) ?_
 refine gC fun K hK => ?_
 refine fcall_box (hF) (by simp [Aw.ids]) (by simp [find]) (by simp [closedT, killT_e, killAs, killA, outQ, Aw.ids]) (by simp [killAs, killA, outQ, Aw.ids]) (by simp [Aw.ids]) ?_; simp only [Aw.ids, List.map_cons, List.map_nil, List.filter_cons, List.filter_nil, List.contains_cons, List.contains_nil, Bool.or_false, Bool.or_true, Bool.not_true, Bool.not_false, Nat.reduceBEq, Bool.false_eq_true, if_true, if_false, List.cons_append, List.nil_append]; simp only [go_sem, seval]
 refine fcall_box (hA) (by simp [Aw.ids]) (by simp [find]) (by simp [closedT, killT_e, killAs, killA, outQ, Aw.ids]) (by simp [killAs, killA, outQ, Aw.ids]) (by simp [Aw.ids]) ?_; simp only [Aw.ids, List.map_cons, List.map_nil, List.filter_cons, List.filter_nil, List.contains_cons, List.contains_nil, Bool.or_false, Bool.or_true, Bool.not_true, Bool.not_false, Nat.reduceBEq, Bool.false_eq_true, if_true, if_false, List.cons_append, List.nil_append]; simp only [go_sem, seval]
 refine hK _ ?_; clear hK K
 exact ats_ret ⟨.inr rfl, .agg [.l3 t], by simp only [resL, resA, go_sem, seval], rfl⟩
theorem DrawIntegerDimensions_ok (c : List Int) (hc : CodeOk c) : ∃ (t : Cu), t.length ≤ 8 ∧ PureCall Try.prog 10 [.lv (bsV c)] (.agg [.l3 t]) := by
 obtain ⟨t, lt, h⟩ := DrawIsRing_ok c hc
 refine ⟨t, lt, ?_⟩
 refine PureCall.introR (n := 5) (rs := [.cell 2 26]) Try.call10 Try.func10 rfl rfl rfl (by simp only [List.length_cons, List.length_nil]; omega) (fun cx hcx hrd => ats_of ?_); simp only [argSlots, Nat.zero_add, Nat.reduceAdd]
 refine gB ?_
 refine gC fun K hK => ?_
 refine fcall_data (h) (by first | rfl | simp only [areData, Aw.isData, areData_bsV, Bool.and_true]) ?_; simp only [go_sem, seval]
 refine hK _ ?_; clear hK K
 exact ats_ret ⟨.inr rfl, .agg [.l3 t], by simp only [resL, resA, go_sem, seval], rfl⟩
set_option maxRecDepth 100000 in
set_option maxHeartbeats 4000000 in
theorem DrawIsDimension_ok (c : List Int) (hc : CodeOk c) : ∃ (t : Cu) (x : List Int), t.length ≤ 8 ∧ PureCall Try.prog 7 [.lv (bsV c)] (.tup [.agg [.l3 t], .l1 x]) := by
 have hF := from_ok c hc.len hc.byte
 have ok0 := frS_ok hc.len hc.byte
 generalize frS c = s at *
 obtain ⟨t, s1, lt, ok1, hA⟩ := l03DrawAny_ok s ok0 8 (by decide) (by decide)
 have hI := l03Is_ok t
 have hN := next_ok s1 ok1 3 (by omega)
 have b1 := nx_bd s1 (n := 3) (by omega)
 have ok2 := nx_ok ok1 3
 generalize nx s1 3 = q at *
 unfold AnyC at hA
 cases hr : isRing t with
 | false =>
  have hV := l03DrawVector_ok s1 ok1 t.length (by omega)
  generalize dVec t.length s1 = x at *
  rw [hr] at hI
  refine ⟨t, x.1, lt, ?_⟩
  refine PureCall.introR (n := 32) (rs := [.cell 2 26, .tmp 3]) Try.call7 Try.func7 rfl rfl rfl (by simp only [List.length_cons, List.length_nil]; omega) (fun cx hcx hrd => ats_of ?_); simp only [argSlots, Nat.zero_add, Nat.reduceAdd]
  refine gB ?_
  (repeat refine ats_seq ?_); refine AT.ghost (st' := ⟨[(0, .lv (bsV c)), (2, .bptr 7 0), (3, .nil)], [(7, .bx [.nil])]⟩) (ghost_trans (ghost_drop []) (ghost_can [(0, 7)] (by simp only [killL, killA, killAs, killT_srcB, killAs_bsV, qOf, rmT, killH, killT_e, List.filter_cons, List.filter_nil, List.contains_cons, List.contains_nil, Bool.or_false, Bool.or_true, Bool.false_and, Bool.not_true, Bool.not_false, Bool.false_eq_true, if_true, if_false, rnLs, rnL, rn, rns, rns_bsV, sw, SlotsLe, St.get, slotGet, List.map_cons, List.map_nil, seval, AV.int.injEq, AV.bool.injEq, AV.l1.injEq, AV.l2.injEq, AV.l3.injEq, true_and, and_true]) (by simp only [killL, killA, killAs, killT_srcB, killAs_bsV, qOf, rmT, killH, killT_e, List.filter_cons, List.filter_nil, List.contains_cons, List.contains_nil, Bool.or_false, Bool.or_true, Bool.false_and, Bool.not_true, Bool.not_false, Bool.false_eq_true, if_true, if_false, sortH, insH, rnHs, rnH, rnT_e, rnT_srcB, rn, rns, rns_bsV, sw, List.map_cons, List.map_nil, seval]))) ?_
  refine gC fun K hK => ?_
  refine fcall_box (hF) (by simp [Aw.ids]) (by simp [find]) (by simp [closedT, killT_e, killAs, killA, outQ, Aw.ids]) (by simp [killAs, killA, outQ, Aw.ids]) (by simp [Aw.ids]) ?_; simp only [Aw.ids, List.map_cons, List.map_nil, List.filter_cons, List.filter_nil, List.contains_cons, List.contains_nil, Bool.or_false, Bool.or_true, Bool.not_true, Bool.not_false, Nat.reduceBEq, Bool.false_eq_true, if_true, if_false, List.cons_append, List.nil_append]; simp only [go_sem, seval]
  refine hK _ ?_; clear hK K
  refine gC fun K hK => ?_
  refine fcall_box (hA) (by simp [Aw.ids]) (by simp [find]) (by simp [closedT, killT_e, killAs, killA, outQ, Aw.ids]) (by simp [killAs, killA, outQ, Aw.ids]) (by simp [Aw.ids]) ?_; simp only [Aw.ids, List.map_cons, List.map_nil, List.filter_cons, List.filter_nil, List.contains_cons, List.contains_nil, Bool.or_false, Bool.or_true, Bool.not_true, Bool.not_false, Nat.reduceBEq, Bool.false_eq_true, if_true, if_false, List.cons_append, List.nil_append]; simp only [go_sem, seval]
  refine hK _ ?_; clear hK K
  (repeat refine ats_seq ?_); refine AT.ghost (st' := ⟨[(2, .bptr 7 0), (3, .nil), (4, .bptr 0 0), (5, .bptr 8 0)], [(0, srcB s1), (7, .bx [.nil]), (8, .bx [.l3 t])]⟩) (ghost_trans (ghost_drop [2]) (ghost_can [] (by simp only [killL, killA, killAs, killT_srcB, killAs_bsV, qOf, rmT, killH, killT_e, List.filter_cons, List.filter_nil, List.contains_cons, List.contains_nil, Bool.or_false, Bool.or_true, Bool.false_and, Bool.not_true, Bool.not_false, Bool.false_eq_true, if_true, if_false, rnLs, rnL, rn, rns, rns_bsV, sw, SlotsLe, St.get, slotGet, List.map_cons, List.map_nil, seval, AV.int.injEq, AV.bool.injEq, AV.l1.injEq, AV.l2.injEq, AV.l3.injEq, true_and, and_true]) (by simp only [killL, killA, killAs, killT_srcB, killAs_bsV, qOf, rmT, killH, killT_e, List.filter_cons, List.filter_nil, List.contains_cons, List.contains_nil, Bool.or_false, Bool.or_true, Bool.false_and, Bool.not_true, Bool.not_false, Bool.false_eq_true, if_true, if_false, sortH, insH, rnHs, rnH, rnT_e, rnT_srcB, rn, rns, rns_bsV, sw, List.map_cons, List.map_nil, seval]))) ?_
  refine gC fun K hK => ?_
  first | refine fcall_data (hI) rfl ?_ | refine YR_intro (acall_data (hI) rfl) ?_
  simp only [go_sem, seval]
  refine YR_intro (v := .int 0) (by first | trivial | (intro h; cases h)) ?_
  simp only [go_sem, seval]
  refine hK _ ?_; clear hK K
  (repeat refine ats_seq ?_); refine ats_no rfl trivial ?_
  refine ats_skip ?_
  (repeat refine ats_seq ?_); refine AT.ghost (st' := ⟨[(2, .bptr 7 0), (3, .nil), (4, .bptr 0 0), (5, .bptr 8 0)], [(0, srcB s1), (7, .bx [.nil]), (8, .bx [.l3 t])]⟩) (ghost_trans (ghost_drop []) (ghost_can [] (by simp only [killL, killA, killAs, killT_srcB, killAs_bsV, qOf, rmT, killH, killT_e, List.filter_cons, List.filter_nil, List.contains_cons, List.contains_nil, Bool.or_false, Bool.or_true, Bool.false_and, Bool.not_true, Bool.not_false, Bool.false_eq_true, if_true, if_false, rnLs, rnL, rn, rns, rns_bsV, sw, SlotsLe, St.get, slotGet, List.map_cons, List.map_nil, seval, AV.int.injEq, AV.bool.injEq, AV.l1.injEq, AV.l2.injEq, AV.l3.injEq, true_and, and_true]) (by simp only [killL, killA, killAs, killT_srcB, killAs_bsV, qOf, rmT, killH, killT_e, List.filter_cons, List.filter_nil, List.contains_cons, List.contains_nil, Bool.or_false, Bool.or_true, Bool.false_and, Bool.not_true, Bool.not_false, Bool.false_eq_true, if_true, if_false, sortH, insH, rnHs, rnH, rnT_e, rnT_srcB, rn, rns, rns_bsV, sw, List.map_cons, List.map_nil, seval]))) ?_
  (repeat refine ats_seq ?_)
  obtain ⟨z0, ez0⟩ : ∃ z : St, z = ⟨[(2, .bptr 7 0), (5, .bptr 8 0), (27, .bptr 0 0)], [(0, srcB s1), (7, .bx [.nil]), (8, .bx [.l3 t])]⟩ := ⟨_, rfl⟩
  obtain ⟨z1, ez1⟩ : ∃ z : St, z = ⟨[(2, .bptr 7 0), (5, .bptr 8 0), (26, .agg [.l3 t]), (27, .bptr 0 0)], [(0, srcB s1), (7, .bx [.nil]), (8, .bx [.l3 t])]⟩ := ⟨_, rfl⟩
  obtain ⟨z2, ez2⟩ : ∃ z : St, z = ⟨[(2, .bptr 7 0), (5, .bptr 8 0), (27, .bptr 0 0), (28, .bptr 8 0)], [(0, srcB s1), (7, .bx [.nil]), (8, .bx [.l3 t])]⟩ := ⟨_, rfl⟩
  obtain ⟨z3, ez3⟩ : ∃ z : St, z = ⟨[(2, .bptr 7 0), (26, .agg [.l3 t]), (27, .bptr 0 0), (28, .bptr 8 0)], [(0, srcB s1), (7, .bx [.nil]), (8, .bx [.l3 t])]⟩ := ⟨_, rfl⟩
  obtain ⟨z4, ez4⟩ : ∃ z : St, z = ⟨[(2, .bptr 7 0), (5, .bptr 8 0), (27, .bptr 0 0), (29, .l3 t)], [(0, srcB s1), (7, .bx [.nil]), (8, .bx [.l3 t])]⟩ := ⟨_, rfl⟩
  obtain ⟨z5, ez5⟩ : ∃ z : St, z = ⟨[(2, .bptr 7 0), (26, .agg [.l3 t]), (27, .bptr 0 0), (29, .l3 t)], [(0, srcB s1), (7, .bx [.nil]), (8, .bx [.l3 t])]⟩ := ⟨_, rfl⟩
  obtain ⟨z6, ez6⟩ : ∃ z : St, z = ⟨[(2, .bptr 7 0), (5, .bptr 8 0), (27, .bptr 0 0), (30, .int t.length)], [(0, srcB s1), (7, .bx [.nil]), (8, .bx [.l3 t])]⟩ := ⟨_, rfl⟩
  obtain ⟨z7, ez7⟩ : ∃ z : St, z = ⟨[(2, .bptr 7 0), (26, .agg [.l3 t]), (27, .bptr 0 0), (30, .int t.length)], [(0, srcB s1), (7, .bx [.nil]), (8, .bx [.l3 t])]⟩ := ⟨_, rfl⟩
  obtain ⟨z8, ez8⟩ : ∃ z : St, z = ⟨[(2, .bptr 7 0), (5, .bptr 8 0), (31, .l1 x.1)], [(0, srcB x.2), (7, .bx [.nil]), (8, .bx [.l3 t])]⟩ := ⟨_, rfl⟩
  obtain ⟨z9, ez9⟩ : ∃ z : St, z = ⟨[(2, .bptr 7 0), (26, .agg [.l3 t]), (31, .l1 x.1)], [(0, srcB x.2), (7, .bx [.nil]), (8, .bx [.l3 t])]⟩ := ⟨_, rfl⟩
  obtain ⟨z10, ez10⟩ : ∃ z : St, z = ⟨[(2, .bptr 7 0), (31, .l1 x.1)], [(0, srcB x.2), (7, .bx [.l3 t]), (8, .bx [.l3 t])]⟩ := ⟨_, rfl⟩
  obtain ⟨z11, ez11⟩ : ∃ z : St, z = ⟨[(2, .bptr 7 0), (3, .l1 x.1)], [(0, srcB x.2), (7, .bx [.l3 t]), (8, .bx [.l3 t])]⟩ := ⟨_, rfl⟩
  refine ats_table [5] [1] [[1], [0, 1], [1, 2], [0, 1, 2], [1, 2, 3], [0, 1, 2, 3], [1, 2, 3, 4], [0, 1, 2, 3, 4], [1, 2, 3, 4, 5], [0, 1, 2, 3, 4, 5], [0, 1, 2, 3, 4, 5, 6], [0, 1, 2, 3, 4, 5, 6, 7]] [(0, 0, 1), (0, 2, 2), (1, 2, 3), (2, 0, 3), (2, 3, 4), (3, 3, 5), (4, 0, 5), (4, 4, 6), (5, 4, 7), (6, 0, 7), (6, 5, 8), (7, 5, 9), (8, 0, 9), (9, 6, 10), (10, 7, 11)] [z0, z1, z2, z3, z4, z5, z6, z7, z8, z9, z10, z11] hrd (by first | exact fix0 hcx | exact fix1 hcx rfl | exact fixN hcx rfl) mixed (by kernel_rfl) ?_ ?_ ?_
  ·show mvTRun _ _ _ _ _ _ (fun s => Ghost _ _ s z0)
   rw [ez0]; simp only [go_sem, seval]; exact gD3
  ·refine ⟨?_, ?_, ?_, ?_, ?_, ?_, ?_, ?_, ?_, ?_, ?_, ?_, ?_, ?_, ?_, trivial⟩
   ·show gRun _ _ _ _ _ z0 (fun st' => Ghost _ _ st' z1)
    rw [ez0, ez1]; simp only [go_sem, seval]; exact gD4
   ·show gRun _ _ _ _ _ z0 (fun st' => Ghost _ _ st' z2)
    rw [ez0, ez2]; simp only [go_sem, seval]; exact dt_can ⟨rfl, rfl, rfl, rfl, trivial⟩ rfl
   ·show gRun _ _ _ _ _ z1 (fun st' => Ghost _ _ st' z3)
    rw [ez1, ez3]; simp only [go_sem, seval]; exact dt_can ⟨rfl, rfl, rfl, rfl, trivial⟩ rfl
   ·show gRun _ _ _ _ _ z2 (fun st' => Ghost _ _ st' z3)
    rw [ez2, ez3]; simp only [go_sem, seval]; exact gD4
   ·show gRun _ _ _ _ _ z2 (fun st' => Ghost _ _ st' z4)
    rw [ez2, ez4]; simp only [go_sem, seval]; exact gD4
   ·show gRun _ _ _ _ _ z3 (fun st' => Ghost _ _ st' z5)
    rw [ez3, ez5]; simp only [go_sem, seval]; exact gD4
   ·show gRun _ _ _ _ _ z4 (fun st' => Ghost _ _ st' z5)
    rw [ez4, ez5]; simp only [go_sem, seval]; exact gD4
   ·show gRun _ _ _ _ _ z4 (fun st' => Ghost _ _ st' z6)
    rw [ez4, ez6]; simp only [go_sem, seval]; exact gD4
   ·show gRun _ _ _ _ _ z5 (fun st' => Ghost _ _ st' z7)
    rw [ez5, ez7]; simp only [go_sem, seval]; exact gD4
   ·show gRun _ _ _ _ _ z6 (fun st' => Ghost _ _ st' z7)
    rw [ez6, ez7]; simp only [go_sem, seval]; exact gD4
   ·show gRun _ _ _ _ _ z6 (fun st' => Ghost _ _ st' z8)
    rw [ez6, ez8]; simp only [go_sem, seval]; refine fcall_src (hV) rfl rfl ?_; simp only [go_sem, seval]; exact dt_can ⟨rfl, rfl, rfl, trivial⟩ rfl
   ·show gRun _ _ _ _ _ z7 (fun st' => Ghost _ _ st' z9)
    rw [ez7, ez9]; simp only [go_sem, seval]; refine fcall_src (hV) rfl rfl ?_; simp only [go_sem, seval]; exact dt_can ⟨rfl, rfl, rfl, trivial⟩ rfl
   ·show gRun _ _ _ _ _ z8 (fun st' => Ghost _ _ st' z9)
    rw [ez8, ez9]; simp only [go_sem, seval]; exact gD3
   ·show gRun _ _ _ _ _ z9 (fun st' => Ghost _ _ st' z10)
    rw [ez9, ez10]; simp only [go_sem, seval]; exact gD2
   ·show gRun _ _ _ _ _ z10 (fun st' => Ghost _ _ st' z11)
    rw [ez10, ez11]; simp only [go_sem, seval]; exact dt_can ⟨rfl, rfl, trivial⟩ rfl
  show ATs _ _ _ _ _ z11
  rw [ez11]
  clear ez0 ez1 ez2 ez3 ez4 ez5 ez6 ez7 ez8 ez9 ez10 ez11 z0 z1 z2 z3 z4 z5 z6 z7 z8 z9 z10 z11
  exact ats_ret ⟨.inr rfl, .tup [.agg [.l3 t], .l1 x.1], by simp only [resL, resA, go_sem, seval], rfl⟩
 | true =>
  by_cases hq : 0 < q.1
  ·have hS := l04Integers_ok t (isRing_P hr)
   generalize bd (DimP t (outL t)) = b at *
   generalize outL t = L at *
   rw [hr] at hI
   refine ⟨t, L, lt, ?_⟩
   refine PureCall.introR (n := 32) (rs := [.cell 2 26, .tmp 3]) Try.call7 Try.func7 rfl rfl rfl (by simp only [List.length_cons, List.length_nil]; omega) (fun cx hcx hrd => ats_of ?_); simp only [argSlots, Nat.zero_add, Nat.reduceAdd]
   refine gB ?_
   (repeat refine ats_seq ?_); refine AT.ghost (st' := ⟨[(0, .lv (bsV c)), (2, .bptr 7 0), (3, .nil)], [(7, .bx [.nil])]⟩) (ghost_trans (ghost_drop []) (ghost_can [(0, 7)] (by simp only [killL, killA, killAs, killT_srcB, killAs_bsV, qOf, rmT, killH, killT_e, List.filter_cons, List.filter_nil, List.contains_cons, List.contains_nil, Bool.or_false, Bool.or_true, Bool.false_and, Bool.not_true, Bool.not_false, Bool.false_eq_true, if_true, if_false, rnLs, rnL, rn, rns, rns_bsV, sw, SlotsLe, St.get, slotGet, List.map_cons, List.map_nil, seval, AV.int.injEq, AV.bool.injEq, AV.l1.injEq, AV.l2.injEq, AV.l3.injEq, true_and, and_true]) (by simp only [killL, killA, killAs, killT_srcB, killAs_bsV, qOf, rmT, killH, killT_e, List.filter_cons, List.filter_nil, List.contains_cons, List.contains_nil, Bool.or_false, Bool.or_true, Bool.false_and, Bool.not_true, Bool.not_false, Bool.false_eq_true, if_true, if_false, sortH, insH, rnHs, rnH, rnT_e, rnT_srcB, rn, rns, rns_bsV, sw, List.map_cons, List.map_nil, seval]))) ?_
   refine gC fun K hK => ?_
   refine fcall_box (hF) (by simp [Aw.ids]) (by simp [find]) (by simp [closedT, killT_e, killAs, killA, outQ, Aw.ids]) (by simp [killAs, killA, outQ, Aw.ids]) (by simp [Aw.ids]) ?_; simp only [Aw.ids, List.map_cons, List.map_nil, List.filter_cons, List.filter_nil, List.contains_cons, List.contains_nil, Bool.or_false, Bool.or_true, Bool.not_true, Bool.not_false, Nat.reduceBEq, Bool.false_eq_true, if_true, if_false, List.cons_append, List.nil_append]; simp only [go_sem, seval]
   refine hK _ ?_; clear hK K
   refine gC fun K hK => ?_
   refine fcall_box (hA) (by simp [Aw.ids]) (by simp [find]) (by simp [closedT, killT_e, killAs, killA, outQ, Aw.ids]) (by simp [killAs, killA, outQ, Aw.ids]) (by simp [Aw.ids]) ?_; simp only [Aw.ids, List.map_cons, List.map_nil, List.filter_cons, List.filter_nil, List.contains_cons, List.contains_nil, Bool.or_false, Bool.or_true, Bool.not_true, Bool.not_false, Nat.reduceBEq, Bool.false_eq_true, if_true, if_false, List.cons_append, List.nil_append]; simp only [go_sem, seval]
   refine hK _ ?_; clear hK K
   (repeat refine ats_seq ?_); refine AT.ghost (st' := ⟨[(2, .bptr 7 0), (3, .nil), (4, .bptr 0 0), (5, .bptr 8 0)], [(0, srcB s1), (7, .bx [.nil]), (8, .bx [.l3 t])]⟩) (ghost_trans (ghost_drop [2]) (ghost_can [] (by simp only [killL, killA, killAs, killT_srcB, killAs_bsV, qOf, rmT, killH, killT_e, List.filter_cons, List.filter_nil, List.contains_cons, List.contains_nil, Bool.or_false, Bool.or_true, Bool.false_and, Bool.not_true, Bool.not_false, Bool.false_eq_true, if_true, if_false, rnLs, rnL, rn, rns, rns_bsV, sw, SlotsLe, St.get, slotGet, List.map_cons, List.map_nil, seval, AV.int.injEq, AV.bool.injEq, AV.l1.injEq, AV.l2.injEq, AV.l3.injEq, true_and, and_true]) (by simp only [killL, killA, killAs, killT_srcB, killAs_bsV, qOf, rmT, killH, killT_e, List.filter_cons, List.filter_nil, List.contains_cons, List.contains_nil, Bool.or_false, Bool.or_true, Bool.false_and, Bool.not_true, Bool.not_false, Bool.false_eq_true, if_true, if_false, sortH, insH, rnHs, rnH, rnT_e, rnT_srcB, rn, rns, rns_bsV, sw, List.map_cons, List.map_nil, seval]))) ?_
   (repeat refine ats_seq ?_); refine ats_goU (by first | exact fix0 hcx | exact fix1 hcx rfl | exact fixN hcx rfl) fun K hK => ?_; simp only [go_sem, seval, u_nil, u_cons, UK_ap, ung_eq, gOk_none, gOk_some, List.getElem?_toArray, List.getElem?_cons_zero, List.getElem?_cons_succ, true_and, and_true]
   first | refine fcall_data (hI) rfl ?_ | refine YR_intro (acall_data (hI) rfl) ?_
   simp only [go_sem, seval]
   simp only [go_sem, seval, u_nil, u_cons, UK_ap, ung_eq, gOk_none, gOk_some, List.getElem?_toArray, List.getElem?_cons_zero, List.getElem?_cons_succ, true_and, and_true]
   refine fcall_src (hN) rfl rfl ?_; simp only [go_sem, seval]
   simp only [go_sem, seval, u_nil, u_cons, UK_ap, ung_eq, gOk_none, gOk_some, List.getElem?_toArray, List.getElem?_cons_zero, List.getElem?_cons_succ, true_and, and_true]
   refine hK _ ?_; clear hK K
   refine gI (fun hz => ?_) fun hz => ?_
   rotate_left
   ·exact absurd hq hz
   refine gC fun K hK => ?_
   first | refine fcall_data (hS) rfl ?_ | refine YR_intro (acall_data (hS) rfl) ?_
   simp only [go_sem, seval]
   refine hK _ ?_; clear hK K
   refine gB ?_
   exact ats_ret ⟨.inr rfl, .tup [.agg [.l3 t], .l1 L], by simp only [resL, resA, go_sem, seval], rfl⟩
  ·have hV := l03DrawVector_ok q.2 ok2 t.length (by omega)
   generalize dVec t.length q.2 = x at *
   rw [hr] at hI
   refine ⟨t, x.1, lt, ?_⟩
   refine PureCall.introR (n := 32) (rs := [.cell 2 26, .tmp 3]) Try.call7 Try.func7 rfl rfl rfl (by simp only [List.length_cons, List.length_nil]; omega) (fun cx hcx hrd => ats_of ?_); simp only [argSlots, Nat.zero_add, Nat.reduceAdd]
   refine gB ?_
   (repeat refine ats_seq ?_); refine AT.ghost (st' := ⟨[(0, .lv (bsV c)), (2, .bptr 7 0), (3, .nil)], [(7, .bx [.nil])]⟩) (ghost_trans (ghost_drop []) (ghost_can [(0, 7)] (by simp only [killL, killA, killAs, killT_srcB, killAs_bsV, qOf, rmT, killH, killT_e, List.filter_cons, List.filter_nil, List.contains_cons, List.contains_nil, Bool.or_false, Bool.or_true, Bool.false_and, Bool.not_true, Bool.not_false, Bool.false_eq_true, if_true, if_false, rnLs, rnL, rn, rns, rns_bsV, sw, SlotsLe, St.get, slotGet, List.map_cons, List.map_nil, seval, AV.int.injEq, AV.bool.injEq, AV.l1.injEq, AV.l2.injEq, AV.l3.injEq, true_and, and_true]) (by simp only [killL, killA, killAs, killT_srcB, killAs_bsV, qOf, rmT, killH, killT_e, List.filter_cons, List.filter_nil, List.contains_cons, List.contains_nil, Bool.or_false, Bool.or_true, Bool.false_and, Bool.not_true, Bool.not_false, Bool.false_eq_true, if_true, if_false, sortH, insH, rnHs, rnH, rnT_e, rnT_srcB, rn, rns, rns_bsV, sw, List.map_cons, List.map_nil, seval]))) ?_
   refine gC fun K hK => ?_
   refine fcall_box (hF) (by simp [Aw.ids]) (by simp [find]) (by simp [closedT, killT_e, killAs, killA, outQ, Aw.ids]) (by simp [killAs, killA, outQ, Aw.ids]) (by simp [Aw.ids]) ?_; simp only [Aw.ids, List.map_cons, List.map_nil, List.filter_cons, List.filter_nil, List.contains_cons, List.contains_nil, Bool.or_false, Bool.or_true, Bool.not_true, Bool.not_false, Nat.reduceBEq, Bool.false_eq_true, if_true, if_false, List.cons_append, List.nil_append]; simp only [go_sem, seval]
   refine hK _ ?_; clear hK K
   refine gC fun K hK => ?_
   refine fcall_box (hA) (by simp [Aw.ids]) (by simp [find]) (by simp [closedT, killT_e, killAs, killA, outQ, Aw.ids]) (by simp [killAs, killA, outQ, Aw.ids]) (by simp [Aw.ids]) ?_; simp only [Aw.ids, List.map_cons, List.map_nil, List.filter_cons, List.filter_nil, List.contains_cons, List.contains_nil, Bool.or_false, Bool.or_true, Bool.not_true, Bool.not_false, Nat.reduceBEq, Bool.false_eq_true, if_true, if_false, List.cons_append, List.nil_append]; simp only [go_sem, seval]
   refine hK _ ?_; clear hK K
   (repeat refine ats_seq ?_); refine AT.ghost (st' := ⟨[(2, .bptr 7 0), (3, .nil), (4, .bptr 0 0), (5, .bptr 8 0)], [(0, srcB s1), (7, .bx [.nil]), (8, .bx [.l3 t])]⟩) (ghost_trans (ghost_drop [2]) (ghost_can [] (by simp only [killL, killA, killAs, killT_srcB, killAs_bsV, qOf, rmT, killH, killT_e, List.filter_cons, List.filter_nil, List.contains_cons, List.contains_nil, Bool.or_false, Bool.or_true, Bool.false_and, Bool.not_true, Bool.not_false, Bool.false_eq_true, if_true, if_false, rnLs, rnL, rn, rns, rns_bsV, sw, SlotsLe, St.get, slotGet, List.map_cons, List.map_nil, seval, AV.int.injEq, AV.bool.injEq, AV.l1.injEq, AV.l2.injEq, AV.l3.injEq, true_and, and_true]) (by simp only [killL, killA, killAs, killT_srcB, killAs_bsV, qOf, rmT, killH, killT_e, List.filter_cons, List.filter_nil, List.contains_cons, List.contains_nil, Bool.or_false, Bool.or_true, Bool.false_and, Bool.not_true, Bool.not_false, Bool.false_eq_true, if_true, if_false, sortH, insH, rnHs, rnH, rnT_e, rnT_srcB, rn, rns, rns_bsV, sw, List.map_cons, List.map_nil, seval]))) ?_
   (repeat refine ats_seq ?_); refine ats_goU (by first | exact fix0 hcx | exact fix1 hcx rfl | exact fixN hcx rfl) fun K hK => ?_; simp only [go_sem, seval, u_nil, u_cons, UK_ap, ung_eq, gOk_none, gOk_some, List.getElem?_toArray, List.getElem?_cons_zero, List.getElem?_cons_succ, true_and, and_true]
   first | refine fcall_data (hI) rfl ?_ | refine YR_intro (acall_data (hI) rfl) ?_
   simp only [go_sem, seval]
   simp only [go_sem, seval, u_nil, u_cons, UK_ap, ung_eq, gOk_none, gOk_some, List.getElem?_toArray, List.getElem?_cons_zero, List.getElem?_cons_succ, true_and, and_true]
   refine fcall_src (hN) rfl rfl ?_; simp only [go_sem, seval]
   simp only [go_sem, seval, u_nil, u_cons, UK_ap, ung_eq, gOk_none, gOk_some, List.getElem?_toArray, List.getElem?_cons_zero, List.getElem?_cons_succ, true_and, and_true]
   refine hK _ ?_; clear hK K
   refine gI (fun hz => ?_) fun hz => ?_
   ·exact absurd hz hq
   refine ats_skip ?_
   (repeat refine ats_seq ?_); refine AT.ghost (st' := ⟨[(2, .bptr 7 0), (3, .nil), (4, .bptr 0 0), (5, .bptr 8 0)], [(0, srcB q.2), (7, .bx [.nil]), (8, .bx [.l3 t])]⟩) (ghost_trans (ghost_drop []) (ghost_can [] (by simp only [killL, killA, killAs, killT_srcB, killAs_bsV, qOf, rmT, killH, killT_e, List.filter_cons, List.filter_nil, List.contains_cons, List.contains_nil, Bool.or_false, Bool.or_true, Bool.false_and, Bool.not_true, Bool.not_false, Bool.false_eq_true, if_true, if_false, rnLs, rnL, rn, rns, rns_bsV, sw, SlotsLe, St.get, slotGet, List.map_cons, List.map_nil, seval, AV.int.injEq, AV.bool.injEq, AV.l1.injEq, AV.l2.injEq, AV.l3.injEq, true_and, and_true]) (by simp only [killL, killA, killAs, killT_srcB, killAs_bsV, qOf, rmT, killH, killT_e, List.filter_cons, List.filter_nil, List.contains_cons, List.contains_nil, Bool.or_false, Bool.or_true, Bool.false_and, Bool.not_true, Bool.not_false, Bool.false_eq_true, if_true, if_false, sortH, insH, rnHs, rnH, rnT_e, rnT_srcB, rn, rns, rns_bsV, sw, List.map_cons, List.map_nil, seval]))) ?_
   (repeat refine ats_seq ?_)
   obtain ⟨z0, ez0⟩ : ∃ z : St, z = ⟨[(2, .bptr 7 0), (5, .bptr 8 0), (27, .bptr 0 0)], [(0, srcB q.2), (7, .bx [.nil]), (8, .bx [.l3 t])]⟩ := ⟨_, rfl⟩
   obtain ⟨z1, ez1⟩ : ∃ z : St, z = ⟨[(2, .bptr 7 0), (5, .bptr 8 0), (26, .agg [.l3 t]), (27, .bptr 0 0)], [(0, srcB q.2), (7, .bx [.nil]), (8, .bx [.l3 t])]⟩ := ⟨_, rfl⟩
   obtain ⟨z2, ez2⟩ : ∃ z : St, z = ⟨[(2, .bptr 7 0), (5, .bptr 8 0), (27, .bptr 0 0), (28, .bptr 8 0)], [(0, srcB q.2), (7, .bx [.nil]), (8, .bx [.l3 t])]⟩ := ⟨_, rfl⟩
   obtain ⟨z3, ez3⟩ : ∃ z : St, z = ⟨[(2, .bptr 7 0), (26, .agg [.l3 t]), (27, .bptr 0 0), (28, .bptr 8 0)], [(0, srcB q.2), (7, .bx [.nil]), (8, .bx [.l3 t])]⟩ := ⟨_, rfl⟩
   obtain ⟨z4, ez4⟩ : ∃ z : St, z = ⟨[(2, .bptr 7 0), (5, .bptr 8 0), (27, .bptr 0 0), (29, .l3 t)], [(0, srcB q.2), (7, .bx [.nil]), (8, .bx [.l3 t])]⟩ := ⟨_, rfl⟩
   obtain ⟨z5, ez5⟩ : ∃ z : St, z = ⟨[(2, .bptr 7 0), (26, .agg [.l3 t]), (27, .bptr 0 0), (29, .l3 t)], [(0, srcB q.2), (7, .bx [.nil]), (8, .bx [.l3 t])]⟩ := ⟨_, rfl⟩
   obtain ⟨z6, ez6⟩ : ∃ z : St, z = ⟨[(2, .bptr 7 0), (5, .bptr 8 0), (27, .bptr 0 0), (30, .int t.length)], [(0, srcB q.2), (7, .bx [.nil]), (8, .bx [.l3 t])]⟩ := ⟨_, rfl⟩
   obtain ⟨z7, ez7⟩ : ∃ z : St, z = ⟨[(2, .bptr 7 0), (26, .agg [.l3 t]), (27, .bptr 0 0), (30, .int t.length)], [(0, srcB q.2), (7, .bx [.nil]), (8, .bx [.l3 t])]⟩ := ⟨_, rfl⟩
   obtain ⟨z8, ez8⟩ : ∃ z : St, z = ⟨[(2, .bptr 7 0), (5, .bptr 8 0), (31, .l1 x.1)], [(0, srcB x.2), (7, .bx [.nil]), (8, .bx [.l3 t])]⟩ := ⟨_, rfl⟩
   obtain ⟨z9, ez9⟩ : ∃ z : St, z = ⟨[(2, .bptr 7 0), (26, .agg [.l3 t]), (31, .l1 x.1)], [(0, srcB x.2), (7, .bx [.nil]), (8, .bx [.l3 t])]⟩ := ⟨_, rfl⟩
   obtain ⟨z10, ez10⟩ : ∃ z : St, z = ⟨[(2, .bptr 7 0), (31, .l1 x.1)], [(0, srcB x.2), (7, .bx [.l3 t]), (8, .bx [.l3 t])]⟩ := ⟨_, rfl⟩
   obtain ⟨z11, ez11⟩ : ∃ z : St, z = ⟨[(2, .bptr 7 0), (3, .l1 x.1)], [(0, srcB x.2), (7, .bx [.l3 t]), (8, .bx [.l3 t])]⟩ := ⟨_, rfl⟩
   refine ats_table [5] [1] [[1], [0, 1], [1, 2], [0, 1, 2], [1, 2, 3], [0, 1, 2, 3], [1, 2, 3, 4], [0, 1, 2, 3, 4], [1, 2, 3, 4, 5], [0, 1, 2, 3, 4, 5], [0, 1, 2, 3, 4, 5, 6], [0, 1, 2, 3, 4, 5, 6, 7]] [(0, 0, 1), (0, 2, 2), (1, 2, 3), (2, 0, 3), (2, 3, 4), (3, 3, 5), (4, 0, 5), (4, 4, 6), (5, 4, 7), (6, 0, 7), (6, 5, 8), (7, 5, 9), (8, 0, 9), (9, 6, 10), (10, 7, 11)] [z0, z1, z2, z3, z4, z5, z6, z7, z8, z9, z10, z11] hrd (by first | exact fix0 hcx | exact fix1 hcx rfl | exact fixN hcx rfl) mixed (by kernel_rfl) ?_ ?_ ?_
   ·show mvTRun _ _ _ _ _ _ (fun s => Ghost _ _ s z0)
    rw [ez0]; simp only [go_sem, seval]; exact gD3
   ·refine ⟨?_, ?_, ?_, ?_, ?_, ?_, ?_, ?_, ?_, ?_, ?_, ?_, ?_, ?_, ?_, trivial⟩
    ·show gRun _ _ _ _ _ z0 (fun st' => Ghost _ _ st' z1)
     rw [ez0, ez1]; simp only [go_sem, seval]; exact gD4
    ·show gRun _ _ _ _ _ z0 (fun st' => Ghost _ _ st' z2)
     rw [ez0, ez2]; simp only [go_sem, seval]; exact dt_can ⟨rfl, rfl, rfl, rfl, trivial⟩ rfl
    ·show gRun _ _ _ _ _ z1 (fun st' => Ghost _ _ st' z3)
     rw [ez1, ez3]; simp only [go_sem, seval]; exact dt_can ⟨rfl, rfl, rfl, rfl, trivial⟩ rfl
    ·show gRun _ _ _ _ _ z2 (fun st' => Ghost _ _ st' z3)
     rw [ez2, ez3]; simp only [go_sem, seval]; exact gD4
    ·show gRun _ _ _ _ _ z2 (fun st' => Ghost _ _ st' z4)
     rw [ez2, ez4]; simp only [go_sem, seval]; exact gD4
    ·show gRun _ _ _ _ _ z3 (fun st' => Ghost _ _ st' z5)
     rw [ez3, ez5]; simp only [go_sem, seval]; exact gD4
    ·show gRun _ _ _ _ _ z4 (fun st' => Ghost _ _ st' z5)
     rw [ez4, ez5]; simp only [go_sem, seval]; exact gD4
    ·show gRun _ _ _ _ _ z4 (fun st' => Ghost _ _ st' z6)
     rw [ez4, ez6]; simp only [go_sem, seval]; exact gD4
    ·show gRun _ _ _ _ _ z5 (fun st' => Ghost _ _ st' z7)
     rw [ez5, ez7]; simp only [go_sem, seval]; exact gD4
    ·show gRun _ _ _ _ _ z6 (fun st' => Ghost _ _ st' z7)
     rw [ez6, ez7]; simp only [go_sem, seval]; exact gD4
    ·show gRun _ _ _ _ _ z6 (fun st' => Ghost _ _ st' z8)
     rw [ez6, ez8]; simp only [go_sem, seval]; refine fcall_src (hV) rfl rfl ?_; simp only [go_sem, seval]; exact dt_can ⟨rfl, rfl, rfl, trivial⟩ rfl
    ·show gRun _ _ _ _ _ z7 (fun st' => Ghost _ _ st' z9)
     rw [ez7, ez9]; simp only [go_sem, seval]; refine fcall_src (hV) rfl rfl ?_; simp only [go_sem, seval]; exact dt_can ⟨rfl, rfl, rfl, trivial⟩ rfl
    ·show gRun _ _ _ _ _ z8 (fun st' => Ghost _ _ st' z9)
     rw [ez8, ez9]; simp only [go_sem, seval]; exact gD3
    ·show gRun _ _ _ _ _ z9 (fun st' => Ghost _ _ st' z10)
     rw [ez9, ez10]; simp only [go_sem, seval]; exact gD2
    ·show gRun _ _ _ _ _ z10 (fun st' => Ghost _ _ st' z11)
     rw [ez10, ez11]; simp only [go_sem, seval]; exact dt_can ⟨rfl, rfl, trivial⟩ rfl
   show ATs _ _ _ _ _ z11
   rw [ez11]
   clear ez0 ez1 ez2 ez3 ez4 ez5 ez6 ez7 ez8 ez9 ez10 ez11 z0 z1 z2 z3 z4 z5 z6 z7 z8 z9 z10 z11
   exact ats_ret ⟨.inr rfl, .tup [.agg [.l3 t], .l1 x.1], by simp only [resL, resA, go_sem, seval], rfl⟩
theorem implDv_ok (t : Cu) (hr : isRing t = true) (hD : DimP t (dnL t)) (x : List Int) (hx : VecX t.length 1000000 x) : PureCall Try.prog 19 [.agg [.l3 t], .l1 x] (.tup [.int (dot (dnL t) x), .int 0]) := by
 have h0 := IsRing_ok t
 rw [hr] at h0
 have h := isRing_P hr
 have hv := isVector_ok t h.cube.2.1 x
 rw [bd_true hx] at hv
 have hI := intDim_ok t h
 have e : idF t = some (dnL t) := by unfold idF; rw [bd_true hD]; rfl
 rw [e] at hI
 have hs := dn_small h hD
 have lL := (dnL_bd h).1
 have h1 := h.pos
 have hS := sumOfB_ok x (dnL t) t.length hx.1 lL h.cube.2.1 fun y hy => by
  have h1 := hs y hy
  have h2 := hx.2 y hy
  unfold dotG
  refine ⟨Int.mul_nonneg h2.1 (by omega), ?_⟩
  have : x.getD y 0 * (dnL t).getD y 0 ≤ 1000000 * 16000 := Int.mul_le_mul h2.2 h1.2 (by omega) (by decide)
  omega
 generalize dnL t = L at *
 have hI : FreshCall Try.prog 57 [.agg [.l3 t]] (.l1 L) := hI
 refine PureCall.intro (n := 21) (rs := [.tmp 4, .tmp 5]) Try.call19 Try.func19 rfl rfl rfl (by simp only [List.length_cons, List.length_nil]; omega) (fun cx hcx => ats_of ?_); simp only [argSlots, Nat.zero_add, Nat.reduceAdd]
 refine gB ?_
 refine gC fun K hK => ?_
 first | refine fcall_data (h0) rfl ?_ | refine YR_intro (acall_data (h0) rfl) ?_
 simp only [go_sem, seval]
 refine hK _ ?_; clear hK K
 (repeat refine ats_seq ?_); refine ats_no rfl trivial ?_
 refine ats_skip ?_
 refine gC fun K hK => ?_
 first | refine fcall_data (hv) rfl ?_ | refine YR_intro (acall_data (hv) rfl) ?_
 simp only [go_sem, seval]
 refine hK _ ?_; clear hK K
 (repeat refine ats_seq ?_); refine ats_no rfl trivial ?_
 refine ats_skip ?_
 refine gC fun K hK => ?_
 first | refine fcall_fresh rfl (hI) ?_ | refine YR_intro (acall_fresh rfl (hI)) ?_
 simp only [go_sem, seval]
 (repeat refine aI (hb := ?_))
 refine hK _ ?_; clear hK K
 refine gB ?_
 (repeat refine ats_seq ?_); refine ats_no rfl trivial ?_
 refine ats_skip ?_
 refine gC fun K hK => ?_
 first | refine fcall_data (hS) rfl ?_ | refine YR_intro (acall_data (hS) rfl) ?_
 simp only [go_sem, seval]
 refine hK _ ?_; clear hK K
 exact ats_ret (fin2 trivial trivial rfl)
theorem sum_first {f : Nat → Int} {A B : Int} : ∀ {n : Nat}, f 0 ≤ A → (∀ i, 1 ≤ i → i < n → f i ≤ B) → 1 ≤ n → sumTo f n ≤ A + ((n : Int) - 1) * B
 | 0, _, _, h => absurd h (by decide)
 | n + 1, hA, hB, _ => by
  show sumTo f n + f n ≤ _
  by_cases h0 : n = 0
  ·subst h0
   have e : sumTo f 0 = 0 := rfl
   rw [e]
   have e2 : (((0 + 1 : Nat) : Int) - 1) * B = 0 := by rw [show ((0 + 1 : Nat) : Int) - 1 = 0 by omega, Int.zero_mul]
   omega
  ·have ih := sum_first (n := n) hA (fun i h1 h2 => hB i h1 (by omega)) (by omega)
   have h2 := hB n (by omega) (by omega)
   have e2 : (((n + 1 : Nat) : Int) - 1) * B = ((n : Int) - 1) * B + B := by
    rw [show ((n + 1 : Nat) : Int) - 1 = ((n : Int) - 1) + 1 by omega, Int.add_mul, Int.one_mul]
   omega
theorem prodL_sm {t : Cu} (hc : Cube t) {x y : List Int} {X Y B : Int} (hx : VecX t.length X x) (hy : VecX t.length Y y) (hX : 0 ≤ X) (hXY : X * Y * 1000 ≤ B) : VecX t.length (t.length * (t.length * B)) (prodL t x y) := by
 refine ⟨prodL_len, fun k hk => ?_⟩
 rw [prodL_get hk]
 unfold prodV
 have hT : ∀ i, i < t.length → ∀ j, j < t.length → 0 ≤ pTm t x y k i j ∧ pTm t x y k i j ≤ B := fun i hi j hj => by
  have a := hx.2 i hi
  have b := hy.2 j hj
  have c : 0 ≤ e3 t i j k ∧ e3 t i j k ≤ 1000 := hc.inM hi hj hk
  have m1 : x.getD i 0 * y.getD j 0 ≤ X * Y := Int.mul_le_mul a.2 b.2 b.1 hX
  have m0 : 0 ≤ x.getD i 0 * y.getD j 0 := Int.mul_nonneg a.1 b.1
  have m2 : x.getD i 0 * y.getD j 0 * e3 t i j k ≤ X * Y * 1000 := Int.mul_le_mul m1 c.2 c.1 (by omega)
  exact ⟨Int.mul_nonneg m0 c.1, by unfold pTm; omega⟩
 exact sumTo_le (n := t.length) (fun i hi => sumTo_le (n := t.length) (fun j hj => hT i hi j hj))
theorem prod8 {t : Cu} (h : RingP t) (h8 : t.length ≤ 8) {x y : List Int} (hx : VecX t.length 4 x) (hy : VecX t.length 4 y) : VecX t.length 1000000 (prodL t x y) := by
 have hp := prodL_sm (B := 16000) h.cube hx hy (by decide) (by decide)
 refine ⟨hp.1, fun k hk => ⟨(hp.2 k hk).1, ?_⟩⟩
 rw [prodL_get hk]
 unfold prodV
 have hT : ∀ i, i < t.length → ∀ j, j < t.length → 0 ≤ pTm t x y k i j ∧ pTm t x y k i j ≤ 16000 := fun i hi j hj => by
  have a := hx.2 i hi
  have b := hy.2 j hj
  have c : 0 ≤ e3 t i j k ∧ e3 t i j k ≤ 1000 := h.cube.inM hi hj hk
  have m1 : x.getD i 0 * y.getD j 0 ≤ 4 * 4 := Int.mul_le_mul a.2 b.2 b.1 (by decide)
  have m0 : 0 ≤ x.getD i 0 * y.getD j 0 := Int.mul_nonneg a.1 b.1
  have m2 : x.getD i 0 * y.getD j 0 * e3 t i j k ≤ 16 * 1000 := Int.mul_le_mul (by omega) c.2 c.1 (by decide)
  exact ⟨Int.mul_nonneg m0 c.1, by unfold pTm; omega⟩
 have f0 : sumTo (pTm t x y k 0) t.length ≤ 16 := by
  have e : sumTo (pTm t x y k 0) t.length = sumTo (fun j => if j = k then x.getD 0 0 * y.getD j 0 else 0) t.length := sum_congr fun j hj => by
   unfold pTm
   rw [h.left j hj k hk]
   unfold dl
   by_cases c : j = k
   ·subst c; rw [if_pos rfl, if_pos rfl, Int.mul_one]
   ·rw [if_neg c, if_neg (by omega), Int.mul_zero]
  rw [e, sum_one (f := fun j => x.getD 0 0 * y.getD j 0) hk]
  have a := hx.2 0 h.pos
  have b := hy.2 k hk
  have : x.getD 0 0 * y.getD k 0 ≤ 4 * 4 := Int.mul_le_mul a.2 b.2 b.1 (by decide)
  omega
 have hs := sum_first (f := fun i => sumTo (pTm t x y k i) t.length) (A := 16) (B := 128000) (n := t.length) f0 (fun i h1 hi => by
  have := (sumTo_le (n := t.length) (fun j hj => hT i hi j hj)).2
  omega) h.pos
 omega
theorem dim_prod {t : Cu} {D : List Int} (hD : DimP t D) {x y : List Int} (lx : x.length = t.length) (ly : y.length = t.length) : dot D (prodL t x y) = dot D x * dot D y := by
 have lp : (prodL t x y).length = t.length := prodL_len
 unfold dot
 rw [lp, lx, ly]
 have e1 : sumTo (dotG (prodL t x y) D) t.length = sumTo (fun k => sumTo (fun i => sumTo (fun j => x.getD i 0 * y.getD j 0 * (e3 t i j k * D.getD k 0)) t.length) t.length) t.length := sum_congr fun k hk => by
  unfold dotG
  rw [prodL_get hk]
  unfold prodV
  rw [← sum_mul]
  refine sum_congr fun i _ => ?_
  rw [← sum_mul]
  exact sum_congr fun j _ => by unfold pTm; exact Int.mul_assoc ..
 rw [e1, sum_comm, ← sum_mul]
 refine sum_congr fun i hi => ?_
 rw [sum_comm]
 unfold dotG
 rw [← cmul]
 refine sum_congr fun j hj => ?_
 rw [cmul]
 have := hD.1 i hi j hj
 unfold dsum at this
 rw [this]
 ac_rfl
end Go.Proofs.Ytjcfefgbieeheaa
