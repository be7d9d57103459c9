import Derived.Test.YtcmgjlgmajhekaaPl6
import Derived.Test.YtcmgjlgmajhekaaLib6
import Derived.Test.YtcmgjlgmajhekaaWx2
import Derived.Test.YtcmgjlgmajhekaaGa
set_option linter.unusedSimpArgs false
set_option linter.unusedVariables false
namespace Go.Proofs.Ytcmgjlgmajhekaa
open Go Go.Aw Go.Pl
theorem l06Orders_ok (o : List Int) : PureCall Try.prog 29 [.l1 o] (.bool (bd (PosO o))) := by
 refine PureCall.intro (n := 18) (rs := [.tmp 2]) Try.call29 Try.func29 rfl rfl rfl (by simp only [List.length_cons, List.length_nil]; omega) (fun cx hcx => ats_of ?_); simp only [argSlots, Nat.zero_add, Nat.reduceAdd]
 refine gA ?_
 refine ats_know 0 fun h0 => ?_; simp only [St.get, slotGet, Nat.reduceEqDiff, ↓reduceIte, if_true, fact, facts] at h0
 have hlen := h0.1
 refine gA ?_
 (repeat refine ats_seq ?_); refine ats_loop (fun k : Nat => ⟨[(0, .l1 o), (3, .int k)], []⟩) (fun k => k ≤ o.length ∧ ∀ i, i < k → 1 ≤ o.getD i 0) (fun k => o.length - k) 0 ⟨Nat.zero_le _, fun a h => absurd h (Nat.not_lt_zero a)⟩ (by
  refine And.intro ?_ rfl; simp only [leS, Nat.reduceEqDiff, ↓reduceIte, true_and, and_true]
  rfl) (fun k hk => ?_)
 obtain ⟨hk, hK'⟩ := hk
 refine gA ?_
 refine gI (fun h1 => ?_) fun h1 => ?_
 ·refine ats_skip ?_
  (repeat refine ats_seq ?_); refine ats_block ?_
  refine gB ?_
  refine gI (fun h2 => ?_) fun h2 => ?_
  ·refine gA ?_
   refine ats_ret (finB rfl ?_)
   exact (bd_false (fun h => by have := h.2 k (by omega); omega)).symm
  ·refine ats_skip ?_
   refine gB ?_
   refine ⟨k + 1,  ⟨by omega, fun a ha => by rcases Nat.lt_succ_iff_lt_or_eq.1 ha with h | rfl; exact hK' a h; omega⟩, by omega, .inl ⟨?_, rfl⟩⟩; simp only [leS, Nat.reduceEqDiff, ↓reduceIte, true_and, and_true]
   omega
 ·refine ats_exit (lq_x ?_)
  refine gA ?_
  refine ats_ret (finB rfl ?_)
  by_cases h3 : 0 < o.length
  ·rw [bd_true (show PosO o from ⟨h3, fun i hi => hK' i (by omega)⟩)]
   exact decide_eq_true (by omega)
  ·rw [bd_false (fun h : PosO o => h3 h.1)]
   exact decide_eq_false (by omega)
theorem l06Size_ok (o : List Int) (h : PosO o) : PureCall Try.prog 54 [.l1 o, .int 8] (.int (siz8 o)) := by
 refine PureCall.intro (n := 33) (rs := [.tmp 4]) Try.call54 Try.func54 rfl rfl rfl (by simp only [List.length_cons, List.length_nil]; omega) (fun cx hcx => ats_of ?_); simp only [argSlots, Nat.zero_add, Nat.reduceAdd]
 refine gA ?_
 refine ats_know 0 fun h0 => ?_; simp only [St.get, slotGet, Nat.reduceEqDiff, ↓reduceIte, if_true, fact, facts] at h0
 have hlen := h0.1
 refine gA ?_
 refine gA ?_
 (repeat refine ats_seq ?_); refine ats_loop (fun k : Nat => ⟨[(0, .l1 o), (1, .int 8), (5, .int (frP o k)), (6, .int k)], []⟩) (fun k => k ≤ o.length ∧ frP o k ≤ 8) (fun k => o.length - k) 0 ⟨Nat.zero_le _, by simp [frP]⟩ (by
  refine And.intro ?_ rfl; simp only [leS, Nat.reduceEqDiff, ↓reduceIte, true_and, and_true]
  first | exact ⟨rfl, rfl⟩ | rfl) (fun k hk => ?_)
 obtain ⟨hk, hf⟩ := hk
 have hb := frP_bd (j := o.length) h.2 k hk
 rw [frP_full] at hb
 refine gA ?_
 refine gI (fun h1 => ?_) fun h1 => ?_
 ·have he := entry_le h (show k < o.length by omega)
  have ho := h.2 k (by omega)
  refine ats_skip ?_
  (repeat refine ats_seq ?_); refine ats_block ?_
  refine gB ?_
  refine gI (fun h2 => ?_) fun h2 => ?_
  ·refine gB ?_
   refine ats_ret (finI rfl ?_)
   unfold siz8
   rw [if_neg (by omega)]
  ·have hb1 := frP_bd (j := o.length) h.2 (k + 1) (by omega)
   have m1 : frP o k * o.getD k 0 ≤ 8 * 8 := Int.mul_le_mul (by omega) (by omega) (by omega) (by omega)
   rw [frP_full] at hb1
   simp only [frP] at hb1
   refine ats_skip ?_
   refine gB ?_
   refine gA ?_
   refine gI (fun h3 => ?_) fun h3 => ?_
   ·refine gB ?_
    refine ats_ret (finI rfl ?_)
    unfold siz8
    rw [if_neg (by omega)]
   ·refine ats_skip ?_
    refine gB ?_
    refine ⟨k + 1,  ⟨by omega, by simp only [frP]; omega⟩, by omega, .inl ⟨?_, rfl⟩⟩; simp only [leS, Nat.reduceEqDiff, ↓reduceIte, true_and, and_true]
    first | exact ⟨rfl, by omega⟩ | omega
 ·obtain rfl : k = o.length := by omega
  rw [frP_full] at hf ⊢
  refine ats_exit (lq_x ?_)
  refine gA ?_
  refine ats_ret (finI rfl ?_)
  unfold siz8
  rw [if_pos hf]
theorem l17Size_ok (o : List Int) (h : PosO o) : PureCall Try.prog 25 [.l1 o] (.int (siz8 o)) := by
 refine PureCall.intro (n := 5) (rs := [.tmp 2]) Try.call25 Try.func25 rfl rfl rfl (by simp only [List.length_cons, List.length_nil]; omega) (fun cx hcx => ats_of ?_); simp only [argSlots, Nat.zero_add, Nat.reduceAdd]
 refine gA ?_
 refine gC fun K hK => ?_
 first | refine fcall_free rfl rfl (l06Size_ok o h) ?_ | refine YR_intro (acall_free rfl rfl (l06Size_ok o h)) ?_
 simp only [go_sem, seval]
 refine hK _ ?_; clear hK K
 refine ats_ret (finI rfl ?_)
 rfl
theorem groupSize_ok (o : List Int) : PureCall Try.prog 58 [.l1 o] (.int (gsz o)) := by
 refine PureCall.intro (n := 24) (rs := [.tmp 2]) Try.call58 Try.func58 rfl rfl rfl (by simp only [List.length_cons, List.length_nil]; omega) (fun cx hcx => ats_of ?_); simp only [argSlots, Nat.zero_add, Nat.reduceAdd]
 refine gA ?_
 refine ats_know 0 fun h0 => ?_; simp only [St.get, slotGet, Nat.reduceEqDiff, ↓reduceIte, if_true, fact, facts] at h0
 have hlen := h0.1
 refine gA ?_
 refine gA ?_
 (repeat refine ats_seq ?_); refine ats_loop (fun k : Nat => ⟨[(0, .l1 o), (3, .int (min17 (frP o k))), (6, .l1 o), (7, .int o.length), (8, .int k)], []⟩) (fun k => k ≤ o.length ∧ ∀ i, i < k → 1 ≤ o.getD i 0) (fun k => o.length - k) 0 ⟨Nat.zero_le _, fun a h => absurd h (Nat.not_lt_zero a)⟩ (by
  refine And.intro ?_ rfl; simp only [leS, Nat.reduceEqDiff, ↓reduceIte, true_and, and_true]
  first | exact ⟨rfl, rfl⟩ | rfl) (fun k hk => ?_)
 obtain ⟨hk, hK'⟩ := hk
 have hb := (frP_bd hK' k (Nat.le_refl _)).1
 refine gA ?_
 refine gI (fun h1 => ?_) fun h1 => ?_
 ·refine ats_skip ?_
  (repeat refine ats_seq ?_); refine ats_block ?_
  refine gB ?_
  refine gA ?_
  refine gI (fun h2 => ?_) fun h2 => ?_
  ·refine gA ?_
   refine ats_ret (finI rfl ?_)
   unfold gsz
   rw [bd_false (fun h : PosO o => by have := h.2 k (by omega); omega)]
   rfl
  ·have e1 : (if 17 < o.getD k 0 then 17 else o.getD k 0) = min17 (o.getD k 0) := by unfold min17; split <;> split <;> omega
   have e2 := min17_mul hb (show 1 ≤ o.getD k 0 by omega)
   have b1 : 1 ≤ min17 (o.getD k 0) ∧ min17 (o.getD k 0) ≤ 17 := by unfold min17; split <;> omega
   have b2 : 1 ≤ min17 (frP o k) ∧ min17 (frP o k) ≤ 17 := by unfold min17; split <;> omega
   have b3 : min17 (frP o k) * min17 (o.getD k 0) ≤ 17 * 17 := Int.mul_le_mul (by omega) (by omega) (by omega) (by omega)
   have b4 : 0 ≤ min17 (frP o k) * min17 (o.getD k 0) := Int.mul_nonneg (by omega) (by omega)
   have e3 : ∀ X : Int, (if X < 17 then X else 17) = min17 X := fun X => by unfold min17; split <;> split <;> omega
   refine ats_skip ?_
   refine gC fun K hK => ?_
   simp only [e1, e3, e2]
   (repeat refine aI (hb := ?_))
   refine hK _ ?_; clear hK K
   refine gB ?_
   refine ⟨k + 1,  ⟨by omega, fun a ha => by rcases Nat.lt_succ_iff_lt_or_eq.1 ha with h | rfl; exact hK' a h; omega⟩, by omega, .inl ⟨?_, rfl⟩⟩; simp only [leS, Nat.reduceEqDiff, ↓reduceIte, true_and, and_true]
   first | rfl | exact ⟨rfl, by omega⟩ | (simp only [frP]; omega)
 ·obtain rfl : k = o.length := by omega
  rw [frP_full]
  refine ats_exit (lq_x ?_)
  refine gA ?_
  refine gI (fun h3 => ?_) fun h3 => ?_
  ·refine gA ?_
   refine ats_ret (finI rfl ?_)
   unfold gsz
   rw [bd_false (fun h : PosO o => by have := h.1; omega)]
   rfl
  ·refine ats_skip ?_
   refine gA ?_
   refine ats_ret (finI rfl ?_)
   unfold gsz
   rw [if_pos (bd_true ⟨by omega, hK'⟩)]
theorem isModulus_ok (m : Int) : PureCall Try.prog 56 [.int m] (.bool (decide (1 ≤ m) && decide (m ≤ 1000))) := by
 refine PureCall.intro (n := 5) (rs := [.tmp 2]) Try.call56 Try.func56 rfl rfl rfl (by simp only [List.length_cons, List.length_nil]; omega) (fun cx hcx => ats_of ?_); simp only [argSlots, Nat.zero_add, Nat.reduceAdd]
 refine gA ?_
 refine gC fun K hK => ?_
 first | refine fcall_data (within_ok _ _ _) rfl ?_ | refine YR_intro (acall_data (within_ok _ _ _) rfl) ?_
 simp only [go_sem, seval]
 refine hK _ ?_; clear hK K
 refine ats_ret (finB rfl ?_)
 rfl
theorem rest_ok (o : List Int) (m : Int) (w : List (List (List Int))) (n : Int) (h1 : 1 ≤ m) (h2 : m ≤ 1000) : PureCall Try.prog 36 [.agg [.l1 o, .int m, .l3 w], .int n] (.int (n % m)) := by
 have a1 : -m < n.tmod m := by
  have := Int.tmod_lt_of_pos (-n) (show 0 < m by omega)
  rw [Int.neg_tmod] at this
  omega
 have a2 := Int.tmod_lt_of_pos n (show 0 < m by omega)
 have a3 := rest_eq (n := n) h1
 have a4 := Int.emod_nonneg n (show m ≠ 0 by omega)
 have a5 := Int.emod_lt_of_pos n (show 0 < m by omega)
 refine PureCall.intro (n := 15) (rs := [.tmp 4]) Try.call36 Try.func36 rfl rfl rfl (by simp only [List.length_cons, List.length_nil]; omega) (fun cx hcx => ats_of ?_); simp only [argSlots, Nat.zero_add, Nat.reduceAdd]
 refine gA ?_
 (repeat refine ats_seq ?_); refine ats_pick (fix0 hcx) mixed (by kernel_rfl) fun K hK => ?_; simp only [go_sem, seval]
 simp only [a3]
 (repeat refine aI (hb := ?_))
 refine hK _ ?_; clear hK K
 refine ats_ret (finI rfl ?_)
 rfl
set_option maxHeartbeats 2000000 in
theorem l06Add_ok (o : List Int) (h : PosO o) (h8 : prodO o ≤ 8) (x y : Nat) (hx : x ≤ 8) (hy : y ≤ 8) : PureCall Try.prog 53 [.l1 o, .int x, .int y] (.int (ad o x y)) := by
 rw [ad_eq h]
 refine PureCall.intro (n := 58) (rs := [.tmp 6]) Try.call53 Try.func53 rfl rfl rfl (by simp only [List.length_cons, List.length_nil]; omega) (fun cx hcx => ats_of ?_); simp only [argSlots, Nat.zero_add, Nat.reduceAdd]
 refine gA ?_
 refine ats_know 0 fun h0 => ?_; simp only [St.get, slotGet, Nat.reduceEqDiff, ↓reduceIte, if_true, fact, facts] at h0
 have hlen := h0.1
 refine gA ?_
 refine gB ?_
 (repeat refine ats_seq ?_); refine ats_loop (fun k : Nat => ⟨[(0, .l1 o), (1, .int (adX o x k)), (2, .int (adX o y k)), (7, .int (adS o x y k)), (8, .int (adP o k)), (9, .int ((o.length : Int) - 1 - k))], []⟩) (fun k => k ≤ o.length) (fun k => o.length - k) 0 (Nat.zero_le _) (by
  refine And.intro ?_ rfl; simp only [leS, Nat.reduceEqDiff, ↓reduceIte, true_and, and_true]
  simp only [adX, adS, adP]
  exact ⟨trivial, trivial, trivial, trivial, by omega⟩) (fun k hk => ?_)
 refine gA ?_
 refine gI (fun h1 => ?_) fun h1 => ?_
 ·obtain ⟨j, ej⟩ : ∃ j : Nat, (o.length : Int) - 1 - k = j := ⟨o.length - 1 - k, by omega⟩
  have eq : o.getD j 0 = adQ o k := by unfold adQ; congr 1; omega
  have hkl : k < o.length := by omega
  have q1 := adQ_pos h hkl
  have q2 : adQ o k ≤ prodO o := entry_le h (by omega)
  have bx := adX_bd h (x := x) (by omega) k hk
  have bx1 := adX_bd h (x := x) (by omega) (k + 1) (by omega)
  have bY := adX_bd h (x := y) (by omega) k hk
  have bY1 := adX_bd h (x := y) (by omega) (k + 1) (by omega)
  have cx1 := bx1
  have cY1 := bY1
  have bg := adG_bd h x y hkl
  have bs := adS_bd h x y k hk
  have bs1 := adS_bd h x y (k + 1) (by omega)
  have bp := adP_bd h k hk
  have bp1 := adP_bd h (k + 1) (by omega)
  have m0 : 0 ≤ adG o x y k * adP o k := Int.mul_nonneg bg.1 (by omega)
  simp only [adX, adS, adP] at bx1 bY1 bs1 bp1
  have r1 := Int.emod_nonneg (adX o x k) (show adQ o k ≠ 0 by omega)
  have r2 := Int.emod_lt_of_pos (adX o x k) (show 0 < adQ o k by omega)
  have r3 := Int.emod_nonneg (adX o y k) (show adQ o k ≠ 0 by omega)
  have r4 := Int.emod_lt_of_pos (adX o y k) (show 0 < adQ o k by omega)
  have t1 : (adX o x k).tmod (adQ o k) = adX o x k % adQ o k := Int.tmod_eq_emod_of_nonneg (by omega)
  have t2 : (adX o y k).tmod (adQ o k) = adX o y k % adQ o k := Int.tmod_eq_emod_of_nonneg (by omega)
  have t3 : (adX o x k % adQ o k + adX o y k % adQ o k).tmod (adQ o k) = adG o x y k := Int.tmod_eq_emod_of_nonneg (by omega)
  have t4 : (adX o x k).tdiv (adQ o k) = adX o x (k + 1) := Int.tdiv_eq_ediv_of_nonneg (by omega)
  have t5 : (adX o y k).tdiv (adQ o k) = adX o y (k + 1) := Int.tdiv_eq_ediv_of_nonneg (by omega)
  rw [ej]
  refine ats_skip ?_
  (repeat refine ats_seq ?_); refine ats_block ?_
  (repeat refine ats_seq ?_); refine ats_pick (fix0 hcx) mixed (by kernel_rfl) fun K hK => ?_; simp only [go_sem, seval]
  simp only [eq, t1, t2, t3]
  (repeat refine aI (hb := ?_))
  refine hK _ ?_; clear hK K
  refine gC fun K hK => ?_
  simp only [eq, t4]
  (repeat refine aI (hb := ?_))
  refine hK _ ?_; clear hK K
  refine gC fun K hK => ?_
  simp only [eq, t4]
  (repeat refine aI (hb := ?_))
  refine hK _ ?_; clear hK K
  refine gC fun K hK => ?_
  simp only [eq, t5]
  (repeat refine aI (hb := ?_))
  refine hK _ ?_; clear hK K
  refine gB ?_
  refine ⟨k + 1,  by omega, by omega, .inl ⟨?_, rfl⟩⟩; simp only [leS, Nat.reduceEqDiff, ↓reduceIte, true_and, and_true]
  (repeat' refine And.intro ?_ ?_) <;> first | rfl | omega
 ·obtain rfl : k = o.length := by omega
  refine ats_exit (lq_x ?_)
  refine gA ?_
  refine ats_ret (finI rfl ?_)
  rfl
end Go.Proofs.Ytcmgjlgmajhekaa
namespace Go.Proofs.Ytcmgjlgmajhekaa
open Go Go.Aw Go.Pl
attribute [local go_sem] pl_fin pl_stop pl_one pl_alt PK_ap pickO List.getElem?_toArray List.getElem?_cons_zero List.getElem?_cons_succ
set_option maxHeartbeats 4000000 in
theorem BackwardD_ok (xs : List Int) : OwnCall Try.prog 77 [.l1 xs] [] [(4, .bx [.l1 xs])] (.fn 87 [.bptr 4 0]) [] := by
 refine OwnCall.intro (n := 4) (rs := [.tmp 2]) 1 [0] (X := []) Try.call77 Try.func77 rfl rfl rfl (by simp only [List.length_cons, List.length_nil]; omega) (by simp [Aw.ids, rootsA, rootsAs, argSlots, slotGet]) (fun cx hcx => AT.weakG (ats_of ?_)); simp only [argSlots, Nat.zero_add, Nat.reduceAdd]
 refine gBN ?_
 refine gBN ?_
 refine ats_ret ⟨⟨[(0, .l1 xs), (2, .fn 87 [.bptr 4 0])], [(4, .bx [.l1 xs])]⟩, ghost_trans (ghost_drop []) (ghost_can [(0, 4)] (by simp only [killL, killA, killAs, qOf, rmT, killH, killT, List.filter_cons, List.filter_nil, List.contains_cons, List.contains_nil, Bool.or_false, Bool.or_true, Bool.false_and, Bool.not_true, Bool.not_false, Bool.false_eq_true, if_true, if_false, rnLs, rnL, rn, rns, sw, SlotsLe, St.get, slotGet, List.map_cons, List.map_nil, seval, AV.int.injEq, AV.bool.injEq, AV.l1.injEq, AV.l2.injEq, AV.l3.injEq, true_and, and_true]) (by simp only [killL, killA, killAs, qOf, rmT, killH, killT, List.filter_cons, List.filter_nil, List.contains_cons, List.contains_nil, Bool.or_false, Bool.or_true, Bool.false_and, Bool.not_true, Bool.not_false, Bool.false_eq_true, if_true, if_false, sortH, insH, rnHs, rnH, rnT, rn, rns, sw, List.map_cons, List.map_nil, seval])), .inr rfl, (by first | rfl | exact ⟨trivial, rfl⟩ | (simp only [resL, resA, go_sem, seval]; done)), (by simp [St.get, slotGet, argSlots]), rfl⟩
set_option maxHeartbeats 8000000 in
theorem addElements16_ok (o : List Int) (h : PosO o) (h8 : prodO o ≤ 16) (x y : Nat) (hx : x ≤ 16) (hy : y ≤ 16) : PureCall Try.prog 64 [.l1 o, .int x, .int y] (.int (ad o x y)) := by
 rw [ad_eq h]
 have hba := BackwardD_ok o
 refine PureCall.introD (n := 38) (rs := [.tmp 6]) Try.call64 Try.func64 rfl rfl rfl (by simp only [List.length_cons, List.length_nil]; omega) (fun cx hcx hrd => ?_)
 have hcxA := hcx
 simp only [argSlots, Nat.zero_add, Nat.reduceAdd]
 refine atd_know 0 fun h0 => ?_
 replace h0 : F1 o := h0
 have hlen := h0.1
 refine atd_take [_, _] ⟨[(0, .l1 o), (4, .bptr 0 0), (5, .bptr 1 0), (7, .bptr 2 0), (8, .bptr 3 0)], [(0, .bx [.int x]), (1, .bx [.int y]), (2, .bx [.int 0]), (3, .bx [.int 1])]⟩ (fun cx hf => ?_) ?_
 ·replace hcx := hf.trans hcx
  refine gBN ?_
  refine gBN ?_
  refine ats_nil ?_; refine Or.inl ⟨rfl, ghost_trans (ghost_drop []) (ghost_can [] (by simp only [killL, killA, killAs, qOf, rmT, killH, killT, List.filter_cons, List.filter_nil, List.contains_cons, List.contains_nil, Bool.or_false, Bool.or_true, Bool.false_and, Bool.not_true, Bool.not_false, Bool.false_eq_true, if_true, if_false, rnLs, rnL, rn, rns, sw, SlotsLe, St.get, slotGet, List.map_cons, List.map_nil, seval, AV.int.injEq, AV.bool.injEq, AV.l1.injEq, AV.l2.injEq, AV.l3.injEq, true_and, and_true]) (by simp only [killL, killA, killAs, qOf, rmT, killH, killT, List.filter_cons, List.filter_nil, List.contains_cons, List.contains_nil, Bool.or_false, Bool.or_true, Bool.false_and, Bool.not_true, Bool.not_false, Bool.false_eq_true, if_true, if_false, sortH, insH, rnHs, rnH, rnT, rn, rns, sw, List.map_cons, List.map_nil, seval]))⟩
 ·refine atds_of ?_
  (repeat refine atds_seq ?_)
  refine atds_cutG ⟨[(0, .l1 o), (4, .bptr 0 0), (5, .bptr 1 0), (7, .bptr 2 0), (8, .bptr 3 0), (12, .fn 87 [.bptr 4 0])], [(0, .bx [.int x]), (1, .bx [.int y]), (2, .bx [.int 0]), (3, .bx [.int 1]), (4, .bx [.l1 o])]⟩ (fun cx hf => ?_) ?_
  ·replace hcx := hf.trans hcx
   refine gCN fun K hK => ?_
   refine fcall_box (hba) (by simp [Aw.ids]) (by simp [find]) (by simp [closedT, killT, killAs, killA, outQ, Aw.ids]) (by simp [killAs, killA, outQ, Aw.ids]) (by simp [Aw.ids]) ?_; simp only [Aw.ids, List.map_cons, List.map_nil, List.filter_cons, List.filter_nil, List.contains_cons, List.contains_nil, Bool.or_false, Bool.or_true, Bool.not_true, Bool.not_false, Nat.reduceBEq, Bool.false_eq_true, if_true, if_false, List.cons_append, List.nil_append]; simp only [go_sem, seval]
   refine hK _ ?_; clear hK K
   refine ats_nil ?_; refine Or.inl ⟨rfl, ghost_trans (ghost_drop []) (ghost_can [] (by simp only [killL, killA, killAs, qOf, rmT, killH, killT, List.filter_cons, List.filter_nil, List.contains_cons, List.contains_nil, Bool.or_false, Bool.or_true, Bool.false_and, Bool.not_true, Bool.not_false, Bool.false_eq_true, if_true, if_false, rnLs, rnL, rn, rns, sw, SlotsLe, St.get, slotGet, List.map_cons, List.map_nil, seval, AV.int.injEq, AV.bool.injEq, AV.l1.injEq, AV.l2.injEq, AV.l3.injEq, true_and, and_true]) (by simp only [killL, killA, killAs, qOf, rmT, killH, killT, List.filter_cons, List.filter_nil, List.contains_cons, List.contains_nil, Bool.or_false, Bool.or_true, Bool.false_and, Bool.not_true, Bool.not_false, Bool.false_eq_true, if_true, if_false, sortH, insH, rnHs, rnH, rnT, rn, rns, sw, List.map_cons, List.map_nil, seval]))⟩
  refine atds_block ?_
  refine ATD.back (fB := 87) backIt_ok Try.call87 hrd (gs := 12) (p0 := 13) (p1 := 14) o.length (fun k => [(0, .bx [.int (adX o x k)]), (1, .bx [.int (adX o y k)]), (2, .bx [.int (adS o x y k)]), (3, .bx [.int (adP o k)]), (4, .bx [.l1 o])]) (fun k => o.getD (o.length - 1 - k) 0) (fun j => [0, 4, 5, 7, 8, 12].contains j) (by unfold maxLen; omega) rfl rfl rfl (by decide) (by decide) (by decide) (capOk rfl) (elOkB rfl rfl (fun x => rfl)) (fun k hkl c2 hf2 => ?_) ?_
  ·have hcx := hf2
   have eq : o.getD (o.length - 1 - k) 0 = adQ o k := rfl
   rw [eq]
   have hk : k ≤ o.length := by omega
   have q1 := adQ_pos h hkl
   have q2 : adQ o k ≤ prodO o := entry_le h (by omega)
   have bx := adX_bd h (x := x) (by omega) k hk
   have bx1 := adX_bd h (x := x) (by omega) (k + 1) (by omega)
   have bY := adX_bd h (x := y) (by omega) k hk
   have bY1 := adX_bd h (x := y) (by omega) (k + 1) (by omega)
   have bg := adG_bd h x y hkl
   have bs := adS_bd h x y k hk
   have bs1 := adS_bd h x y (k + 1) (by omega)
   have bp := adP_bd h k hk
   have bp1 := adP_bd h (k + 1) (by omega)
   have m0 : 0 ≤ adG o x y k * adP o k := Int.mul_nonneg bg.1 (by omega)
   have cs1 : adS o x y (k + 1) = adS o x y k + adG o x y k * adP o k := rfl
   have cp1 : adP o (k + 1) = adP o k * adQ o k := rfl
   have r1 := Int.emod_nonneg (adX o x k) (show adQ o k ≠ 0 by omega)
   have r2 := Int.emod_lt_of_pos (adX o x k) (show 0 < adQ o k by omega)
   have r3 := Int.emod_nonneg (adX o y k) (show adQ o k ≠ 0 by omega)
   have r4 := Int.emod_lt_of_pos (adX o y k) (show 0 < adQ o k by omega)
   have t1 : (adX o x k).tmod (adQ o k) = adX o x k % adQ o k := Int.tmod_eq_emod_of_nonneg (by omega)
   have t2 : (adX o y k).tmod (adQ o k) = adX o y k % adQ o k := Int.tmod_eq_emod_of_nonneg (by omega)
   have t3 : (adX o x k % adQ o k + adX o y k % adQ o k).tmod (adQ o k) = adG o x y k := Int.tmod_eq_emod_of_nonneg (by omega)
   have t4 : (adX o x k).tdiv (adQ o k) = adX o x (k + 1) := Int.tdiv_eq_ediv_of_nonneg (by omega)
   have t5 : (adX o y k).tdiv (adQ o k) = adX o y (k + 1) := Int.tdiv_eq_ediv_of_nonneg (by omega)
   refine ats_of ?_
   refine gBN ?_
   refine ⟨rfl, fun cx hf => ?_⟩
   have hcx := hf
   refine AT.weakG (ats_of ?_)
   (repeat refine ats_seq ?_); refine ats_block ?_
   (repeat refine ats_seq ?_); refine ats_pick (by first | exact fix0 hcx | exact fixN hcx rfl) mixed (by kernel_rfl) fun K hK => ?_; simp only [go_sem, seval]
   simp only [t1, t2, t3]
   (repeat refine aI (hb := ?_))
   refine hK _ ?_; clear hK K
   refine gBN ?_
   have d1 : -9223372036854775808 ≤ (adX o x k).tdiv (adQ o k) := by rw [t4]; omega
   have d2 : (adX o x k).tdiv (adQ o k) ≤ 9223372036854775807 := by rw [t4]; omega
   have d3 : -9223372036854775808 ≤ (adX o y k).tdiv (adQ o k) := by rw [t5]; omega
   have d4 : (adX o y k).tdiv (adQ o k) ≤ 9223372036854775807 := by rw [t5]; omega
   rw [← cs1, ← cp1]
   (repeat refine ats_seq ?_)
   refine ats_plan [] (.one 0 (.one 1 (.one 2 (.alt 3 (.alt 4 (.alt 5 (.alt 6 (.alt 7 .fin .stop) .stop) (.alt 6 (.one 5 (.alt 7 .fin .stop)) .stop)) (.alt 6 (.one 4 (.one 5 (.alt 7 .fin .stop))) .stop)) (.alt 4 (.alt 3 (.alt 5 (.alt 6 (.alt 7 .fin .stop) .stop) (.alt 6 (.one 5 (.alt 7 .fin .stop)) .stop)) (.alt 6 (.one 3 (.one 5 (.alt 7 .fin .stop))) .stop)) (.alt 6 (.one 3 (.one 4 (.one 5 (.alt 7 .fin .stop)))) .stop)))))) ⟨[(0, .l1 o), (4, .bptr 0 0), (5, .bptr 1 0), (7, .bptr 2 0), (8, .bptr 3 0), (12, .fn 87 [.bptr 4 0])], [(0, .bx [.int ((adX o x k).tdiv (adQ o k))]), (1, .bx [.int ((adX o y k).tdiv (adQ o k))]), (2, .bx [.int (adS o x y (k + 1))]), (3, .bx [.int (adP o (k + 1))]), (4, .bx [.l1 o])]⟩ (by first | exact fix0 hcx | exact fixN hcx rfl) mixed (by kernel_rfl) (fun K hK => ?_) ?_
   ·simp only [go_sem, seval, Option.getD_some, and_true, true_and, and_self, List.contains_cons, List.contains_nil, Bool.or_false, Bool.or_true]
    repeat' (first | exact hK _ (by refine And.intro ?_ rfl; simp only [leS, Nat.reduceEqDiff, ↓reduceIte, true_and, and_true])  | with_reducible refine And.intro ?_ ?_ | omega | (refine fcall_own rfl () rfl ?_; simp only [go_sem, seval, Option.getD_some, and_true, true_and, and_self, List.contains_cons, List.contains_nil, Bool.or_false, Bool.or_true]))
   rw [t4, t5]
   refine ats_nil (bq_n (ats_nil ?_))
   refine ⟨_, ghost_refl, rfl, ?_, rfl⟩
   show SlotsLe _ [(0, .l1 o), (4, .bptr 0 0), (5, .bptr 1 0), (7, .bptr 2 0), (8, .bptr 3 0), (12, .fn 87 [.bptr 4 0])]
   simp only [leS, Nat.reduceEqDiff, ↓reduceIte, true_and, and_true]
  ·refine atds_last fun cx hf => ?_
   replace hcx := hf.trans hcxA
   refine ats_of ?_
   refine gBN ?_
   refine ats_ret (finI rfl ?_)
   rfl
theorem addElements_ok (o : List Int) (h : PosO o) (h8 : prodO o ≤ 8) (x y : Nat) (hx : x ≤ 8) (hy : y ≤ 8) : PureCall Try.prog 64 [.l1 o, .int x, .int y] (.int (ad o x y)) := addElements16_ok o h (by omega) x y (by omega) (by omega)
end Go.Proofs.Ytcmgjlgmajhekaa
namespace Go.Proofs.Ytcmgjlgmajhekaa
open Go Go.Aw Go.Pl
set_option maxHeartbeats 2000000 in
theorem l17Shape_ok (o : List Int) (m : Int) (w : List (List (List Int))) : PureCall Try.prog 72 [.agg [.l1 o, .int m, .l3 w]] (.bool (bd (CocS o m w))) := by
 have hk := l06Orders_ok o
 by_cases hp : PosO o
 ·have hs := l17Size_ok o hp
  rw [bd_true hp] at hk
  refine PureCall.intro (n := 79) (rs := [.tmp 2]) Try.call72 Try.func72 rfl rfl rfl (by simp only [List.length_cons, List.length_nil]; omega) (fun cx hcx => ats_of ?_); simp only [argSlots, Nat.zero_add, Nat.reduceAdd]
  refine gA ?_
  refine gC fun K hK => ?_
  first | refine fcall_data (hk) rfl ?_ | refine YR_intro (acall_data (hk) rfl) ?_
  simp only [go_sem, seval]
  (repeat refine aI (hb := ?_))
  first | refine fcall_data (l01In_ok m 1 1000) rfl ?_ | refine YR_intro (acall_data (l01In_ok m 1 1000) rfl) ?_
  simp only [go_sem, seval]
  (repeat refine aI (hb := ?_))
  refine hK _ ?_; clear hK K
  refine gI (fun h1 => ?_) fun h1 => ?_
  ·refine gB ?_
   refine ats_ret (finB rfl ?_)
   refine (bd_false (fun h => ?_)).symm
   have a1 := h.2.2.1
   have a2 := h.2.2.2.1
   simp [a1, a2] at h1
  ·have hm : 1 ≤ m ∧ m ≤ 1000 := by simpa using h1
   refine ats_skip ?_
   refine gC fun K hK => ?_
   first | refine fcall_data (hs) rfl ?_ | refine YR_intro (acall_data (hs) rfl) ?_
   simp only [go_sem, seval]
   (repeat refine aI (hb := ?_))
   refine hK _ ?_; clear hK K
   refine gB ?_
   refine gI (fun h2 => ?_) fun h2 => ?_
   ·refine gB ?_
    refine ats_ret (finB rfl ?_)
    refine (bd_false (fun h => ?_)).symm
    have a1 := h.2.2.2.2.1
    have a2 := h.2.1
    have e : siz8 o = prodO o := if_pos a2
    rw [e] at h2
    simp at h2
    omega
   ·have hh : siz8 o ≤ 8 ∧ (w.length : Int) = siz8 o := by
     simp at h2
     omega
    have p8 : prodO o ≤ 8 := by
     have := hh.1
     unfold siz8 at this
     split at this <;> omega
    have ew : siz8 o = (w.length : Int) := hh.2.symm
    have hw : (w.length : Int) = prodO o := by rw [hh.2]; exact if_pos p8
    have w8 : w.length ≤ 8 := by omega
    rw [ew]
    refine ats_skip ?_
    refine gB ?_
    (repeat refine ats_seq ?_); refine ats_loop (fun i : Nat => ⟨[(1, .bptr 0 0), (3, .int w.length), (4, .int i)], [(0, .bx [.l1 o, .int m, .l3 w])]⟩) (fun i => i ≤ w.length ∧ ∀ b, b < i → GridB w.length m (w.getD b [])) (fun i => w.length - i) 0 ⟨Nat.zero_le _, fun a h => absurd h (Nat.not_lt_zero a)⟩ (by refine And.intro ?_ rfl; simp only [leS, Nat.reduceEqDiff, ↓reduceIte, true_and, and_true]; rfl) (fun i hi => ?_); obtain ⟨hi, Hi⟩ := hi
    refine gB ?_
    refine gI (fun hc4 => ?_) fun hc4 => ?_
    ·refine ats_skip ?_
     (repeat refine ats_seq ?_); refine ats_block ?_
     refine gB ?_
     refine gI (fun hc5 => ?_) fun hc5 => ?_
     ·refine gB ?_
      refine ats_ret (finB rfl ?_)
      refine (bd_false (fun h => ?_)).symm
      have := (h.2.2.2.2.2.2 i (by omega)).1
      omega
     ·refine ats_skip ?_
      refine gB ?_
      (repeat refine ats_seq ?_); refine ats_loop (fun j : Nat => ⟨[(1, .bptr 0 0), (3, .int w.length), (4, .int i), (5, .int j)], [(0, .bx [.l1 o, .int m, .l3 w])]⟩) (fun j => j ≤ w.length ∧ ∀ b, b < j → RowB w.length m ((w.getD i []).getD b [])) (fun j => w.length - j) 0 ⟨Nat.zero_le _, fun a h => absurd h (Nat.not_lt_zero a)⟩ (by refine And.intro ?_ rfl; simp only [leS, Nat.reduceEqDiff, ↓reduceIte, true_and, and_true]; rfl) (fun j hj => ?_); obtain ⟨hj, Hj⟩ := hj
      refine gB ?_
      refine gI (fun hc7 => ?_) fun hc7 => ?_
      ·refine ats_skip ?_
       (repeat refine ats_seq ?_); refine ats_block ?_
       refine gB ?_
       refine gI (fun hc8 => ?_) fun hc8 => ?_
       ·refine gB ?_
        refine ats_ret (finB rfl ?_)
        refine (bd_false (fun h => ?_)).symm
        have := ((h.2.2.2.2.2.2 i (by omega)).2 j (by omega)).1
        omega
       ·refine ats_skip ?_
        refine gB ?_
        (repeat refine ats_seq ?_); refine ats_loop (fun k : Nat => ⟨[(1, .bptr 0 0), (3, .int w.length), (4, .int i), (5, .int j), (6, .int k)], [(0, .bx [.l1 o, .int m, .l3 w])]⟩) (fun k => k ≤ w.length ∧ ∀ b, b < k → 0 ≤ e3 w i j b ∧ e3 w i j b ≤ m - 1) (fun k => w.length - k) 0 ⟨Nat.zero_le _, fun a h => absurd h (Nat.not_lt_zero a)⟩ (by refine And.intro ?_ rfl; simp only [leS, Nat.reduceEqDiff, ↓reduceIte, true_and, and_true]; rfl) (fun k hk => ?_); obtain ⟨hk, Hk⟩ := hk
        refine gB ?_
        refine gI (fun hc10 => ?_) fun hc10 => ?_
        ·refine ats_skip ?_
         (repeat refine ats_seq ?_); refine ats_block ?_
         (repeat refine ats_seq ?_); refine ats_pick (fix0 hcx) mixed (by kernel_rfl) fun K hK => ?_; simp only [go_sem, seval]
         (repeat refine aI (hb := ?_))
         first | refine fcall_data (l01In_ok (((w.getD i []).getD j []).getD k 0) 0 (m - 1)) rfl ?_ | refine YR_intro (acall_data (l01In_ok (((w.getD i []).getD j []).getD k 0) 0 (m - 1)) rfl) ?_
         simp only [go_sem, seval]
         (repeat refine aI (hb := ?_))
         refine hK _ ?_; clear hK K
         refine gI (fun hc11 => ?_) fun hc11 => ?_
         ·refine gB ?_
          refine ats_ret (finB rfl ?_)
          refine (bd_false (fun h => ?_)).symm
          have := h.2.2.2.2.2.bd (i := i) (j := j) (k := k) (by omega) (by omega) (by omega)
          simp only [e3] at this
          simp [-List.getD_eq_getElem?_getD, this.1, this.2] at hc11
         ·have hb : 0 ≤ ((w.getD i []).getD j []).getD k 0 ∧ ((w.getD i []).getD j []).getD k 0 ≤ m - 1 := by simpa using hc11
          refine ats_skip ?_
          refine gB ?_
          refine ⟨k + 1, ⟨by omega, fun a ha => by rcases Nat.lt_succ_iff_lt_or_eq.1 ha with h | rfl; exact Hk a h; exact hb⟩, by omega, .inl ⟨?_, rfl⟩⟩; simp only [leS, Nat.reduceEqDiff, ↓reduceIte, true_and, and_true]; omega
        ·refine ats_exit (lq_x (ats_nil (bq_n ?_)))
         refine gB ?_
         refine ⟨j + 1, ⟨by omega, fun a ha => by rcases Nat.lt_succ_iff_lt_or_eq.1 ha with h | rfl; exact Hj a h; exact ⟨by omega, fun k hk => Hk k (by omega)⟩⟩, by omega, .inl ⟨?_, rfl⟩⟩; simp only [leS, Nat.reduceEqDiff, ↓reduceIte, true_and, and_true]; omega
      ·refine ats_exit (lq_x (ats_nil (bq_n ?_)))
       refine gB ?_
       refine ⟨i + 1, ⟨by omega, fun a ha => by rcases Nat.lt_succ_iff_lt_or_eq.1 ha with h | rfl; exact Hi a h; exact ⟨by omega, fun k hk => Hj k (by omega)⟩⟩, by omega, .inl ⟨?_, rfl⟩⟩; simp only [leS, Nat.reduceEqDiff, ↓reduceIte, true_and, and_true]; omega
    ·refine ats_exit (lq_x ?_)
     refine gB ?_
     refine ats_ret (finB rfl ?_)
     exact (bd_true ⟨hp, p8, hm.1, hm.2, hw, rfl, fun k hk => Hi k (by omega)⟩).symm
 ·rw [bd_false hp] at hk
  have e : bd (CocS o m w) = false := bd_false (fun h => hp h.1)
  refine PureCall.intro (n := 79) (rs := [.tmp 2]) Try.call72 Try.func72 rfl rfl rfl (by simp only [List.length_cons, List.length_nil]; omega) (fun cx hcx => ats_of ?_); simp only [argSlots, Nat.zero_add, Nat.reduceAdd]
  refine gA ?_
  refine gC fun K hK => ?_
  first | refine fcall_data (hk) rfl ?_ | refine YR_intro (acall_data (hk) rfl) ?_
  simp only [go_sem, seval]
  refine YR_intro (v := .bool true) (by first | trivial | (intro h; cases h)) ?_
  simp only [go_sem, seval]
  refine hK _ ?_; clear hK K
  (repeat refine ats_seq ?_); refine ats_yes rfl trivial ?_
  refine gA ?_
  refine ats_ret (finB rfl ?_)
  rw [e]
set_option maxHeartbeats 2000000 in
theorem l17Normal_ok (o : List Int) (m : Int) (w : List (List (List Int))) (h : CocS o m w) : PureCall Try.prog 73 [.agg [.l1 o, .int m, .l3 w]] (.bool (bd (NormW w))) := by
 have n8 := h.n8
 have hc := h.2.2.2.2.2
 have m0 := hc.mat (show 0 < w.length by omega)
 refine PureCall.intro (n := 56) (rs := [.tmp 2]) Try.call73 Try.func73 rfl rfl rfl (by simp only [List.length_cons, List.length_nil]; omega) (fun cx hcx => ats_of ?_); simp only [argSlots, Nat.zero_add, Nat.reduceAdd]
 refine gB ?_
 refine gB ?_
 refine gB ?_
 (repeat refine ats_seq ?_); refine ats_loop (fun i : Nat => ⟨[(1, .bptr 0 0), (3, .int w.length), (4, .int i)], [(0, .bx [.l1 o, .int m, .l3 w])]⟩) (fun i => i ≤ w.length ∧ ∀ b, b < i → ∀ j, j < w.length → e3 w 0 b j = 0 ∧ e3 w b 0 j = 0 ∧ e3 w b j 0 = 0) (fun i => w.length - i) 0 ⟨Nat.zero_le _, fun a h => absurd h (Nat.not_lt_zero a)⟩ (by refine And.intro ?_ rfl; simp only [leS, Nat.reduceEqDiff, ↓reduceIte, true_and, and_true]; rfl) (fun i hi => ?_); obtain ⟨hi, Hi⟩ := hi
 refine gB ?_
 refine gI (fun hc2 => ?_) fun hc2 => ?_
 ·refine ats_skip ?_
  (repeat refine ats_seq ?_); refine ats_block ?_
  refine gB ?_
  (repeat refine ats_seq ?_); refine ats_loop (fun j : Nat => ⟨[(1, .bptr 0 0), (3, .int w.length), (4, .int i), (5, .int j)], [(0, .bx [.l1 o, .int m, .l3 w])]⟩) (fun j => j ≤ w.length ∧ ∀ b, b < j → e3 w 0 i b = 0 ∧ e3 w i 0 b = 0 ∧ e3 w i b 0 = 0) (fun j => w.length - j) 0 ⟨Nat.zero_le _, fun a h => absurd h (Nat.not_lt_zero a)⟩ (by refine And.intro ?_ rfl; simp only [leS, Nat.reduceEqDiff, ↓reduceIte, true_and, and_true]; rfl) (fun j hj => ?_); obtain ⟨hj, Hj⟩ := hj
  refine gB ?_
  refine gI (fun hc4 => ?_) fun hc4 => ?_
  ·have mi := hc.mat (show i < w.length by omega)
   have r0 := hc.row (show 0 < w.length by omega) (show i < w.length by omega)
   have r1 := hc.row (show i < w.length by omega) (show 0 < w.length by omega)
   have r2 := hc.row (show i < w.length by omega) (show j < w.length by omega)
   refine ats_skip ?_
   (repeat refine ats_seq ?_); refine ats_block ?_
   refine gB ?_
   refine gI (fun hc5 => ?_) fun hc5 => ?_
   ·refine gB ?_
    refine ats_ret (finB rfl ?_)
    refine (bd_false (fun h => ?_)).symm
    have := h i (by omega) j (by omega)
    simp only [e3] at this
    simp [-List.getD_eq_getElem?_getD, this.1, this.2.1, this.2.2] at hc5
   ·have hb : e3 w 0 i j = 0 ∧ e3 w i 0 j = 0 ∧ e3 w i j 0 = 0 := by
     simp at hc5
     simp only [e3]
     simp [hc5]
    refine ats_skip ?_
    refine gB ?_
    refine ⟨j + 1, ⟨by omega, fun a ha => by rcases Nat.lt_succ_iff_lt_or_eq.1 ha with h | rfl; exact Hj a h; exact hb⟩, by omega, .inl ⟨?_, rfl⟩⟩; simp only [leS, Nat.reduceEqDiff, ↓reduceIte, true_and, and_true]; omega
  ·refine ats_exit (lq_x (ats_nil (bq_n ?_)))
   refine gB ?_
   refine ⟨i + 1, ⟨by omega, fun a ha => by rcases Nat.lt_succ_iff_lt_or_eq.1 ha with h | rfl; exact Hi a h; exact fun k hk => Hj k (by omega)⟩, by omega, .inl ⟨?_, rfl⟩⟩; simp only [leS, Nat.reduceEqDiff, ↓reduceIte, true_and, and_true]; omega
 ·refine ats_exit (lq_x ?_)
  refine gB ?_
  refine ats_ret (finB rfl ?_)
  exact (bd_true fun i hi => Hi i (by omega)).symm
end Go.Proofs.Ytcmgjlgmajhekaa
