import Derived.Test.YtfnokakbdehlgaaDoorMz1
import Derived.Test.YtfnokakbdehlgaaDoorLib7
import Derived.Test.YtfnokakbdehlgaaDoorWx1
import Derived.Test.YtfnokakbdehlgaaDoorHd
import Derived.Test.YtfnokakbdehlgaaDoorQd2
import Derived.Test.YtfnokakbdehlgaaDoorWx2
import Derived.Test.YtfnokakbdehlgaaDoorWx4
set_option linter.unusedSimpArgs false
set_option linter.unusedVariables false
namespace Go.Proofs.YtfnokakbdehlgaaDoor
open Go Go.Aw Go.Pl
set_option maxRecDepth 100000 in
theorem l05Ring_ok (t : Cu) (h : RingP t) (s : Nat) (hs : ClosP t s) : FreshCall Tryd.prog 62 [.agg [.l3 t], .int s] (.agg [.l3 (subR t s)]) := by
 have hc := h.cube
 have h16 := hc.2.1
 have hb := full_in h16 hs.lt
 have hm := hc.2.2
 have hL := l05Labels_ok t h16 s hb
 have l0 := (lbl_zero h.pos hs.zero).1
 have l1 := lbl_len (n := t.length) (s := s)
 have gl : ∀ a, a < (lbl t.length s).length → ∃ x : Nat, x < t.length ∧ (lbI t.length s).getD a 0 = x ∧ (lbl t.length s).getD a 0 = x := fun a ha => ⟨_, (lbl_get ha).1, lbI_get ha, rfl⟩
 rw [subR_tab]
 have gG : ∀ {a b c x y z : Nat}, (lbl t.length s).getD a 0 = x → (lbl t.length s).getD b 0 = y → (lbl t.length s).getD c 0 = z → sbG t s a b c = e3 t x y z := fun h1 h2 h3 => by unfold sbG; rw [h1, h2, h3]
 generalize sbG t s = G at gG ⊢
 have ll : (lbI t.length s).length = (lbl t.length s).length := lbI_len
 generalize (lbl t.length s).length = m at ll l0 l1 gl gG ⊢
 generalize lbI t.length s = L at ll gl hL ⊢
 refine FreshCall.intro (n := 70) (rs := [.cell 4 26]) Tryd.call62 Tryd.func62 rfl rfl rfl (by simp only [List.length_cons, List.length_nil]; omega) (fun cx hcx => ats_of ?_); simp only [argSlots, Nat.zero_add, Nat.reduceAdd]
 refine gA ?_
 refine gC fun K hK => ?_
 first | refine fcall_fresh rfl (hL) ?_ | refine YR_intro (acall_fresh rfl (hL)) ?_
 simp only [go_sem, seval]
 (repeat refine aI (hb := ?_))
 refine hK _ ?_; clear hK K
 refine gB ?_
 (repeat refine ats_seq ?_)
 refine ats_loop (fun o : Option Nat => match o with
  | none => ⟨[(2, .bptr 0 0), (4, .bptr 1 0), (5, .l1 L), (6, .bptr 2 0), (7, .int 0)], [(0, .bx [.l3 t]), (1, .bx [.nil]), (2, .bx [.nil])]⟩
  | some i => ⟨[(2, .bptr 0 0), (4, .bptr 1 0), (5, .l1 L), (6, .bptr 2 0), (7, .int i)], [(0, .bx [.l3 t]), (1, .bx [.nil]), (2, .bx [.ref 5 []]), (5, .t3 (tabF i m G))]⟩) (fun o => match o with
  | none => True
  | some i => 1 ≤ i ∧ i ≤ m) (fun o => match o with
  | none => m + 1
  | some i => m - i) none trivial ⟨by simp only [SlotsLe, St.get, slotGet, Nat.reduceEqDiff, ↓reduceIte, true_and, and_true], rfl⟩ (fun o ho => ?_)
 cases o with
 | none =>
  dsimp only at ho ⊢
  refine gA ?_
  refine gI (fun hli => ?_) fun hli => ?_
  ·obtain ⟨x, hx, e1, e2⟩ := gl 0 (by omega)
   have mx := (hm x hx).1
   refine ats_skip ?_
   (repeat refine ats_seq ?_); refine ats_block ?_
   refine gB ?_
   refine gA ?_
   (repeat refine ats_seq ?_); refine ats_loop (fun j : Nat => ⟨[(2, .bptr 0 0), (4, .bptr 1 0), (5, .l1 L), (6, .bptr 2 0), (7, .int 0), (8, .ref 3 []), (9, .int j)], [(0, .bx [.l3 t]), (1, .bx [.nil]), (2, .bx [.nil]), (3, .t2 (matF j m (G 0)))]⟩) (fun j => j ≤ m) (fun j => m - j) 0 (Nat.zero_le _) (by refine And.intro ?_ rfl; simp only [leS, Nat.reduceEqDiff, ↓reduceIte, true_and, and_true]; repeat' (first | rfl | with_reducible refine And.intro ?_ ?_ | omega)) (fun j hj => ?_)
   have lj := matF_length j m (G 0)
   refine gB ?_
   refine gI (fun hlj => ?_) fun hlj => ?_
   ·obtain ⟨y, hy, e3, e4⟩ := gl j (by omega)
    have my := hc.row hx hy
    refine ats_skip ?_
    (repeat refine ats_seq ?_); refine ats_block ?_
    refine gB ?_
    refine gA ?_
    (repeat refine ats_seq ?_); refine ats_loop (fun k : Nat => ⟨[(2, .bptr 0 0), (4, .bptr 1 0), (5, .l1 L), (6, .bptr 2 0), (7, .int 0), (8, .ref 3 []), (9, .int j), (10, .ref 4 []), (11, .int k)], [(0, .bx [.l3 t]), (1, .bx [.nil]), (2, .bx [.nil]), (3, .t2 (matF j m (G 0))), (4, .t1 (rowF k (G 0 j)))]⟩) (fun k => k ≤ m) (fun k => m - k) 0 (Nat.zero_le _) (by refine And.intro ?_ rfl; simp only [leS, Nat.reduceEqDiff, ↓reduceIte, true_and, and_true]; repeat' (first | rfl | with_reducible refine And.intro ?_ ?_ | omega)) (fun k hk => ?_)
    have lk := rowF_length k (G 0 j)
    refine gB ?_
    refine gI (fun hlk => ?_) fun hlk => ?_
    ·obtain ⟨z, hz, e5, e6⟩ := gl k (by omega)
     have eg := gG e2 e4 e6
     have er := rowF_succ' (k := k) (f := G 0 j)
     rw [eg] at er
     refine ats_skip ?_
     (repeat refine ats_seq ?_); refine ats_block ?_
     (repeat refine ats_seq ?_); refine ats_pickP [0, 1, 2, 3, 4, 5, 6, 7, 8, 9, 10, 11, 12, 13, 14, 15, 16, 17, 18, 19, 20, 21, 22, 23] (fix0 hcx) mixed (by kernel_rfl) fun K hK => ?_; simp only [pickL, pickO, List.map_cons, List.map_nil, List.getElem?_toArray, List.getElem?_cons_zero, List.getElem?_cons_succ, Option.getD_some]; simp only [go_sem, seval]
     rw [e1, e3, e5]
     simp only [Int.toNat_natCast]
     (repeat refine aI (hb := ?_))
     refine hK _ ?_; clear hK K
     refine gB ?_
     refine ⟨k + 1, by omega, by omega, .inr ⟨[5], by simp only [killL, List.map_cons, List.map_nil, killA, killAs, qOf, rmT, killH, killT, List.filter_cons, List.filter_nil, List.contains_cons, List.contains_nil, SlotsLe, St.get, slotGet, Nat.reduceEqDiff, Nat.reduceBEq, Bool.or_false, Bool.or_true, Bool.false_and, Bool.not_true, Bool.not_false, Bool.false_eq_true, ↓reduceIte, if_true, if_false, AV.int.injEq, AV.bool.injEq, AV.l1.injEq, AV.l2.injEq, AV.l3.injEq, true_and, and_true]; omega, by simp only [killL, List.map_cons, List.map_nil, killA, killAs, qOf, rmT, killH, killT, List.filter_cons, List.filter_nil, List.contains_cons, List.contains_nil, SlotsLe, St.get, slotGet, Nat.reduceEqDiff, Nat.reduceBEq, Bool.or_false, Bool.or_true, Bool.false_and, Bool.not_true, Bool.not_false, Bool.false_eq_true, ↓reduceIte, if_true, if_false, AV.int.injEq, AV.bool.injEq, AV.l1.injEq, AV.l2.injEq, AV.l3.injEq, true_and, and_true]; rw [← er]⟩⟩
    ·obtain rfl : k = m := by omega
     have em := matF_succ' (j := j) (m := k) (f := G 0)
     refine ats_exit (lq_x ?_)
     refine gB ?_
     refine gB ?_
     refine ⟨j + 1,  by omega, by omega, .inl ⟨by simp only [leS, Nat.reduceEqDiff, ↓reduceIte, true_and, and_true]; omega,  by rw [← em]⟩⟩
   ·obtain rfl : j = m := by omega
    have et := tabF_succ (i := 0) (m := j) (g := G)
    refine ats_exit (lq_x ?_)
    refine gB ?_
    refine gB ?_
    refine ⟨some (0 + 1), ⟨by omega, by omega⟩, by show j - (0 + 1) < j + 1; omega, .inl ⟨?_, ?_⟩⟩
    ·simp only [SlotsLe, St.get, slotGet, Nat.reduceEqDiff, ↓reduceIte, AV.int.injEq, true_and, and_true]
     omega
    ·have es : tabF (0 + 1) j G =  [matF j j (G 0)] := by first | rfl | rw [tabF_succ]
     dsimp only
     rw [es]
  ·omega
 | some i =>
  dsimp only at ho ⊢
  have ls := tabF_len (i := i) (m := m) (g := G)
  refine gA ?_
  refine gI (fun hli => ?_) fun hli => ?_
  ·obtain ⟨x, hx, e1, e2⟩ := gl i (by omega)
   have mx := (hm x hx).1
   refine ats_skip ?_
   (repeat refine ats_seq ?_); refine ats_block ?_
   refine gB ?_
   refine gA ?_
   (repeat refine ats_seq ?_); refine ats_loop (fun j : Nat => ⟨[(2, .bptr 0 0), (4, .bptr 1 0), (5, .l1 L), (6, .bptr 2 0), (7, .int i), (8, .ref 6 []), (9, .int j)], [(0, .bx [.l3 t]), (1, .bx [.nil]), (2, .bx [.ref 5 []]), (5, .t3 (tabF i m G)), (6, .t2 (matF j m (G i)))]⟩) (fun j => j ≤ m) (fun j => m - j) 0 (Nat.zero_le _) (by refine And.intro ?_ rfl; simp only [leS, Nat.reduceEqDiff, ↓reduceIte, true_and, and_true]; repeat' (first | rfl | with_reducible refine And.intro ?_ ?_ | omega)) (fun j hj => ?_)
   have lj := matF_length j m (G i)
   refine gB ?_
   refine gI (fun hlj => ?_) fun hlj => ?_
   ·obtain ⟨y, hy, e3, e4⟩ := gl j (by omega)
    have my := hc.row hx hy
    refine ats_skip ?_
    (repeat refine ats_seq ?_); refine ats_block ?_
    refine gB ?_
    refine gA ?_
    (repeat refine ats_seq ?_); refine ats_loop (fun k : Nat => ⟨[(2, .bptr 0 0), (4, .bptr 1 0), (5, .l1 L), (6, .bptr 2 0), (7, .int i), (8, .ref 6 []), (9, .int j), (10, .ref 7 []), (11, .int k)], [(0, .bx [.l3 t]), (1, .bx [.nil]), (2, .bx [.ref 5 []]), (5, .t3 (tabF i m G)), (6, .t2 (matF j m (G i))), (7, .t1 (rowF k (G i j)))]⟩) (fun k => k ≤ m) (fun k => m - k) 0 (Nat.zero_le _) (by refine And.intro ?_ rfl; simp only [leS, Nat.reduceEqDiff, ↓reduceIte, true_and, and_true]; repeat' (first | rfl | with_reducible refine And.intro ?_ ?_ | omega)) (fun k hk => ?_)
    have lk := rowF_length k (G i j)
    refine gB ?_
    refine gI (fun hlk => ?_) fun hlk => ?_
    ·obtain ⟨z, hz, e5, e6⟩ := gl k (by omega)
     have eg := gG e2 e4 e6
     have er := rowF_succ' (k := k) (f := G i j)
     rw [eg] at er
     refine ats_skip ?_
     (repeat refine ats_seq ?_); refine ats_block ?_
     (repeat refine ats_seq ?_); refine ats_pickP [0, 1, 2, 3, 4, 5, 6, 7, 8, 9, 10, 11, 12, 13, 14, 15, 16, 17, 18, 19, 20, 21, 22, 23] (fix0 hcx) mixed (by kernel_rfl) fun K hK => ?_; simp only [pickL, pickO, List.map_cons, List.map_nil, List.getElem?_toArray, List.getElem?_cons_zero, List.getElem?_cons_succ, Option.getD_some]; simp only [go_sem, seval]
     rw [e1, e3, e5]
     simp only [Int.toNat_natCast]
     (repeat refine aI (hb := ?_))
     refine hK _ ?_; clear hK K
     refine gB ?_
     refine ⟨k + 1, by omega, by omega, .inr ⟨[8], by simp only [killL, List.map_cons, List.map_nil, killA, killAs, qOf, rmT, killH, killT, List.filter_cons, List.filter_nil, List.contains_cons, List.contains_nil, SlotsLe, St.get, slotGet, Nat.reduceEqDiff, Nat.reduceBEq, Bool.or_false, Bool.or_true, Bool.false_and, Bool.not_true, Bool.not_false, Bool.false_eq_true, ↓reduceIte, if_true, if_false, AV.int.injEq, AV.bool.injEq, AV.l1.injEq, AV.l2.injEq, AV.l3.injEq, true_and, and_true]; omega, by simp only [killL, List.map_cons, List.map_nil, killA, killAs, qOf, rmT, killH, killT, List.filter_cons, List.filter_nil, List.contains_cons, List.contains_nil, SlotsLe, St.get, slotGet, Nat.reduceEqDiff, Nat.reduceBEq, Bool.or_false, Bool.or_true, Bool.false_and, Bool.not_true, Bool.not_false, Bool.false_eq_true, ↓reduceIte, if_true, if_false, AV.int.injEq, AV.bool.injEq, AV.l1.injEq, AV.l2.injEq, AV.l3.injEq, true_and, and_true]; rw [← er]⟩⟩
    ·obtain rfl : k = m := by omega
     have em := matF_succ' (j := j) (m := k) (f := G i)
     refine ats_exit (lq_x ?_)
     refine gB ?_
     refine gB ?_
     refine ⟨j + 1,  by omega, by omega, .inl ⟨by simp only [leS, Nat.reduceEqDiff, ↓reduceIte, true_and, and_true]; omega,  by rw [← em]⟩⟩
   ·obtain rfl : j = m := by omega
    have et := tabF_succ (i := i) (m := j) (g := G)
    refine ats_exit (lq_x ?_)
    refine gB ?_
    refine gB ?_
    refine ⟨some (i + 1), ⟨by omega, by omega⟩, by show j - (i + 1) < j - i; omega, .inl ⟨?_, ?_⟩⟩
    ·simp only [SlotsLe, St.get, slotGet, Nat.reduceEqDiff, ↓reduceIte, AV.int.injEq, true_and, and_true]
     omega
    ·have es : tabF (i + 1) j G = tabF i j G ++ [matF j j (G i)] := by first | rfl | rw [tabF_succ]
     dsimp only
     rw [es]
  ·obtain rfl : i = m := by omega
   refine ats_exit (lq_x ?_)
   refine gA ?_
   exact ats_ret (ownC (v := .agg [.ref 5 []]) (by simp only [go_sem, seval]) rfl (by simp))
end Go.Proofs.YtfnokakbdehlgaaDoor
namespace Go.Proofs.YtfnokakbdehlgaaDoor
open Go Go.Aw Go.Pl
theorem specRs_ok (t : Cu) (x : Int) : FreshCall Tryd.prog 28 [.agg [.l3 t], .int x] (.tup [.agg [optT (rsR t x).1], .int (rsR t x).2]) := by
 have h0 := l05Code_ok t x
 by_cases hc : scA t x = 0
 ·obtain ⟨hr, hx0, hlt, ex⟩ := scA_ok hc
  rw [hc] at h0
  have h := isRing_P hr
  have hI := l05Is_ok t h x.toNat hlt
  rw [ex] at hI
  by_cases hC : ClosP t x.toNat
  ·have e : rsR t x = (some (subR t x.toNat), 0) := by unfold rsR; rw [if_pos hc, if_pos (bd_true hC)]
   rw [e]
   rw [bd_true hC] at hI
   have hR := l05Ring_ok t h x.toNat hC
   rw [ex] at hR
   refine FreshCall.intro (n := 24) (rs := [.cell 4 26, .tmp 5]) Tryd.call28 Tryd.func28 rfl rfl rfl (by simp only [List.length_cons, List.length_nil]; omega) (fun cx hcx => ats_of ?_); simp only [argSlots, Nat.zero_add, Nat.reduceAdd]
   refine gB ?_
   refine gC fun K hK => ?_
   first | refine fcall_data (h0) rfl ?_ | refine YR_intro (acall_data (h0) rfl) ?_
   simp only [go_sem, seval]
   refine hK _ ?_; clear hK K
   (repeat refine ats_seq ?_); refine ats_block ?_
   refine gB ?_
   (repeat refine ats_seq ?_); refine ats_no rfl trivial ?_
   refine gC fun K hK => ?_
   first | refine fcall_data (hI) rfl ?_ | refine YR_intro (acall_data (hI) rfl) ?_
   simp only [go_sem, seval]
   refine hK _ ?_; clear hK K
   (repeat refine ats_seq ?_); refine ats_no rfl trivial ?_
   refine ats_skip ?_
   refine gC fun K hK => ?_
   refine fcall_own rfl (hR) rfl ?_; simp only [go_sem, seval]
   refine hK _ ?_; clear hK K
   exact ats_ret (own2C (v := .agg [.ref 2 []]) (by simp only [go_sem, seval]) trivial rfl (by simp))
  ·have e : rsR t x = (none, 5) := by unfold rsR; rw [if_pos hc, if_neg (fun hb => hC (bd_iff.1 hb))]
   rw [e]
   rw [bd_false hC] at hI
   refine FreshCall.intro (n := 24) (rs := [.cell 4 26, .tmp 5]) Tryd.call28 Tryd.func28 rfl rfl rfl (by simp only [List.length_cons, List.length_nil]; omega) (fun cx hcx => ats_of ?_); simp only [argSlots, Nat.zero_add, Nat.reduceAdd]
   refine gB ?_
   refine gC fun K hK => ?_
   first | refine fcall_data (h0) rfl ?_ | refine YR_intro (acall_data (h0) rfl) ?_
   simp only [go_sem, seval]
   refine hK _ ?_; clear hK K
   (repeat refine ats_seq ?_); refine ats_block ?_
   refine gB ?_
   (repeat refine ats_seq ?_); refine ats_no rfl trivial ?_
   refine gC fun K hK => ?_
   first | refine fcall_data (hI) rfl ?_ | refine YR_intro (acall_data (hI) rfl) ?_
   simp only [go_sem, seval]
   refine hK _ ?_; clear hK K
   (repeat refine ats_seq ?_); refine ats_yes rfl trivial ?_
   refine gB ?_
   exact ats_ret (own2C (v := .agg [.nil]) (by simp only [go_sem, seval]) trivial rfl (by simp))
 ·have e : rsR t x = (none, scA t x) := by unfold rsR; rw [if_neg hc]
  rw [e]
  generalize scA t x = c at *
  refine FreshCall.intro (n := 24) (rs := [.cell 4 26, .tmp 5]) Tryd.call28 Tryd.func28 rfl rfl rfl (by simp only [List.length_cons, List.length_nil]; omega) (fun cx hcx => ats_of ?_); simp only [argSlots, Nat.zero_add, Nat.reduceAdd]
  refine gB ?_
  refine gC fun K hK => ?_
  first | refine fcall_data (h0) rfl ?_ | refine YR_intro (acall_data (h0) rfl) ?_
  simp only [go_sem, seval]
  refine hK _ ?_; clear hK K
  (repeat refine ats_seq ?_); refine ats_block ?_
  refine gB ?_
  refine gI (fun hx => ?_) fun hx => ?_
  ·refine gB ?_
   exact ats_ret (own2C (v := .agg [.nil]) (by simp only [go_sem, seval]) trivial rfl (by simp))
  ·exact (hc (by first | exact hx | simpa using hx)).elim
end Go.Proofs.YtfnokakbdehlgaaDoor
namespace Go.Proofs.YtfnokakbdehlgaaDoor
open Go Go.Aw Go.Pl
end Go.Proofs.YtfnokakbdehlgaaDoor
namespace Go.Proofs.YtfnokakbdehlgaaDoor
open Go Go.Aw Go.Pl
attribute [local go_sem] pl_fin pl_stop pl_one pl_alt PK_ap pickO List.getElem?_toArray List.getElem?_cons_zero List.getElem?_cons_succ
theorem isSet_ok (t : Cu) (h16 : t.length ≤ 16) (x : Int) : PureCall Tryd.prog 80 [.agg [.l3 t], .int x] (.bool (decide (0 ≤ x) && decide (x ≤ (2 ^ t.length - 1 : Nat)))) := by
 have hI := within_ok x 0 (2 ^ t.length - 1 : Nat)
 have h2 := p16 h16
 have h3 := Nat.pow_pos (n := t.length) (show 0 < 2 by decide)
 have e := shlI_one (k := t.length) (by omega)
 have e2 : ((2 ^ t.length : Nat) : Int) - 1 = ((2 ^ t.length - 1 : Nat) : Int) := by omega
 refine PureCall.intro (n := 12) (rs := [.tmp 4]) Tryd.call80 Tryd.func80 rfl rfl rfl (by simp only [List.length_cons, List.length_nil]; omega) (fun cx hcx => ats_of ?_); simp only [argSlots, Nat.zero_add, Nat.reduceAdd]
 refine gA ?_
 refine gC fun K hK => ?_
 rw [e, e2]
 (repeat refine aI (hb := ?_))
 first | refine fcall_data (hI) rfl ?_ | refine YR_intro (acall_data (hI) rfl) ?_
 simp only [go_sem, seval]
 refine hK _ ?_; clear hK K
 refine ats_ret (finB rfl ?_)
 rfl
theorem labelsIn_ok (n : Nat) (h16 : n ≤ 16) (s : Nat) (hs : s < 2 ^ n) : FreshCall Tryd.prog 46 [.int s] (.l1 (lbI n s)) := by
 have hb := full_in h16 hs
 refine FreshCall.intro (n := 18) (rs := [.tmp 2]) Tryd.call46 Tryd.func46 rfl rfl rfl (by simp only [List.length_cons, List.length_nil]; omega) (fun cx hcx => ats_of ?_); simp only [argSlots, Nat.zero_add, Nat.reduceAdd]
 refine gA ?_
 refine gB ?_
 (repeat refine ats_seq ?_); refine ats_loop (fun p : List Int × Nat => ⟨[(0, .int p.2), (3, .ref 0 [])], [(0, .t1 p.1)]⟩) (fun p => p.2 < 2 ^ n ∧ p.1 ++ lbI n p.2 = lbI n s) (fun p => p.2) ([], s) ⟨hs, rfl⟩ (by
  refine And.intro ?_ rfl; simp only [leS, Nat.reduceEqDiff, ↓reduceIte, true_and, and_true]
  done) (fun p hp => ?_)
 obtain ⟨o, u⟩ := p
 obtain ⟨hu, ho⟩ := hp
 dsimp only at hu ho ⊢
 have hub := full_in h16 hu
 have lo : o.length ≤ 16 := by
  have h1 := congrArg List.length ho
  have h2 := lbl_len (n := n) (s := s)
  rw [List.length_append, lbI_len (s := s)] at h1
  omega
 refine gA ?_
 refine gI (fun hx => ?_) fun hx => ?_
 ·have hz := tz_ok u (by omega)
  obtain ⟨b1, b2, b3, b4⟩ := low_bit (x := u) (by omega) hub
  have hk := bits_lt hu b1
  have hh := lbl_head hk b1 b3 b4
  have hI : lbI n u = ((Lib.ctz 64 u : Nat) : Int) :: lbI n (u &&& (u - 1)) := by unfold lbI; rw [hh]; rfl
  have ew : (u : Int) % 18446744073709551616 = u := by omega
  have ea : andI u ((u : Int) - 1) = ((u &&& (u - 1) : Nat) : Int) := by
   rw [show (u : Int) - 1 = ((u - 1 : Nat) : Int) by omega]
   exact andS hub (by omega)
  have hlt : u &&& (u - 1) < u := by
   have : u &&& (u - 1) ≤ u - 1 := Nat.and_le_right
   omega
  refine ats_skip ?_
  (repeat refine ats_seq ?_); refine ats_block ?_
  refine gC fun K hK => ?_
  rw [ew]
  first | refine fcall_data (hz) rfl ?_ | refine YR_intro (acall_data (hz) rfl) ?_
  simp only [go_sem, seval]
  (repeat refine aI (hb := ?_))
  refine hK _ ?_; clear hK K
  refine gC fun K hK => ?_
  rw [ea]
  (repeat refine aI (hb := ?_))
  refine hK _ ?_; clear hK K
  refine ⟨(o ++ [((Lib.ctz 64 u : Nat) : Int)], u &&& (u - 1)), ⟨by dsimp only; omega, by dsimp only; rw [← ho, hI, List.append_assoc]; rfl⟩, by omega, .inr ⟨[1], by simp only [killL, List.map_cons, List.map_nil, killA, killAs, qOf, rmT, killH, killT, List.filter_cons, List.filter_nil, List.contains_cons, List.contains_nil, SlotsLe, St.get, slotGet, Nat.reduceEqDiff, Nat.reduceBEq, Bool.or_false, Bool.or_true, Bool.false_and, Bool.not_true, Bool.not_false, Bool.false_eq_true, ↓reduceIte, if_true, if_false, AV.int.injEq, AV.bool.injEq, AV.l1.injEq, AV.l2.injEq, AV.l3.injEq, true_and, and_true]; done, by simp only [killL, List.map_cons, List.map_nil, killA, killAs, qOf, rmT, killH, killT, List.filter_cons, List.filter_nil, List.contains_cons, List.contains_nil, SlotsLe, St.get, slotGet, Nat.reduceEqDiff, Nat.reduceBEq, Bool.or_false, Bool.or_true, Bool.false_and, Bool.not_true, Bool.not_false, Bool.false_eq_true, ↓reduceIte, if_true, if_false, AV.int.injEq, AV.bool.injEq, AV.l1.injEq, AV.l2.injEq, AV.l3.injEq, true_and, and_true]; done⟩⟩
 ·obtain rfl : u = 0 := by omega
  rw [lbI_zero, List.append_nil] at ho
  subst ho
  refine ats_exit (lq_x ?_)
  refine gA ?_
  exact ats_ret (ownV (is := [0]) rfl ⟨rfl, trivial⟩ rfl (by simp))
theorem supports_ok (t : Cu) (hc : Cube t) : FreshCall Tryd.prog 44 [.agg [.l3 t]] (.l2 (supL t)) := by
 have h16 := hc.2.1
 have hm := hc.2.2
 have hz := zeros_ok t.length t.length (by omega) (by omega)
 rw [← suM_start] at hz
 refine FreshCall.intro (n := 56) (rs := [.tmp 2]) Tryd.call44 Tryd.func44 rfl rfl rfl (by simp only [List.length_cons, List.length_nil]; omega) (fun cx hcx => ats_of ?_); simp only [argSlots, Nat.zero_add, Nat.reduceAdd]
 refine gA ?_
 refine gC fun K hK => ?_
 refine fcall_own rfl (hz) rfl ?_; simp only [go_sem, seval]
 (repeat refine aI (hb := ?_))
 refine hK _ ?_; clear hK K
 refine gA ?_
 (repeat refine ats_seq ?_); refine ats_loop (fun i : Nat => ⟨[(1, .bptr 0 0), (3, .ref 1 []), (18, .l3 t), (19, .int t.length), (20, .int i)], [(1, .t2 (suM t i 0 0)), (0, .bx [.l3 t])]⟩) (fun i => i ≤ t.length) (fun i => t.length - i) 0 (Nat.zero_le _) (by refine And.intro ?_ rfl; simp only [leS, Nat.reduceEqDiff, ↓reduceIte, true_and, and_true]; repeat' (first | rfl | with_reducible refine And.intro ?_ ?_ | omega)) (fun i hi => ?_)
 refine gA ?_
 refine gI (fun hli => ?_) fun hli => ?_
 ·have mi := hm i (by omega)
  have ml := mi.1
  refine ats_skip ?_
  (repeat refine ats_seq ?_); refine ats_block ?_
  refine gB ?_
  refine gB ?_
  rw [ml]
  (repeat refine ats_seq ?_); refine ats_loop (fun j : Nat => ⟨[(1, .bptr 0 0), (3, .ref 1 []), (4, .int i), (18, .l3 t), (19, .int t.length), (20, .int i), (25, .l2 (t.getD i [])), (26, .int t.length), (27, .int j)], [(1, .t2 (suM t i j 0)), (0, .bx [.l3 t])]⟩) (fun j => j ≤ t.length) (fun j => t.length - j) 0 (Nat.zero_le _) (by refine And.intro ?_ rfl; simp only [leS, Nat.reduceEqDiff, ↓reduceIte, true_and, and_true]; repeat' (first | rfl | with_reducible refine And.intro ?_ ?_ | omega)) (fun j hj => ?_)
  refine gA ?_
  refine gI (fun hlj => ?_) fun hlj => ?_
  ·have mj := mi.2 j (by omega)
   have rl := mj.1
   refine ats_skip ?_
   (repeat refine ats_seq ?_); refine ats_block ?_
   refine gB ?_
   refine gB ?_
   rw [rl]
   (repeat refine ats_seq ?_); refine ats_loop (fun k : Nat => ⟨[(1, .bptr 0 0), (3, .ref 1 []), (4, .int i), (6, .int j), (18, .l3 t), (19, .int t.length), (20, .int i), (25, .l2 (t.getD i [])), (26, .int t.length), (27, .int j), (32, .l1 ((t.getD i []).getD j [])), (33, .int t.length), (34, .int k)], [(1, .t2 (suM t i j k)), (0, .bx [.l3 t])]⟩) (fun k => k ≤ t.length) (fun k => t.length - k) 0 (Nat.zero_le _) (by refine And.intro ?_ rfl; simp only [leS, Nat.reduceEqDiff, ↓reduceIte, true_and, and_true]; repeat' (first | rfl | with_reducible refine And.intro ?_ ?_ | omega)) (fun k hk => ?_)
   refine gA ?_
   refine gI (fun hlk => ?_) fun hlk => ?_
   ·have sl := suM_len (t := t) (i := i) (j := j) (k := k)
    have sr := suM_row (t := t) (i := i) (j := j) (k := k) (x := i) (by omega)
    have sg := suM_get (t := t) (i := i) (j := j) (k := k) (x := i) (y := j) (by omega) (by omega)
    have esh := shlI_one (show k ≤ 62 by omega)
    have eo := orS (full_in h16 (suP_lt (t := t) (i := i) (j := j) (k := k) (x := i) (y := j))) (full_in h16 (pow_lt (show k < t.length by omega)))
    refine ats_skip ?_
    (repeat refine ats_seq ?_); refine ats_block ?_
    refine gB ?_
    refine gB ?_
    refine gI (fun hp => ?_) fun hp => ?_
    ·have st := suM_yes (show i < t.length by omega) (show k < t.length by omega) hp
     rw [← eo, ← esh, ← sg] at st
     (repeat refine ats_seq ?_)
     refine ats_plan [] (.one 0 (.one 1 (.one 2 (.one 3 (.one 4 (.one 5 (.one 6 (.one 7 (.one 8 (.one 9 (.one 10 (.alt 11 .fin .stop)))))))))))) ⟨[(1, .bptr 0 0), (3, .ref 1 []), (4, .int i), (6, .int j), (18, .l3 t), (19, .int t.length), (20, .int i), (25, .l2 (t.getD i [])), (26, .int t.length), (27, .int j), (32, .l1 ((t.getD i []).getD j [])), (33, .int t.length), (34, .int k)], [(1, .t2 ((suM t i j k).set i (((suM t i j k).getD i []).set j (orI (((suM t i j k).getD i []).getD j 0) (shlI 1 k))))), (0, .bx [.l3 t])]⟩ (fix0 hcx) mixed (by kernel_rfl) (fun K hK => ?_) ?_
     ·simp only [go_sem, seval, Option.getD_some, and_true, true_and, and_self, List.contains_cons, List.contains_nil, Bool.or_false, Bool.or_true]
      repeat' (first | exact hK _ (by refine And.intro ?_ rfl; simp only [leS, Nat.reduceEqDiff, ↓reduceIte, true_and, and_true])  | with_reducible refine And.intro ?_ ?_ | omega)
     rw [st]
     refine gB ?_
     refine ⟨k + 1,  by omega, by omega, .inl ⟨by simp only [leS, Nat.reduceEqDiff, ↓reduceIte, true_and, and_true]; omega,  rfl⟩⟩
    ·have st := suM_no hp
     refine ats_skip ?_
     refine gB ?_
     refine ⟨k + 1,  by omega, by omega, .inl ⟨by simp only [leS, Nat.reduceEqDiff, ↓reduceIte, true_and, and_true]; omega,  by rw [st]⟩⟩
   ·obtain rfl : k = t.length := by omega
    have st := suM_j (t := t) (i := i) (j := j)
    refine ats_exit (lq_x ?_)
    refine gB ?_
    refine ⟨j + 1,  by omega, by omega, .inl ⟨by simp only [leS, Nat.reduceEqDiff, ↓reduceIte, true_and, and_true]; omega,  by rw [st]⟩⟩
  ·obtain rfl : j = t.length := by omega
   have st := suM_i (t := t) (i := i)
   refine ats_exit (lq_x ?_)
   refine gB ?_
   refine ⟨i + 1,  by omega, by omega, .inl ⟨by simp only [leS, Nat.reduceEqDiff, ↓reduceIte, true_and, and_true]; omega,  by rw [st]⟩⟩
 ·obtain rfl : i = t.length := by omega
  have st := suM_end (t := t)
  rw [st]
  refine ats_exit (lq_x ?_)
  refine gA ?_
  exact ats_ret (ownV (is := [1]) rfl ⟨rfl, trivial⟩ rfl (by simp))
end Go.Proofs.YtfnokakbdehlgaaDoor
