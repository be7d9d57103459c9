import Derived.Test.YtjpdkdepbkmebaaGreatXb
import Derived.Test.YtjpdkdepbkmebaaGreatPlKb
import Derived.Test.YtjpdkdepbkmebaaGreatEd
set_option linter.unusedSimpArgs false
set_option linter.unusedVariables false
namespace Go.Proofs.YtjpdkdepbkmebaaGreat
open Go Go.Aw Go.Pl
attribute [local go_sem] pl_fin pl_stop pl_one pl_alt PK_ap pickO List.getElem?_toArray List.getElem?_cons_zero List.getElem?_cons_succ
set_option maxHeartbeats 8000000 in
theorem visitI_ok (s : List (List Int)) (t : List Int) (hs : Shape s t) (B c : Nat) (O : List (List (List Int))) (hO : O.length ≤ 50000) :
  OwnCall Tryz.prog 24 [.ref 7 [], .bptr 0 0, .bptr 3 0, .bptr 4 0] (TX s t (plP t (t.length * t.length)) O ++ [(7, .t1 (rowF (cb (tF t) (t.length * t.length)) (dgF B (cb (tF t) (t.length * t.length)) (cb (tF t) (t.length * t.length)) c)))]) (TX s t (plP t (t.length * t.length)) (visM s t (vOf (tF t) B c) O) ++ [(7, .t1 (rowF (cb (tF t) (t.length * t.length)) (dgF B (cb (tF t) (t.length * t.length)) (cb (tF t) (t.length * t.length)) c)))]) (.tup []) [0, 3, 4, 7] := by
 have h16 := hs.2.1
 have h1 := hs.1
 have nn : t.length * t.length ≤ 256 := by
  have : t.length * t.length ≤ 16 * 16 := Nat.mul_le_mul (by omega) (by omega)
  omega
 have hz := zeros_ok t.length t.length (by omega) (by omega)
 have hInv := isInvariant_ok s t (mxF t.length (vOf (tF t) B c)) hs
 obtain ⟨k, ek⟩ : ∃ k, cb (tF t) (t.length * t.length) = k := ⟨_, rfl⟩
 have eV := mG_end (t := t) (B := B) (c := c)
 have lp := plP_length (t := t) (t.length * t.length)
 have kn := cb_le2 (t := tF t) (t.length * t.length)
 have hpl := plP_get (t := t) (t.length * t.length)
 have hst := fun j x => mG_step (t := t) (B := B) (c := c) (j := j) (x := x)
 have m0 := mG_zero (t := t) (B := B) (c := c)
 rw [← eV] at hInv
 simp only [ek] at lp eV kn hst hpl hInv ⊢
 have lz0 : (List.replicate t.length (List.replicate t.length (0 : Int))).length = t.length := List.length_replicate
 have lz1 : ((List.replicate t.length (List.replicate t.length (0 : Int))).getD 0 []).length = t.length := by
  rw [List.getD_eq_getElem?_getD, List.getElem?_replicate, if_pos (by omega), Option.getD_some, List.length_replicate]
 have lg : ∀ j, (mG t B c j).length = t.length := fun j => matF_length ..
 have lr : ∀ j i, i < t.length → ((mG t B c j).getD i []).length = t.length := fun j i hi => by
  unfold mG
  rw [matF_get hi, rowF_length]
 obtain ⟨C, eC⟩ : ∃ C, rowF k (dgF B k k c) = C := ⟨_, rfl⟩
 have lc : C.length = k := by rw [← eC]; exact rowF_length ..
 obtain ⟨pl, ep⟩ : ∃ pl, plP t (t.length * t.length) = pl := ⟨_, rfl⟩
 simp only [eC, ep] at lp hpl hst ⊢
 rcases hbd : bd (InvP s t (mG t B c k)) with _ | _
 ·have eW : visM s t (vOf (tF t) B c) O = O := by unfold visM; rw [← eV, if_neg (by rw [hbd]; decide)]
  rw [eW]
  rw [hbd] at hInv
  simp only [TX, List.cons_append, List.nil_append]
  refine OwnCall.intro (n := 46) (rs := []) 4 [0, 1, 2, 3] (X := [0, 3, 4, 7]) Tryz.call24 Tryz.func24 rfl rfl rfl (by simp only [List.length_cons, List.length_nil]; omega) (by simp [Aw.ids, rootsA, rootsAs, argSlots, slotGet]) (fun cx hcx => AT.weakG (ats_of ?_)); simp only [argSlots, Nat.zero_add, Nat.reduceAdd]
  refine gCN fun K hK => ?_
  (repeat refine aI (hb := ?_))
  refine fcall_own rfl (hz) rfl ?_; simp only [go_sem, seval]
  (repeat refine aI (hb := ?_))
  refine hK _ ?_; clear hK K
  (repeat refine ats_seq ?_); refine ats_go (by first | exact fix0 hcx | exact fix1 hcx rfl | exact fixN hcx rfl) fun K hK => ?_; simp only [go_sem, seval, lz0, lz1]
  (repeat refine aI (hb := ?_))
  refine hK _ ?_; clear hK K
  rw [m0]
  refine gBN ?_
  (repeat refine ats_seq ?_); refine AT.ghost (st' := ⟨[(0, .ref 7 []), (1, .bptr 0 0), (2, .bptr 3 0), (3, .bptr 4 0), (5, .ref 8 []), (19, .lp pl none), (20, .int pl.length), (21, .int 0)], [(0, .bx [.l2 s, .l1 t]), (2, .t3 O), (3, .bx [.lp pl none]), (4, .bx [.ref 2 []]), (7, .t1 C), (8, .t2 (mG t B c 0))]⟩) (ghost_can [] (by simp only [rnLs, rnL, rn, rns, sw, SlotsLe, St.get, slotGet, List.map_cons, List.map_nil, seval, AV.int.injEq, AV.bool.injEq, AV.l1.injEq, AV.l2.injEq, AV.l3.injEq, true_and, and_true]) (by simp only [sortH, insH, rnHs, rnH, rnT, rn, rns, sw, List.map_cons, List.map_nil, seval])) ?_
  rw [lp]
  (repeat refine ats_seq ?_); refine ats_loop (fun j : Nat => ⟨[(0, .ref 7 []), (1, .bptr 0 0), (2, .bptr 3 0), (3, .bptr 4 0), (5, .ref 8 []), (19, .lp pl none), (20, .int k), (21, .int j)], [(0, .bx [.l2 s, .l1 t]), (2, .t3 O), (3, .bx [.lp pl none]), (4, .bx [.ref 2 []]), (7, .t1 C), (8, .t2 (mG t B c j))]⟩) (fun j => j ≤ k) (fun j => k - j) 0 (Nat.zero_le _) (by refine And.intro ?_ rfl; simp only [leS, Nat.reduceEqDiff, ↓reduceIte, true_and, and_true]; repeat' (first | rfl | with_reducible refine And.intro ?_ ?_ | omega)) (fun j hj => ?_)
  refine gBN ?_
  refine gI (fun hc2 => ?_) fun hc2 => ?_
  ·obtain ⟨x, hx, hfx, hcx2, hpx⟩ := hpl j (by omega)
   have hsx := hst j x (by omega) hx hfx hcx2
   obtain ⟨q, eq⟩ : ∃ q, q = x / t.length := ⟨_, rfl⟩
   obtain ⟨r, er⟩ : ∃ r, r = x % t.length := ⟨_, rfl⟩
   have pd : q < t.length := by rw [eq]; exact pl_div hx
   have pm : r < t.length := by rw [er]; exact pl_mod hx
   have lrq := lr j q pd
   have lgj := lg j
   rw [← eq, ← er] at hpx hsx
   refine ats_skip ?_
   (repeat refine ats_seq ?_); refine ats_block ?_
   (repeat refine ats_seq ?_); refine ats_go (by first | exact fix0 hcx | exact fix1 hcx rfl | exact fixN hcx rfl) fun K hK => ?_; simp only [go_sem, seval, hpx]
   (repeat refine aI (hb := ?_))
   refine hK _ ?_; clear hK K
   (repeat refine ats_seq ?_); refine AT.ghost (st' := ⟨[(0, .ref 7 []), (1, .bptr 0 0), (2, .bptr 3 0), (3, .bptr 4 0), (5, .ref 8 []), (6, .int j), (7, .bptr 9 0), (19, .lp pl none), (20, .int k), (21, .int j)], [(0, .bx [.l2 s, .l1 t]), (2, .t3 O), (3, .bx [.lp pl none]), (4, .bx [.ref 2 []]), (7, .t1 C), (8, .t2 (mG t B c j)), (9, .bx [.int q, .int r])]⟩) (ghost_can [] (by simp only [rnLs, rnL, rn, rns, sw, SlotsLe, St.get, slotGet, List.map_cons, List.map_nil, seval, AV.int.injEq, AV.bool.injEq, AV.l1.injEq, AV.l2.injEq, AV.l3.injEq, true_and, and_true]) (by simp only [sortH, insH, rnHs, rnH, rnT, rn, rns, sw, List.map_cons, List.map_nil, seval])) ?_
   (repeat refine ats_seq ?_)
   refine ats_plan [] (.one 0 (.one 1 (.one 2 (.one 3 (.one 4 (.one 5 (.one 6 (.one 7 (.one 8 (.one 9 (.one 10 (.one 11 (.alt 12 .fin .stop))))))))))))) ⟨[(0, .ref 7 []), (1, .bptr 0 0), (2, .bptr 3 0), (3, .bptr 4 0), (5, .ref 8 []), (19, .lp pl none), (20, .int k), (21, .int j)], [(0, .bx [.l2 s, .l1 t]), (2, .t3 O), (3, .bx [.lp pl none]), (4, .bx [.ref 2 []]), (7, .t1 C), (8, .t2 ((mG t B c j).set q (((mG t B c j).getD q []).set r (C.getD j 0)))), (9, .bx [.int q, .int r])]⟩ (by first | exact fix0 hcx | exact fixN hcx rfl) mixed (by kernel_rfl) (fun K hK => ?_) ?_
   ·simp only [go_sem, seval, Option.getD_some, and_true, true_and, and_self, List.contains_cons, List.contains_nil, Bool.or_false, Bool.or_true]
    repeat' (first | exact hK _ (by refine And.intro ?_ rfl; simp only [leS, Nat.reduceEqDiff, ↓reduceIte, true_and, and_true])  | with_reducible refine And.intro ?_ ?_ | omega)
   rw [hsx]
   refine gBN ?_
   refine ⟨j + 1, by omega, by omega, .inr ⟨[9], by simp only [killL, List.map_cons, List.map_nil, killA, killAs, qOf, rmT, killH, killT, List.filter_cons, List.filter_nil, List.contains_cons, List.contains_nil, SlotsLe, St.get, slotGet, Nat.reduceEqDiff, Nat.reduceBEq, Bool.or_false, Bool.or_true, Bool.false_and, Bool.not_true, Bool.not_false, Bool.false_eq_true, ↓reduceIte, if_true, if_false, AV.int.injEq, AV.bool.injEq, AV.l1.injEq, AV.l2.injEq, AV.l3.injEq, true_and, and_true]; (try omega), by simp only [killL, List.map_cons, List.map_nil, killA, killAs, qOf, rmT, killH, killT, List.filter_cons, List.filter_nil, List.contains_cons, List.contains_nil, SlotsLe, St.get, slotGet, Nat.reduceEqDiff, Nat.reduceBEq, Bool.or_false, Bool.or_true, Bool.false_and, Bool.not_true, Bool.not_false, Bool.false_eq_true, ↓reduceIte, if_true, if_false, AV.int.injEq, AV.bool.injEq, AV.l1.injEq, AV.l2.injEq, AV.l3.injEq, true_and, and_true]; (try rfl)⟩⟩
  ·obtain rfl : j = k := by omega
   refine ats_exit (lq_x ?_)
   refine gCN fun K hK => ?_
   (repeat refine aI (hb := ?_))
   first | refine fcall_free rfl rfl (hInv) ?_ | refine YR_intro (acall_free rfl rfl (hInv)) ?_
   simp only [go_sem, seval]
   (repeat refine aI (hb := ?_))
   refine hK _ ?_; clear hK K
   refine gI (fun hc3 => ?_) fun hc3 => ?_
   ·exact absurd hc3 (by decide)
   ·refine ats_skip ?_
    refine id ⟨⟨[(0, .ref 7 []), (1, .bptr 0 0), (2, .bptr 3 0), (3, .bptr 4 0)], [(0, .bx [.l2 s, .l1 t]), (2, .t3 O), (3, .bx [.lp pl none]), (4, .bx [.ref 2 []]), (7, .t1 C)]⟩, ghost_trans (ghost_drop [8]) (ghost_can [] (by simp only [killL, killA, killAs, qOf, rmT, killH, killT, List.filter_cons, List.filter_nil, List.contains_cons, List.contains_nil, Bool.or_false, Bool.or_true, Bool.false_and, Bool.not_true, Bool.not_false, Bool.false_eq_true, if_true, if_false, rnLs, rnL, rn, rns, sw, SlotsLe, St.get, slotGet, List.map_cons, List.map_nil, seval, AV.int.injEq, AV.bool.injEq, AV.l1.injEq, AV.l2.injEq, AV.l3.injEq, true_and, and_true]) (by simp only [killL, killA, killAs, qOf, rmT, killH, killT, List.filter_cons, List.filter_nil, List.contains_cons, List.contains_nil, Bool.or_false, Bool.or_true, Bool.false_and, Bool.not_true, Bool.not_false, Bool.false_eq_true, if_true, if_false, sortH, insH, rnHs, rnH, rnT, rn, rns, sw, List.map_cons, List.map_nil, seval])), .inl rfl, (by first | rfl | exact ⟨trivial, rfl⟩ | (simp only [resL, resA, go_sem, seval]; done)), (by simp [St.get, slotGet, argSlots]), rfl⟩
 ·have eW : visM s t (vOf (tF t) B c) O = O ++ [mG t B c k] := by unfold visM; rw [← eV, if_pos hbd]
  rw [eW]
  rw [hbd] at hInv
  simp only [TX, List.cons_append, List.nil_append]
  refine OwnCall.intro (n := 46) (rs := []) 4 [0, 1, 2, 3] (X := [0, 3, 4, 7]) Tryz.call24 Tryz.func24 rfl rfl rfl (by simp only [List.length_cons, List.length_nil]; omega) (by simp [Aw.ids, rootsA, rootsAs, argSlots, slotGet]) (fun cx hcx => AT.weakG (ats_of ?_)); simp only [argSlots, Nat.zero_add, Nat.reduceAdd]
  refine gCN fun K hK => ?_
  (repeat refine aI (hb := ?_))
  refine fcall_own rfl (hz) rfl ?_; simp only [go_sem, seval]
  (repeat refine aI (hb := ?_))
  refine hK _ ?_; clear hK K
  (repeat refine ats_seq ?_); refine ats_go (by first | exact fix0 hcx | exact fix1 hcx rfl | exact fixN hcx rfl) fun K hK => ?_; simp only [go_sem, seval, lz0, lz1]
  (repeat refine aI (hb := ?_))
  refine hK _ ?_; clear hK K
  rw [m0]
  refine gBN ?_
  (repeat refine ats_seq ?_); refine AT.ghost (st' := ⟨[(0, .ref 7 []), (1, .bptr 0 0), (2, .bptr 3 0), (3, .bptr 4 0), (5, .ref 8 []), (19, .lp pl none), (20, .int pl.length), (21, .int 0)], [(0, .bx [.l2 s, .l1 t]), (2, .t3 O), (3, .bx [.lp pl none]), (4, .bx [.ref 2 []]), (7, .t1 C), (8, .t2 (mG t B c 0))]⟩) (ghost_can [] (by simp only [rnLs, rnL, rn, rns, sw, SlotsLe, St.get, slotGet, List.map_cons, List.map_nil, seval, AV.int.injEq, AV.bool.injEq, AV.l1.injEq, AV.l2.injEq, AV.l3.injEq, true_and, and_true]) (by simp only [sortH, insH, rnHs, rnH, rnT, rn, rns, sw, List.map_cons, List.map_nil, seval])) ?_
  rw [lp]
  (repeat refine ats_seq ?_); refine ats_loop (fun j : Nat => ⟨[(0, .ref 7 []), (1, .bptr 0 0), (2, .bptr 3 0), (3, .bptr 4 0), (5, .ref 8 []), (19, .lp pl none), (20, .int k), (21, .int j)], [(0, .bx [.l2 s, .l1 t]), (2, .t3 O), (3, .bx [.lp pl none]), (4, .bx [.ref 2 []]), (7, .t1 C), (8, .t2 (mG t B c j))]⟩) (fun j => j ≤ k) (fun j => k - j) 0 (Nat.zero_le _) (by refine And.intro ?_ rfl; simp only [leS, Nat.reduceEqDiff, ↓reduceIte, true_and, and_true]; repeat' (first | rfl | with_reducible refine And.intro ?_ ?_ | omega)) (fun j hj => ?_)
  refine gBN ?_
  refine gI (fun hc2 => ?_) fun hc2 => ?_
  ·obtain ⟨x, hx, hfx, hcx2, hpx⟩ := hpl j (by omega)
   have hsx := hst j x (by omega) hx hfx hcx2
   obtain ⟨q, eq⟩ : ∃ q, q = x / t.length := ⟨_, rfl⟩
   obtain ⟨r, er⟩ : ∃ r, r = x % t.length := ⟨_, rfl⟩
   have pd : q < t.length := by rw [eq]; exact pl_div hx
   have pm : r < t.length := by rw [er]; exact pl_mod hx
   have lrq := lr j q pd
   have lgj := lg j
   rw [← eq, ← er] at hpx hsx
   refine ats_skip ?_
   (repeat refine ats_seq ?_); refine ats_block ?_
   (repeat refine ats_seq ?_); refine ats_go (by first | exact fix0 hcx | exact fix1 hcx rfl | exact fixN hcx rfl) fun K hK => ?_; simp only [go_sem, seval, hpx]
   (repeat refine aI (hb := ?_))
   refine hK _ ?_; clear hK K
   (repeat refine ats_seq ?_); refine AT.ghost (st' := ⟨[(0, .ref 7 []), (1, .bptr 0 0), (2, .bptr 3 0), (3, .bptr 4 0), (5, .ref 8 []), (6, .int j), (7, .bptr 9 0), (19, .lp pl none), (20, .int k), (21, .int j)], [(0, .bx [.l2 s, .l1 t]), (2, .t3 O), (3, .bx [.lp pl none]), (4, .bx [.ref 2 []]), (7, .t1 C), (8, .t2 (mG t B c j)), (9, .bx [.int q, .int r])]⟩) (ghost_can [] (by simp only [rnLs, rnL, rn, rns, sw, SlotsLe, St.get, slotGet, List.map_cons, List.map_nil, seval, AV.int.injEq, AV.bool.injEq, AV.l1.injEq, AV.l2.injEq, AV.l3.injEq, true_and, and_true]) (by simp only [sortH, insH, rnHs, rnH, rnT, rn, rns, sw, List.map_cons, List.map_nil, seval])) ?_
   (repeat refine ats_seq ?_)
   refine ats_plan [] (.one 0 (.one 1 (.one 2 (.one 3 (.one 4 (.one 5 (.one 6 (.one 7 (.one 8 (.one 9 (.one 10 (.one 11 (.alt 12 .fin .stop))))))))))))) ⟨[(0, .ref 7 []), (1, .bptr 0 0), (2, .bptr 3 0), (3, .bptr 4 0), (5, .ref 8 []), (19, .lp pl none), (20, .int k), (21, .int j)], [(0, .bx [.l2 s, .l1 t]), (2, .t3 O), (3, .bx [.lp pl none]), (4, .bx [.ref 2 []]), (7, .t1 C), (8, .t2 ((mG t B c j).set q (((mG t B c j).getD q []).set r (C.getD j 0)))), (9, .bx [.int q, .int r])]⟩ (by first | exact fix0 hcx | exact fixN hcx rfl) mixed (by kernel_rfl) (fun K hK => ?_) ?_
   ·simp only [go_sem, seval, Option.getD_some, and_true, true_and, and_self, List.contains_cons, List.contains_nil, Bool.or_false, Bool.or_true]
    repeat' (first | exact hK _ (by refine And.intro ?_ rfl; simp only [leS, Nat.reduceEqDiff, ↓reduceIte, true_and, and_true])  | with_reducible refine And.intro ?_ ?_ | omega)
   rw [hsx]
   refine gBN ?_
   refine ⟨j + 1, by omega, by omega, .inr ⟨[9], by simp only [killL, List.map_cons, List.map_nil, killA, killAs, qOf, rmT, killH, killT, List.filter_cons, List.filter_nil, List.contains_cons, List.contains_nil, SlotsLe, St.get, slotGet, Nat.reduceEqDiff, Nat.reduceBEq, Bool.or_false, Bool.or_true, Bool.false_and, Bool.not_true, Bool.not_false, Bool.false_eq_true, ↓reduceIte, if_true, if_false, AV.int.injEq, AV.bool.injEq, AV.l1.injEq, AV.l2.injEq, AV.l3.injEq, true_and, and_true]; (try omega), by simp only [killL, List.map_cons, List.map_nil, killA, killAs, qOf, rmT, killH, killT, List.filter_cons, List.filter_nil, List.contains_cons, List.contains_nil, SlotsLe, St.get, slotGet, Nat.reduceEqDiff, Nat.reduceBEq, Bool.or_false, Bool.or_true, Bool.false_and, Bool.not_true, Bool.not_false, Bool.false_eq_true, ↓reduceIte, if_true, if_false, AV.int.injEq, AV.bool.injEq, AV.l1.injEq, AV.l2.injEq, AV.l3.injEq, true_and, and_true]; (try rfl)⟩⟩
  ·obtain rfl : j = k := by omega
   refine ats_exit (lq_x ?_)
   refine gCN fun K hK => ?_
   (repeat refine aI (hb := ?_))
   first | refine fcall_free rfl rfl (hInv) ?_ | refine YR_intro (acall_free rfl rfl (hInv)) ?_
   simp only [go_sem, seval]
   (repeat refine aI (hb := ?_))
   refine hK _ ?_; clear hK K
   refine gI (fun hc3 => ?_) fun hc3 => ?_
   ·refine gBN ?_
    refine id ⟨⟨[(0, .ref 7 []), (1, .bptr 0 0), (2, .bptr 3 0), (3, .bptr 4 0)], [(0, .bx [.l2 s, .l1 t]), (2, .t3 (O ++ [mG t B c j])), (3, .bx [.lp pl none]), (4, .bx [.ref 2 []]), (7, .t1 C)]⟩, ghost_trans (ghost_drop []) (ghost_can [] (by simp only [killL, killA, killAs, qOf, rmT, killH, killT, List.filter_cons, List.filter_nil, List.contains_cons, List.contains_nil, Bool.or_false, Bool.or_true, Bool.false_and, Bool.not_true, Bool.not_false, Bool.false_eq_true, if_true, if_false, rnLs, rnL, rn, rns, sw, SlotsLe, St.get, slotGet, List.map_cons, List.map_nil, seval, AV.int.injEq, AV.bool.injEq, AV.l1.injEq, AV.l2.injEq, AV.l3.injEq, true_and, and_true]) (by simp only [killL, killA, killAs, qOf, rmT, killH, killT, List.filter_cons, List.filter_nil, List.contains_cons, List.contains_nil, Bool.or_false, Bool.or_true, Bool.false_and, Bool.not_true, Bool.not_false, Bool.false_eq_true, if_true, if_false, sortH, insH, rnHs, rnH, rnT, rn, rns, sw, List.map_cons, List.map_nil, seval])), .inl rfl, (by first | rfl | exact ⟨trivial, rfl⟩ | (simp only [resL, resA, go_sem, seval]; done)), (by simp [St.get, slotGet, argSlots]), rfl⟩
   ·exact absurd hc3 (by decide)
end Go.Proofs.YtjpdkdepbkmebaaGreat
