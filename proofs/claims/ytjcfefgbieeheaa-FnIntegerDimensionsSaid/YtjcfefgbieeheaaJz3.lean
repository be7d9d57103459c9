import Derived.Test.YtjcfefgbieeheaaJz2
set_option linter.unusedSimpArgs false
set_option linter.unusedVariables false
namespace Go.Proofs.Ytjcfefgbieeheaa
open Go Go.Aw Go.Pl
def dvL : Nat → List Int → Src → List Int × Src
 | 0, o, s => (o, s)
 | k + 1, o, s => dvL k (o ++ [[0, 0, 1, 1, 2, (nx s 1000).1].getD (nx (nx s 1000).2 6).1.toNat 0]) (nx (nx s 1000).2 6).2
theorem dvL_fact : ∀ (k : Nat) (o : List Int) (s : Src), s.Ok → (dvL k o s).2.Ok ∧ (dvL k o s).1.length = o.length + k
 | 0, o, s, hs => ⟨hs, rfl⟩
 | k + 1, o, s, hs => by
  have h := dvL_fact k (o ++ [[0, 0, 1, 1, 2, (nx s 1000).1].getD (nx (nx s 1000).2 6).1.toNat 0]) (nx (nx s 1000).2 6).2 (nx_ok (nx_ok hs _) _)
  refine ⟨h.1, h.2.trans ?_⟩
  rw [List.length_append]
  simp only [List.length_cons, List.length_nil]
  omega
theorem pk6 {a : Int} (h0 : 0 ≤ a) (h1 : a < 1000) {p : Int} : 0 ≤ ([0, 0, 1, 1, 2, a] : List Int).getD p.toNat 0 ∧ ([0, 0, 1, 1, 2, a] : List Int).getD p.toNat 0 ≤ 1000 := by
 match p.toNat with
 | 0 | 1 | 2 | 3 | 4 | 5 => simp; try omega
 | k + 6 => simp
def dVec (n : Nat) (s : Src) : List Int × Src :=
 if (nx (dvL n [] s).2 40).1 = 0 then ((dvL n [] s).1 ++ [1], (nx (dvL n [] s).2 40).2)
 else if (nx (dvL n [] s).2 40).1 = 1 ∧ 0 < n then ((dvL n [] s).1.set 0 ([-1, 1000001].getD (nx (nx (dvL n [] s).2 40).2 2).1.toNat 0), (nx (nx (dvL n [] s).2 40).2 2).2)
 else ((dvL n [] s).1, (nx (dvL n [] s).2 40).2)
set_option maxRecDepth 100000 in
set_option maxHeartbeats 4000000 in
theorem l03DrawVector_ok (s : Src) (hs : s.Ok) (n : Nat) (hn : n ≤ 16) : OwnCall Try.prog 51 [.bptr 0 0, .int n] [(0, srcB s)] [(0, srcB (dVec n s).2)] (.l1 (dVec n s).1) [0] := by
 have fL := dvL_fact n [] s hs
 unfold dVec
 obtain ⟨R, eR⟩ : ∃ R, dvL n [] s = R := ⟨_, rfl⟩
 rw [eR] at fL ⊢
 obtain ⟨ok1, lR⟩ := fL
 have lR : R.1.length = n := by simpa using lR
 have hN := next_ok R.2 ok1 40 (by omega)
 have ok2 := nx_ok ok1 40
 generalize nx R.2 40 = q at *
 have hP := pick2_ok q.2 ok2 [-1, 1000001] (by decide) (by decide)
 rw [show (([-1, 1000001] : List Int).length : Int) = 2 from rfl] at hP
 generalize nx q.2 2 = p at *
 obtain ⟨v, ev⟩ : ∃ v, ([-1, 1000001] : List Int).getD p.1.toNat 0 = v := ⟨_, rfl⟩
 rw [ev] at hP ⊢
 clear ev
 refine OwnCall.intro (n := 38) (rs := [.tmp 4]) 2 [0, 1] (X := [0]) Try.call51 Try.func51 rfl rfl rfl (by simp only [List.length_cons, List.length_nil]; omega) (by simp [Aw.ids, rootsA, rootsAs, argSlots, slotGet]) (fun cx hcx => AT.weakG (ats_of ?_)); simp only [argSlots, Nat.zero_add, Nat.reduceAdd]
 refine gBN ?_
 refine gBN ?_
 refine gBN ?_
 (repeat refine ats_seq ?_); refine ats_loop (fun x : Nat × List Int × Src => ⟨[(0, .bptr 0 0), (1, .int n), (5, .ref 1 []), (6, .int ((n - x.1 : Nat) : Int))], [(0, srcB x.2.2), (1, .t1 x.2.1)]⟩) (fun x => x.2.2.Ok ∧ x.1 ≤ n ∧ x.2.1.length = n - x.1 ∧ dvL x.1 x.2.1 x.2.2 = R) (fun x => x.1) (n, [], s) ⟨hs, Nat.le_refl _, by simp, eR⟩ (by
  refine And.intro ?_ rfl; simp only [leS, Nat.reduceEqDiff, ↓reduceIte, true_and, and_true]
  omega) (fun x hx => ?_)
 obtain ⟨k, o, s1⟩ := x
 dsimp only at hx ⊢
 obtain ⟨ok, hk, hl, eD⟩ := hx
 refine gBN ?_
 refine gI (fun hc => ?_) fun hc => ?_
 ·obtain ⟨k, rfl⟩ : ∃ j, k = j + 1 := ⟨k - 1, by omega⟩
  have hN1 := next_ok s1 ok 1000 (by omega)
  have b1 := nx_bd s1 (n := 1000) (by omega)
  have ok3 := nx_ok ok 1000
  unfold dvL at eD
  generalize nx s1 1000 = r at *
  have hP1 := pick2_ok r.2 ok3 [0, 0, 1, 1, 2, r.1] (show 1 ≤ 6 by decide) (show 6 ≤ 1048576 by decide)
  rw [show (([0, 0, 1, 1, 2, r.1] : List Int).length : Int) = 6 from rfl] at hP1
  have ok4 := nx_ok ok3 6
  have b2 := pk6 (p := (nx r.2 6).1) b1.1 b1.2
  generalize nx r.2 6 = w at *
  obtain ⟨u, eu⟩ : ∃ u, ([0, 0, 1, 1, 2, r.1] : List Int).getD w.1.toNat 0 = u := ⟨_, rfl⟩
  rw [eu] at hP1 eD b2
  clear eu
  refine ats_skip ?_
  (repeat refine ats_seq ?_); refine ats_block ?_
  refine gCN fun K hK => ?_
  (repeat refine aI (hb := ?_))
  refine fcall_src (hN1) rfl rfl ?_; simp only [go_sem, seval]
  (repeat refine aI (hb := ?_))
  refine fcall_bx (hP1) (k := ?_); simp only [Aw.ids, go_sem, seval]
  (repeat refine aI (hb := ?_))
  refine hK _ ?_; clear hK K
  (repeat refine ats_seq ?_); refine AT.ghost (st' := ⟨[(0, .bptr 0 0), (1, .int n), (5, .ref 1 []), (6, .int ((n - (k + 1) : Nat) : Int))], [(0, srcB w.2), (1, .t1 (o ++ [u]))]⟩) (ghost_to [2, 3] []) ?_
  refine gBN ?_
  refine ⟨(k, o ++ [u], w.2),  ⟨ok4, by dsimp only; omega, by dsimp only; rw [List.length_append, List.length_cons, List.length_nil]; omega, eD⟩, by omega, .inl ⟨by simp only [leS, Nat.reduceEqDiff, ↓reduceIte, true_and, and_true]; omega,  rfl⟩⟩
 ·obtain rfl : k = 0 := by omega
  have eD' : (o, s1) = R := eD
  subst eD'
  dsimp only at *
  refine ats_exit (lq_x ?_)
  refine gCN fun K hK => ?_
  refine fcall_src (hN) rfl rfl ?_; simp only [go_sem, seval]
  (repeat refine aI (hb := ?_))
  refine hK _ ?_; clear hK K
  (repeat refine ats_seq ?_)
  (repeat refine ats_seq ?_); refine ats_block ?_
  refine gBN ?_
  refine gI (fun h0 => ?_) fun h0 => ?_
  ·rw [if_pos h0]
   refine gBN ?_
   refine ats_nil (bq_n ?_)
   refine gBN ?_
   (repeat refine ats_seq ?_); refine AT.ghost (ghost_frz [1]) ?_; simp only [frzV, find, killA, killAs, killT_srcB, killAs_bsV, qOf, rmT, killH, killT_e, List.map_cons, List.map_nil, List.filter_cons, List.filter_nil, List.contains_cons, List.contains_nil, Bool.or_false, Bool.or_true, Bool.false_and, Bool.not_true, Bool.not_false, Bool.false_eq_true, if_true, if_false, seval]
   refine ats_ret ⟨⟨[(0, .bptr 0 0), (1, .int n), (4, .l1 (o ++ [1]))], [(0, srcB q.2)]⟩, ghost_to [2] [], .inr rfl, (by first | rfl | exact ⟨trivial, rfl⟩ | (simp only [resL, resA, go_sem, seval]; done)), (by simp [St.get, slotGet, argSlots]), rfl⟩
  ·rw [if_neg h0]
   refine gBN ?_
   refine gI (fun h1 => ?_) fun h1 => ?_
   ·refine gBN ?_
    refine gI (fun h2 => ?_) fun h2 => ?_
    ·rw [if_pos ⟨h1, by omega⟩]
     refine gCN fun K hK => ?_
     (repeat refine aI (hb := ?_))
     refine fcall_bx (hP) (k := ?_); simp only [Aw.ids, go_sem, seval]
     (repeat refine aI (hb := ?_))
     refine hK _ ?_; clear hK K
     refine ats_nil (bq_n ?_)
     refine gBN ?_
     (repeat refine ats_seq ?_); refine AT.ghost (ghost_frz [1]) ?_; simp only [frzV, find, killA, killAs, killT_srcB, killAs_bsV, qOf, rmT, killH, killT_e, List.map_cons, List.map_nil, List.filter_cons, List.filter_nil, List.contains_cons, List.contains_nil, Bool.or_false, Bool.or_true, Bool.false_and, Bool.not_true, Bool.not_false, Bool.false_eq_true, if_true, if_false, seval]
     refine ats_ret ⟨⟨[(0, .bptr 0 0), (1, .int n), (4, .l1 (o.set 0 v))], [(0, srcB p.2)]⟩, ghost_to [2] [], .inr rfl, (by first | rfl | exact ⟨trivial, rfl⟩ | (simp only [resL, resA, go_sem, seval]; done)), (by simp [St.get, slotGet, argSlots]), rfl⟩
    ·rw [if_neg (fun h => h2 (by omega))]
     refine ats_skip ?_
     refine ats_nil (bq_n ?_)
     refine gBN ?_
     (repeat refine ats_seq ?_); refine AT.ghost (ghost_frz [1]) ?_; simp only [frzV, find, killA, killAs, killT_srcB, killAs_bsV, qOf, rmT, killH, killT_e, List.map_cons, List.map_nil, List.filter_cons, List.filter_nil, List.contains_cons, List.contains_nil, Bool.or_false, Bool.or_true, Bool.false_and, Bool.not_true, Bool.not_false, Bool.false_eq_true, if_true, if_false, seval]
     refine ats_ret ⟨⟨[(0, .bptr 0 0), (1, .int n), (4, .l1 o)], [(0, srcB q.2)]⟩, ghost_to [] [], .inr rfl, (by first | rfl | exact ⟨trivial, rfl⟩ | (simp only [resL, resA, go_sem, seval]; done)), (by simp [St.get, slotGet, argSlots]), rfl⟩
   ·rw [if_neg (fun h => h1 h.1)]
    refine ats_skip ?_
    refine ats_nil (bq_n ?_)
    refine gBN ?_
    (repeat refine ats_seq ?_); refine AT.ghost (ghost_frz [1]) ?_; simp only [frzV, find, killA, killAs, killT_srcB, killAs_bsV, qOf, rmT, killH, killT_e, List.map_cons, List.map_nil, List.filter_cons, List.filter_nil, List.contains_cons, List.contains_nil, Bool.or_false, Bool.or_true, Bool.false_and, Bool.not_true, Bool.not_false, Bool.false_eq_true, if_true, if_false, seval]
    refine ats_ret ⟨⟨[(0, .bptr 0 0), (1, .int n), (4, .l1 o)], [(0, srcB q.2)]⟩, ghost_to [] [], .inr rfl, (by first | rfl | exact ⟨trivial, rfl⟩ | (simp only [resL, resA, go_sem, seval]; done)), (by simp [St.get, slotGet, argSlots]), rfl⟩
end Go.Proofs.Ytjcfefgbieeheaa
namespace Go.Proofs.Ytjcfefgbieeheaa
open Go Go.Aw Go.Pl
structure CodeOk (c : List Int) : Prop where
 len : c.length ≤ 1048576
 byte : ∀ i, i < c.length → 0 ≤ c.getD i 0 ∧ c.getD i 0 ≤ 255
end Go.Proofs.Ytjcfefgbieeheaa
namespace Go.Proofs.Ytjcfefgbieeheaa
open Go Go.Aw Go.Pl
attribute [local go_sem] pl_fin pl_stop pl_one pl_alt PK_ap pickO List.getElem?_toArray List.getElem?_cons_zero List.getElem?_cons_succ
theorem big_ok (c : List Int) : PureCall Try.prog 6 [.lv (bsV c)] (.bool (decide (4096 < c.length))) := by
 have hl := bsV_len (c := c)
 refine PureCall.intro (n := 6) (rs := [.tmp 2]) Try.call6 Try.func6 rfl rfl rfl (by simp only [List.length_cons, List.length_nil]; omega) (fun cx hcx => ats_of ?_); simp only [argSlots, Nat.zero_add, Nat.reduceAdd]
 refine gBN ?_
 refine gBN ?_
 refine ats_ret (finB rfl ?_)
 rw [decide_eq_decide]
 omega
theorem likeInts_ok (xs ys : List Int) : PureCall Try.prog 13 [.l1 xs, .l1 ys] (.bool (decide (xs = ys))) := by
 refine PureCall.intro (n := 26) (rs := [.tmp 4]) Try.call13 Try.func13 rfl rfl rfl (by simp only [List.length_cons, List.length_nil]; omega) (fun cx hcx => ats_of ?_); simp only [argSlots, Nat.zero_add, Nat.reduceAdd]
 refine gBN ?_
 refine ats_know 0 fun h0 => ?_; simp only [St.get, slotGet, Nat.reduceEqDiff, ↓reduceIte, if_true, fact, facts] at h0
 refine ats_know 1 fun h1 => ?_; simp only [St.get, slotGet, Nat.reduceEqDiff, ↓reduceIte, if_true, fact, facts] at h1
 have lx := h0.1
 have ly := h1.1
 refine gBN ?_
 refine gI (fun hl => ?_) fun hl => ?_
 ·refine gBN ?_
  refine ats_ret (finB rfl ?_)
  exact (decide_eq_false (fun h => hl (by rw [h]))).symm
 ·have el : xs.length = ys.length := by omega
  refine ats_skip ?_
  refine gBN ?_
  (repeat refine ats_seq ?_); refine ats_loop (fun i : Nat => ⟨[(0, .l1 xs), (1, .l1 ys), (5, .int i)], []⟩) (fun i => i ≤ xs.length ∧ ∀ b, b < i → xs.getD b 0 = ys.getD b 0) (fun i => xs.length - i) 0 ⟨Nat.zero_le _, fun a h => absurd h (Nat.not_lt_zero a)⟩ (by refine And.intro ?_ rfl; simp only [leS, Nat.reduceEqDiff, ↓reduceIte, true_and, and_true]; rfl) (fun i hi => ?_); obtain ⟨hi, Hi⟩ := hi
  refine gBN ?_
  refine gI (fun h2 => ?_) fun h2 => ?_
  ·refine ats_skip ?_
   (repeat refine ats_seq ?_); refine ats_block ?_
   (repeat refine ats_seq ?_); refine ats_pick (by first | exact fix0 hcx | exact fixN hcx rfl) mixed (by kernel_rfl) fun K hK => ?_; simp only [go_sem, seval]; (repeat refine aI (hb := ?_)); refine hK _ ?_; clear hK K
   refine gI (fun h3 => ?_) fun h3 => ?_
   ·refine gBN ?_
    refine ats_ret (finB rfl ?_)
    exact (decide_eq_false (fun h => h3 (by rw [h]))).symm
   ·refine ats_skip ?_
    refine gBN ?_
    refine ⟨i + 1, ⟨by omega, fun a ha => by rcases Nat.lt_succ_iff_lt_or_eq.1 ha with h | rfl; exact Hi a h; exact (by omega)⟩, by omega, .inl ⟨?_, rfl⟩⟩; simp only [leS, Nat.reduceEqDiff, ↓reduceIte, true_and, and_true]; omega
  ·refine ats_exit (lq_x ?_)
   refine gBN ?_
   refine ats_ret (finB rfl ?_)
   refine (decide_eq_true (List.ext_getElem el fun j j1 j2 => ?_)).symm
   have := Hi j (by omega)
   rw [List.getD_eq_getElem?_getD, List.getElem?_eq_getElem j1, List.getD_eq_getElem?_getD, List.getElem?_eq_getElem j2] at this
   simpa using this
theorem belowB_ok (s : Src) (hs : s.Ok) (n : Int) (hn : n ≤ 1099511627776) : OwnCall Try.prog 59 [.bptr 0 0, .int n] (TS s) (TS (nx s n).2) (.int (nx s n).1) [0] := by
 obtain ⟨hl, hb, hp, hh⟩ := hs
 unfold nx TS
 by_cases h1 : n < 1
 ·rw [if_pos h1]
  dsimp only
  refine OwnCall.intro (n := 58) (rs := [.tmp 4]) 2 [0] (X := [0]) Try.call59 Try.func59 rfl rfl rfl (by simp only [List.length_cons, List.length_nil]; omega) (by simp [Aw.ids, rootsA, rootsAs, argSlots, slotGet]) (fun cx hcx => AT.weakG (ats_of ?_)); simp only [argSlots, Nat.zero_add, Nat.reduceAdd]
  refine gBN ?_
  refine gBN ?_
  refine gI (fun h => ?_) fun h => ?_
  ·refine gBN ?_
   refine ats_ret ⟨⟨[(0, .bptr 0 0), (4, .int 0)], [(0, .bx [.lv (bsV s.code), .int s.pos, .ik .u64 s.h])]⟩, ghost_to [] [], .inr rfl, (by first | rfl | exact ⟨trivial, rfl⟩ | (simp only [resL, resA, go_sem, seval]; done)), (by simp [St.get, slotGet, argSlots]), rfl⟩
  ·omega
 ·rw [if_neg h1]
  have bx := nxX_bd (nxH s.h)
  have bh := nxH_bd s.h
  have et : ∀ x : Int, 0 ≤ x → x.tmod n = x % n := fun x hx => Int.tmod_eq_emod_of_nonneg hx
  by_cases h2 : s.pos < s.code.length
  ·rw [if_pos h2]
   have hb2 := hb _ h2
   have e1 := et (nxX (nxH s.h) + s.code.getD s.pos 0) (by omega)
   have m1 := Int.emod_nonneg (nxX (nxH s.h) + s.code.getD s.pos 0) (show n ≠ 0 by omega)
   have m2 := Int.emod_lt_of_pos (nxX (nxH s.h) + s.code.getD s.pos 0) (show 0 < n by omega)
   dsimp only
   rw [show ((s.pos + 1 : Nat) : Int) = (s.pos : Int) + 1 by push_cast; rfl]
   refine OwnCall.intro (n := 58) (rs := [.tmp 4]) 2 [0] (X := [0]) Try.call59 Try.func59 rfl rfl rfl (by simp only [List.length_cons, List.length_nil]; omega) (by simp [Aw.ids, rootsA, rootsAs, argSlots, slotGet]) (fun cx hcx => AT.weakG (ats_of ?_)); simp only [argSlots, Nat.zero_add, Nat.reduceAdd]
   refine gBN ?_
   refine gBN ?_
   refine gI (fun h => ?_) fun h => ?_
   ·omega
   ·refine ats_skip ?_
    refine gCN fun K hK => ?_
    simp only [nxH_eq]
    refine hK _ ?_; clear hK K
    refine gCN fun K hK => ?_
    simp only [nxX_eq]
    (repeat refine aI (hb := ?_))
    refine hK _ ?_; clear hK K
    (repeat refine ats_seq ?_); refine AT.ghost (st' := ⟨[(0, .bptr 0 0), (1, .int n), (5, .int (nxX (nxH s.h)))], [(0, .bx [.lv (bsV s.code), .int s.pos, .ik .u64 (nxH s.h)])]⟩) (ghost_can [] (by simp only [go_sem, seval, AV.int.injEq, AV.bool.injEq, AV.l1.injEq, AV.l2.injEq, AV.l3.injEq]) (by simp only [go_sem, seval])) ?_
    (repeat refine ats_seq ?_); refine ats_pick (by first | exact fix0 hcx | exact fixN hcx rfl) mixed (by kernel_rfl) fun K hK => ?_; simp only [go_sem, seval]; (repeat refine aI (hb := ?_)); refine hK _ ?_; clear hK K
    refine gI (fun h3 => ?_) fun h3 => ?_
    ·(repeat refine ats_seq ?_); refine ats_pick (by first | exact fix0 hcx | exact fixN hcx rfl) mixed (by kernel_rfl) fun K hK => ?_; simp only [go_sem, seval]
     simp only [bsV_get h2]
     simp only [go_sem, seval]
     (repeat refine aI (hb := ?_))
     refine hK _ ?_; clear hK K
     refine gBN ?_
     refine gCN fun K hK => ?_
     simp only [e1]
     (repeat refine aI (hb := ?_))
     refine hK _ ?_; clear hK K
     refine ats_ret ⟨⟨[(0, .bptr 0 0), (4, .int ((nxX (nxH s.h) + s.code.getD s.pos 0) % n))], [(0, .bx [.lv (bsV s.code), .int ((s.pos : Int) + 1), .ik .u64 (nxH s.h)])]⟩, ghost_to [] [], .inr rfl, (by first | rfl | exact ⟨trivial, rfl⟩ | (simp only [resL, resA, go_sem, seval]; done)), (by simp [St.get, slotGet, argSlots]), rfl⟩
    ·omega
  ·rw [if_neg h2]
   have e1 := et (nxX (nxH s.h)) (by omega)
   have m1 := Int.emod_nonneg (nxX (nxH s.h)) (show n ≠ 0 by omega)
   have m2 := Int.emod_lt_of_pos (nxX (nxH s.h)) (show 0 < n by omega)
   dsimp only
   refine OwnCall.intro (n := 58) (rs := [.tmp 4]) 2 [0] (X := [0]) Try.call59 Try.func59 rfl rfl rfl (by simp only [List.length_cons, List.length_nil]; omega) (by simp [Aw.ids, rootsA, rootsAs, argSlots, slotGet]) (fun cx hcx => AT.weakG (ats_of ?_)); simp only [argSlots, Nat.zero_add, Nat.reduceAdd]
   refine gBN ?_
   refine gBN ?_
   refine gI (fun h => ?_) fun h => ?_
   ·omega
   ·refine ats_skip ?_
    refine gCN fun K hK => ?_
    simp only [nxH_eq]
    refine hK _ ?_; clear hK K
    refine gCN fun K hK => ?_
    simp only [nxX_eq]
    (repeat refine aI (hb := ?_))
    refine hK _ ?_; clear hK K
    (repeat refine ats_seq ?_); refine AT.ghost (st' := ⟨[(0, .bptr 0 0), (1, .int n), (5, .int (nxX (nxH s.h)))], [(0, .bx [.lv (bsV s.code), .int s.pos, .ik .u64 (nxH s.h)])]⟩) (ghost_can [] (by simp only [go_sem, seval, AV.int.injEq, AV.bool.injEq, AV.l1.injEq, AV.l2.injEq, AV.l3.injEq]) (by simp only [go_sem, seval])) ?_
    (repeat refine ats_seq ?_); refine ats_pick (by first | exact fix0 hcx | exact fixN hcx rfl) mixed (by kernel_rfl) fun K hK => ?_; simp only [go_sem, seval]; (repeat refine aI (hb := ?_)); refine hK _ ?_; clear hK K
    refine gI (fun h3 => ?_) fun h3 => ?_
    ·omega
    ·refine ats_skip ?_
     refine gCN fun K hK => ?_
     simp only [e1]
     (repeat refine aI (hb := ?_))
     refine hK _ ?_; clear hK K
     refine ats_ret ⟨⟨[(0, .bptr 0 0), (4, .int (nxX (nxH s.h) % n))], [(0, .bx [.lv (bsV s.code), .int s.pos, .ik .u64 (nxH s.h)])]⟩, ghost_to [] [], .inr rfl, (by first | rfl | exact ⟨trivial, rfl⟩ | (simp only [resL, resA, go_sem, seval]; done)), (by simp [St.get, slotGet, argSlots]), rfl⟩
theorem below_ok (s : Src) (hs : s.Ok) (n : Int) (hn : n ≤ 1099511627776) : OwnCall Try.prog 59 [.bptr 0 0, .int n] [(0, srcB s)] [(0, srcB (nx s n).2)] (.int (nx s n).1) [0] := belowB_ok s hs n hn
def rlH (c : List Int) (seed : Int) : Nat → Int
 | 0 => (seed * 6007 % 18446744073709551616 + (c.length : Int) % 18446744073709551616) % 18446744073709551616
 | i + 1 => ((rlH c seed i * 1099511628211 % 18446744073709551616 + c.getD i 0 % 18446744073709551616) % 18446744073709551616 + 5) % 18446744073709551616
def rlS (c : List Int) (seed : Int) : Src := ⟨c, 0, rlH c seed c.length⟩
theorem rlH_bd (c : List Int) (seed : Int) : ∀ i, 0 ≤ rlH c seed i ∧ rlH c seed i < 18446744073709551616
 | 0 => by unfold rlH; omega
 | i + 1 => by unfold rlH; omega
theorem rlS_ok {c : List Int} {seed : Int} (hc : CodeOk c) : (rlS c seed).Ok := ⟨hc.len, hc.byte, Nat.zero_le _, rlH_bd _ _ _⟩
theorem roll_ok (c : List Int) (hc : CodeOk c) (seed : Int) : OwnCall Try.prog 16 [.lv (bsV c), .ik .u64 seed] [] [(0, srcB (rlS c seed))] (.bptr 0 0) [] := by
 have hl := hc.len
 have hb := hc.byte
 unfold srcB rlS
 dsimp only
 obtain ⟨N, eN⟩ : ∃ N, c.length = N := ⟨_, rfl⟩
 have lb : (bsV c).length = N := by rw [bsV_len, eN]
 rw [eN] at hl ⊢
 refine OwnCall.intro (n := 38) (rs := [.tmp 4]) 2 [0] (X := []) Try.call16 Try.func16 rfl rfl rfl (by simp only [List.length_cons, List.length_nil]; omega) (by simp [Aw.ids, rootsA, rootsAs, argSlots, slotGet]) (fun cx hcx => AT.weakG (ats_of ?_)); simp only [argSlots, Nat.zero_add, Nat.reduceAdd]
 refine gBN ?_
 refine gBN ?_
 refine gBN ?_
 (repeat refine ats_seq ?_); refine ats_loop (fun i : Nat => ⟨[(0, .lv (bsV c)), (5, .bptr 0 0), (6, .int i)], [(0, .bx [.lv (bsV c), .int (0 : Nat), .ik .u64 (rlH c seed i)])]⟩) (fun i => i ≤ N) (fun i => N - i) 0 (Nat.zero_le _) (by
  refine And.intro ?_ rfl; simp only [leS, Nat.reduceEqDiff, ↓reduceIte, true_and, and_true]
  try rfl) (fun i hi => ?_)
 refine gBN ?_
 refine gI (fun hc2 => ?_) fun hc2 => ?_
 ·have hlt : i < c.length := by omega
  have hbi := hb i hlt
  have es : rlH c seed (i + 1) = ((rlH c seed i * 1099511628211 % 18446744073709551616 + c.getD i 0 % 18446744073709551616) % 18446744073709551616 + 5) % 18446744073709551616 := rfl
  refine ats_skip ?_
  (repeat refine ats_seq ?_); refine ats_block ?_
  (repeat refine ats_seq ?_)
  refine ats_plan [] (.one 0 (.one 1 (.one 2 (.one 3 (.one 4 (.one 5 (.one 6 (.one 7 (.one 8 (.one 9 (.one 10 (.one 11 (.one 12 (.one 13 (.one 14 (.alt 15 .fin .stop)))))))))))))))) ⟨[(0, .lv (bsV c)), (5, .bptr 0 0), (6, .int i)], [(0, .bx [.lv (bsV c), .int (0 : Nat), .ik .u64 (rlH c seed (i + 1))])]⟩ (by first | exact fix0 hcx | exact fixN hcx rfl) mixed (by kernel_rfl) (fun K hK => ?_) ?_
  ·simp only [go_sem, seval, Option.getD_some, and_true, true_and, and_self, List.contains_cons, List.contains_nil, Bool.or_false, Bool.or_true]
   repeat' (first | exact hK _ (by refine And.intro ?_ rfl; simp only [leS, Nat.reduceEqDiff, ↓reduceIte, true_and, and_true])  | with_reducible refine And.intro ?_ ?_ | omega | ((simp only [bsV_get hlt, ← es])) | (simp only [go_sem, seval, Option.getD_some, and_true, true_and, and_self, List.contains_cons, List.contains_nil, Bool.or_false, Bool.or_true]))
  refine gBN ?_
  refine ⟨i + 1,  by omega, by omega, .inl ⟨by simp only [leS, Nat.reduceEqDiff, ↓reduceIte, true_and, and_true]; (try omega),  rfl⟩⟩
 ·have e : i = N := by omega
  subst e
  refine ats_exit (lq_x ?_)
  refine gBN ?_
  refine ats_ret ⟨⟨[(0, .lv (bsV c)), (4, .bptr 0 0)], [(0, .bx [.lv (bsV c), .int (0 : Nat), .ik .u64 (rlH c seed i)])]⟩, ghost_to [] [], .inr rfl, (by first | rfl | exact ⟨trivial, rfl⟩ | (simp only [resL, resA, go_sem, seval]; done)), (by simp [St.get, slotGet, argSlots]), rfl⟩
def v9L : Nat → List Int → Src → List Int × Src
 | 0, o, s => (o, s)
 | k + 1, o, s => v9L k (o ++ [(nx s 5).1]) (nx s 5).2
theorem v9L_fact : ∀ (k : Nat) (o : List Int) (s : Src), s.Ok → (∀ x ∈ o, 0 ≤ x ∧ x ≤ 4) → (v9L k o s).2.Ok ∧ (v9L k o s).1.length = o.length + k ∧ ∀ x ∈ (v9L k o s).1, 0 ≤ x ∧ x ≤ 4
 | 0, o, s, hs, ho => ⟨hs, rfl, ho⟩
 | k + 1, o, s, hs, ho => by
  have b := nx_bd s (n := 5) (by decide)
  have h := v9L_fact k (o ++ [(nx s 5).1]) (nx s 5).2 (nx_ok hs _) (fun x hx => by
   rcases List.mem_append.1 hx with h | h
   ·exact ho x h
   ·simp only [List.mem_singleton] at h; omega)
  refine ⟨h.1, h.2.1.trans ?_, h.2.2⟩
  rw [List.length_append]
  simp only [List.length_cons, List.length_nil]
  omega
theorem vector9_ok (s : Src) (hs : s.Ok) (n : Nat) (hn : n ≤ 16) : OwnCall Try.prog 17 [.bptr 0 0, .int n] [(0, srcB s)] [(0, srcB (v9L n [] s).2)] (.l1 (v9L n [] s).1) [0] := by
 have fL := v9L_fact n [] s hs (fun x hx => by cases hx)
 obtain ⟨R, eR⟩ : ∃ R, v9L n [] s = R := ⟨_, rfl⟩
 rw [eR] at fL ⊢
 refine OwnCall.intro (n := 17) (rs := [.tmp 4]) 1 [0] (X := [0]) Try.call17 Try.func17 rfl rfl rfl (by simp only [List.length_cons, List.length_nil]; omega) (by simp [Aw.ids, rootsA, rootsAs, argSlots, slotGet]) (fun cx hcx => AT.weakG (ats_of ?_)); simp only [argSlots, Nat.zero_add, Nat.reduceAdd]
 refine gBN ?_
 refine gBN ?_
 (repeat refine ats_seq ?_); refine ats_loop (fun x : Nat × List Int × Src => ⟨[(0, .bptr 0 0), (1, .int x.1), (5, .ref 1 [])], [(0, srcB x.2.2), (1, .t1 x.2.1)]⟩) (fun x => x.2.2.Ok ∧ x.1 ≤ n ∧ x.2.1.length = n - x.1 ∧ v9L x.1 x.2.1 x.2.2 = R) (fun x => x.1) (n, [], s) ⟨hs, Nat.le_refl _, by simp, eR⟩ (by
  refine And.intro ?_ rfl; simp only [leS, Nat.reduceEqDiff, ↓reduceIte, true_and, and_true]
  try rfl) (fun x hx => ?_)
 obtain ⟨k, o, s1⟩ := x
 dsimp only at hx ⊢
 obtain ⟨ok, hk, hl, eD⟩ := hx
 refine gBN ?_
 refine gI (fun hc => ?_) fun hc => ?_
 ·obtain ⟨k, rfl⟩ : ∃ j, k = j + 1 := ⟨k - 1, by omega⟩
  have hN1 := below_ok s1 ok 5 (by omega)
  have b1 := nx_bd s1 (n := 5) (by omega)
  have ok3 := nx_ok ok 5
  unfold v9L at eD
  generalize nx s1 5 = r at *
  refine ats_skip ?_
  (repeat refine ats_seq ?_); refine ats_block ?_
  refine gCN fun K hK => ?_
  (repeat refine aI (hb := ?_))
  refine fcall_src (hN1) rfl rfl ?_; simp only [go_sem, seval]
  (repeat refine aI (hb := ?_))
  refine hK _ ?_; clear hK K
  (repeat refine ats_seq ?_); refine AT.ghost (st' := ⟨[(0, .bptr 0 0), (1, .int ((k + 1 : Nat) : Int)), (5, .ref 1 [])], [(0, srcB r.2), (1, .t1 (o ++ [r.1]))]⟩) (ghost_to [2] []) ?_
  refine gBN ?_
  refine ⟨(k, o ++ [r.1], r.2),  ⟨ok3, by dsimp only; omega, by dsimp only; rw [List.length_append, List.length_cons, List.length_nil]; omega, eD⟩, by omega, .inl ⟨by simp only [leS, Nat.reduceEqDiff, ↓reduceIte, true_and, and_true]; omega,  rfl⟩⟩
 ·obtain rfl : k = 0 := by omega
  have eD' : (o, s1) = R := eD
  subst eD'
  dsimp only at *
  refine ats_exit (lq_x ?_)
  refine gBN ?_
  (repeat refine ats_seq ?_); refine AT.ghost (ghost_frz [1]) ?_; simp only [frzV, find, killA, killAs, killT_srcB, killAs_bsV, qOf, rmT, killH, killT_e, List.map_cons, List.map_nil, List.filter_cons, List.filter_nil, List.contains_cons, List.contains_nil, Bool.or_false, Bool.or_true, Bool.false_and, Bool.not_true, Bool.not_false, Bool.false_eq_true, if_true, if_false, seval]
  refine ats_ret ⟨⟨[(0, .bptr 0 0), (4, .l1 o)], [(0, srcB s1)]⟩, ghost_to [] [], .inr rfl, (by first | rfl | exact ⟨trivial, rfl⟩ | (simp only [resL, resA, go_sem, seval]; done)), (by simp [St.get, slotGet, argSlots]), rfl⟩
end Go.Proofs.Ytjcfefgbieeheaa
namespace Go.Proofs.Ytjcfefgbieeheaa
open Go Go.Aw Go.Pl
end Go.Proofs.Ytjcfefgbieeheaa
