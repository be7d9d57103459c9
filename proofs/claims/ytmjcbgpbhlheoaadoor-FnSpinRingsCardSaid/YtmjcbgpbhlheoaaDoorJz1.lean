import Derived.Test.YtmjcbgpbhlheoaaDoorKp1
import Derived.Test.YtmjcbgpbhlheoaaDoorLib7
import Derived.Test.YtmjcbgpbhlheoaaDoorWx2
import Derived.Test.YtmjcbgpbhlheoaaDoorLib6
import Derived.Test.YtmjcbgpbhlheoaaDoorDz1
set_option linter.unusedSimpArgs false
set_option linter.unusedVariables false
namespace Go.Proofs.YtmjcbgpbhlheoaaDoor
open Go Go.Aw Go.Pl
attribute [local go_sem] pl_fin pl_stop pl_one pl_alt PK_ap pickO List.getElem?_toArray List.getElem?_cons_zero List.getElem?_cons_succ
theorem rns_bsV {f : Nat → Nat} : ∀ {c : List Int}, rns f (bsV c) = bsV c
 | [] => rfl
 | b :: c => by
  show rn f (.ik .u8 b) :: rns f (bsV c) = .ik .u8 b :: bsV c
  rw [rns_bsV]
  rfl
attribute [go_sem] killAs_bsV areData_bsV bsV_len rns_bsV
attribute [simp] killAs_bsV areData_bsV bsV_len
def TS (s : Src) : List (Nat × Tree) := [(0, .bx [.lv (bsV s.code), .int s.pos, .ik .u64 s.h])]
theorem nxH_eq (h : Int) : (h * 6364136223846793005 % 18446744073709551616 + 1442695040888963407) % 18446744073709551616 = nxH h := rfl
theorem nxX_eq (h : Int) : andK .u64 (h.fdiv (2 ^ min 33 64)) 16777215 = nxX h := rfl
theorem l01Next_ok (s : Src) (hs : s.Ok) (n : Int) (hn : n ≤ 1099511627776) : OwnCall Tryd.prog 18 [.bptr 0 0, .int n] (TS s) (TS (nx s n).2) (.int (nx s n).1) [0] := by
 obtain ⟨hl, hb, hp, hh⟩ := hs
 unfold nx TS
 by_cases h1 : n < 1
 ·rw [if_pos h1]
  dsimp only
  refine OwnCall.intro (n := 58) (rs := [.tmp 4]) 2 [0] (X := [0]) Tryd.call18 Tryd.func18 rfl rfl rfl (by simp only [List.length_cons, List.length_nil]; omega) (by simp [Aw.ids, rootsA, rootsAs, argSlots, slotGet]) (fun cx hcx => AT.weakG (ats_of ?_)); simp only [argSlots, Nat.zero_add, Nat.reduceAdd]
  refine gBN ?_
  refine gBN ?_
  refine gI (fun h => ?_) fun h => ?_
  ·refine gBN ?_
   refine ats_ret ⟨⟨[(0, .bptr 0 0), (4, .int 0)], [(0, .bx [.lv (bsV s.code), .int s.pos, .ik .u64 s.h])]⟩, ghost_to [] [], .inr rfl, (by first | rfl | exact ⟨trivial, rfl⟩ | (simp only [resL, resA, go_sem, seval]; done)), (by simp [St.get, slotGet, argSlots]), rfl⟩
  ·omega
 ·rw [if_neg h1]
  have bx := nxX_bd (nxH s.h)
  have bh := nxH_bd s.h
  have et : ∀ x : Int, 0 ≤ x → x.tmod n = x % n := fun x hx => Int.tmod_eq_emod_of_nonneg hx
  by_cases h2 : s.pos < s.code.length
  ·rw [if_pos h2]
   have hb2 := hb _ h2
   have e1 := et (nxX (nxH s.h) + s.code.getD s.pos 0) (by omega)
   have m1 := Int.emod_nonneg (nxX (nxH s.h) + s.code.getD s.pos 0) (show n ≠ 0 by omega)
   have m2 := Int.emod_lt_of_pos (nxX (nxH s.h) + s.code.getD s.pos 0) (show 0 < n by omega)
   dsimp only
   rw [show ((s.pos + 1 : Nat) : Int) = (s.pos : Int) + 1 by push_cast; rfl]
   refine OwnCall.intro (n := 58) (rs := [.tmp 4]) 2 [0] (X := [0]) Tryd.call18 Tryd.func18 rfl rfl rfl (by simp only [List.length_cons, List.length_nil]; omega) (by simp [Aw.ids, rootsA, rootsAs, argSlots, slotGet]) (fun cx hcx => AT.weakG (ats_of ?_)); simp only [argSlots, Nat.zero_add, Nat.reduceAdd]
   refine gBN ?_
   refine gBN ?_
   refine gI (fun h => ?_) fun h => ?_
   ·omega
   ·refine ats_skip ?_
    refine gCN fun K hK => ?_
    simp only [nxH_eq]
    refine hK _ ?_; clear hK K
    refine gCN fun K hK => ?_
    simp only [nxX_eq]
    (repeat refine aI (hb := ?_))
    refine hK _ ?_; clear hK K
    (repeat refine ats_seq ?_); refine AT.ghost (st' := ⟨[(0, .bptr 0 0), (1, .int n), (5, .int (nxX (nxH s.h)))], [(0, .bx [.lv (bsV s.code), .int s.pos, .ik .u64 (nxH s.h)])]⟩) (ghost_can [] (by simp only [go_sem, seval, AV.int.injEq, AV.bool.injEq, AV.l1.injEq, AV.l2.injEq, AV.l3.injEq]) (by simp only [go_sem, seval])) ?_
    (repeat refine ats_seq ?_); refine ats_pick (by first | exact fix0 hcx | exact fixN hcx rfl) mixed (by kernel_rfl) fun K hK => ?_; simp only [go_sem, seval]; (repeat refine aI (hb := ?_)); refine hK _ ?_; clear hK K
    refine gI (fun h3 => ?_) fun h3 => ?_
    ·(repeat refine ats_seq ?_); refine ats_pick (by first | exact fix0 hcx | exact fixN hcx rfl) mixed (by kernel_rfl) fun K hK => ?_; simp only [go_sem, seval]
     simp only [bsV_get h2]
     simp only [go_sem, seval]
     (repeat refine aI (hb := ?_))
     refine hK _ ?_; clear hK K
     refine gBN ?_
     refine gCN fun K hK => ?_
     simp only [e1]
     (repeat refine aI (hb := ?_))
     refine hK _ ?_; clear hK K
     refine ats_ret ⟨⟨[(0, .bptr 0 0), (4, .int ((nxX (nxH s.h) + s.code.getD s.pos 0) % n))], [(0, .bx [.lv (bsV s.code), .int ((s.pos : Int) + 1), .ik .u64 (nxH s.h)])]⟩, ghost_to [] [], .inr rfl, (by first | rfl | exact ⟨trivial, rfl⟩ | (simp only [resL, resA, go_sem, seval]; done)), (by simp [St.get, slotGet, argSlots]), rfl⟩
    ·omega
  ·rw [if_neg h2]
   have e1 := et (nxX (nxH s.h)) (by omega)
   have m1 := Int.emod_nonneg (nxX (nxH s.h)) (show n ≠ 0 by omega)
   have m2 := Int.emod_lt_of_pos (nxX (nxH s.h)) (show 0 < n by omega)
   dsimp only
   refine OwnCall.intro (n := 58) (rs := [.tmp 4]) 2 [0] (X := [0]) Tryd.call18 Tryd.func18 rfl rfl rfl (by simp only [List.length_cons, List.length_nil]; omega) (by simp [Aw.ids, rootsA, rootsAs, argSlots, slotGet]) (fun cx hcx => AT.weakG (ats_of ?_)); simp only [argSlots, Nat.zero_add, Nat.reduceAdd]
   refine gBN ?_
   refine gBN ?_
   refine gI (fun h => ?_) fun h => ?_
   ·omega
   ·refine ats_skip ?_
    refine gCN fun K hK => ?_
    simp only [nxH_eq]
    refine hK _ ?_; clear hK K
    refine gCN fun K hK => ?_
    simp only [nxX_eq]
    (repeat refine aI (hb := ?_))
    refine hK _ ?_; clear hK K
    (repeat refine ats_seq ?_); refine AT.ghost (st' := ⟨[(0, .bptr 0 0), (1, .int n), (5, .int (nxX (nxH s.h)))], [(0, .bx [.lv (bsV s.code), .int s.pos, .ik .u64 (nxH s.h)])]⟩) (ghost_can [] (by simp only [go_sem, seval, AV.int.injEq, AV.bool.injEq, AV.l1.injEq, AV.l2.injEq, AV.l3.injEq]) (by simp only [go_sem, seval])) ?_
    (repeat refine ats_seq ?_); refine ats_pick (by first | exact fix0 hcx | exact fixN hcx rfl) mixed (by kernel_rfl) fun K hK => ?_; simp only [go_sem, seval]; (repeat refine aI (hb := ?_)); refine hK _ ?_; clear hK K
    refine gI (fun h3 => ?_) fun h3 => ?_
    ·omega
    ·refine ats_skip ?_
     refine gCN fun K hK => ?_
     simp only [e1]
     (repeat refine aI (hb := ?_))
     refine hK _ ?_; clear hK K
     refine ats_ret ⟨⟨[(0, .bptr 0 0), (4, .int (nxX (nxH s.h) % n))], [(0, .bx [.lv (bsV s.code), .int s.pos, .ik .u64 (nxH s.h)])]⟩, ghost_to [] [], .inr rfl, (by first | rfl | exact ⟨trivial, rfl⟩ | (simp only [resL, resA, go_sem, seval]; done)), (by simp [St.get, slotGet, argSlots]), rfl⟩
def frH (c : List Int) : Nat → Int
 | 0 => (7219 + (c.length : Int) % 18446744073709551616) % 18446744073709551616
 | i + 1 => ((frH c i * 1099511628211 % 18446744073709551616 + c.getD i 0 % 18446744073709551616) % 18446744073709551616 + 11) % 18446744073709551616
def frS (c : List Int) : Src := ⟨c, 0, frH c (min c.length 4096)⟩
theorem frH_bd (c : List Int) : ∀ i, 0 ≤ frH c i ∧ frH c i < 18446744073709551616
 | 0 => by unfold frH; omega
 | i + 1 => by unfold frH; omega
theorem frS_ok {c : List Int} (hl : c.length ≤ 1048576) (hb : ∀ i, i < c.length → 0 ≤ c.getD i 0 ∧ c.getD i 0 ≤ 255) : (frS c).Ok := ⟨hl, hb, Nat.zero_le _, frH_bd _ _⟩
theorem l01From_ok (c : List Int) (hl : c.length ≤ 1048576) (hb : ∀ i, i < c.length → 0 ≤ c.getD i 0 ∧ c.getD i 0 ≤ 255) : OwnCall Tryd.prog 19 [.lv (bsV c)] [] (TS (frS c)) (.bptr 0 0) [] := by
 unfold TS frS
 dsimp only
 obtain ⟨N, eN⟩ : ∃ N, min c.length 4096 = N := ⟨_, rfl⟩
 rw [eN]
 refine OwnCall.intro (n := 38) (rs := [.tmp 2]) 1 [0] (X := []) Tryd.call19 Tryd.func19 rfl rfl rfl (by simp only [List.length_cons, List.length_nil]; omega) (by simp [Aw.ids, rootsA, rootsAs, argSlots, slotGet]) (fun cx hcx => AT.weakG (ats_of ?_)); simp only [argSlots, Nat.zero_add, Nat.reduceAdd]
 refine gBN ?_
 refine gBN ?_
 refine gBN ?_
 (repeat refine ats_seq ?_); refine ats_loop (fun i : Nat => ⟨[(0, .lv (bsV c)), (3, .bptr 0 0), (4, .int i)], [(0, .bx [.lv (bsV c), .int (0 : Nat), .ik .u64 (frH c i)])]⟩) (fun i => i ≤ N) (fun i => N - i) 0 (Nat.zero_le _) (by
  refine And.intro ?_ rfl; simp only [leS, Nat.reduceEqDiff, ↓reduceIte, true_and, and_true]
  try rfl) (fun i hi => ?_)
 refine gBN ?_
 refine gI (fun hc => ?_) fun hc => ?_
 ·have hlt : i < c.length ∧ i < N := by
   simp only [Bool.and_eq_true, decide_eq_true_eq] at hc
   omega
  have hbi := hb i hlt.1
  have es : frH c (i + 1) = ((frH c i * 1099511628211 % 18446744073709551616 + c.getD i 0 % 18446744073709551616) % 18446744073709551616 + 11) % 18446744073709551616 := rfl
  refine ats_skip ?_
  (repeat refine ats_seq ?_); refine ats_block ?_
  (repeat refine ats_seq ?_)
  refine ats_plan [] (.one 0 (.one 1 (.one 2 (.one 3 (.one 4 (.one 5 (.one 6 (.one 7 (.one 8 (.one 9 (.one 10 (.one 11 (.one 12 (.one 13 (.one 14 (.alt 15 .fin .stop)))))))))))))))) ⟨[(0, .lv (bsV c)), (3, .bptr 0 0), (4, .int i)], [(0, .bx [.lv (bsV c), .int (0 : Nat), .ik .u64 (frH c (i + 1))])]⟩ (by first | exact fix0 hcx | exact fixN hcx rfl) mixed (by kernel_rfl) (fun K hK => ?_) ?_
  ·simp only [go_sem, seval, Option.getD_some, and_true, true_and, and_self, List.contains_cons, List.contains_nil, Bool.or_false, Bool.or_true]
   repeat' (first | exact hK _ (by refine And.intro ?_ rfl; simp only [leS, Nat.reduceEqDiff, ↓reduceIte, true_and, and_true])  | with_reducible refine And.intro ?_ ?_ | omega | ((simp only [bsV_get hlt.1, ← es])) | (simp only [go_sem, seval, Option.getD_some, and_true, true_and, and_self, List.contains_cons, List.contains_nil, Bool.or_false, Bool.or_true]))
  refine gBN ?_
  refine ⟨i + 1,  by omega, by omega, .inl ⟨by simp only [leS, Nat.reduceEqDiff, ↓reduceIte, true_and, and_true]; (try omega),  rfl⟩⟩
 ·have e : i = N := by
   simp only [Bool.and_eq_false_iff, decide_eq_false_iff_not] at hc
   omega
  subst e
  refine ats_exit (lq_x ?_)
  refine gBN ?_
  refine ats_ret ⟨⟨[(0, .lv (bsV c)), (2, .bptr 0 0)], [(0, .bx [.lv (bsV c), .int (0 : Nat), .ik .u64 (frH c i)])]⟩, ghost_to [] [], .inr rfl, (by first | rfl | exact ⟨trivial, rfl⟩ | (simp only [resL, resA, go_sem, seval]; done)), (by simp [St.get, slotGet, argSlots]), rfl⟩
end Go.Proofs.YtmjcbgpbhlheoaaDoor
namespace Go.Proofs.YtmjcbgpbhlheoaaDoor
open Go Go.Aw Go.Pl
attribute [local go_sem] pl_fin pl_stop pl_one pl_alt PK_ap pickO List.getElem?_toArray List.getElem?_cons_zero List.getElem?_cons_succ
theorem l06Size16_ok (o : List Int) (h : PosO o) (h16 : prodO o ≤ 16) : PureCall Tryd.prog 80 [.l1 o, .int 16] (.int (prodO o)) := by
 refine PureCall.intro (n := 33) (rs := [.tmp 4]) Tryd.call80 Tryd.func80 rfl rfl rfl (by simp only [List.length_cons, List.length_nil]; omega) (fun cx hcx => ats_of ?_); simp only [argSlots, Nat.zero_add, Nat.reduceAdd]
 refine gA ?_
 refine ats_know 0 fun h0 => ?_; simp only [St.get, slotGet, Nat.reduceEqDiff, ↓reduceIte, if_true, fact, facts] at h0
 have hlen := h0.1
 refine gA ?_
 refine gA ?_
 (repeat refine ats_seq ?_); refine ats_loop (fun k : Nat => ⟨[(0, .l1 o), (1, .int 16), (5, .int (frP o k)), (6, .int k)], []⟩) (fun k => k ≤ o.length) (fun k => o.length - k) 0 (Nat.zero_le _) (by
  refine And.intro ?_ rfl; simp only [leS, Nat.reduceEqDiff, ↓reduceIte, true_and, and_true]
  first | exact ⟨rfl, rfl⟩ | rfl) (fun k hk => ?_)
 have hb := frP_bd (j := o.length) h.2 k hk
 rw [frP_full] at hb
 refine gA ?_
 refine gI (fun h1 => ?_) fun h1 => ?_
 ·have he := entry_le h (show k < o.length by omega)
  have ho := h.2 k (by omega)
  have hb1 := frP_bd (j := o.length) h.2 (k + 1) (by omega)
  have m1 : frP o k * o.getD k 0 ≤ 16 * 16 := Int.mul_le_mul (by omega) (by omega) (by omega) (by omega)
  rw [frP_full] at hb1
  simp only [frP] at hb1
  refine ats_skip ?_
  (repeat refine ats_seq ?_); refine ats_block ?_
  refine gB ?_
  refine gI (fun h2 => ?_) fun h2 => ?_
  ·omega
  ·refine ats_skip ?_
   refine gB ?_
   refine gA ?_
   refine gI (fun h3 => ?_) fun h3 => ?_
   ·omega
   ·refine ats_skip ?_
    refine gB ?_
    refine ⟨k + 1,  by omega, by omega, .inl ⟨?_, rfl⟩⟩; simp only [leS, Nat.reduceEqDiff, ↓reduceIte, true_and, and_true]
    first | exact ⟨rfl, by omega⟩ | omega
 ·obtain rfl : k = o.length := by omega
  rw [frP_full]
  refine ats_exit (lq_x ?_)
  refine gA ?_
  refine ats_ret (finI rfl ?_)
  rfl
set_option maxHeartbeats 2000000 in
theorem l06Add16_ok (o : List Int) (h : PosO o) (h8 : prodO o ≤ 16) (x y : Nat) (hx : x ≤ 16) (hy : y ≤ 16) : PureCall Tryd.prog 81 [.l1 o, .int x, .int y] (.int (ad o x y)) := by
 rw [ad_eq h]
 refine PureCall.intro (n := 58) (rs := [.tmp 6]) Tryd.call81 Tryd.func81 rfl rfl rfl (by simp only [List.length_cons, List.length_nil]; omega) (fun cx hcx => ats_of ?_); simp only [argSlots, Nat.zero_add, Nat.reduceAdd]
 refine gA ?_
 refine ats_know 0 fun h0 => ?_; simp only [St.get, slotGet, Nat.reduceEqDiff, ↓reduceIte, if_true, fact, facts] at h0
 have hlen := h0.1
 refine gA ?_
 refine gB ?_
 (repeat refine ats_seq ?_); refine ats_loop (fun k : Nat => ⟨[(0, .l1 o), (1, .int (adX o x k)), (2, .int (adX o y k)), (7, .int (adS o x y k)), (8, .int (adP o k)), (9, .int ((o.length : Int) - 1 - k))], []⟩) (fun k => k ≤ o.length) (fun k => o.length - k) 0 (Nat.zero_le _) (by
  refine And.intro ?_ rfl; simp only [leS, Nat.reduceEqDiff, ↓reduceIte, true_and, and_true]
  simp only [adX, adS, adP]
  exact ⟨trivial, trivial, trivial, trivial, by omega⟩) (fun k hk => ?_)
 refine gA ?_
 refine gI (fun h1 => ?_) fun h1 => ?_
 ·obtain ⟨j, ej⟩ : ∃ j : Nat, (o.length : Int) - 1 - k = j := ⟨o.length - 1 - k, by omega⟩
  have eq : o.getD j 0 = adQ o k := by unfold adQ; congr 1; omega
  have hkl : k < o.length := by omega
  have q1 := adQ_pos h hkl
  have q2 : adQ o k ≤ prodO o := entry_le h (by omega)
  have bx := adX_bd h (x := x) (by omega) k hk
  have bx1 := adX_bd h (x := x) (by omega) (k + 1) (by omega)
  have bY := adX_bd h (x := y) (by omega) k hk
  have bY1 := adX_bd h (x := y) (by omega) (k + 1) (by omega)
  have cx1 := bx1
  have cY1 := bY1
  have bg := adG_bd h x y hkl
  have bs := adS_bd h x y k hk
  have bs1 := adS_bd h x y (k + 1) (by omega)
  have bp := adP_bd h k hk
  have bp1 := adP_bd h (k + 1) (by omega)
  have m0 : 0 ≤ adG o x y k * adP o k := Int.mul_nonneg bg.1 (by omega)
  simp only [adX, adS, adP] at bx1 bY1 bs1 bp1
  have r1 := Int.emod_nonneg (adX o x k) (show adQ o k ≠ 0 by omega)
  have r2 := Int.emod_lt_of_pos (adX o x k) (show 0 < adQ o k by omega)
  have r3 := Int.emod_nonneg (adX o y k) (show adQ o k ≠ 0 by omega)
  have r4 := Int.emod_lt_of_pos (adX o y k) (show 0 < adQ o k by omega)
  have t1 : (adX o x k).tmod (adQ o k) = adX o x k % adQ o k := Int.tmod_eq_emod_of_nonneg (by omega)
  have t2 : (adX o y k).tmod (adQ o k) = adX o y k % adQ o k := Int.tmod_eq_emod_of_nonneg (by omega)
  have t3 : (adX o x k % adQ o k + adX o y k % adQ o k).tmod (adQ o k) = adG o x y k := Int.tmod_eq_emod_of_nonneg (by omega)
  have t4 : (adX o x k).tdiv (adQ o k) = adX o x (k + 1) := Int.tdiv_eq_ediv_of_nonneg (by omega)
  have t5 : (adX o y k).tdiv (adQ o k) = adX o y (k + 1) := Int.tdiv_eq_ediv_of_nonneg (by omega)
  rw [ej]
  refine ats_skip ?_
  (repeat refine ats_seq ?_); refine ats_block ?_
  (repeat refine ats_seq ?_); refine ats_pick (fix0 hcx) mixed (by kernel_rfl) fun K hK => ?_; simp only [go_sem, seval]
  simp only [eq, t1, t2, t3]
  (repeat refine aI (hb := ?_))
  refine hK _ ?_; clear hK K
  refine gC fun K hK => ?_
  simp only [eq, t4]
  (repeat refine aI (hb := ?_))
  refine hK _ ?_; clear hK K
  refine gC fun K hK => ?_
  simp only [eq, t4]
  (repeat refine aI (hb := ?_))
  refine hK _ ?_; clear hK K
  refine gC fun K hK => ?_
  simp only [eq, t5]
  (repeat refine aI (hb := ?_))
  refine hK _ ?_; clear hK K
  refine gB ?_
  refine ⟨k + 1,  by omega, by omega, .inl ⟨?_, rfl⟩⟩; simp only [leS, Nat.reduceEqDiff, ↓reduceIte, true_and, and_true]
  (repeat' refine And.intro ?_ ?_) <;> first | rfl | omega
 ·obtain rfl : k = o.length := by omega
  refine ats_exit (lq_x ?_)
  refine gA ?_
  refine ats_ret (finI rfl ?_)
  rfl
theorem cub0 (n : Nat) : List.replicate n (List.replicate n (List.replicate n (0 : Int))) = cubF n zG := zeros_cubF n
theorem ad_lt16 {o : List Int} (h : PosO o) (x y : Nat) : ((ad o x y : Nat) : Int) < prodO o := by
 have h1 := ad_eq h x y
 have h2 := (addO_bd h x y).2
 omega
theorem l06Group_ok (o : List Int) (h : PosO o) (more : Nat) (h16 : prodO o + more ≤ 16) : FreshCall Tryd.prog 71 [.l1 o, .int more] (.l3 (grpT o more)) := by
 have hp := prodO_pos h
 obtain ⟨n, en⟩ : ∃ n : Nat, prodO o = n := ⟨(prodO o).toNat, by omega⟩
 have hS := l06Size16_ok o h (by omega)
 have hE := l06Empty_ok (n + more) (by omega)
 rw [cub0] at hE
 have eN : ((n + more : Nat) : Int) = (n : Int) + more := by push_cast; rfl
 rw [eN] at hE
 rw [en] at hS
 unfold grpT grpG
 rw [show (prodO o).toNat = n by omega]
 obtain ⟨N, hN⟩ : ∃ N, n + more = N := ⟨_, rfl⟩
 rw [hN] at hE ⊢
 refine FreshCall.intro (n := 38) (rs := [.tmp 4]) Tryd.call71 Tryd.func71 rfl rfl rfl (by simp only [List.length_cons, List.length_nil]; omega) (fun cx hcx => ats_of ?_); simp only [argSlots, Nat.zero_add, Nat.reduceAdd]
 refine gA ?_
 refine gC fun K hK => ?_
 first | refine fcall_data (hS) rfl ?_ | refine YR_intro (acall_data (hS) rfl) ?_
 simp only [go_sem, seval]
 refine hK _ ?_; clear hK K
 refine gC fun K hK => ?_
 (repeat refine aI (hb := ?_))
 refine fcall_own rfl (hE) rfl ?_; simp only [go_sem, seval]
 refine hK _ ?_; clear hK K
 refine gA ?_
 (repeat refine ats_seq ?_); refine ats_loop (fun i : Nat => ⟨[(0, .l1 o), (1, .int more), (5, .int n), (6, .ref 0 []), (7, .int i)], [(0, .t3 (cubF N (it (fun x g => it (fun y g => updG g x y (ad o x y) 1) n g) i zG)))]⟩) (fun i => i ≤ n) (fun i => n - i) 0 (Nat.zero_le _) (by refine And.intro ?_ rfl; simp only [leS, Nat.reduceEqDiff, ↓reduceIte, true_and, and_true]; repeat' (first | rfl | with_reducible refine And.intro ?_ ?_ | omega)) (fun i hi => ?_)
 obtain ⟨G, eG⟩ : ∃ G, it (fun x g => it (fun y g => updG g x y (ad o x y) 1) n g) i zG = G := ⟨_, rfl⟩
 rw [eG]
 refine gA ?_
 refine gI (fun hli => ?_) fun hli => ?_
 ·refine ats_skip ?_
  (repeat refine ats_seq ?_); refine ats_block ?_
  refine gA ?_
  (repeat refine ats_seq ?_); refine ats_loop (fun j : Nat => ⟨[(0, .l1 o), (1, .int more), (5, .int n), (6, .ref 0 []), (7, .int i), (8, .int j)], [(0, .t3 (cubF N (it (fun y g => updG g i y (ad o i y) 1) j G)))]⟩) (fun j => j ≤ n) (fun j => n - j) 0 (Nat.zero_le _) (by refine And.intro ?_ rfl; simp only [leS, Nat.reduceEqDiff, ↓reduceIte, true_and, and_true]; repeat' (first | rfl | with_reducible refine And.intro ?_ ?_ | omega)) (fun j hj => ?_)
  obtain ⟨G', eG'⟩ : ∃ G', it (fun y g => updG g i y (ad o i y) 1) j G = G' := ⟨_, rfl⟩
  rw [eG']
  refine gA ?_
  refine gI (fun hlj => ?_) fun hlj => ?_
  ·have hA := l06Add16_ok o h (by omega) i j (by omega) (by omega)
   have ha : ad o i j < n := by have := ad_lt16 h i j; omega
   have l1 := cubF_length N G'
   have l2 := cubF_mat (f := G') (show i < N by omega)
   have l3 := cubF_row (f := G') (show i < N by omega) (show j < N by omega)
   have sk := cubF_upd (n := N) (g := G') (i := i) (j := j) (k := ad o i j) (v := 1) (by omega) (by omega)
   refine ats_skip ?_
   (repeat refine ats_seq ?_); refine ats_block ?_
   (repeat refine ats_seq ?_)
   refine ats_plan [] (.one 0 (.one 1 (.one 2 (.one 3 (.one 4 (.one 5 (.one 6 (.one 7 (.one 8 (.one 9 (.one 10 (.one 11 (.alt 12 .fin .stop))))))))))))) ⟨[(0, .l1 o), (1, .int more), (5, .int n), (6, .ref 0 []), (7, .int i), (8, .int j)], [(0, .t3 ((cubF N G').set i (((cubF N G').getD i []).set j ((((cubF N G').getD i []).getD j []).set (ad o i j) 1))))]⟩ (fix0 hcx) mixed (by kernel_rfl) (fun K hK => ?_) ?_
   ·simp only [go_sem, seval, Option.getD_some, and_true, true_and, and_self, List.contains_cons, List.contains_nil, Bool.or_false, Bool.or_true]
    repeat' (first | exact hK _ (by refine And.intro ?_ rfl; simp only [leS, Nat.reduceEqDiff, ↓reduceIte, true_and, and_true])  | with_reducible refine And.intro ?_ ?_ | omega | ((first | refine fcall_data (hA) rfl ?_ | refine YR_intro (acall_data (hA) rfl) ?_); simp only [go_sem, seval, Option.getD_some, and_true, true_and, and_self, List.contains_cons, List.contains_nil, Bool.or_false, Bool.or_true]))
   rw [sk]
   refine gB ?_
   refine ⟨j + 1,  by omega, by omega, .inl ⟨by simp only [leS, Nat.reduceEqDiff, ↓reduceIte, true_and, and_true]; omega,  by rw [← eG']; rfl⟩⟩
  ·obtain rfl : j = n := by omega
   refine ats_exit (lq_x ?_)
   refine gB ?_
   refine ⟨i + 1,  by omega, by omega, .inl ⟨by simp only [leS, Nat.reduceEqDiff, ↓reduceIte, true_and, and_true]; omega,  by rw [← eG', ← eG]; rfl⟩⟩
 ·obtain rfl : i = n := by omega
  refine ats_exit (lq_x ?_)
  refine gA ?_
  exact ats_ret (ownV (is := [0]) rfl ⟨rfl, trivial⟩ (by rw [eG]; rfl) (by simp))
end Go.Proofs.YtmjcbgpbhlheoaaDoor
namespace Go.Proofs.YtmjcbgpbhlheoaaDoor
open Go Go.Aw Go.Pl
theorem tmodN (a n : Nat) : (a : Int).tmod n = ((a % n : Nat) : Int) := by
 rw [Int.tmod_eq_emod_of_nonneg (by omega)]
 exact (Int.natCast_emod a n).symm
theorem tdivN (a n : Nat) : (a : Int).tdiv n = ((a / n : Nat) : Int) := by
 rw [Int.tdiv_eq_ediv_of_nonneg (by omega)]
 exact (Int.natCast_ediv a n).symm
theorem l06DihedralGroup_ok (n : Nat) (h1 : 1 ≤ n) (h8 : n ≤ 8) : FreshCall Tryd.prog 73 [.int n] (.l3 (dhgT n)) := by
 have hE := l06Empty_ok (2 * n) (by omega)
 rw [cub0] at hE
 rw [show ((2 * n : Nat) : Int) = 2 * (n : Int) by push_cast; rfl] at hE
 unfold dhgT
 refine FreshCall.intro (n := 65) (rs := [.tmp 2]) Tryd.call73 Tryd.func73 rfl rfl rfl (by simp only [List.length_cons, List.length_nil]; omega) (fun cx hcx => ats_of ?_); simp only [argSlots, Nat.zero_add, Nat.reduceAdd]
 refine gA ?_
 refine gC fun K hK => ?_
 (repeat refine aI (hb := ?_))
 refine fcall_own rfl (hE) rfl ?_; simp only [go_sem, seval]
 refine hK _ ?_; clear hK K
 refine gA ?_
 (repeat refine ats_seq ?_); refine ats_loop (fun i : Nat => ⟨[(0, .int n), (3, .ref 0 []), (4, .int i)], [(0, .t3 (cubF (2 * n) (it (fun x g => it (fun y g => updG g x y (dhZ n x y) 1) (2 * n) g) i zG)))]⟩) (fun i => i ≤ 2 * n) (fun i => 2 * n - i) 0 (Nat.zero_le _) (by refine And.intro ?_ rfl; simp only [leS, Nat.reduceEqDiff, ↓reduceIte, true_and, and_true]; repeat' (first | rfl | with_reducible refine And.intro ?_ ?_ | omega)) (fun i hi => ?_)
 obtain ⟨G, eG⟩ : ∃ G, it (fun x g => it (fun y g => updG g x y (dhZ n x y) 1) (2 * n) g) i zG = G := ⟨_, rfl⟩
 rw [eG]
 refine gB ?_
 refine gI (fun hli => ?_) fun hli => ?_
 ·refine ats_skip ?_
  (repeat refine ats_seq ?_); refine ats_block ?_
  refine gA ?_
  (repeat refine ats_seq ?_); refine ats_loop (fun j : Nat => ⟨[(0, .int n), (3, .ref 0 []), (4, .int i), (5, .int j)], [(0, .t3 (cubF (2 * n) (it (fun y g => updG g i y (dhZ n i y) 1) j G)))]⟩) (fun j => j ≤ 2 * n) (fun j => 2 * n - j) 0 (Nat.zero_le _) (by refine And.intro ?_ rfl; simp only [leS, Nat.reduceEqDiff, ↓reduceIte, true_and, and_true]; repeat' (first | rfl | with_reducible refine And.intro ?_ ?_ | omega)) (fun j hj => ?_)
  obtain ⟨G', eG'⟩ : ∃ G', it (fun y g => updG g i y (dhZ n i y) 1) j G = G' := ⟨_, rfl⟩
  rw [eG']
  refine gB ?_
  refine gI (fun hlj => ?_) fun hlj => ?_
  ·have l1 := cubF_length (2 * n) G'
   have l2 := cubF_mat (f := G') (show i < 2 * n by omega)
   have l3 := cubF_row (f := G') (show i < 2 * n by omega) (show j < 2 * n by omega)
   have ei := tmodN i n
   have ej := tmodN j n
   obtain ⟨z0, ez0⟩ : ∃ z0, (if n ≤ i then (i % n + n - j % n) % n else (i % n + j % n) % n) = z0 := ⟨_, rfl⟩
   have eZ : dhZ n i j = z0 + (if decide (n ≤ i) = decide (n ≤ j) then 0 else n) := by rw [← ez0]; rfl
   have ai : i % n < n := Nat.mod_lt _ (by omega)
   have aj : j % n < n := Nat.mod_lt _ (by omega)
   have ep := tmodN (i % n + j % n) n
   have em := tmodN (i % n + n - j % n) n
   have hp := Nat.mod_lt (i % n + j % n) (show n > 0 by omega)
   have hm := Nat.mod_lt (i % n + n - j % n) (show n > 0 by omega)
   generalize i % n = a at *
   generalize j % n = b at *
   rw [show ((a + b : Nat) : Int) = (a : Int) + b by omega] at ep
   rw [show ((a + n - b : Nat) : Int) = (a : Int) - b + n by omega] at em
   generalize (a + b) % n = zp at *
   generalize (a + n - b) % n = zm at *
   refine ats_skip ?_
   (repeat refine ats_seq ?_); refine ats_block ?_
   (repeat refine ats_seq ?_); refine ats_pick (fix0 hcx) mixed (by kernel_rfl) fun K hK => ?_; simp only [go_sem, seval]
   simp only [ei, ej]
   (repeat refine aI (hb := ?_))
   refine hK _ ?_; clear hK K
   refine gC fun K hK => ?_
   simp only [ep]
   (repeat refine aI (hb := ?_))
   refine hK _ ?_; clear hK K
   refine gB ?_
   refine gI (fun hx => ?_) fun hx => ?_
   ·rw [if_pos (by omega)] at ez0
    subst ez0
    refine gC fun K hK => ?_
    simp only [em]
    (repeat refine aI (hb := ?_))
    refine hK _ ?_; clear hK K
    refine gB ?_
    refine gI (fun hy => ?_) fun hy => ?_
    ·have hjn : ¬n ≤ j := by
      by_cases hc : n ≤ j
      ·exfalso
       revert hy
       rw [decide_eq_true (show (n : Int) ≤ i by omega), decide_eq_true (show (n : Int) ≤ j by omega)]
       decide
      ·exact hc
     have eZ' : dhZ n i j = zm + n := by
      rw [eZ, decide_eq_true (show n ≤ i by omega), decide_eq_false (show ¬n ≤ j by omega)]
      rfl
     refine gB ?_
     have ec : (zm : Int) + n = ((zm + n : Nat) : Int) := by omega
     rw [ec]
     have sk := cubF_upd (n := 2 * n) (g := G') (i := i) (j := j) (k := zm + n) (v := 1) (by omega) (by omega)
     refine gB ?_
     rw [sk]
     refine gB ?_
     refine ⟨j + 1,  by omega, by omega, .inl ⟨by simp only [leS, Nat.reduceEqDiff, ↓reduceIte, true_and, and_true]; omega,  by rw [← eG', ← eZ']; rfl⟩⟩
    ·have hjn : n ≤ j := by
      by_cases hc : n ≤ j
      ·exact hc
      ·exfalso
       revert hy
       rw [decide_eq_true (show (n : Int) ≤ i by omega), decide_eq_false (show ¬(n : Int) ≤ j by omega)]
       decide
     have eZ' : dhZ n i j = zm := by
      rw [eZ, decide_eq_true (show n ≤ i by omega), decide_eq_true (show n ≤ j by omega)]
      rfl
     refine ats_skip ?_
     have sk := cubF_upd (n := 2 * n) (g := G') (i := i) (j := j) (k := zm) (v := 1) (by omega) (by omega)
     refine gB ?_
     rw [sk]
     refine gB ?_
     refine ⟨j + 1,  by omega, by omega, .inl ⟨by simp only [leS, Nat.reduceEqDiff, ↓reduceIte, true_and, and_true]; omega,  by rw [← eG', ← eZ']; rfl⟩⟩
   ·rw [if_neg (by omega)] at ez0
    subst ez0
    refine ats_skip ?_
    refine gB ?_
    refine gI (fun hy => ?_) fun hy => ?_
    ·have hjn : n ≤ j := by
      by_cases hc : n ≤ j
      ·exact hc
      ·exfalso
       revert hy
       rw [decide_eq_false (show ¬(n : Int) ≤ i by omega), decide_eq_false (show ¬(n : Int) ≤ j by omega)]
       decide
     have eZ' : dhZ n i j = zp + n := by
      rw [eZ, decide_eq_false (show ¬n ≤ i by omega), decide_eq_true (show n ≤ j by omega)]
      rfl
     refine gB ?_
     have ec : (zp : Int) + n = ((zp + n : Nat) : Int) := by omega
     rw [ec]
     have sk := cubF_upd (n := 2 * n) (g := G') (i := i) (j := j) (k := zp + n) (v := 1) (by omega) (by omega)
     refine gB ?_
     rw [sk]
     refine gB ?_
     refine ⟨j + 1,  by omega, by omega, .inl ⟨by simp only [leS, Nat.reduceEqDiff, ↓reduceIte, true_and, and_true]; omega,  by rw [← eG', ← eZ']; rfl⟩⟩
    ·have hjn : ¬n ≤ j := by
      by_cases hc : n ≤ j
      ·exfalso
       revert hy
       rw [decide_eq_false (show ¬(n : Int) ≤ i by omega), decide_eq_true (show (n : Int) ≤ j by omega)]
       decide
      ·exact hc
     have eZ' : dhZ n i j = zp := by
      rw [eZ, decide_eq_false (show ¬n ≤ i by omega), decide_eq_false (show ¬n ≤ j by omega)]
      rfl
     refine ats_skip ?_
     have sk := cubF_upd (n := 2 * n) (g := G') (i := i) (j := j) (k := zp) (v := 1) (by omega) (by omega)
     refine gB ?_
     rw [sk]
     refine gB ?_
     refine ⟨j + 1,  by omega, by omega, .inl ⟨by simp only [leS, Nat.reduceEqDiff, ↓reduceIte, true_and, and_true]; omega,  by rw [← eG', ← eZ']; rfl⟩⟩
  ·obtain rfl : j = 2 * n := by omega
   refine ats_exit (lq_x ?_)
   refine gB ?_
   refine ⟨i + 1,  by omega, by omega, .inl ⟨by simp only [leS, Nat.reduceEqDiff, ↓reduceIte, true_and, and_true]; omega,  by rw [← eG', ← eG]; rfl⟩⟩
 ·obtain rfl : i = 2 * n := by omega
  refine ats_exit (lq_x ?_)
  refine gA ?_
  exact ats_ret (ownV (is := [0]) rfl ⟨rfl, trivial⟩ (by rw [eG]; rfl) (by simp))
end Go.Proofs.YtmjcbgpbhlheoaaDoor
namespace Go.Proofs.YtmjcbgpbhlheoaaDoor
open Go Go.Aw Go.Pl
attribute [local go_sem] pl_fin pl_stop pl_one pl_alt PK_ap pickO List.getElem?_toArray List.getElem?_cons_zero List.getElem?_cons_succ
theorem l06Near_ok (o : List Int) (h : PosO o) (k : Int) (h16 : prodO o + 1 ≤ 16) (k0 : 0 ≤ k) (k1 : k ≤ 1000) : FreshCall Tryd.prog 75 [.l1 o, .int k] (.l3 (nearT o k)) := by
 have hp := prodO_pos h
 obtain ⟨m, em⟩ : ∃ m : Nat, prodO o = m := ⟨(prodO o).toNat, by omega⟩
 have hG := l06Group_ok o h 1 (by omega)
 rw [show ((1 : Nat) : Int) = 1 from rfl] at hG
 unfold grpT at hG
 unfold nearT nrG
 rw [show (prodO o).toNat = m by omega] at hG ⊢
 obtain ⟨G0, eG0⟩ : ∃ G0, grpG o m = G0 := ⟨_, rfl⟩
 rw [eG0] at hG ⊢
 have l0 := cubF_length (m + 1) G0
 have hm16 : m ≤ 15 := by omega
 clear em
 refine FreshCall.intro (n := 56) (rs := [.tmp 4]) Tryd.call75 Tryd.func75 rfl rfl rfl (by simp only [List.length_cons, List.length_nil]; omega) (fun cx hcx => ats_of ?_); simp only [argSlots, Nat.zero_add, Nat.reduceAdd]
 refine gA ?_
 refine gC fun K hK => ?_
 refine fcall_own rfl (hG) rfl ?_; simp only [go_sem, seval]
 refine hK _ ?_; clear hK K
 refine gC fun K hK => ?_
 simp only [l0]
 (repeat refine aI (hb := ?_))
 refine hK _ ?_; clear hK K
 rw [show ((m + 1 : Nat) : Int) - 1 = m by push_cast; omega]
 refine gA ?_
 (repeat refine ats_seq ?_); refine ats_loop (fun a : Nat => ⟨[(0, .l1 o), (1, .int k), (5, .ref 0 []), (6, .int m), (7, .int a)], [(0, .t3 (cubF (m + 1) (it (fun a g => updG (updG (updG g a m m 1) m a m 1) m m a 1) a G0)))]⟩) (fun a => a ≤ m) (fun a => m - a) 0 (Nat.zero_le _) (by refine And.intro ?_ rfl; simp only [leS, Nat.reduceEqDiff, ↓reduceIte, true_and, and_true]; repeat' (first | rfl | with_reducible refine And.intro ?_ ?_ | omega)) (fun a ha => ?_)
 obtain ⟨G, eG⟩ : ∃ G, it (fun a g => updG (updG (updG g a m m 1) m a m 1) m m a 1) a G0 = G := ⟨_, rfl⟩
 rw [eG]
 refine gA ?_
 refine gI (fun hla => ?_) fun hla => ?_
 ·have l1 := cubF_length (m + 1) G
  have l2 := cubF_mat (f := G) (show a < m + 1 by omega)
  have l3 := cubF_row (f := G) (show a < m + 1 by omega) (show m < m + 1 by omega)
  have s1 := cubF_upd (n := m + 1) (g := G) (i := a) (j := m) (k := m) (v := 1) (by omega) (by omega)
  refine ats_skip ?_
  (repeat refine ats_seq ?_); refine ats_block ?_
  refine gB ?_
  rw [s1]
  clear s1 l1 l2 l3
  obtain ⟨G1, eG1⟩ : ∃ G1, updG G a m m 1 = G1 := ⟨_, rfl⟩
  rw [eG1]
  have l1 := cubF_length (m + 1) G1
  have l2 := cubF_mat (f := G1) (show m < m + 1 by omega)
  have l3 := cubF_row (f := G1) (show m < m + 1 by omega) (show a < m + 1 by omega)
  have s1 := cubF_upd (n := m + 1) (g := G1) (i := m) (j := a) (k := m) (v := 1) (by omega) (by omega)
  refine gB ?_
  rw [s1]
  clear s1 l1 l2 l3
  obtain ⟨G2, eG2⟩ : ∃ G2, updG G1 m a m 1 = G2 := ⟨_, rfl⟩
  rw [eG2]
  have l1 := cubF_length (m + 1) G2
  have l2 := cubF_mat (f := G2) (show m < m + 1 by omega)
  have l3 := cubF_row (f := G2) (show m < m + 1 by omega) (show m < m + 1 by omega)
  have s1 := cubF_upd (n := m + 1) (g := G2) (i := m) (j := m) (k := a) (v := 1) (by omega) (by omega)
  refine gB ?_
  rw [s1]
  refine gB ?_
  refine ⟨a + 1,  by omega, by omega, .inl ⟨by simp only [leS, Nat.reduceEqDiff, ↓reduceIte, true_and, and_true]; omega,  by rw [← eG2, ← eG1, ← eG]; rfl⟩⟩
 ·obtain rfl : a = m := by omega
  have l1 := cubF_length (a + 1) G
  have l2 := cubF_mat (f := G) (show a < a + 1 by omega)
  have l3 := cubF_row (f := G) (show a < a + 1 by omega) (show a < a + 1 by omega)
  have s1 := cubF_upd (n := a + 1) (g := G) (i := a) (j := a) (k := a) (v := k) (by omega) (by omega)
  refine ats_exit (lq_x ?_)
  refine gB ?_
  rw [s1]
  refine gA ?_
  exact ats_ret (ownV (is := [0]) rfl ⟨rfl, trivial⟩ (by rw [eG]; rfl) (by simp))
set_option maxRecDepth 100000 in
set_option maxHeartbeats 8000000 in
theorem l06ProductG_ok (a b : Cu) (a1 : 1 ≤ a.length) (b1 : 1 ≤ b.length) (h16 : a.length * b.length ≤ 16)
  (shA : ∀ x, x < a.length → (a.getD x []).length = a.length ∧ ∀ y, y < a.length → ((a.getD x []).getD y []).length = a.length)
  (shB : ∀ x, x < b.length → (b.getD x []).length = b.length ∧ ∀ y, y < b.length → ((b.getD x []).getD y []).length = b.length)
  (pb : ∀ x y z, 0 ≤ prdG a b x y z ∧ prdG a b x y z ≤ 1048576) : FreshCall Tryd.prog 33 [.l3 a, .l3 b] (.l3 (prdT a b)) := by
 have hn16 : a.length ≤ 16 := Nat.le_trans (Nat.le_mul_of_pos_right _ b1) h16
 have hm16 : b.length ≤ 16 := Nat.le_trans (Nat.le_mul_of_pos_left _ a1) h16
 have hE := l06Empty_ok (a.length * b.length) h16
 rw [cub0, Int.natCast_mul] at hE
 unfold prdT
 obtain ⟨f, ef⟩ : ∃ f, prdG a b = f := ⟨_, rfl⟩
 rw [ef] at pb ⊢
 have ef' : ∀ x y z, f x y z = ((a.getD (x / b.length) []).getD (y / b.length) []).getD (z / b.length) 0 * ((b.getD (x % b.length) []).getD (y % b.length) []).getD (z % b.length) 0 := fun x y z => by rw [← ef]; rfl
 clear ef
 obtain ⟨n, en⟩ : ∃ n, a.length = n := ⟨_, rfl⟩
 obtain ⟨m, em⟩ : ∃ m, b.length = m := ⟨_, rfl⟩
 obtain ⟨N, eN⟩ : ∃ N, n * m = N := ⟨_, rfl⟩
 have b1' : 0 < m := by omega
 simp only [en, em] at hE shA shB ef' h16 hn16 hm16 ⊢
 have hq : ∀ x, x < N → x / m < n := fun x hx => Nat.div_lt_of_lt_mul (by rw [Nat.mul_comm, eN]; exact hx)
 have hr : ∀ x, x % m < m := fun x => Nat.mod_lt _ b1'
 have en2 : (n : Int) * (m : Int) = (N : Int) := by rw [← eN]; push_cast; rfl
 rw [en2] at hE
 rw [eN] at hE h16 ⊢
 rw [← wrC_zero (f := f)] at hE
 refine FreshCall.intro (n := 83) (rs := [.tmp 4]) Tryd.call33 Tryd.func33 rfl rfl rfl (by simp only [List.length_cons, List.length_nil]; omega) (fun cx hcx => ats_of ?_); simp only [argSlots, Nat.zero_add, Nat.reduceAdd]
 refine gA ?_
 refine gC fun K hK => ?_
 simp only [en, em]
 (repeat refine aI (hb := ?_))
 refine hK _ ?_; clear hK K
 refine gC fun K hK => ?_
 simp only [en2]
 (repeat refine aI (hb := ?_))
 refine fcall_own rfl (hE) rfl ?_; simp only [go_sem, seval]
 refine hK _ ?_; clear hK K
 refine gA ?_
 (repeat refine ats_seq ?_); refine ats_loop (fun x : Nat => ⟨[(0, .l3 a), (1, .l3 b), (5, .int n), (6, .int m), (7, .ref 0 []), (8, .int x)], [(0, .t3 (wrC N f zG x 0 0))]⟩) (fun x => x ≤ N) (fun x => N - x) 0 (Nat.zero_le _) (by refine And.intro ?_ rfl; simp only [leS, Nat.reduceEqDiff, ↓reduceIte, true_and, and_true]; repeat' (first | rfl | with_reducible refine And.intro ?_ ?_ | omega)) (fun x hx => ?_)
 refine gC fun K hK => ?_
 simp only [en2]
 (repeat refine aI (hb := ?_))
 refine hK _ ?_; clear hK K
 refine gI (fun hlx => ?_) fun hlx => ?_
 ·refine ats_skip ?_
  (repeat refine ats_seq ?_); refine ats_block ?_
  refine gA ?_
  (repeat refine ats_seq ?_); refine ats_loop (fun y : Nat => ⟨[(0, .l3 a), (1, .l3 b), (5, .int n), (6, .int m), (7, .ref 0 []), (8, .int x), (9, .int y)], [(0, .t3 (wrC N f zG x y 0))]⟩) (fun y => y ≤ N) (fun y => N - y) 0 (Nat.zero_le _) (by refine And.intro ?_ rfl; simp only [leS, Nat.reduceEqDiff, ↓reduceIte, true_and, and_true]; repeat' (first | rfl | with_reducible refine And.intro ?_ ?_ | omega)) (fun y hy => ?_)
  refine gC fun K hK => ?_
  simp only [en2]
  (repeat refine aI (hb := ?_))
  refine hK _ ?_; clear hK K
  refine gI (fun hly => ?_) fun hly => ?_
  ·refine ats_skip ?_
   (repeat refine ats_seq ?_); refine ats_block ?_
   refine gA ?_
   (repeat refine ats_seq ?_); refine ats_loop (fun z : Nat => ⟨[(0, .l3 a), (1, .l3 b), (5, .int n), (6, .int m), (7, .ref 0 []), (8, .int x), (9, .int y), (10, .int z)], [(0, .t3 (wrC N f zG x y z))]⟩) (fun z => z ≤ N) (fun z => N - z) 0 (Nat.zero_le _) (by refine And.intro ?_ rfl; simp only [leS, Nat.reduceEqDiff, ↓reduceIte, true_and, and_true]; repeat' (first | rfl | with_reducible refine And.intro ?_ ?_ | omega)) (fun z hz => ?_)
   refine gC fun K hK => ?_
   simp only [en2]
   (repeat refine aI (hb := ?_))
   refine hK _ ?_; clear hK K
   refine gI (fun hlz => ?_) fun hlz => ?_
   ·have l1 := wrC_len (n := N) (f := f) (g := zG) (i := x) (j := y) (k := z)
    have l2 := wrC_l2 (n := N) (f := f) (g := zG) (i := x) (j := y) (k := z) (x := x) (by omega)
    have l3 := wrC_l3 (n := N) (f := f) (g := zG) (i := x) (j := y) (k := z) (x := x) (y := y) (by omega) (by omega)
    have sk := wrC_set (n := N) (f := f) (g := zG) (i := x) (j := y) (k := z) (by omega) (by omega)
    have q1 := tdivN x m
    have q2 := tdivN y m
    have q3 := tdivN z m
    have r1 := tmodN x m
    have r2 := tmodN y m
    have r3 := tmodN z m
    have bq1 := hq x (by omega)
    have bq2 := hq y (by omega)
    have bq3 := hq z (by omega)
    have br1 := hr x
    have br2 := hr y
    have br3 := hr z
    have ev := ef' x y z
    have bv := pb x y z
    generalize x / m = xq at *
    generalize y / m = yq at *
    generalize z / m = zq at *
    generalize x % m = xr at *
    generalize y % m = yr at *
    generalize z % m = zr at *
    obtain ⟨sa1, sa2⟩ := shA xq bq1
    have sa3 := sa2 yq bq2
    obtain ⟨sb1, sb2⟩ := shB xr br1
    have sb3 := sb2 yr br2
    clear shA shB sa2 sb2 hq hr ef' pb
    rw [ev] at bv
    refine ats_skip ?_
    (repeat refine ats_seq ?_); refine ats_block ?_
    (repeat refine ats_seq ?_)
    refine ats_plan [] (.one 0 (.one 1 (.one 2 (.one 3 (.one 4 (.one 5 (.one 6 (.one 7 (.one 8 (.one 9 (.one 10 (.one 11 (.one 12 (.one 13 (.one 14 (.one 15 (.one 16 (.one 17 (.one 18 (.one 19 (.one 20 (.one 21 (.one 22 (.one 23 (.one 24 (.one 25 (.one 26 (.one 27 (.one 28 (.one 29 (.one 30 (.one 31 (.one 32 (.one 33 (.one 34 (.one 35 (.one 36 (.one 37 (.one 38 (.one 39 (.one 40 (.one 41 (.alt 42 .fin .stop))))))))))))))))))))))))))))))))))))))))))) ⟨[(0, .l3 a), (1, .l3 b), (5, .int n), (6, .int m), (7, .ref 0 []), (8, .int x), (9, .int y), (10, .int z)], [(0, .t3 ((wrC N f zG x y z).set x (((wrC N f zG x y z).getD x []).set y ((((wrC N f zG x y z).getD x []).getD y []).set z (((a.getD xq []).getD yq []).getD zq 0 * ((b.getD xr []).getD yr []).getD zr 0)))))]⟩ (fix0 hcx) mixed (by kernel_rfl) (fun K hK => ?_) ?_
    ·simp only [go_sem, seval, Option.getD_some, and_true, true_and, and_self, List.contains_cons, List.contains_nil, Bool.or_false, Bool.or_true]
     repeat' (first | exact hK _ (by refine And.intro ?_ rfl; simp only [leS, Nat.reduceEqDiff, ↓reduceIte, true_and, and_true])  | with_reducible refine And.intro ?_ ?_ | omega | ((simp only [q1, q2, q3, r1, r2, r3])) | (simp only [go_sem, seval, Option.getD_some, and_true, true_and, and_self, List.contains_cons, List.contains_nil, Bool.or_false, Bool.or_true]))
    rw [← ev, sk]
    refine gB ?_
    refine ⟨z + 1,  by omega, by omega, .inl ⟨by simp only [leS, Nat.reduceEqDiff, ↓reduceIte, true_and, and_true]; omega,  rfl⟩⟩
   ·obtain rfl : z = N := by omega
    rw [wrC_row]
    refine ats_exit (lq_x ?_)
    refine gB ?_
    refine ⟨y + 1,  by omega, by omega, .inl ⟨by simp only [leS, Nat.reduceEqDiff, ↓reduceIte, true_and, and_true]; omega,  rfl⟩⟩
  ·obtain rfl : y = N := by omega
   rw [wrC_mat]
   refine ats_exit (lq_x ?_)
   refine gB ?_
   refine ⟨x + 1,  by omega, by omega, .inl ⟨by simp only [leS, Nat.reduceEqDiff, ↓reduceIte, true_and, and_true]; omega,  rfl⟩⟩
 ·obtain rfl : x = N := by omega
  rw [wrC_end]
  refine ats_exit (lq_x ?_)
  refine gA ?_
  exact ats_ret (ownV (is := [0]) rfl ⟨rfl, trivial⟩ rfl (by simp))
theorem l06Product_ok (a b : Cu) {ma mb : Nat} (ha : Drw ma a) (hb : Drw mb b) (h16 : a.length * b.length ≤ 16) : FreshCall Tryd.prog 33 [.l3 a, .l3 b] (.l3 (prdT a b)) := by
 obtain ⟨a1, a2, fa, ea, ba⟩ := ha
 obtain ⟨b1, b2, fb, eb, bb⟩ := hb
 refine l06ProductG_ok a b a1 b1 h16 (fun x hx => ?_) (fun x hx => ?_) (fun x y z => ?_)
 ·obtain ⟨n, en⟩ : ∃ n, a.length = n := ⟨_, rfl⟩
  rw [en] at ea hx ⊢
  rw [ea]
  exact ⟨cubF_mat hx, fun y hy => cubF_row hx hy⟩
 ·obtain ⟨n, en⟩ : ∃ n, b.length = n := ⟨_, rfl⟩
  rw [en] at eb hx ⊢
  rw [eb]
  exact ⟨cubF_mat hx, fun y hy => cubF_row hx hy⟩
 ·have h1 := e3_bd (n := a.length) ba (by have := pow5_pos a1; omega) (x / b.length) (y / b.length) (z / b.length)
  have h2 := e3_bd (n := b.length) bb (by have := pow5_pos b1; omega) (x % b.length) (y % b.length) (z % b.length)
  rw [← ea] at h1
  rw [← eb] at h2
  refine ⟨Int.mul_nonneg h1.1 h2.1, Int.le_trans (Int.mul_le_mul h1.2 h2.2 h2.1 (by have := pow5_pos a1; omega)) ?_⟩
  rw [← Int.mul_pow, ← Int.natCast_mul]
  have h3 : (a.length * b.length) ^ 5 ≤ 16 ^ 5 := Nat.pow_le_pow_left h16 5
  have e : (((a.length * b.length) ^ 5 : Nat) : Int) = ((a.length * b.length : Nat) : Int) ^ 5 := by push_cast; rfl
  omega
theorem cube_bd {t : Cu} (h : Cube t) (x y z : Nat) : 0 ≤ e3 t x y z ∧ e3 t x y z ≤ 1000 := by
 by_cases hx : x < t.length
 ·by_cases hy : y < t.length
  ·by_cases hz : z < t.length
   ·exact h.inM hx hy hz
   ·have e : e3 t x y z = 0 := getD_out (by have := ((h.2.2 x hx).2 y hy).1; omega)
    rw [e]; decide
  ·have e : (t.getD x []).getD y [] = [] := getD_out (by have := (h.2.2 x hx).1; omega)
   have e2 : e3 t x y z = 0 := by unfold e3; rw [e]; rfl
   rw [e2]; decide
 ·have e : t.getD x [] = [] := getD_out (by omega)
  have e2 : e3 t x y z = 0 := by unfold e3; rw [e]; rfl
  rw [e2]; decide
theorem l06ProductC_ok (a b : Cu) (ha : Cube a) (hb : Cube b) (h16 : a.length * b.length ≤ 16) : FreshCall Tryd.prog 33 [.l3 a, .l3 b] (.l3 (krR a b a.length b.length)) := by
 have e : prdT a b = krR a b a.length b.length := rfl
 rw [← e]
 refine l06ProductG_ok a b ha.1 hb.1 h16 (fun x hx => ⟨(ha.2.2 x hx).1, fun y hy => ((ha.2.2 x hx).2 y hy).1⟩) (fun x hx => ⟨(hb.2.2 x hx).1, fun y hy => ((hb.2.2 x hx).2 y hy).1⟩) (fun x y z => ?_)
 have h1 := cube_bd ha (x / b.length) (y / b.length) (z / b.length)
 have h2 := cube_bd hb (x % b.length) (y % b.length) (z % b.length)
 refine ⟨Int.mul_nonneg h1.1 h2.1, ?_⟩
 have : prdG a b x y z ≤ 1000 * 1000 := Int.mul_le_mul h1.2 h2.2 h2.1 (by decide)
 omega
end Go.Proofs.YtmjcbgpbhlheoaaDoor
namespace Go.Proofs.YtmjcbgpbhlheoaaDoor
open Go Go.Aw Go.Pl
attribute [local go_sem] pl_fin pl_stop pl_one pl_alt PK_ap pickO List.getElem?_toArray List.getElem?_cons_zero List.getElem?_cons_succ
theorem spCn_next {l a b t : Nat} (ht : t ≤ spCn l a b) : (spLo a b + 2 * t ≤ spHi l a b → t < spCn l a b) ∧ (¬spLo a b + 2 * t ≤ spHi l a b → t = spCn l a b) := by
 unfold spCn at *
 split at ht
 ·rename_i h
  rw [if_pos h]
  omega
 ·rename_i h
  rw [if_neg h]
  omega
theorem spHi_le {l a b : Nat} : spHi l a b ≤ l := by
 unfold spHi
 omega
theorem l06Spin_ok (l st : Nat) (h1 : 1 ≤ st) (h2 : st ≤ 2) (h16 : l / st + 1 ≤ 16) (hl : l ≤ 40) : FreshCall Tryd.prog 23 [.int l, .int st] (.l3 (spnT l st)) := by
 obtain ⟨n, en⟩ : ∃ n, l / st + 1 = n := ⟨_, rfl⟩
 have eq : (l : Int).tdiv st + 1 = n := by rw [tdivN, ← en]; push_cast; rfl
 have hst : ∀ i, i < n → i * st ≤ l := fun i hi => Nat.le_trans (Nat.mul_le_mul_right st (show i ≤ l / st by omega)) (Nat.div_mul_le_self l st)
 have hdiv : ∀ c, c ≤ l → c / st < n := fun c hc => by
  have := Nat.div_le_div_right (c := st) hc
  omega
 have hE := l06Empty_ok n (by omega)
 rw [cub0] at hE
 have hb := tdivN l st
 have hb2 : l / st ≤ 15 := by omega
 unfold spnT
 rw [en] at *
 rw [show spG l st n n = it (fun i g => spR l st i n g) n zG from rfl]
 refine FreshCall.intro (n := 67) (rs := [.tmp 4]) Tryd.call23 Tryd.func23 rfl rfl rfl (by simp only [List.length_cons, List.length_nil]; omega) (fun cx hcx => ats_of ?_); simp only [argSlots, Nat.zero_add, Nat.reduceAdd]
 refine gA ?_
 refine gC fun K hK => ?_
 simp only [eq]
 (repeat refine aI (hb := ?_))
 refine hK _ ?_; clear hK K
 refine gC fun K hK => ?_
 (repeat refine aI (hb := ?_))
 refine fcall_own rfl (hE) rfl ?_; simp only [go_sem, seval]
 refine hK _ ?_; clear hK K
 refine gA ?_
 (repeat refine ats_seq ?_); refine ats_loop (fun i : Nat => ⟨[(0, .int l), (1, .int st), (5, .int n), (6, .ref 0 []), (7, .int i)], [(0, .t3 (cubF n (it (fun i g => spR l st i n g) i zG)))]⟩) (fun i => i ≤ n) (fun i => n - i) 0 (Nat.zero_le _) (by refine And.intro ?_ rfl; simp only [leS, Nat.reduceEqDiff, ↓reduceIte, true_and, and_true]; repeat' (first | rfl | with_reducible refine And.intro ?_ ?_ | omega)) (fun i hi => ?_)
 obtain ⟨G, eG⟩ : ∃ G, it (fun i g => spR l st i n g) i zG = G := ⟨_, rfl⟩
 rw [eG]
 refine gB ?_
 refine gI (fun hli => ?_) fun hli => ?_
 ·refine ats_skip ?_
  (repeat refine ats_seq ?_); refine ats_block ?_
  refine gA ?_
  (repeat refine ats_seq ?_); refine ats_loop (fun j : Nat => ⟨[(0, .int l), (1, .int st), (5, .int n), (6, .ref 0 []), (7, .int i), (8, .int j)], [(0, .t3 (cubF n (it (fun j g => spC l st i j (spCn l (i * st) (j * st)) g) j G)))]⟩) (fun j => j ≤ n) (fun j => n - j) 0 (Nat.zero_le _) (by refine And.intro ?_ rfl; simp only [leS, Nat.reduceEqDiff, ↓reduceIte, true_and, and_true]; repeat' (first | rfl | with_reducible refine And.intro ?_ ?_ | omega)) (fun j hj => ?_)
  obtain ⟨G', eG'⟩ : ∃ G', it (fun j g => spC l st i j (spCn l (i * st) (j * st)) g) j G = G' := ⟨_, rfl⟩
  rw [eG']
  refine gB ?_
  refine gI (fun hlj => ?_) fun hlj => ?_
  ·have e1 : (i : Int) * st = ((i * st : Nat) : Int) := by push_cast; rfl
   have e2 : (j : Int) * st = ((j * st : Nat) : Int) := by push_cast; rfl
   have ba := hst i (by omega)
   have bb := hst j (by omega)
   have eR : it (fun j g => spC l st i j (spCn l (i * st) (j * st)) g) (j + 1) G = it (fun t g => updG g i j ((spLo (i * st) (j * st) + 2 * t) / st) 1) (spCn l (i * st) (j * st)) G' := by rw [← eG']; rfl
   generalize i * st = a at *
   generalize j * st = b at *
   have eLo : (if (b : Int) - a > a - b then (b : Int) - a else a - b) = ((spLo a b : Nat) : Int) := by unfold spLo; split <;> omega
   have eHi : (if 2 * (l : Int) - a - b < (a : Int) + b then 2 * (l : Int) - a - b else (a : Int) + b) = ((spHi l a b : Nat) : Int) := by unfold spHi; split <;> omega
   have hHi := @spHi_le l a b
   have hCn := @spCn_next l a b
   have bLo : spLo a b ≤ 40 := by unfold spLo; omega
   have bCn : spCn l a b ≤ 40 := by unfold spCn; split <;> omega
   generalize spLo a b = lo at *
   generalize spHi l a b = hi at *
   generalize spCn l a b = cn at *
   refine ats_skip ?_
   (repeat refine ats_seq ?_); refine ats_block ?_
   refine gC fun K hK => ?_
   simp only [e1, e2]
   (repeat refine aI (hb := ?_))
   refine hK _ ?_; clear hK K
   refine gC fun K hK => ?_
   simp only [eLo]
   (repeat refine aI (hb := ?_))
   refine hK _ ?_; clear hK K
   (repeat refine ats_seq ?_); refine ats_loop (fun t : Nat => ⟨[(0, .int l), (1, .int st), (5, .int n), (6, .ref 0 []), (7, .int i), (8, .int j), (9, .int a), (10, .int b), (11, .int ((lo + 2 * t : Nat) : Int))], [(0, .t3 (cubF n (it (fun t g => updG g i j ((lo + 2 * t) / st) 1) t G')))]⟩) (fun t => t ≤ cn) (fun t => cn - t) 0 (Nat.zero_le _) (by refine And.intro ?_ rfl; simp only [leS, Nat.reduceEqDiff, ↓reduceIte, true_and, and_true]; repeat' (first | rfl | with_reducible refine And.intro ?_ ?_ | omega)) (fun t ht => ?_)
   obtain ⟨K', eK⟩ : ∃ K', it (fun t g => updG g i j ((lo + 2 * t) / st) 1) t G' = K' := ⟨_, rfl⟩
   rw [eK]
   refine gC fun K hK => ?_
   simp only [eHi]
   (repeat refine aI (hb := ?_))
   refine hK _ ?_; clear hK K
   refine gI (fun hlt => ?_) fun hlt => ?_
   ·have l1 := cubF_length n K'
    have l2 := cubF_mat (f := K') (show i < n by omega)
    have l3 := cubF_row (f := K') (show i < n by omega) (show j < n by omega)
    have hc := hdiv (lo + 2 * t) (by omega)
    have hT := (hCn ht).1 (by omega)
    have ed := tdivN (lo + 2 * t) st
    have sk := cubF_upd (n := n) (g := K') (i := i) (j := j) (k := (lo + 2 * t) / st) (v := 1) (by omega) (by omega)
    have eK1 : it (fun t g => updG g i j ((lo + 2 * t) / st) 1) (t + 1) G' = updG K' i j ((lo + 2 * t) / st) 1 := by rw [← eK]; rfl
    generalize (lo + 2 * t) / st = z at *
    have e3 : ((lo + 2 * t : Nat) : Int) + 2 = ((lo + 2 * (t + 1) : Nat) : Int) := by omega
    have bc : lo + 2 * t ≤ 40 := by omega
    generalize lo + 2 * t = c at *
    refine ats_skip ?_
    (repeat refine ats_seq ?_); refine ats_block ?_
    (repeat refine ats_seq ?_)
    refine ats_plan [] (.one 0 (.one 1 (.one 2 (.one 3 (.one 4 (.one 5 (.one 6 (.one 7 (.one 8 (.one 9 (.one 10 (.alt 11 .fin .stop)))))))))))) ⟨[(0, .int l), (1, .int st), (5, .int n), (6, .ref 0 []), (7, .int i), (8, .int j), (9, .int a), (10, .int b), (11, .int c)], [(0, .t3 ((cubF n K').set i (((cubF n K').getD i []).set j ((((cubF n K').getD i []).getD j []).set z 1))))]⟩ (fix0 hcx) mixed (by kernel_rfl) (fun K hK => ?_) ?_
    ·simp only [go_sem, seval, Option.getD_some, and_true, true_and, and_self, List.contains_cons, List.contains_nil, Bool.or_false, Bool.or_true]
     repeat' (first | exact hK _ (by refine And.intro ?_ rfl; simp only [leS, Nat.reduceEqDiff, ↓reduceIte, true_and, and_true])  | with_reducible refine And.intro ?_ ?_ | omega | ((simp only [ed])) | (simp only [go_sem, seval, Option.getD_some, and_true, true_and, and_self, List.contains_cons, List.contains_nil, Bool.or_false, Bool.or_true]))
    rw [sk]
    refine gC fun K hK => ?_
    simp only [e3]
    (repeat refine aI (hb := ?_))
    refine hK _ ?_; clear hK K
    refine ⟨t + 1,  by omega, by omega, .inl ⟨by simp only [leS, Nat.reduceEqDiff, ↓reduceIte, true_and, and_true]; (try omega),  by rw [eK1]⟩⟩
   ·have hT := (hCn ht).2 (by omega)
    refine ats_exit (lq_x ?_)
    refine gB ?_
    refine ⟨j + 1,  by omega, by omega, .inl ⟨by simp only [leS, Nat.reduceEqDiff, ↓reduceIte, true_and, and_true]; omega,  by rw [← eK, hT, ← eR]⟩⟩
  ·obtain rfl : j = n := by omega
   refine ats_exit (lq_x ?_)
   refine gB ?_
   refine ⟨i + 1,  by omega, by omega, .inl ⟨by simp only [leS, Nat.reduceEqDiff, ↓reduceIte, true_and, and_true]; omega,  by rw [← eG', ← eG]; rfl⟩⟩
 ·obtain rfl : i = n := by omega
  refine ats_exit (lq_x ?_)
  refine gA ?_
  exact ats_ret (ownV (is := [0]) rfl ⟨rfl, trivial⟩ (by rw [eG]; rfl) (by simp))
end Go.Proofs.YtmjcbgpbhlheoaaDoor
namespace Go.Proofs.YtmjcbgpbhlheoaaDoor
open Go Go.Aw Go.Pl
theorem turn_0 {n h : Nat} (e : turnK n h = 0) : turnL n h = [0, 1] := by unfold turnL; rw [if_pos e]
theorem turn_m {n h : Nat} (e : ¬turnK n h = 0) (e2 : 2 * turnK n h = n) : turnL n h = [2, 3] := by unfold turnL; rw [if_neg e, if_pos e2]
theorem turn_3 {n h : Nat} (e : ¬turnK n h = 0) (e2 : ¬2 * turnK n h = n) (ev : n % 2 = 0) : turnL n h = [3 + (turnK n h : Int)] := by unfold turnL; rw [if_neg e, if_neg e2, if_pos ev]; push_cast; rfl
theorem turn_1 {n h : Nat} (e : ¬turnK n h = 0) (e2 : ¬2 * turnK n h = n) (ev : ¬n % 2 = 0) : turnL n h = [1 + (turnK n h : Int)] := by unfold turnL; rw [if_neg e, if_neg e2, if_neg ev]; push_cast; rfl
theorem l06Turn_ok (n h : Nat) (hn : n ≤ 40) (hh : h ≤ n) : FreshCall Tryd.prog 82 [.int n, .int h] (.l1 (turnL n h)) := by
 have tm : (n : Int).tmod 2 = ((n % 2 : Nat) : Int) := tmodN n 2
 obtain ⟨k, ek⟩ : ∃ k, turnK n h = k := ⟨_, rfl⟩
 obtain ⟨L, eL⟩ : ∃ L, turnL n h = L := ⟨_, rfl⟩
 have f0 : k = 0 → L = [0, 1] := fun e => by rw [← eL]; exact turn_0 (ek.trans e)
 have fm : k ≠ 0 → 2 * k = n → L = [2, 3] := fun e e2 => by rw [← eL]; exact turn_m (by omega) (by omega)
 have f3 : k ≠ 0 → 2 * k ≠ n → n % 2 = 0 → L = [3 + (k : Int)] := fun e e2 ev => by rw [← eL, ← ek]; exact turn_3 (by omega) (by omega) ev
 have f1 : k ≠ 0 → 2 * k ≠ n → ¬n % 2 = 0 → L = [1 + (k : Int)] := fun e e2 ev => by rw [← eL, ← ek]; exact turn_1 (by omega) (by omega) ev
 rw [eL]
 have hk : k ≤ 40 := by rw [← ek]; unfold turnK; split <;> omega
 refine FreshCall.intro (n := 30) (rs := [.tmp 4]) Tryd.call82 Tryd.func82 rfl rfl rfl (by simp only [List.length_cons, List.length_nil]; omega) (fun cx hcx => ats_of ?_); simp only [argSlots, Nat.zero_add, Nat.reduceAdd]
 refine gA ?_
 refine gB ?_
 refine gI (fun h1 => ?_) fun h1 => ?_
 ·have e1 : (n : Int) - h = k := by rw [← ek]; unfold turnK; split <;> omega
  refine gC fun K hK => ?_
  simp only [e1]
  (repeat refine aI (hb := ?_))
  refine hK _ ?_; clear hK K
  refine gA ?_
  refine gC fun K hK => ?_
  simp only [tm]
  (repeat refine aI (hb := ?_))
  refine hK _ ?_; clear hK K
  refine gI (fun h2 => ?_) fun h2 => ?_
  ·refine gA ?_
   (repeat refine ats_seq ?_); refine ats_block ?_
   refine gA ?_
   refine gI (fun h3 => ?_) fun h3 => ?_
   ·refine gA ?_
    exact ats_ret (ownV (is := [0]) rfl ⟨rfl, trivial⟩ (by rw [f0 (by omega)]; rfl) (by simp))
   ·refine gB ?_
    refine gI (fun h4 => ?_) fun h4 => ?_
    ·refine gA ?_
     exact ats_ret (ownV (is := [0]) rfl ⟨rfl, trivial⟩ (by rw [fm (by omega) (by omega)]; rfl) (by simp))
    ·refine ats_skip ?_
     refine gB ?_
     exact ats_ret (ownV (is := [0]) rfl ⟨rfl, trivial⟩ (by rw [f3 (by omega) (by omega) (by omega)]; rfl) (by simp))
  ·refine ats_skip ?_
   (repeat refine ats_seq ?_); refine ats_block ?_
   refine gA ?_
   refine gI (fun h3 => ?_) fun h3 => ?_
   ·refine gA ?_
    exact ats_ret (ownV (is := [0]) rfl ⟨rfl, trivial⟩ (by rw [f0 (by omega)]; rfl) (by simp))
   ·refine gB ?_
    refine gI (fun h4 => ?_) fun h4 => ?_
    ·refine gA ?_
     exact ats_ret (ownV (is := [0]) rfl ⟨rfl, trivial⟩ (by rw [fm (by omega) (by omega)]; rfl) (by simp))
    ·refine ats_skip ?_
     refine gB ?_
     exact ats_ret (ownV (is := [0]) rfl ⟨rfl, trivial⟩ (by rw [f1 (by omega) (by omega) (by omega)]; rfl) (by simp))
 ·have e1 : h = k := by rw [← ek]; unfold turnK; split <;> omega
  rw [e1]
  refine ats_skip ?_
  refine gA ?_
  refine gC fun K hK => ?_
  simp only [tm]
  (repeat refine aI (hb := ?_))
  refine hK _ ?_; clear hK K
  refine gI (fun h2 => ?_) fun h2 => ?_
  ·refine gA ?_
   (repeat refine ats_seq ?_); refine ats_block ?_
   refine gA ?_
   refine gI (fun h3 => ?_) fun h3 => ?_
   ·refine gA ?_
    exact ats_ret (ownV (is := [0]) rfl ⟨rfl, trivial⟩ (by rw [f0 (by omega)]; rfl) (by simp))
   ·refine gB ?_
    refine gI (fun h4 => ?_) fun h4 => ?_
    ·refine gA ?_
     exact ats_ret (ownV (is := [0]) rfl ⟨rfl, trivial⟩ (by rw [fm (by omega) (by omega)]; rfl) (by simp))
    ·refine ats_skip ?_
     refine gB ?_
     exact ats_ret (ownV (is := [0]) rfl ⟨rfl, trivial⟩ (by rw [f3 (by omega) (by omega) (by omega)]; rfl) (by simp))
  ·refine ats_skip ?_
   (repeat refine ats_seq ?_); refine ats_block ?_
   refine gA ?_
   refine gI (fun h3 => ?_) fun h3 => ?_
   ·refine gA ?_
    exact ats_ret (ownV (is := [0]) rfl ⟨rfl, trivial⟩ (by rw [f0 (by omega)]; rfl) (by simp))
   ·refine gB ?_
    refine gI (fun h4 => ?_) fun h4 => ?_
    ·refine gA ?_
     exact ats_ret (ownV (is := [0]) rfl ⟨rfl, trivial⟩ (by rw [fm (by omega) (by omega)]; rfl) (by simp))
    ·refine ats_skip ?_
     refine gB ?_
     exact ats_ret (ownV (is := [0]) rfl ⟨rfl, trivial⟩ (by rw [f1 (by omega) (by omega) (by omega)]; rfl) (by simp))
end Go.Proofs.YtmjcbgpbhlheoaaDoor
namespace Go.Proofs.YtmjcbgpbhlheoaaDoor
open Go Go.Aw Go.Pl
attribute [local go_sem] pl_fin pl_stop pl_one pl_alt PK_ap pickO List.getElem?_toArray List.getElem?_cons_zero List.getElem?_cons_succ
theorem turnL_get {n h : Nat} (hh : h ≤ n) {i : Nat} (hi : i < (turnL n h).length) : ∃ q : Nat, (turnL n h).getD i 0 = q ∧ q < dhdN n := by
 have hk : turnK n h ≤ n / 2 := by unfold turnK; split <;> omega
 unfold turnL dhdN onesD at *
 generalize turnK n h = k at *
 split at hi
 ·rename_i e
  rw [if_pos e]
  simp only [List.length_cons, List.length_nil] at hi
  rcases (show i = 0 ∨ i = 1 by omega) with rfl | rfl
  ·exact ⟨0, rfl, by split <;> omega⟩
  ·exact ⟨1, rfl, by split <;> omega⟩
 ·rename_i e
  rw [if_neg e]
  split at hi
  ·rename_i e2
   rw [if_pos e2]
   simp only [List.length_cons, List.length_nil] at hi
   rcases (show i = 0 ∨ i = 1 by omega) with rfl | rfl
   ·exact ⟨2, rfl, by split <;> omega⟩
   ·exact ⟨3, rfl, by split <;> omega⟩
  ·rename_i e2
   rw [if_neg e2]
   simp only [List.length_cons, List.length_nil] at hi
   obtain rfl : i = 0 := by omega
   exact ⟨_, rfl, by split <;> omega⟩
theorem turn2_get {n h k : Nat} (h1 : h + k ≤ n) {i : Nat} (hi : i < (turn2 n h k).length) : ∃ q : Nat, (turn2 n h k).getD i 0 = q ∧ q < dhdN n := by
 unfold turn2 at *
 rw [List.length_append] at hi
 by_cases hl : i < (turnL n (h + k)).length
 ·rw [show (turnL n (h + k) ++ turnL n (max (h - k) (k - h))).getD i 0 = (turnL n (h + k)).getD i 0 by simp [List.getD, List.getElem?_append_left hl]]
  exact turnL_get h1 hl
 ·rw [show (turnL n (h + k) ++ turnL n (max (h - k) (k - h))).getD i 0 = (turnL n (max (h - k) (k - h))).getD (i - (turnL n (h + k)).length) 0 by simp [List.getD, List.getElem?_append_right (Nat.le_of_not_lt hl)]]
  exact turnL_get (by omega) (by omega)
theorem ordD_pos (n : Nat) : PosO (ordD n) ∧ prodO (ordD n) = onesD n := by
 unfold ordD onesD
 split
 ·refine ⟨⟨by decide, fun i hi => ?_⟩, by decide⟩
  simp only [List.length_cons, List.length_nil] at hi
  rcases (show i = 0 ∨ i = 1 by omega) with rfl | rfl <;> decide
 ·refine ⟨⟨by decide, fun i hi => ?_⟩, by decide⟩
  simp only [List.length_cons, List.length_nil] at hi
  obtain rfl : i = 0 := by omega
  decide
theorem inc_step {N : Nat} {G : Gf} {b : Int} {i j k : Nat} (h : BdG b G) (hb : b ≤ 1000000) (hi : i < N) (hj : j < N) (hk : k < N) :
  (cubF N G).length = N ∧ ((cubF N G).getD i []).length = N ∧ (((cubF N G).getD i []).getD j []).length = N ∧
  0 ≤ (((cubF N G).getD i []).getD j []).getD k 0 ∧ (((cubF N G).getD i []).getD j []).getD k 0 ≤ 1000000 ∧
  (cubF N G).set i (((cubF N G).getD i []).set j ((((cubF N G).getD i []).getD j []).set k ((((cubF N G).getD i []).getD j []).getD k 0 + 1))) = cubF N (incG G i j k) := by
 have e : (((cubF N G).getD i []).getD j []).getD k 0 = G i j k := cubF_e3 hi hj hk
 have hg := h i j k
 rw [cubF_upd hi hj, e]
 exact ⟨cubF_length _ _, cubF_mat hi, cubF_row hi hj, hg.1, Int.le_trans hg.2 hb, rfl⟩
set_option maxRecDepth 100000 in
set_option maxHeartbeats 8000000 in
theorem l06Dihedral_ok (n : Nat) (h1 : 1 ≤ n) (hn : n ≤ 18) : FreshCall Tryd.prog 74 [.int n] (.l3 (dhdT n)) := by
 obtain ⟨on, eon⟩ : ∃ on, onesD n = on := ⟨_, rfl⟩
 obtain ⟨T, eT⟩ : ∃ T, (n - 1) / 2 = T := ⟨_, rfl⟩
 obtain ⟨O, eO⟩ : ∃ O, ordD n = O := ⟨_, rfl⟩
 obtain ⟨hO, pO⟩ := ordD_pos n
 have on4 : on = 2 ∨ on = 4 := by rw [← eon]; unfold onesD; split <;> omega
 have ev : n % 2 = 0 → on = 4 ∧ O = [2, 2] := fun h => by rw [← eon, ← eO]; unfold onesD ordD; rw [if_pos h, if_pos h]; exact ⟨rfl, rfl⟩
 have od : n % 2 ≠ 0 → on = 2 ∧ O = [2] := fun h => by rw [← eon, ← eO]; unfold onesD ordD; rw [if_neg h, if_neg h]; exact ⟨rfl, rfl⟩
 have tm : (n : Int).tmod 2 = ((n % 2 : Nat) : Int) := tmodN n 2
 have tq : ((n : Int) - 1).tdiv 2 = (T : Int) := by rw [show (n : Int) - 1 = ((n - 1 : Nat) : Int) by omega, ← eT]; exact tdivN (n - 1) 2
 have hGr := l06Group_ok O (by rw [← eO]; exact hO) T (by rw [← eO, pO, eon]; omega)
 obtain ⟨N, eN⟩ : ∃ N, on + T = N := ⟨_, rfl⟩
 have hdN : dhdN n = N := by unfold dhdN; rw [eon, eT, eN]
 have eg0 : grpT O T = cubF N (grpG O on) := by
  unfold grpT
  rw [← eO, pO, eon, show ((on : Nat) : Int).toNat = on from Int.toNat_natCast on, eN]
 rw [eg0] at hGr
 unfold dhdT dhdG
 rw [hdN, eT, eon, eO]
 obtain ⟨G0, eG0⟩ : ∃ G0, grpG O on = G0 := ⟨_, rfl⟩
 have bG0 : BdG 1 G0 := by rw [← eG0]; exact grpG_bd
 rw [eG0] at hGr ⊢
 clear eG0 eg0 hO pO
 refine FreshCall.intro (n := 132) (rs := [.tmp 2]) Tryd.call74 Tryd.func74 rfl rfl rfl (by simp only [List.length_cons, List.length_nil]; omega) (fun cx hcx => ats_of ?_); simp only [argSlots, Nat.zero_add, Nat.reduceAdd]
 refine gA ?_
 refine gA ?_
 refine gC fun K hK => ?_
 simp only [tm]
 (repeat refine aI (hb := ?_))
 refine hK _ ?_; clear hK K
 (repeat refine ats_seq ?_)
 refine ats_upto ⟨[(0, .int n), (3, .int on), (4, .ref 0 [])], [(0, .t1 O)]⟩ ?_ ?_
 ·refine gI (fun hev => ?_) fun hev => ?_
  ·obtain ⟨e1, e2⟩ := ev (by omega)
   subst e1 e2
   refine gA ?_
   refine gA ?_
   refine ats_nil ?_; refine Or.inl ⟨rfl, ghost_to [0] [(1, 0)]⟩
  ·obtain ⟨e1, e2⟩ := od (by omega)
   subst e1 e2
   refine ats_skip ?_
   refine ats_nil ?_; refine Or.inl ⟨rfl, ghost_to [] []⟩
 (repeat refine ats_seq ?_); refine AT.ghost (ghost_frz [0]) ?_; simp only [frzV, find, killA, killAs, qOf, rmT, killH, killT, List.map_cons, List.map_nil, List.filter_cons, List.filter_nil, List.contains_cons, List.contains_nil, Bool.or_false, Bool.or_true, Bool.false_and, Bool.not_true, Bool.not_false, Bool.false_eq_true, if_true, if_false, seval]
 refine gC fun K hK => ?_
 simp only [tq]
 (repeat refine aI (hb := ?_))
 refine hK _ ?_; clear hK K
 refine gC fun K hK => ?_
 refine fcall_own rfl (hGr) rfl ?_; simp only [go_sem, seval]
 refine hK _ ?_; clear hK K
 (repeat refine ats_seq ?_); refine AT.ghost (st' := ⟨[(0, .int n), (3, .int on), (5, .int T), (6, .ref 0 [])], [(0, .t3 (cubF N G0))]⟩) (ghost_can [] (by simp only [go_sem, seval, AV.int.injEq, AV.bool.injEq, AV.l1.injEq, AV.l2.injEq, AV.l3.injEq]) (by simp only [go_sem, seval])) ?_
 refine gA ?_
 (repeat refine ats_seq ?_); refine ats_loop (fun t : Nat => ⟨[(0, .int n), (3, .int on), (5, .int T), (6, .ref 0 []), (7, .int ((t + 1 : Nat) : Int))], [(0, .t3 (cubF N (it (fun t g => dhH n (t + 1) g) t G0)))]⟩) (fun t => t ≤ T) (fun t => T - t) 0 (Nat.zero_le _) (by refine And.intro ?_ rfl; simp only [leS, Nat.reduceEqDiff, ↓reduceIte, true_and, and_true]; repeat' (first | rfl | with_reducible refine And.intro ?_ ?_ | omega)) (fun t ht => ?_)
 obtain ⟨G, eG⟩ : ∃ G, it (fun t g => dhH n (t + 1) g) t G0 = G := ⟨_, rfl⟩
 have bG : BdG (1 + t * 48) G := by rw [← eG]; exact BdG.iter bG0 fun k _ b g hg => dhH_bd hn hg
 rw [eG]
 refine gA ?_
 refine gI (fun hlt => ?_) fun hlt => ?_
 ·have eS : it (fun t g => dhH n (t + 1) g) (t + 1) G0 = dhH n (t + 1) G := by rw [← eG]; rfl
  refine ats_skip ?_
  (repeat refine ats_seq ?_); refine ats_block ?_
  have e8 : (on : Int) + ((t + 1 : Nat) : Int) - 1 = ((on + t : Nat) : Int) := by omega
  have eS2 : dhH n (t + 1) G = it (fun s g => dhK n (t + 1) (on + t) (s + 1) (on + s) g) T (it (fun a g => dhA n (t + 1) (on + t) a g) on G) := by
   unfold dhH
   rw [eon, eT, show on + (t + 1) - 1 = on + t by omega]
  rw [eS2] at eS
  clear eS2
  obtain ⟨V, eV⟩ : ∃ V, on + t = V := ⟨_, rfl⟩
  rw [eV] at e8 eS
  have hT1 := l06Turn_ok n (t + 1) (by omega) (by omega)
  refine gC fun K hK => ?_
  simp only [e8]
  (repeat refine aI (hb := ?_))
  refine hK _ ?_; clear hK K
  refine gA ?_
  (repeat refine ats_seq ?_); refine ats_loop (fun a : Nat => ⟨[(0, .int n), (3, .int on), (5, .int T), (6, .ref 0 []), (7, .int ((t + 1 : Nat) : Int)), (8, .int V), (9, .int a)], [(0, .t3 (cubF N (it (fun a g => dhA n (t + 1) V a g) a G)))]⟩) (fun a => a ≤ on) (fun a => on - a) 0 (Nat.zero_le _) (by refine And.intro ?_ rfl; simp only [leS, Nat.reduceEqDiff, ↓reduceIte, true_and, and_true]; repeat' (first | rfl | with_reducible refine And.intro ?_ ?_ | omega)) (fun a ha => ?_)
  obtain ⟨GA, eGA⟩ : ∃ GA, it (fun a g => dhA n (t + 1) V a g) a G = GA := ⟨_, rfl⟩
  have bGA : BdG (1 + t * 48 + a * 4) GA := by rw [← eGA]; exact BdG.iter bG fun k _ b g hg => dhA_bd hg
  rw [eGA]
  refine gA ?_
  refine gI (fun hla => ?_) fun hla => ?_
  ·obtain ⟨L, eL⟩ : ∃ L, (if 2 ≤ a then turnL n (n / 2 - (t + 1)) else turnL n (t + 1)) = L := ⟨_, rfl⟩
   have eA : it (fun a g => dhA n (t + 1) V a g) (a + 1) G = it (fun i g => incG (incG g a V (L.getD i 0).toNat) V a (L.getD i 0).toNat) L.length GA := by
    rw [← eL, ← eGA]
    rfl
   have hL : ∀ i, i < L.length → ∃ q : Nat, L.getD i 0 = q ∧ q < N := fun i hi => by
    rw [← hdN]
    rw [← eL] at hi ⊢
    split at hi
    ·rename_i h2
     rw [if_pos h2]
     exact turnL_get (by omega) hi
    ·rename_i h2
     rw [if_neg h2]
     exact turnL_get (by omega) hi
   have lL : L.length ≤ 2 := by rw [← eL]; split <;> exact turnL_len
   refine ats_skip ?_
   (repeat refine ats_seq ?_); refine ats_block ?_
   refine gC fun K hK => ?_
   first | refine fcall_fresh rfl (hT1) ?_ | refine YR_intro (acall_fresh rfl (hT1)) ?_
   simp only [go_sem, seval]
   refine hK _ ?_; clear hK K
   refine gA ?_
   (repeat refine ats_seq ?_)
   refine ats_upto ⟨[(0, .int n), (3, .int on), (5, .int T), (6, .ref 0 []), (7, .int ((t + 1 : Nat) : Int)), (8, .int V), (9, .int a), (10, .l1 L)], [(0, .t3 (cubF N GA))]⟩ ?_ ?_
   ·refine gI (fun h2 => ?_) fun h2 => ?_
    ·rw [if_pos (by omega)] at eL
     subst eL
     have e2 : (n : Int).tdiv 2 = ((n / 2 : Nat) : Int) := tdivN n 2
     have e3 : ((n / 2 : Nat) : Int) - ((t + 1 : Nat) : Int) = ((n / 2 - (t + 1) : Nat) : Int) := by omega
     have hT2 := l06Turn_ok n (n / 2 - (t + 1)) (by omega) (by omega)
     refine gC fun K hK => ?_
     simp only [e2, e3]
     (repeat refine aI (hb := ?_))
     first | refine fcall_fresh rfl (hT2) ?_ | refine YR_intro (acall_fresh rfl (hT2)) ?_
     simp only [go_sem, seval]
     refine hK _ ?_; clear hK K
     refine ats_nil ?_; refine Or.inl ⟨rfl, ghost_to [] []⟩
    ·rw [if_neg (by omega)] at eL
     subst eL
     refine ats_skip ?_
     refine ats_nil ?_; refine Or.inl ⟨rfl, ghost_to [] []⟩
   clear eL
   refine gA ?_
   (repeat refine ats_seq ?_); refine ats_loop (fun i : Nat => ⟨[(0, .int n), (3, .int on), (5, .int T), (6, .ref 0 []), (7, .int ((t + 1 : Nat) : Int)), (8, .int V), (9, .int a), (10, .l1 L), (11, .int i)], [(0, .t3 (cubF N (it (fun i g => incG (incG g a V (L.getD i 0).toNat) V a (L.getD i 0).toNat) i GA)))]⟩) (fun i => i ≤ L.length) (fun i => L.length - i) 0 (Nat.zero_le _) (by refine And.intro ?_ rfl; simp only [leS, Nat.reduceEqDiff, ↓reduceIte, true_and, and_true]; repeat' (first | rfl | with_reducible refine And.intro ?_ ?_ | omega)) (fun i hi => ?_)
   obtain ⟨GI, eGI⟩ : ∃ GI, it (fun i g => incG (incG g a V (L.getD i 0).toNat) V a (L.getD i 0).toNat) i GA = GI := ⟨_, rfl⟩
   have bGI : BdG (1 + t * 48 + a * 4 + i * 2) GI := by
    rw [← eGI]
    exact BdG.iter bGA fun k _ b g hg => by
     have := (hg.inc a V (L.getD k 0).toNat).inc V a (L.getD k 0).toNat
     rw [show b + 1 + 1 = b + 2 by omega] at this
     exact this
   rw [eGI]
   refine gA ?_
   refine gI (fun hlI => ?_) fun hlI => ?_
   ·obtain ⟨q, eq, hq⟩ := hL i (by omega)
    have eI : it (fun i g => incG (incG g a V (L.getD i 0).toNat) V a (L.getD i 0).toNat) (i + 1) GA = incG (incG GI a V q) V a q := by
     rw [← eGI]
     show incG (incG _ a V (L.getD i 0).toNat) V a (L.getD i 0).toNat = _
     rw [eq]
     rfl
    obtain ⟨c1, c2, c3, c4, c5, c6⟩ := inc_step (N := N) (i := a) (j := V) (k := q) bGI (by omega) (by omega) (by omega) hq
    obtain ⟨d1, d2, d3, d4, d5, d6⟩ := inc_step (N := N) (i := V) (j := a) (k := q) (bGI.inc a V q) (by omega) (by omega) (by omega) hq
    refine ats_skip ?_
    (repeat refine ats_seq ?_); refine ats_block ?_
    (repeat refine ats_seq ?_)
    refine ats_plan [] (.one 0 (.one 1 (.one 2 (.one 3 (.one 4 (.one 5 (.one 6 (.one 7 (.one 8 (.one 9 (.one 10 (.one 11 (.one 12 (.one 13 (.one 14 (.alt 15 .fin .stop)))))))))))))))) ⟨[(0, .int n), (3, .int on), (5, .int T), (6, .ref 0 []), (7, .int ((t + 1 : Nat) : Int)), (8, .int V), (9, .int a), (10, .l1 L), (11, .int i)], [(0, .t3 ((cubF N GI).set a (((cubF N GI).getD a []).set V ((((cubF N GI).getD a []).getD V []).set q ((((cubF N GI).getD a []).getD V []).getD q 0 + 1)))))]⟩ (fix0 hcx) mixed (by kernel_rfl) (fun K hK => ?_) ?_
    ·simp only [go_sem, seval, Option.getD_some, and_true, true_and, and_self, List.contains_cons, List.contains_nil, Bool.or_false, Bool.or_true]
     repeat' (first | exact hK _ (by refine And.intro ?_ rfl; simp only [leS, Nat.reduceEqDiff, ↓reduceIte, true_and, and_true])  | with_reducible refine And.intro ?_ ?_ | omega | ((simp only [eq])) | (simp only [go_sem, seval, Option.getD_some, and_true, true_and, and_self, List.contains_cons, List.contains_nil, Bool.or_false, Bool.or_true]))
    rw [c6]
    clear c1 c2 c3 c4 c5 c6
    (repeat refine ats_seq ?_)
    refine ats_plan [] (.one 0 (.one 1 (.one 2 (.one 3 (.one 4 (.one 5 (.one 6 (.one 7 (.one 8 (.one 9 (.one 10 (.one 11 (.one 12 (.one 13 (.one 14 (.alt 15 .fin .stop)))))))))))))))) ⟨[(0, .int n), (3, .int on), (5, .int T), (6, .ref 0 []), (7, .int ((t + 1 : Nat) : Int)), (8, .int V), (9, .int a), (10, .l1 L), (11, .int i)], [(0, .t3 ((cubF N (incG GI a V q)).set V (((cubF N (incG GI a V q)).getD V []).set a ((((cubF N (incG GI a V q)).getD V []).getD a []).set q ((((cubF N (incG GI a V q)).getD V []).getD a []).getD q 0 + 1)))))]⟩ (fix0 hcx) mixed (by kernel_rfl) (fun K hK => ?_) ?_
    ·simp only [go_sem, seval, Option.getD_some, and_true, true_and, and_self, List.contains_cons, List.contains_nil, Bool.or_false, Bool.or_true]
     repeat' (first | exact hK _ (by refine And.intro ?_ rfl; simp only [leS, Nat.reduceEqDiff, ↓reduceIte, true_and, and_true])  | with_reducible refine And.intro ?_ ?_ | omega | ((simp only [eq])) | (simp only [go_sem, seval, Option.getD_some, and_true, true_and, and_self, List.contains_cons, List.contains_nil, Bool.or_false, Bool.or_true]))
    rw [d6]
    refine gB ?_
    refine ⟨i + 1,  by omega, by omega, .inl ⟨by simp only [leS, Nat.reduceEqDiff, ↓reduceIte, true_and, and_true]; omega,  by rw [eI]⟩⟩
   ·obtain rfl : i = L.length := by omega
    refine ats_exit (lq_x ?_)
    refine gB ?_
    refine ⟨a + 1,  by omega, by omega, .inl ⟨by simp only [leS, Nat.reduceEqDiff, ↓reduceIte, true_and, and_true]; omega,  by rw [eA, eGI]⟩⟩
  ·obtain rfl : a = on := by omega
   refine ats_exit (lq_x ?_)
   rw [eGA] at eS
   clear eGA hT1 ev od hGr
   refine gA ?_
   (repeat refine ats_seq ?_); refine ats_loop (fun s : Nat => ⟨[(0, .int n), (3, .int a), (5, .int T), (6, .ref 0 []), (7, .int ((t + 1 : Nat) : Int)), (8, .int V), (12, .int ((s + 1 : Nat) : Int))], [(0, .t3 (cubF N (it (fun s g => dhK n (t + 1) V (s + 1) (a + s) g) s GA)))]⟩) (fun s => s ≤ T) (fun s => T - s) 0 (Nat.zero_le _) (by refine And.intro ?_ rfl; simp only [leS, Nat.reduceEqDiff, ↓reduceIte, true_and, and_true]; repeat' (first | rfl | with_reducible refine And.intro ?_ ?_ | omega)) (fun s hs => ?_)
   obtain ⟨GK, eGK⟩ : ∃ GK, it (fun s g => dhK n (t + 1) V (s + 1) (a + s) g) s GA = GK := ⟨_, rfl⟩
   have bGK : BdG (1 + t * 48 + a * 4 + s * 4) GK := by rw [← eGK]; exact BdG.iter bGA fun k _ b g hg => dhK_bd hg
   rw [eGK]
   refine gA ?_
   refine gI (fun hls => ?_) fun hls => ?_
   ·obtain ⟨L, eL⟩ : ∃ L, turn2 n (t + 1) (s + 1) = L := ⟨_, rfl⟩
    have eK : it (fun s g => dhK n (t + 1) V (s + 1) (a + s) g) (s + 1) GA = it (fun i g => incG g V (a + s) (L.getD i 0).toNat) L.length GK := by
     rw [← eL, ← eGK]
     rfl
    have hL : ∀ i, i < L.length → ∃ q : Nat, L.getD i 0 = q ∧ q < N := fun i hi => by
     rw [← hdN]
     rw [← eL] at hi ⊢
     exact turn2_get (by omega) hi
    have eL2 : turnL n (t + 1 + (s + 1)) ++ turnL n (max (t + 1 - (s + 1)) (s + 1 - (t + 1))) = L := eL
    have lL : L.length ≤ 4 := by
     rw [← eL2, List.length_append]
     have := @turnL_len n (t + 1 + (s + 1))
     have := @turnL_len n (max (t + 1 - (s + 1)) (s + 1 - (t + 1)))
     omega
    have hT1 := l06Turn_ok n (t + 1 + (s + 1)) (by omega) (by omega)
    have hT2 := l06Turn_ok n (max (t + 1 - (s + 1)) (s + 1 - (t + 1))) (by omega) (by omega)
    have lA := @turnL_len n (t + 1 + (s + 1))
    have lB := @turnL_len n (max (t + 1 - (s + 1)) (s + 1 - (t + 1)))
    have e5 : ((t + 1 : Nat) : Int) + ((s + 1 : Nat) : Int) = ((t + 1 + (s + 1) : Nat) : Int) := by omega
    have e6 : (if ((s + 1 : Nat) : Int) - ((t + 1 : Nat) : Int) > ((t + 1 : Nat) : Int) - ((s + 1 : Nat) : Int) then ((s + 1 : Nat) : Int) - ((t + 1 : Nat) : Int) else ((t + 1 : Nat) : Int) - ((s + 1 : Nat) : Int)) = ((max (t + 1 - (s + 1)) (s + 1 - (t + 1)) : Nat) : Int) := by split <;> omega
    clear eL
    generalize turnL n (t + 1 + (s + 1)) = LA at *
    generalize turnL n (max (t + 1 - (s + 1)) (s + 1 - (t + 1))) = LB at *
    generalize max (t + 1 - (s + 1)) (s + 1 - (t + 1)) = hb at *
    generalize t + 1 + (s + 1) = ha at *
    refine ats_skip ?_
    (repeat refine ats_seq ?_); refine ats_block ?_
    refine gC fun K hK => ?_
    simp only [e5, e6]
    (repeat refine aI (hb := ?_))
    refine fcall_own rfl (hT1) rfl ?_; simp only [go_sem, seval]
    simp only [e6]
    (repeat refine aI (hb := ?_))
    first | refine fcall_fresh rfl (hT2) ?_ | refine YR_intro (acall_fresh rfl (hT2)) ?_
    simp only [go_sem, seval]
    (repeat refine aI (hb := ?_))
    refine hK _ ?_; clear hK K
    rw [eL2]
    (repeat refine ats_seq ?_); refine AT.ghost (ghost_frz [1]) ?_; simp only [frzV, find, killA, killAs, qOf, rmT, killH, killT, List.map_cons, List.map_nil, List.filter_cons, List.filter_nil, List.contains_cons, List.contains_nil, Bool.or_false, Bool.or_true, Bool.false_and, Bool.not_true, Bool.not_false, Bool.false_eq_true, if_true, if_false, seval]
    (repeat refine ats_seq ?_); refine AT.ghost (st' := ⟨[(0, .int n), (3, .int a), (5, .int T), (6, .ref 0 []), (7, .int ((t + 1 : Nat) : Int)), (8, .int V), (12, .int ((s + 1 : Nat) : Int)), (13, .l1 L)], [(0, .t3 (cubF N GK))]⟩) (ghost_can [] (by simp only [go_sem, seval, AV.int.injEq, AV.bool.injEq, AV.l1.injEq, AV.l2.injEq, AV.l3.injEq]) (by simp only [go_sem, seval])) ?_
    clear eL2 hT1 hT2 e5 e6 lA lB
    refine gA ?_
    (repeat refine ats_seq ?_); refine ats_loop (fun i : Nat => ⟨[(0, .int n), (3, .int a), (5, .int T), (6, .ref 0 []), (7, .int ((t + 1 : Nat) : Int)), (8, .int V), (12, .int ((s + 1 : Nat) : Int)), (13, .l1 L), (14, .int i)], [(0, .t3 (cubF N (it (fun i g => incG g V (a + s) (L.getD i 0).toNat) i GK)))]⟩) (fun i => i ≤ L.length) (fun i => L.length - i) 0 (Nat.zero_le _) (by refine And.intro ?_ rfl; simp only [leS, Nat.reduceEqDiff, ↓reduceIte, true_and, and_true]; repeat' (first | rfl | with_reducible refine And.intro ?_ ?_ | omega)) (fun i hi => ?_)
    obtain ⟨GI, eGI⟩ : ∃ GI, it (fun i g => incG g V (a + s) (L.getD i 0).toNat) i GK = GI := ⟨_, rfl⟩
    have bGI : BdG (1 + t * 48 + a * 4 + s * 4 + i * 1) GI := by rw [← eGI]; exact BdG.iter bGK fun k _ b g hg => hg.inc _ _ _
    rw [eGI]
    refine gA ?_
    refine gI (fun hlI => ?_) fun hlI => ?_
    ·obtain ⟨q, eq, hq⟩ := hL i (by omega)
     have eI : it (fun i g => incG g V (a + s) (L.getD i 0).toNat) (i + 1) GK = incG GI V (a + s) q := by
      rw [← eGI]
      show incG _ V (a + s) (L.getD i 0).toNat = _
      rw [eq]
      rfl
     obtain ⟨c1, c2, c3, c4, c5, c6⟩ := inc_step (N := N) (i := V) (j := a + s) (k := q) bGI (by omega) (by omega) (by omega) hq
     have e7 : (a : Int) + ((s + 1 : Nat) : Int) - 1 = ((a + s : Nat) : Int) := by omega
     have b7 : a + s ≤ 40 := by omega
     generalize a + s = w at *
     refine ats_skip ?_
     (repeat refine ats_seq ?_); refine ats_block ?_
     (repeat refine ats_seq ?_)
     refine ats_plan [] (.one 0 (.one 1 (.one 2 (.one 3 (.one 4 (.one 5 (.one 6 (.one 7 (.one 8 (.one 9 (.one 10 (.one 11 (.one 12 (.one 13 (.one 14 (.one 15 (.one 16 (.one 17 (.alt 18 .fin .stop))))))))))))))))))) ⟨[(0, .int n), (3, .int a), (5, .int T), (6, .ref 0 []), (7, .int ((t + 1 : Nat) : Int)), (8, .int V), (12, .int ((s + 1 : Nat) : Int)), (13, .l1 L), (14, .int i)], [(0, .t3 ((cubF N GI).set V (((cubF N GI).getD V []).set w ((((cubF N GI).getD V []).getD w []).set q ((((cubF N GI).getD V []).getD w []).getD q 0 + 1)))))]⟩ (fix0 hcx) mixed (by kernel_rfl) (fun K hK => ?_) ?_
     ·simp only [go_sem, seval, Option.getD_some, and_true, true_and, and_self, List.contains_cons, List.contains_nil, Bool.or_false, Bool.or_true]
      repeat' (first | exact hK _ (by refine And.intro ?_ rfl; simp only [leS, Nat.reduceEqDiff, ↓reduceIte, true_and, and_true])  | with_reducible refine And.intro ?_ ?_ | omega | ((simp only [eq, e7])) | (simp only [go_sem, seval, Option.getD_some, and_true, true_and, and_self, List.contains_cons, List.contains_nil, Bool.or_false, Bool.or_true]))
     rw [c6]
     refine gB ?_
     refine ⟨i + 1,  by omega, by omega, .inl ⟨by simp only [leS, Nat.reduceEqDiff, ↓reduceIte, true_and, and_true]; omega,  by rw [eI]⟩⟩
    ·obtain rfl : i = L.length := by omega
     refine ats_exit (lq_x ?_)
     refine gB ?_
     refine ⟨s + 1,  by omega, by omega, .inl ⟨by simp only [leS, Nat.reduceEqDiff, ↓reduceIte, true_and, and_true]; omega,  by rw [eK, eGI]⟩⟩
   ·obtain rfl : s = T := by omega
    refine ats_exit (lq_x ?_)
    refine gB ?_
    refine ⟨t + 1,  by omega, by omega, .inl ⟨by simp only [leS, Nat.reduceEqDiff, ↓reduceIte, true_and, and_true]; omega,  by rw [eS, eGK]⟩⟩
 ·obtain rfl : t = T := by omega
  refine ats_exit (lq_x ?_)
  refine gA ?_
  exact ats_ret (ownV (is := [0]) rfl ⟨rfl, trivial⟩ (by rw [eG]; rfl) (by simp))
end Go.Proofs.YtmjcbgpbhlheoaaDoor
namespace Go.Proofs.YtmjcbgpbhlheoaaDoor
open Go Go.Aw Go.Pl
theorem dOrdL_more {most : Int} {k : Nat} {o : List Int} {z : Int} {s : Src} (h : (nx s 2).1 = 0 ∧ 2 * z ≤ most) :
  dOrdL most (k + 1) o z s = dOrdL most k (o ++ [2 + (nx (nx s 2).2 (most / z - 1)).1]) (z * (2 + (nx (nx s 2).2 (most / z - 1)).1)) (nx (nx s 2).2 (most / z - 1)).2 := by
 show (if _ then _ else _) = _
 rw [if_pos h]
theorem dOrdL_stop {most : Int} {k : Nat} {o : List Int} {z : Int} {s : Src} (h : k = 0 ∨ ¬((nx s 2).1 = 0 ∧ 2 * z ≤ most)) : dOrdL most k o z s = (o, (nx s 2).2) := by
 cases k with
 | zero => rfl
 | succ k =>
  show (if _ then _ else _) = _
  rw [if_neg (h.resolve_left (Nat.succ_ne_zero k))]
set_option maxHeartbeats 2000000 in
theorem l06DrawOrders_ok (s : Src) (hs : s.Ok) (most : Int) (h1 : 1 ≤ most) (h2 : most ≤ 1048576) : OwnCall Tryd.prog 72 [.bptr 0 0, .int most] (TS s)
  [(0, .bx [.lv (bsV (dOrd s most).2.code), .int (dOrd s most).2.pos, .ik .u64 (dOrd s most).2.h]), (1, .t1 (dOrd s most).1)] (.ref 1 []) [0] := by
 have hN := l01Next_ok s hs most (by omega)
 have b1 := nx_bd s h1
 have m1 := nx_mv hs h1
 obtain ⟨R, eR⟩ : ∃ R, dOrd s most = R := ⟨_, rfl⟩
 have eR' : dOrdL most 3 [1 + (nx s most).1] (1 + (nx s most).1) (nx s most).2 = R := eR
 rw [eR]
 have ok1 := m1.ok hs
 generalize nx s most = r at *
 unfold TS at hN ⊢
 refine OwnCall.intro (n := 45) (rs := [.tmp 4]) 2 [0, 1] (X := [0]) Tryd.call72 Tryd.func72 rfl rfl rfl (by simp only [List.length_cons, List.length_nil]; omega) (by simp [Aw.ids, rootsA, rootsAs, argSlots, slotGet]) (fun cx hcx => AT.weakG (ats_of ?_)); simp only [argSlots, Nat.zero_add, Nat.reduceAdd]
 refine gBN ?_
 refine gCN fun K hK => ?_
 refine fcall_bx (hN) (k := ?_); simp only [Aw.ids, go_sem, seval]
 (repeat refine aI (hb := ?_))
 refine hK _ ?_; clear hK K
 refine gBN ?_
 (repeat refine ats_seq ?_); refine AT.ghost (st' := ⟨[(0, .bptr 0 0), (1, .int most), (5, .ref 1 []), (6, .int (1 + r.1))], [(0, .bx [.lv (bsV r.2.code), .int r.2.pos, .ik .u64 r.2.h]), (1, .t1 [1 + r.1])]⟩) (ghost_can [] (by simp only [go_sem, seval, AV.int.injEq, AV.bool.injEq, AV.l1.injEq, AV.l2.injEq, AV.l3.injEq]) (by simp only [go_sem, seval])) ?_
 (repeat refine ats_seq ?_); refine ats_loop (fun x : Nat × List Int × Int × Src => ⟨[(0, .bptr 0 0), (1, .int most), (5, .ref 1 []), (6, .int x.2.2.1)], [(0, .bx [.lv (bsV x.2.2.2.code), .int x.2.2.2.pos, .ik .u64 x.2.2.2.h]), (1, .t1 x.2.1)]⟩) (fun x => x.2.2.2.Ok ∧ x.2.1.length + x.1 = 4 ∧ 1 ≤ x.2.2.1 ∧ x.2.2.1 ≤ most ∧ dOrdL most x.1 x.2.1 x.2.2.1 x.2.2.2 = R) (fun x => x.1) (3, [1 + r.1], 1 + r.1, r.2) ⟨ok1, rfl, by dsimp only; omega, by dsimp only; omega, eR'⟩ (by
  refine And.intro ?_ rfl; simp only [leS, Nat.reduceEqDiff, ↓reduceIte, true_and, and_true]
  try rfl) (fun x hx => ?_)
 obtain ⟨k, o, z, s1⟩ := x
 dsimp only at hx ⊢
 obtain ⟨ok, hl, z1, z2, eD⟩ := hx
 have hN2 := l01Next_ok s1 ok 2 (by omega)
 have b2 := nx_bd s1 (n := 2) (by decide)
 have ok2 := nx_ok ok 2
 obtain ⟨q, eq⟩ : ∃ q, nx s1 2 = q := ⟨_, rfl⟩
 have eM := @dOrdL_more most (k - 1) o z s1
 have eX := @dOrdL_stop most k o z s1
 rw [eq] at hN2 b2 ok2 eM eX
 unfold TS at hN2
 refine gCN fun K hK => ?_
 refine fcall_bx (hN2) (k := ?_); simp only [Aw.ids, go_sem, seval]
 (repeat refine aI (hb := ?_))
 refine hK _ ?_; clear hK K
 refine gI (fun hc => ?_) fun hc => ?_
 ·simp only [Bool.and_eq_true, decide_eq_true_eq] at hc
  obtain ⟨k, rfl⟩ : ∃ j, k = j + 1 := ⟨k - 1, by omega⟩
  have eM := eM ⟨hc.1.1, hc.2⟩
  rw [show k + 1 - 1 = k by omega] at eM
  have hd := div_more z1 hc.2
  have td : most.tdiv z = most / z := Int.tdiv_eq_ediv_of_nonneg (by omega)
  have hN3 := l01Next_ok q.2 ok2 (most / z - 1) (by have := Int.ediv_le_self z (show 0 ≤ most by omega); omega)
  have b3 := nx_bd q.2 (n := most / z - 1) (by omega)
  have ok3 := nx_ok ok2 (most / z - 1)
  have bq : most / z ≤ most := Int.ediv_le_self z (by omega)
  obtain ⟨w, ew⟩ : ∃ w, nx q.2 (most / z - 1) = w := ⟨_, rfl⟩
  rw [ew] at hN3 b3 ok3 eM
  rw [eM] at eD
  have n1 : z * (2 + w.1) ≤ z * (most / z) := Int.mul_le_mul_of_nonneg_left (by omega) (by omega)
  have n2 : z * 1 ≤ z * (2 + w.1) := Int.mul_le_mul_of_nonneg_left (by omega) (by omega)
  unfold TS at hN3
  refine ats_skip ?_
  (repeat refine ats_seq ?_); refine AT.ghost (st' := ⟨[(0, .bptr 0 0), (1, .int most), (5, .ref 1 []), (6, .int z)], [(0, .bx [.lv (bsV q.2.code), .int q.2.pos, .ik .u64 q.2.h]), (1, .t1 o)]⟩) (ghost_can [] (by simp only [go_sem, seval, AV.int.injEq, AV.bool.injEq, AV.l1.injEq, AV.l2.injEq, AV.l3.injEq]) (by simp only [go_sem, seval])) ?_
  (repeat refine ats_seq ?_); refine ats_block ?_
  refine gCN fun K hK => ?_
  simp only [td]
  (repeat refine aI (hb := ?_))
  refine fcall_bx (hN3) (k := ?_); simp only [Aw.ids, go_sem, seval]
  (repeat refine aI (hb := ?_))
  refine hK _ ?_; clear hK K
  refine gBN ?_
  refine gBN ?_
  refine ⟨(k, o ++ [2 + w.1], z * (2 + w.1), w.2), ⟨ok3, by simp only [List.length_append, List.length_cons, List.length_nil]; omega, by dsimp only; omega, by dsimp only; omega, eD⟩, by omega, .inr ⟨[2], by simp only [killL, List.map_cons, List.map_nil, killA, killAs, killAs_bsV, qOf, rmT, killH, killT, List.filter_cons, List.filter_nil, List.contains_cons, List.contains_nil, SlotsLe, St.get, slotGet, Nat.reduceEqDiff, Nat.reduceBEq, Bool.or_false, Bool.or_true, Bool.false_and, Bool.not_true, Bool.not_false, Bool.false_eq_true, ↓reduceIte, if_true, if_false, AV.int.injEq, AV.bool.injEq, AV.l1.injEq, AV.l2.injEq, AV.l3.injEq, true_and, and_true]; (try rfl), by simp only [killL, List.map_cons, List.map_nil, killA, killAs, killAs_bsV, qOf, rmT, killH, killT, List.filter_cons, List.filter_nil, List.contains_cons, List.contains_nil, SlotsLe, St.get, slotGet, Nat.reduceEqDiff, Nat.reduceBEq, Bool.or_false, Bool.or_true, Bool.false_and, Bool.not_true, Bool.not_false, Bool.false_eq_true, ↓reduceIte, if_true, if_false, AV.int.injEq, AV.bool.injEq, AV.l1.injEq, AV.l2.injEq, AV.l3.injEq, true_and, and_true]; (try rfl)⟩⟩
 ·have eX := eX (by
   simp only [Bool.and_eq_false_iff, decide_eq_false_iff_not] at hc
   rcases Nat.eq_zero_or_pos k with h0 | h0
   ·exact .inl h0
   ·refine .inr fun hb => ?_
    rcases hc with (hc | hc) | hc
    ·exact hc hb.1
    ·omega
    ·exact hc hb.2)
  rw [eX] at eD
  subst eD
  refine ats_exit (lq_x ?_)
  refine gBN ?_
  refine ats_ret ⟨⟨[(0, .bptr 0 0), (1, .int most), (4, .ref 1 [])], [(0, .bx [.lv (bsV q.2.code), .int q.2.pos, .ik .u64 q.2.h]), (1, .t1 o)]⟩, ghost_to [] [], .inr rfl, (by first | rfl | exact ⟨trivial, rfl⟩ | (simp only [resL, resA, go_sem, seval]; done)), (by simp [St.get, slotGet, argSlots]), rfl⟩
end Go.Proofs.YtmjcbgpbhlheoaaDoor
namespace Go.Proofs.YtmjcbgpbhlheoaaDoor
open Go Go.Aw Go.Pl
theorem drS_0 (s : Src) (m : Nat) : drS s m 0 = (grpT (dOrd s m).1 0, (dOrd s m).2) := rfl
theorem drS_1 (s : Src) {m : Nat} (h : 2 ≤ m) : drS s m 1 = (dhgT (1 + (nx s (m / 2 : Nat)).1.toNat), (nx s (m / 2 : Nat)).2) := by
 unfold drS
 rw [if_neg (by decide), if_pos ⟨rfl, h⟩]
theorem drS_1t (s : Src) {m : Nat} (h : ¬2 ≤ m) : drS s m 1 = tlD s m := by
 unfold drS
 rw [if_neg (by decide), if_neg (fun e => h e.2), if_neg (by decide), if_neg (fun e => h e.2), if_neg (fun e => h e.2), if_neg (by decide)]
theorem drS_2 (s : Src) (m : Nat) : drS s m 2 = if (dhL m 8 s).1 = 0 then tlD (dhL m 8 s).2 m else (dhdT (dhL m 8 s).1, (dhL m 8 s).2) := rfl
theorem drS_3 (s : Src) {m : Nat} (h : 2 ≤ m) : drS s m 3 = (nearT (dOrd s (m - 1 : Nat)).1 0, (dOrd s (m - 1 : Nat)).2) := by
 unfold drS
 rw [if_neg (by decide), if_neg (fun e => absurd e.1 (by decide)), if_neg (by decide), if_pos ⟨rfl, h⟩]
theorem drS_3t (s : Src) {m : Nat} (h : ¬2 ≤ m) : drS s m 3 = tlD s m := by
 unfold drS
 rw [if_neg (by decide), if_neg (fun e => h e.2), if_neg (by decide), if_neg (fun e => h e.2), if_neg (fun e => h e.2), if_neg (by decide)]
theorem drS_4 (s : Src) {m : Nat} (h : 2 ≤ m) : drS s m 4 = (nearT (dOrd s (m - 1 : Nat)).1 (pk5 (dOrd s (m - 1 : Nat)).2).1, (pk5 (dOrd s (m - 1 : Nat)).2).2) := by
 unfold drS
 rw [if_neg (by decide), if_neg (fun e => absurd e.1 (by decide)), if_neg (by decide), if_neg (fun e => absurd e.1 (by decide)), if_pos ⟨rfl, h⟩]
theorem drS_4t (s : Src) {m : Nat} (h : ¬2 ≤ m) : drS s m 4 = tlD s m := by
 unfold drS
 rw [if_neg (by decide), if_neg (fun e => h e.2), if_neg (by decide), if_neg (fun e => h e.2), if_neg (fun e => h e.2), if_neg (by decide)]
theorem drS_5 (s : Src) (m : Nat) : drS s m 5 = (spnT (nx s m).1.toNat 1, (nx s m).2) := rfl
theorem drS_t (s : Src) (m : Nat) {x : Int} (h : 6 ≤ x) : drS s m x = tlD s m := by
 unfold drS
 rw [if_neg (by omega), if_neg (by omega), if_neg (by omega), if_neg (by omega), if_neg (by omega), if_neg (by omega)]
theorem l01Pick2_ok (s : Src) (hs : s.Ok) (xs : List Int) (h1 : 1 ≤ xs.length) (h2 : xs.length ≤ 1048576) : OwnCall Tryd.prog 52 [.bptr 0 0, .ref 2 []]
  [(0, .bx [.lv (bsV s.code), .int s.pos, .ik .u64 s.h]), (2, .t1 xs)]
  [(0, .bx [.lv (bsV (nx s xs.length).2.code), .int (nx s xs.length).2.pos, .ik .u64 (nx s xs.length).2.h]), (2, .t1 xs)] (.int (xs.getD (nx s xs.length).1.toNat 0)) [0, 2] := by
 have hN := l01Next_ok s hs xs.length (by omega)
 have hb := nx_bd s (n := xs.length) (by omega)
 obtain ⟨r, er⟩ : ∃ r, nx s xs.length = r := ⟨_, rfl⟩
 rw [er] at hN hb ⊢
 unfold TS at hN
 refine OwnCall.intro (n := 12) (rs := [.tmp 4]) 2 [0, 1] (X := [0, 2]) Tryd.call52 Tryd.func52 rfl rfl rfl (by simp only [List.length_cons, List.length_nil]; omega) (by simp [Aw.ids, rootsA, rootsAs, argSlots, slotGet]) (fun cx hcx => AT.weakG (ats_of ?_)); simp only [argSlots, Nat.zero_add, Nat.reduceAdd]
 refine gBN ?_
 refine gCN fun K hK => ?_
 (repeat refine aI (hb := ?_))
 refine fcall_bx (hN) (k := ?_); simp only [Aw.ids, go_sem, seval]
 (repeat refine aI (hb := ?_))
 refine hK _ ?_; clear hK K
 refine ats_ret ⟨⟨[(0, .bptr 0 0), (1, .ref 2 []), (4, .int (xs.getD r.1.toNat 0))], [(0, .bx [.lv (bsV r.2.code), .int r.2.pos, .ik .u64 r.2.h]), (2, .t1 xs)]⟩, ghost_to [] [], .inr rfl, (by first | rfl | exact ⟨trivial, rfl⟩ | (simp only [resL, resA, go_sem, seval]; done)), (by simp [St.get, slotGet, argSlots]), rfl⟩
set_option maxHeartbeats 4000000 in
theorem l06Draw_flat (s : Src) (hs : s.Ok) (most : Nat) (h1 : 1 ≤ most) (h2 : most ≤ 10) (hc : ¬((nx s 8).1 = 6 ∧ 4 ≤ most)) (r : Cu × Src) (hr : drS (nx s 8).2 most (nx s 8).1 = r) : OwnCall Tryd.prog 63 [.bptr 0 0, .int most] (TS s)
  [(0, .bx [.lv (bsV r.2.code), .int r.2.pos, .ik .u64 r.2.h]), (1, .t3 r.1)] (.ref 1 []) [0] := by
 have hN := l01Next_ok s hs 8 (by omega)
 have b1 := nx_bd s (n := 8) (by decide)
 have ok1 := nx_ok hs 8
 obtain ⟨x, ex⟩ : ∃ x, (nx s 8).1 = x := ⟨_, rfl⟩
 obtain ⟨s1, es⟩ : ∃ s1, (nx s 8).2 = s1 := ⟨_, rfl⟩
 rw [ex] at hN b1 hc hr
 rw [es] at hN ok1 hr
 clear ex es
 have eD := hr
 clear hr
 unfold TS at hN ⊢
 refine OwnCall.intro (n := 91) (rs := [.tmp 4]) 2 [0, 1] (X := [0]) Tryd.call63 Tryd.func63 rfl rfl rfl (by simp only [List.length_cons, List.length_nil]; omega) (by simp [Aw.ids, rootsA, rootsAs, argSlots, slotGet]) (fun cx hcx => AT.weakG (ats_of ?_)); simp only [argSlots, Nat.zero_add, Nat.reduceAdd]
 refine gBN ?_
 refine gCN fun K hK => ?_
 refine fcall_bx (hN) (k := ?_); simp only [Aw.ids, go_sem, seval]
 (repeat refine aI (hb := ?_))
 refine hK _ ?_; clear hK K
 (repeat refine ats_seq ?_); refine AT.ghost (st' := ⟨[(0, .bptr 0 0), (1, .int most), (9, .int x)], [(0, .bx [.lv (bsV s1.code), .int s1.pos, .ik .u64 s1.h])]⟩) (ghost_can [] (by simp only [go_sem, seval, AV.int.injEq, AV.bool.injEq, AV.l1.injEq, AV.l2.injEq, AV.l3.injEq]) (by simp only [go_sem, seval])) ?_
 (repeat refine ats_seq ?_)
 (repeat refine ats_seq ?_); refine ats_block ?_
 refine gBN ?_
 refine gI (fun c0 => ?_) fun c0 => ?_
 ·subst c0
  rw [drS_0] at eD
  have hO := l06DrawOrders_ok s1 ok1 most (by omega) (by omega)
  obtain ⟨f1, f2, _⟩ := dOrd_fact ok1 (most := most) (by omega)
  generalize dOrd s1 most = w at *
  have hG := l06Group_ok w.1 f1 0 (by omega)
  rw [show ((0 : Nat) : Int) = 0 from rfl] at hG
  subst eD
  unfold TS at hO
  refine gCN fun K hK => ?_
  refine fcall_bx (hO) (k := ?_); simp only [Aw.ids, go_sem, seval]
  refine fcall_own rfl (hG) rfl ?_; simp only [go_sem, seval]
  refine hK _ ?_; clear hK K
  refine ats_ret ⟨⟨[(0, .bptr 0 0), (1, .int most), (4, .ref 1 [])], [(0, .bx [.lv (bsV w.2.code), .int w.2.pos, .ik .u64 w.2.h]), (1, .t3 (grpT w.1 0))]⟩, ghost_to [1] [(2, 1)], .inr rfl, (by first | rfl | exact ⟨trivial, rfl⟩ | (simp only [resL, resA, go_sem, seval]; done)), (by simp [St.get, slotGet, argSlots]), rfl⟩
 refine gBN ?_
 refine gI (fun c1 => ?_) fun c1 => ?_
 ·subst c1
  by_cases h2m : 2 ≤ most
  ·rw [drS_1 _ h2m] at eD
   have hO := l01Next_ok s1 ok1 (most / 2 : Nat) (by omega)
   have bt := nx_bd s1 (n := ((most / 2 : Nat) : Int)) (by omega)
   obtain ⟨w, ew⟩ : ∃ w, nx s1 (most / 2 : Nat) = w := ⟨_, rfl⟩
   rw [ew] at hO bt eD
   obtain ⟨w1, w2⟩ := w
   obtain ⟨u, rfl⟩ : ∃ u : Nat, w1 = u := ⟨w1.toNat, by dsimp only at bt; omega⟩
   dsimp only at hO bt eD
   rw [Int.toNat_natCast] at eD
   have hSp := l06DihedralGroup_ok (1 + u) (by omega) (by omega)
   rw [show ((1 + u : Nat) : Int) = 1 + (u : Int) by omega] at hSp
   have td : (most : Int).tdiv 2 = ((most / 2 : Nat) : Int) := tdivN most 2
   subst eD
   unfold TS at hO
   refine gBN ?_
   refine gI (fun c7 => ?_) fun c7 => ?_
   ·refine gCN fun K hK => ?_
    simp only [td]
    (repeat refine aI (hb := ?_))
    refine fcall_bx (hO) (k := ?_); simp only [Aw.ids, go_sem, seval]
    (repeat refine aI (hb := ?_))
    refine fcall_own rfl (hSp) rfl ?_; simp only [go_sem, seval]
    refine hK _ ?_; clear hK K
    refine ats_ret ⟨⟨[(0, .bptr 0 0), (1, .int most), (4, .ref 1 [])], [(0, .bx [.lv (bsV w2.code), .int w2.pos, .ik .u64 w2.h]), (1, .t3 (dhgT (1 + u)))]⟩, ghost_to [] [], .inr rfl, (by first | rfl | exact ⟨trivial, rfl⟩ | (simp only [resL, resA, go_sem, seval]; done)), (by simp [St.get, slotGet, argSlots]), rfl⟩
   ·omega
  ·rw [drS_1t _ h2m] at eD
   refine gBN ?_
   refine gI (fun c7 => ?_) fun c7 => ?_
   ·omega
   ·refine ats_skip ?_
    have hNt := l01Next_ok s1 ok1 (2 * (most : Int)) (by omega)
    have bt := nx_bd s1 (n := 2 * (most : Int)) (by omega)
    have eT : tlD s1 most = (spnT (nx s1 (2 * (most : Int))).1.toNat 2, (nx s1 (2 * (most : Int))).2) := rfl
    rw [eT] at eD
    clear eT
    obtain ⟨w, ew⟩ : ∃ w, nx s1 (2 * (most : Int)) = w := ⟨_, rfl⟩
    rw [ew] at hNt bt eD
    obtain ⟨w1, w2⟩ := w
    obtain ⟨u, rfl⟩ : ∃ u : Nat, w1 = u := ⟨w1.toNat, by dsimp only at bt; omega⟩
    dsimp only at hNt bt eD
    rw [Int.toNat_natCast] at eD
    have hSp := l06Spin_ok u 2 (by omega) (by omega) (by omega) (by omega)
    subst eD
    unfold TS at hNt
    (repeat refine ats_seq ?_); refine AT.ghost (st' := ⟨[(0, .bptr 0 0), (1, .int most)], [(0, .bx [.lv (bsV s1.code), .int s1.pos, .ik .u64 s1.h])]⟩) (ghost_can [] (by simp only [go_sem, seval, AV.int.injEq, AV.bool.injEq, AV.l1.injEq, AV.l2.injEq, AV.l3.injEq]) (by simp only [go_sem, seval])) ?_
    refine gCN fun K hK => ?_
    (repeat refine aI (hb := ?_))
    refine fcall_bx (hNt) (k := ?_); simp only [Aw.ids, go_sem, seval]
    refine fcall_own rfl (hSp) rfl ?_; simp only [go_sem, seval]
    refine hK _ ?_; clear hK K
    refine ats_ret ⟨⟨[(0, .bptr 0 0), (1, .int most), (4, .ref 1 [])], [(0, .bx [.lv (bsV w2.code), .int w2.pos, .ik .u64 w2.h]), (1, .t3 (spnT u 2))]⟩, ghost_to [] [], .inr rfl, (by first | rfl | exact ⟨trivial, rfl⟩ | (simp only [resL, resA, go_sem, seval]; done)), (by simp [St.get, slotGet, argSlots]), rfl⟩
 refine gBN ?_
 refine gI (fun c2 => ?_) fun c2 => ?_
 ·subst c2
  rw [drS_2] at eD
  obtain ⟨R, eR⟩ : ∃ R, dhL most 8 s1 = R := ⟨_, rfl⟩
  rw [eR] at eD
  clear hN
  refine gAN ?_
  (repeat refine ats_seq ?_); refine ats_loop (fun y : Nat × Src => ⟨[(0, .bptr 0 0), (1, .int most), (5, .int ((8 - y.1 : Nat) : Int))], [(0, .bx [.lv (bsV y.2.code), .int y.2.pos, .ik .u64 y.2.h])]⟩) (fun y => y.1 ≤ 8 ∧ y.2.Ok ∧ dhL most y.1 y.2 = R) (fun y => y.1) (8, s1) ⟨Nat.le_refl 8, ok1, eR⟩ (by
   refine And.intro ?_ rfl; simp only [leS, Nat.reduceEqDiff, ↓reduceIte, true_and, and_true]
   try rfl) (fun y hy => ?_)
  obtain ⟨k, s2⟩ := y
  dsimp only at hy ⊢
  obtain ⟨hk, ok2, eL⟩ := hy
  refine gBN ?_
  refine gI (fun h3 => ?_) fun h3 => ?_
  ·obtain ⟨k, rfl⟩ : ∃ j, k = j + 1 := ⟨k - 1, by omega⟩
   have hN9 := l01Next_ok s2 ok2 9 (by omega)
   have b9 := nx_bd s2 (n := 9) (by decide)
   have ok3 := nx_ok ok2 9
   have eL' : (if dhdN (1 + (nx s2 9).1.toNat) ≤ most then (1 + (nx s2 9).1.toNat, (nx s2 9).2) else dhL most k (nx s2 9).2) = R := eL
   obtain ⟨w, ew⟩ : ∃ w, nx s2 9 = w := ⟨_, rfl⟩
   rw [ew] at hN9 b9 ok3 eL'
   clear eL ew
   obtain ⟨w1, w2⟩ := w
   obtain ⟨u, rfl⟩ : ∃ u : Nat, w1 = u := ⟨w1.toNat, by dsimp only at b9; omega⟩
   dsimp only at hN9 b9 ok3 eL'
   rw [Int.toNat_natCast] at eL'
   have hD := l06Dihedral_ok (1 + u) (by omega) (by omega)
   rw [show ((1 + u : Nat) : Int) = 1 + (u : Int) by omega] at hD
   have ld : (dhdT (1 + u)).length = dhdN (1 + u) := cubF_length _ _
   have bd9 : dhdN (1 + u) ≤ 40 := by unfold dhdN onesD; split <;> omega
   unfold TS at hN9
   refine ats_skip ?_
   (repeat refine ats_seq ?_); refine ats_block ?_
   refine gCN fun K hK => ?_
   refine fcall_bx (hN9) (k := ?_); simp only [Aw.ids, go_sem, seval]
   (repeat refine aI (hb := ?_))
   refine fcall_own rfl (hD) rfl ?_; simp only [go_sem, seval]
   refine hK _ ?_; clear hK K
   refine gCN fun K hK => ?_
   simp only [ld]
   (repeat refine aI (hb := ?_))
   refine hK _ ?_; clear hK K
   refine gI (fun h4 => ?_) fun h4 => ?_
   ·rw [if_pos (by omega)] at eL'
    subst eL'
    rw [if_neg (by dsimp only; omega)] at eD
    subst eD
    refine gAN ?_
    refine ats_ret ⟨⟨[(0, .bptr 0 0), (1, .int most), (4, .ref 1 [])], [(0, .bx [.lv (bsV w2.code), .int w2.pos, .ik .u64 w2.h]), (1, .t3 (dhdT (1 + u)))]⟩, ghost_to [] [], .inr rfl, (by first | rfl | exact ⟨trivial, rfl⟩ | (simp only [resL, resA, go_sem, seval]; done)), (by simp [St.get, slotGet, argSlots]), rfl⟩
   ·rw [if_neg (by omega)] at eL'
    refine ats_skip ?_
    refine gBN ?_
    refine ⟨(k, w2), ⟨by dsimp only; omega, ok3, eL'⟩, by omega, .inr ⟨[1], by simp only [killL, List.map_cons, List.map_nil, killA, killAs, killAs_bsV, qOf, rmT, killH, killT, List.filter_cons, List.filter_nil, List.contains_cons, List.contains_nil, SlotsLe, St.get, slotGet, Nat.reduceEqDiff, Nat.reduceBEq, Bool.or_false, Bool.or_true, Bool.false_and, Bool.not_true, Bool.not_false, Bool.false_eq_true, ↓reduceIte, if_true, if_false, AV.int.injEq, AV.bool.injEq, AV.l1.injEq, AV.l2.injEq, AV.l3.injEq, true_and, and_true]; (try omega), by simp only [killL, List.map_cons, List.map_nil, killA, killAs, killAs_bsV, qOf, rmT, killH, killT, List.filter_cons, List.filter_nil, List.contains_cons, List.contains_nil, SlotsLe, St.get, slotGet, Nat.reduceEqDiff, Nat.reduceBEq, Bool.or_false, Bool.or_true, Bool.false_and, Bool.not_true, Bool.not_false, Bool.false_eq_true, ↓reduceIte, if_true, if_false, AV.int.injEq, AV.bool.injEq, AV.l1.injEq, AV.l2.injEq, AV.l3.injEq, true_and, and_true]; (try rfl)⟩⟩
  ·obtain rfl : k = 0 := by omega
   have e0 : R = (0, s2) := eL.symm
   subst e0
   rw [if_pos rfl] at eD
   have eD : tlD s2 most = r := eD
   refine ats_exit (lq_x ?_)
   have hNt := l01Next_ok s2 ok2 (2 * (most : Int)) (by omega)
   have bt := nx_bd s2 (n := 2 * (most : Int)) (by omega)
   have eT : tlD s2 most = (spnT (nx s2 (2 * (most : Int))).1.toNat 2, (nx s2 (2 * (most : Int))).2) := rfl
   rw [eT] at eD
   clear eT
   obtain ⟨w, ew⟩ : ∃ w, nx s2 (2 * (most : Int)) = w := ⟨_, rfl⟩
   rw [ew] at hNt bt eD
   obtain ⟨w1, w2⟩ := w
   obtain ⟨u, rfl⟩ : ∃ u : Nat, w1 = u := ⟨w1.toNat, by dsimp only at bt; omega⟩
   dsimp only at hNt bt eD
   rw [Int.toNat_natCast] at eD
   have hSp := l06Spin_ok u 2 (by omega) (by omega) (by omega) (by omega)
   subst eD
   unfold TS at hNt
   (repeat refine ats_seq ?_); refine AT.ghost (st' := ⟨[(0, .bptr 0 0), (1, .int most)], [(0, .bx [.lv (bsV s2.code), .int s2.pos, .ik .u64 s2.h])]⟩) (ghost_can [] (by simp only [go_sem, seval, AV.int.injEq, AV.bool.injEq, AV.l1.injEq, AV.l2.injEq, AV.l3.injEq]) (by simp only [go_sem, seval])) ?_
   refine gCN fun K hK => ?_
   (repeat refine aI (hb := ?_))
   refine fcall_bx (hNt) (k := ?_); simp only [Aw.ids, go_sem, seval]
   refine fcall_own rfl (hSp) rfl ?_; simp only [go_sem, seval]
   refine hK _ ?_; clear hK K
   refine ats_ret ⟨⟨[(0, .bptr 0 0), (1, .int most), (4, .ref 1 [])], [(0, .bx [.lv (bsV w2.code), .int w2.pos, .ik .u64 w2.h]), (1, .t3 (spnT u 2))]⟩, ghost_to [] [], .inr rfl, (by first | rfl | exact ⟨trivial, rfl⟩ | (simp only [resL, resA, go_sem, seval]; done)), (by simp [St.get, slotGet, argSlots]), rfl⟩
 refine gBN ?_
 refine gI (fun c3 => ?_) fun c3 => ?_
 ·subst c3
  by_cases h2m : 2 ≤ most
  ·rw [drS_3 _ h2m] at eD
   have hO := l06DrawOrders_ok s1 ok1 (most - 1 : Nat) (by omega) (by omega)
   obtain ⟨f1, f2, _⟩ := dOrd_fact ok1 (most := (most - 1 : Nat)) (by omega)
   generalize dOrd s1 (most - 1 : Nat) = w at *
   have hG := l06Near_ok w.1 f1 0 (by omega) (by omega) (by omega)
   have e1 : (most : Int) - 1 = ((most - 1 : Nat) : Int) := by omega
   subst eD
   unfold TS at hO
   refine gBN ?_
   refine gI (fun c7 => ?_) fun c7 => ?_
   ·refine gCN fun K hK => ?_
    simp only [e1]
    (repeat refine aI (hb := ?_))
    refine fcall_bx (hO) (k := ?_); simp only [Aw.ids, go_sem, seval]
    refine fcall_own rfl (hG) rfl ?_; simp only [go_sem, seval]
    refine hK _ ?_; clear hK K
    refine ats_ret ⟨⟨[(0, .bptr 0 0), (1, .int most), (4, .ref 1 [])], [(0, .bx [.lv (bsV w.2.code), .int w.2.pos, .ik .u64 w.2.h]), (1, .t3 (nearT w.1 0))]⟩, ghost_to [1] [(2, 1)], .inr rfl, (by first | rfl | exact ⟨trivial, rfl⟩ | (simp only [resL, resA, go_sem, seval]; done)), (by simp [St.get, slotGet, argSlots]), rfl⟩
   ·omega
  ·rw [drS_3t _ h2m] at eD
   refine gBN ?_
   refine gI (fun c7 => ?_) fun c7 => ?_
   ·omega
   ·refine ats_skip ?_
    have hNt := l01Next_ok s1 ok1 (2 * (most : Int)) (by omega)
    have bt := nx_bd s1 (n := 2 * (most : Int)) (by omega)
    have eT : tlD s1 most = (spnT (nx s1 (2 * (most : Int))).1.toNat 2, (nx s1 (2 * (most : Int))).2) := rfl
    rw [eT] at eD
    clear eT
    obtain ⟨w, ew⟩ : ∃ w, nx s1 (2 * (most : Int)) = w := ⟨_, rfl⟩
    rw [ew] at hNt bt eD
    obtain ⟨w1, w2⟩ := w
    obtain ⟨u, rfl⟩ : ∃ u : Nat, w1 = u := ⟨w1.toNat, by dsimp only at bt; omega⟩
    dsimp only at hNt bt eD
    rw [Int.toNat_natCast] at eD
    have hSp := l06Spin_ok u 2 (by omega) (by omega) (by omega) (by omega)
    subst eD
    unfold TS at hNt
    (repeat refine ats_seq ?_); refine AT.ghost (st' := ⟨[(0, .bptr 0 0), (1, .int most)], [(0, .bx [.lv (bsV s1.code), .int s1.pos, .ik .u64 s1.h])]⟩) (ghost_can [] (by simp only [go_sem, seval, AV.int.injEq, AV.bool.injEq, AV.l1.injEq, AV.l2.injEq, AV.l3.injEq]) (by simp only [go_sem, seval])) ?_
    refine gCN fun K hK => ?_
    (repeat refine aI (hb := ?_))
    refine fcall_bx (hNt) (k := ?_); simp only [Aw.ids, go_sem, seval]
    refine fcall_own rfl (hSp) rfl ?_; simp only [go_sem, seval]
    refine hK _ ?_; clear hK K
    refine ats_ret ⟨⟨[(0, .bptr 0 0), (1, .int most), (4, .ref 1 [])], [(0, .bx [.lv (bsV w2.code), .int w2.pos, .ik .u64 w2.h]), (1, .t3 (spnT u 2))]⟩, ghost_to [] [], .inr rfl, (by first | rfl | exact ⟨trivial, rfl⟩ | (simp only [resL, resA, go_sem, seval]; done)), (by simp [St.get, slotGet, argSlots]), rfl⟩
 refine gBN ?_
 refine gI (fun c4 => ?_) fun c4 => ?_
 ·subst c4
  by_cases h2m : 2 ≤ most
  ·rw [drS_4 _ h2m] at eD
   have hO := l06DrawOrders_ok s1 ok1 (most - 1 : Nat) (by omega) (by omega)
   obtain ⟨f1, f2, _, _, _, f3⟩ := dOrd_fact ok1 (most := (most - 1 : Nat)) (by omega)
   have ok2 := f3.ok ok1
   generalize dOrd s1 (most - 1 : Nat) = w at *
   have hQ := l01Next_ok w.2 ok2 20 (by omega)
   have ok3 := nx_ok ok2 20
   have bq := nx_bd w.2 (n := 20) (by decide)
   obtain ⟨p1, p2, _⟩ := pk5_fact ok2
   have hP := l01Pick2_ok (nx w.2 20).2 ok3 [1, 2, 3, 4, (nx w.2 20).1] (show 1 ≤ 5 by decide) (show 5 ≤ 1048576 by decide)
   have eP : pk5 w.2 = ([1, 2, 3, 4, (nx w.2 20).1].getD (nx (nx w.2 20).2 5).1.toNat 0, (nx (nx w.2 20).2 5).2) := rfl
   have hG := l06Near_ok w.1 f1 (pk5 w.2).1 (by omega) p1 (by omega)
   rw [show (([1, 2, 3, 4, (nx w.2 20).1] : List Int).length : Int) = 5 from rfl] at hP
   rw [eP] at hG eD
   generalize nx (nx w.2 20).2 5 = v at *
   generalize nx w.2 20 = z at *
   have e1 : (most : Int) - 1 = ((most - 1 : Nat) : Int) := by omega
   subst eD
   unfold TS at hO hQ
   refine gBN ?_
   refine gI (fun c7 => ?_) fun c7 => ?_
   ·refine gCN fun K hK => ?_
    simp only [e1]
    (repeat refine aI (hb := ?_))
    refine fcall_bx (hO) (k := ?_); simp only [Aw.ids, go_sem, seval]
    refine fcall_bx (hQ) (k := ?_); simp only [Aw.ids, go_sem, seval]
    (repeat refine aI (hb := ?_))
    refine fcall_bx (hP) (k := ?_); simp only [Aw.ids, go_sem, seval]
    (repeat refine aI (hb := ?_))
    refine fcall_own rfl (hG) rfl ?_; simp only [go_sem, seval]
    refine hK _ ?_; clear hK K
    refine ats_ret ⟨⟨[(0, .bptr 0 0), (1, .int most), (4, .ref 1 [])], [(0, .bx [.lv (bsV v.2.code), .int v.2.pos, .ik .u64 v.2.h]), (1, .t3 (nearT w.1 ([1, 2, 3, 4, z.1].getD v.1.toNat 0)))]⟩, ghost_to [1, 2] [(3, 1)], .inr rfl, (by first | rfl | exact ⟨trivial, rfl⟩ | (simp only [resL, resA, go_sem, seval]; done)), (by simp [St.get, slotGet, argSlots]), rfl⟩
   ·omega
  ·rw [drS_4t _ h2m] at eD
   refine gBN ?_
   refine gI (fun c7 => ?_) fun c7 => ?_
   ·omega
   ·refine ats_skip ?_
    have hNt := l01Next_ok s1 ok1 (2 * (most : Int)) (by omega)
    have bt := nx_bd s1 (n := 2 * (most : Int)) (by omega)
    have eT : tlD s1 most = (spnT (nx s1 (2 * (most : Int))).1.toNat 2, (nx s1 (2 * (most : Int))).2) := rfl
    rw [eT] at eD
    clear eT
    obtain ⟨w, ew⟩ : ∃ w, nx s1 (2 * (most : Int)) = w := ⟨_, rfl⟩
    rw [ew] at hNt bt eD
    obtain ⟨w1, w2⟩ := w
    obtain ⟨u, rfl⟩ : ∃ u : Nat, w1 = u := ⟨w1.toNat, by dsimp only at bt; omega⟩
    dsimp only at hNt bt eD
    rw [Int.toNat_natCast] at eD
    have hSp := l06Spin_ok u 2 (by omega) (by omega) (by omega) (by omega)
    subst eD
    unfold TS at hNt
    (repeat refine ats_seq ?_); refine AT.ghost (st' := ⟨[(0, .bptr 0 0), (1, .int most)], [(0, .bx [.lv (bsV s1.code), .int s1.pos, .ik .u64 s1.h])]⟩) (ghost_can [] (by simp only [go_sem, seval, AV.int.injEq, AV.bool.injEq, AV.l1.injEq, AV.l2.injEq, AV.l3.injEq]) (by simp only [go_sem, seval])) ?_
    refine gCN fun K hK => ?_
    (repeat refine aI (hb := ?_))
    refine fcall_bx (hNt) (k := ?_); simp only [Aw.ids, go_sem, seval]
    refine fcall_own rfl (hSp) rfl ?_; simp only [go_sem, seval]
    refine hK _ ?_; clear hK K
    refine ats_ret ⟨⟨[(0, .bptr 0 0), (1, .int most), (4, .ref 1 [])], [(0, .bx [.lv (bsV w2.code), .int w2.pos, .ik .u64 w2.h]), (1, .t3 (spnT u 2))]⟩, ghost_to [] [], .inr rfl, (by first | rfl | exact ⟨trivial, rfl⟩ | (simp only [resL, resA, go_sem, seval]; done)), (by simp [St.get, slotGet, argSlots]), rfl⟩
 refine gBN ?_
 refine gI (fun c5 => ?_) fun c5 => ?_
 ·subst c5
  rw [drS_5] at eD
  have hO := l01Next_ok s1 ok1 most (by omega)
  have bt := nx_bd s1 (n := (most : Int)) (by omega)
  obtain ⟨w, ew⟩ : ∃ w, nx s1 most = w := ⟨_, rfl⟩
  rw [ew] at hO bt eD
  obtain ⟨w1, w2⟩ := w
  obtain ⟨u, rfl⟩ : ∃ u : Nat, w1 = u := ⟨w1.toNat, by dsimp only at bt; omega⟩
  dsimp only at hO bt eD
  rw [Int.toNat_natCast] at eD
  have hSp := l06Spin_ok u 1 (by omega) (by omega) (by omega) (by omega)
  subst eD
  unfold TS at hO
  refine gCN fun K hK => ?_
  (repeat refine aI (hb := ?_))
  refine fcall_bx (hO) (k := ?_); simp only [Aw.ids, go_sem, seval]
  refine fcall_own rfl (hSp) rfl ?_; simp only [go_sem, seval]
  refine hK _ ?_; clear hK K
  refine ats_ret ⟨⟨[(0, .bptr 0 0), (1, .int most), (4, .ref 1 [])], [(0, .bx [.lv (bsV w2.code), .int w2.pos, .ik .u64 w2.h]), (1, .t3 (spnT u 1))]⟩, ghost_to [] [], .inr rfl, (by first | rfl | exact ⟨trivial, rfl⟩ | (simp only [resL, resA, go_sem, seval]; done)), (by simp [St.get, slotGet, argSlots]), rfl⟩
 refine gBN ?_
 refine gI (fun c6 => ?_) fun c6 => ?_
 ·subst c6
  rw [drS_t _ _ (by omega)] at eD
  refine gBN ?_
  refine gI (fun c7 => ?_) fun c7 => ?_
  ·exact absurd ⟨rfl, by omega⟩ hc
  ·refine ats_skip ?_
   have hNt := l01Next_ok s1 ok1 (2 * (most : Int)) (by omega)
   have bt := nx_bd s1 (n := 2 * (most : Int)) (by omega)
   have eT : tlD s1 most = (spnT (nx s1 (2 * (most : Int))).1.toNat 2, (nx s1 (2 * (most : Int))).2) := rfl
   rw [eT] at eD
   clear eT
   obtain ⟨w, ew⟩ : ∃ w, nx s1 (2 * (most : Int)) = w := ⟨_, rfl⟩
   rw [ew] at hNt bt eD
   obtain ⟨w1, w2⟩ := w
   obtain ⟨u, rfl⟩ : ∃ u : Nat, w1 = u := ⟨w1.toNat, by dsimp only at bt; omega⟩
   dsimp only at hNt bt eD
   rw [Int.toNat_natCast] at eD
   have hSp := l06Spin_ok u 2 (by omega) (by omega) (by omega) (by omega)
   subst eD
   unfold TS at hNt
   (repeat refine ats_seq ?_); refine AT.ghost (st' := ⟨[(0, .bptr 0 0), (1, .int most)], [(0, .bx [.lv (bsV s1.code), .int s1.pos, .ik .u64 s1.h])]⟩) (ghost_can [] (by simp only [go_sem, seval, AV.int.injEq, AV.bool.injEq, AV.l1.injEq, AV.l2.injEq, AV.l3.injEq]) (by simp only [go_sem, seval])) ?_
   refine gCN fun K hK => ?_
   (repeat refine aI (hb := ?_))
   refine fcall_bx (hNt) (k := ?_); simp only [Aw.ids, go_sem, seval]
   refine fcall_own rfl (hSp) rfl ?_; simp only [go_sem, seval]
   refine hK _ ?_; clear hK K
   refine ats_ret ⟨⟨[(0, .bptr 0 0), (1, .int most), (4, .ref 1 [])], [(0, .bx [.lv (bsV w2.code), .int w2.pos, .ik .u64 w2.h]), (1, .t3 (spnT u 2))]⟩, ghost_to [] [], .inr rfl, (by first | rfl | exact ⟨trivial, rfl⟩ | (simp only [resL, resA, go_sem, seval]; done)), (by simp [St.get, slotGet, argSlots]), rfl⟩
 ·rw [drS_t _ _ (by omega)] at eD
  refine ats_skip ?_
  have hNt := l01Next_ok s1 ok1 (2 * (most : Int)) (by omega)
  have bt := nx_bd s1 (n := 2 * (most : Int)) (by omega)
  have eT : tlD s1 most = (spnT (nx s1 (2 * (most : Int))).1.toNat 2, (nx s1 (2 * (most : Int))).2) := rfl
  rw [eT] at eD
  clear eT
  obtain ⟨w, ew⟩ : ∃ w, nx s1 (2 * (most : Int)) = w := ⟨_, rfl⟩
  rw [ew] at hNt bt eD
  obtain ⟨w1, w2⟩ := w
  obtain ⟨u, rfl⟩ : ∃ u : Nat, w1 = u := ⟨w1.toNat, by dsimp only at bt; omega⟩
  dsimp only at hNt bt eD
  rw [Int.toNat_natCast] at eD
  have hSp := l06Spin_ok u 2 (by omega) (by omega) (by omega) (by omega)
  subst eD
  unfold TS at hNt
  (repeat refine ats_seq ?_); refine AT.ghost (st' := ⟨[(0, .bptr 0 0), (1, .int most)], [(0, .bx [.lv (bsV s1.code), .int s1.pos, .ik .u64 s1.h])]⟩) (ghost_can [] (by simp only [go_sem, seval, AV.int.injEq, AV.bool.injEq, AV.l1.injEq, AV.l2.injEq, AV.l3.injEq]) (by simp only [go_sem, seval])) ?_
  refine gCN fun K hK => ?_
  (repeat refine aI (hb := ?_))
  refine fcall_bx (hNt) (k := ?_); simp only [Aw.ids, go_sem, seval]
  refine fcall_own rfl (hSp) rfl ?_; simp only [go_sem, seval]
  refine hK _ ?_; clear hK K
  refine ats_ret ⟨⟨[(0, .bptr 0 0), (1, .int most), (4, .ref 1 [])], [(0, .bx [.lv (bsV w2.code), .int w2.pos, .ik .u64 w2.h]), (1, .t3 (spnT u 2))]⟩, ghost_to [] [], .inr rfl, (by first | rfl | exact ⟨trivial, rfl⟩ | (simp only [resL, resA, go_sem, seval]; done)), (by simp [St.get, slotGet, argSlots]), rfl⟩
end Go.Proofs.YtmjcbgpbhlheoaaDoor
namespace Go.Proofs.YtmjcbgpbhlheoaaDoor
open Go Go.Aw Go.Pl
set_option maxHeartbeats 4000000 in
theorem l06Draw_ok : ∀ (f : Nat) (s : Src), s.Ok → ∀ (most : Nat), 1 ≤ most → most ≤ 10 → ∀ r : Cu × Src, drw f s most = some r → OwnCall Tryd.prog 63 [.bptr 0 0, .int most] (TS s)
  [(0, .bx [.lv (bsV r.2.code), .int r.2.pos, .ik .u64 r.2.h]), (1, .t3 r.1)] (.ref 1 []) [0] := by
 intro f
 induction f with
 | zero => intro s hs most h1 h2 r hr; cases hr
 | succ f ih =>
 intro s hs most h1 h2 r hr
 by_cases hc : (nx s 8).1 = 6 ∧ 4 ≤ most
 case neg =>
  rw [drw_step, if_neg hc] at hr
  exact l06Draw_flat s hs most h1 h2 hc r (Option.some.inj hr)
 obtain ⟨a, b, ha, hb, rfl⟩ := drw_prod hc hr
 have hN := l01Next_ok s hs 8 (by omega)
 have ok1 := nx_ok hs 8
 obtain ⟨x, ex⟩ : ∃ x, (nx s 8).1 = x := ⟨_, rfl⟩
 obtain ⟨s1, es⟩ : ∃ s1, (nx s 8).2 = s1 := ⟨_, rfl⟩
 rw [ex] at hN hc
 rw [es] at hN ok1 ha
 clear ex es hr
 have hA := ih s1 ok1 (most / 2) (by omega) (by omega) a ha
 obtain ⟨da, j, _, mj⟩ := drw_fact f ok1 (by omega) ha
 have a1 := da.1
 have a2 := da.2.1
 have ok2 := mj.ok ok1
 have q1 : 1 ≤ most / a.1.length := Nat.div_pos (by omega) a1
 have q2 : most / a.1.length ≤ most := Nat.div_le_self _ _
 have hB := ih a.2 ok2 (most / a.1.length) q1 (by omega) b hb
 obtain ⟨db, i, _, mi⟩ := drw_fact f ok2 q1 hb
 have hP := l06Product_ok a.1 b.1 da db (Nat.le_trans (div_bd a1 db.2.1) (by omega))
 have e1 : (most : Int).tdiv 2 = ((most / 2 : Nat) : Int) := tdivN most 2
 have e2 := tdivN most a.1.length
 obtain ⟨rfl, h4⟩ := hc
 clear ha hb ih mj mi da db
 unfold TS at hN hA hB ⊢
 refine OwnCall.intro (n := 91) (rs := [.tmp 4]) 2 [0, 1] (X := [0]) Tryd.call63 Tryd.func63 rfl rfl rfl (by simp only [List.length_cons, List.length_nil]; omega) (by simp [Aw.ids, rootsA, rootsAs, argSlots, slotGet]) (fun cx hcx => AT.weakG (ats_of ?_)); simp only [argSlots, Nat.zero_add, Nat.reduceAdd]
 refine gBN ?_
 refine gCN fun K hK => ?_
 refine fcall_bx (hN) (k := ?_); simp only [Aw.ids, go_sem, seval]
 (repeat refine aI (hb := ?_))
 refine hK _ ?_; clear hK K
 (repeat refine ats_seq ?_); refine AT.ghost (st' := ⟨[(0, .bptr 0 0), (1, .int most), (9, .int 6)], [(0, .bx [.lv (bsV s1.code), .int s1.pos, .ik .u64 s1.h])]⟩) (ghost_can [] (by simp only [go_sem, seval, AV.int.injEq, AV.bool.injEq, AV.l1.injEq, AV.l2.injEq, AV.l3.injEq]) (by simp only [go_sem, seval])) ?_
 (repeat refine ats_seq ?_)
 (repeat refine ats_seq ?_); refine ats_block ?_
 refine gBN ?_
 (repeat refine ats_seq ?_); refine ats_no rfl trivial ?_
 refine gBN ?_
 (repeat refine ats_seq ?_); refine ats_no rfl trivial ?_
 refine gBN ?_
 (repeat refine ats_seq ?_); refine ats_no rfl trivial ?_
 refine gBN ?_
 (repeat refine ats_seq ?_); refine ats_no rfl trivial ?_
 refine gBN ?_
 (repeat refine ats_seq ?_); refine ats_no rfl trivial ?_
 refine gBN ?_
 (repeat refine ats_seq ?_); refine ats_no rfl trivial ?_
 refine gBN ?_
 (repeat refine ats_seq ?_); refine ats_yes rfl trivial ?_
 refine gBN ?_
 refine gI (fun h5 => ?_) fun h5 => ?_
 ·refine gCN fun K hK => ?_
  simp only [e1]
  (repeat refine aI (hb := ?_))
  refine fcall_bx (hA) (k := ?_); simp only [Aw.ids, go_sem, seval]
  refine hK _ ?_; clear hK K
  (repeat refine ats_seq ?_); refine AT.ghost (st' := ⟨[(0, .bptr 0 0), (1, .int most), (7, .ref 5 [])], [(0, .bx [.lv (bsV a.2.code), .int a.2.pos, .ik .u64 a.2.h]), (5, .t3 a.1)]⟩) (ghost_to [] [(1, 5)]) ?_
  refine gCN fun K hK => ?_
  simp only [e2]
  (repeat refine aI (hb := ?_))
  refine fcall_bx (hB) (k := ?_); simp only [Aw.ids, go_sem, seval]
  refine fcall_own rfl (hP) rfl ?_; simp only [go_sem, seval]
  refine hK _ ?_; clear hK K
  refine ats_ret ⟨⟨[(0, .bptr 0 0), (1, .int most), (4, .ref 1 [])], [(0, .bx [.lv (bsV b.2.code), .int b.2.pos, .ik .u64 b.2.h]), (1, .t3 (prdT a.1 b.1))]⟩, ghost_to [1, 5] [(6, 1)], .inr rfl, (by first | rfl | exact ⟨trivial, rfl⟩ | (simp only [resL, resA, go_sem, seval]; done)), (by simp [St.get, slotGet, argSlots]), rfl⟩
 ·omega
theorem l06Draw_any (s : Src) (hs : s.Ok) (most : Nat) (h1 : 1 ≤ most) (h2 : most ≤ 10) : ∃ r : Cu × Src, Drw most r.1 ∧ (∃ j, 1 ≤ j ∧ Mv j s r.2) ∧ OwnCall Tryd.prog 63 [.bptr 0 0, .int most] (TS s)
  [(0, .bx [.lv (bsV r.2.code), .int r.2.pos, .ik .u64 r.2.h]), (1, .t3 r.1)] (.ref 1 []) [0] := by
 obtain ⟨r, f, hf⟩ := drw_ends _ hs rfl h1 h2
 obtain ⟨d, m⟩ := drw_fact f hs h1 hf
 exact ⟨r, d, m, l06Draw_ok f s hs most h1 h2 r hf⟩
end Go.Proofs.YtmjcbgpbhlheoaaDoor
