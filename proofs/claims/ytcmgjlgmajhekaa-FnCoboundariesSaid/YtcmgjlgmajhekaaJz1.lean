import Derived.Test.YtcmgjlgmajhekaaKp1
import Derived.Test.YtcmgjlgmajhekaaLib7
import Derived.Test.YtcmgjlgmajhekaaWx2
import Derived.Test.YtcmgjlgmajhekaaLib6
import Derived.Test.YtcmgjlgmajhekaaDz1
set_option linter.unusedSimpArgs false
set_option linter.unusedVariables false
namespace Go.Proofs.Ytcmgjlgmajhekaa
open Go Go.Aw Go.Pl
attribute [local go_sem] pl_fin pl_stop pl_one pl_alt PK_ap pickO List.getElem?_toArray List.getElem?_cons_zero List.getElem?_cons_succ
theorem rns_bsV {f : Nat → Nat} : ∀ {c : List Int}, rns f (bsV c) = bsV c
 | [] => rfl
 | b :: c => by
  show rn f (.ik .u8 b) :: rns f (bsV c) = .ik .u8 b :: bsV c
  rw [rns_bsV]
  rfl
attribute [go_sem] killAs_bsV areData_bsV bsV_len rns_bsV
attribute [simp] killAs_bsV areData_bsV bsV_len
def TS (s : Src) : List (Nat × Tree) := [(0, .bx [.lv (bsV s.code), .int s.pos, .ik .u64 s.h])]
theorem nxH_eq (h : Int) : (h * 6364136223846793005 % 18446744073709551616 + 1442695040888963407) % 18446744073709551616 = nxH h := rfl
theorem nxX_eq (h : Int) : andK .u64 (h.fdiv (2 ^ min 33 64)) 16777215 = nxX h := rfl
theorem l01Next_ok (s : Src) (hs : s.Ok) (n : Int) (hn : n ≤ 1099511627776) : OwnCall Try.prog 26 [.bptr 0 0, .int n] (TS s) (TS (nx s n).2) (.int (nx s n).1) [0] := by
 obtain ⟨hl, hb, hp, hh⟩ := hs
 unfold nx TS
 by_cases h1 : n < 1
 ·rw [if_pos h1]
  dsimp only
  refine OwnCall.intro (n := 58) (rs := [.tmp 4]) 2 [0] (X := [0]) Try.call26 Try.func26 rfl rfl rfl (by simp only [List.length_cons, List.length_nil]; omega) (by simp [Aw.ids, rootsA, rootsAs, argSlots, slotGet]) (fun cx hcx => AT.weakG (ats_of ?_)); simp only [argSlots, Nat.zero_add, Nat.reduceAdd]
  refine gBN ?_
  refine gBN ?_
  refine gI (fun h => ?_) fun h => ?_
  ·refine gBN ?_
   refine ats_ret ⟨⟨[(0, .bptr 0 0), (4, .int 0)], [(0, .bx [.lv (bsV s.code), .int s.pos, .ik .u64 s.h])]⟩, ghost_to [] [], .inr rfl, (by first | rfl | exact ⟨trivial, rfl⟩ | (simp only [resL, resA, go_sem, seval]; done)), (by simp [St.get, slotGet, argSlots]), rfl⟩
  ·omega
 ·rw [if_neg h1]
  have bx := nxX_bd (nxH s.h)
  have bh := nxH_bd s.h
  have et : ∀ x : Int, 0 ≤ x → x.tmod n = x % n := fun x hx => Int.tmod_eq_emod_of_nonneg hx
  by_cases h2 : s.pos < s.code.length
  ·rw [if_pos h2]
   have hb2 := hb _ h2
   have e1 := et (nxX (nxH s.h) + s.code.getD s.pos 0) (by omega)
   have m1 := Int.emod_nonneg (nxX (nxH s.h) + s.code.getD s.pos 0) (show n ≠ 0 by omega)
   have m2 := Int.emod_lt_of_pos (nxX (nxH s.h) + s.code.getD s.pos 0) (show 0 < n by omega)
   dsimp only
   rw [show ((s.pos + 1 : Nat) : Int) = (s.pos : Int) + 1 by push_cast; rfl]
   refine OwnCall.intro (n := 58) (rs := [.tmp 4]) 2 [0] (X := [0]) Try.call26 Try.func26 rfl rfl rfl (by simp only [List.length_cons, List.length_nil]; omega) (by simp [Aw.ids, rootsA, rootsAs, argSlots, slotGet]) (fun cx hcx => AT.weakG (ats_of ?_)); simp only [argSlots, Nat.zero_add, Nat.reduceAdd]
   refine gBN ?_
   refine gBN ?_
   refine gI (fun h => ?_) fun h => ?_
   ·omega
   ·refine ats_skip ?_
    refine gCN fun K hK => ?_
    simp only [nxH_eq]
    refine hK _ ?_; clear hK K
    refine gCN fun K hK => ?_
    simp only [nxX_eq]
    (repeat refine aI (hb := ?_))
    refine hK _ ?_; clear hK K
    (repeat refine ats_seq ?_); refine AT.ghost (st' := ⟨[(0, .bptr 0 0), (1, .int n), (5, .int (nxX (nxH s.h)))], [(0, .bx [.lv (bsV s.code), .int s.pos, .ik .u64 (nxH s.h)])]⟩) (ghost_can [] (by simp only [go_sem, seval, AV.int.injEq, AV.bool.injEq, AV.l1.injEq, AV.l2.injEq, AV.l3.injEq]) (by simp only [go_sem, seval])) ?_
    (repeat refine ats_seq ?_); refine ats_pick (by first | exact fix0 hcx | exact fixN hcx rfl) mixed (by kernel_rfl) fun K hK => ?_; simp only [go_sem, seval]; (repeat refine aI (hb := ?_)); refine hK _ ?_; clear hK K
    refine gI (fun h3 => ?_) fun h3 => ?_
    ·(repeat refine ats_seq ?_); refine ats_pick (by first | exact fix0 hcx | exact fixN hcx rfl) mixed (by kernel_rfl) fun K hK => ?_; simp only [go_sem, seval]
     simp only [bsV_get h2]
     simp only [go_sem, seval]
     (repeat refine aI (hb := ?_))
     refine hK _ ?_; clear hK K
     refine gBN ?_
     refine gCN fun K hK => ?_
     simp only [e1]
     (repeat refine aI (hb := ?_))
     refine hK _ ?_; clear hK K
     refine ats_ret ⟨⟨[(0, .bptr 0 0), (4, .int ((nxX (nxH s.h) + s.code.getD s.pos 0) % n))], [(0, .bx [.lv (bsV s.code), .int ((s.pos : Int) + 1), .ik .u64 (nxH s.h)])]⟩, ghost_to [] [], .inr rfl, (by first | rfl | exact ⟨trivial, rfl⟩ | (simp only [resL, resA, go_sem, seval]; done)), (by simp [St.get, slotGet, argSlots]), rfl⟩
    ·omega
  ·rw [if_neg h2]
   have e1 := et (nxX (nxH s.h)) (by omega)
   have m1 := Int.emod_nonneg (nxX (nxH s.h)) (show n ≠ 0 by omega)
   have m2 := Int.emod_lt_of_pos (nxX (nxH s.h)) (show 0 < n by omega)
   dsimp only
   refine OwnCall.intro (n := 58) (rs := [.tmp 4]) 2 [0] (X := [0]) Try.call26 Try.func26 rfl rfl rfl (by simp only [List.length_cons, List.length_nil]; omega) (by simp [Aw.ids, rootsA, rootsAs, argSlots, slotGet]) (fun cx hcx => AT.weakG (ats_of ?_)); simp only [argSlots, Nat.zero_add, Nat.reduceAdd]
   refine gBN ?_
   refine gBN ?_
   refine gI (fun h => ?_) fun h => ?_
   ·omega
   ·refine ats_skip ?_
    refine gCN fun K hK => ?_
    simp only [nxH_eq]
    refine hK _ ?_; clear hK K
    refine gCN fun K hK => ?_
    simp only [nxX_eq]
    (repeat refine aI (hb := ?_))
    refine hK _ ?_; clear hK K
    (repeat refine ats_seq ?_); refine AT.ghost (st' := ⟨[(0, .bptr 0 0), (1, .int n), (5, .int (nxX (nxH s.h)))], [(0, .bx [.lv (bsV s.code), .int s.pos, .ik .u64 (nxH s.h)])]⟩) (ghost_can [] (by simp only [go_sem, seval, AV.int.injEq, AV.bool.injEq, AV.l1.injEq, AV.l2.injEq, AV.l3.injEq]) (by simp only [go_sem, seval])) ?_
    (repeat refine ats_seq ?_); refine ats_pick (by first | exact fix0 hcx | exact fixN hcx rfl) mixed (by kernel_rfl) fun K hK => ?_; simp only [go_sem, seval]; (repeat refine aI (hb := ?_)); refine hK _ ?_; clear hK K
    refine gI (fun h3 => ?_) fun h3 => ?_
    ·omega
    ·refine ats_skip ?_
     refine gCN fun K hK => ?_
     simp only [e1]
     (repeat refine aI (hb := ?_))
     refine hK _ ?_; clear hK K
     refine ats_ret ⟨⟨[(0, .bptr 0 0), (4, .int (nxX (nxH s.h) % n))], [(0, .bx [.lv (bsV s.code), .int s.pos, .ik .u64 (nxH s.h)])]⟩, ghost_to [] [], .inr rfl, (by first | rfl | exact ⟨trivial, rfl⟩ | (simp only [resL, resA, go_sem, seval]; done)), (by simp [St.get, slotGet, argSlots]), rfl⟩
def frH (c : List Int) : Nat → Int
 | 0 => (7219 + (c.length : Int) % 18446744073709551616) % 18446744073709551616
 | i + 1 => ((frH c i * 1099511628211 % 18446744073709551616 + c.getD i 0 % 18446744073709551616) % 18446744073709551616 + 11) % 18446744073709551616
def frS (c : List Int) : Src := ⟨c, 0, frH c (min c.length 4096)⟩
theorem frH_bd (c : List Int) : ∀ i, 0 ≤ frH c i ∧ frH c i < 18446744073709551616
 | 0 => by unfold frH; omega
 | i + 1 => by unfold frH; omega
theorem frS_ok {c : List Int} (hl : c.length ≤ 1048576) (hb : ∀ i, i < c.length → 0 ≤ c.getD i 0 ∧ c.getD i 0 ≤ 255) : (frS c).Ok := ⟨hl, hb, Nat.zero_le _, frH_bd _ _⟩
theorem l01From_ok (c : List Int) (hl : c.length ≤ 1048576) (hb : ∀ i, i < c.length → 0 ≤ c.getD i 0 ∧ c.getD i 0 ≤ 255) : OwnCall Try.prog 21 [.lv (bsV c)] [] (TS (frS c)) (.bptr 0 0) [] := by
 unfold TS frS
 dsimp only
 obtain ⟨N, eN⟩ : ∃ N, min c.length 4096 = N := ⟨_, rfl⟩
 rw [eN]
 refine OwnCall.intro (n := 38) (rs := [.tmp 2]) 1 [0] (X := []) Try.call21 Try.func21 rfl rfl rfl (by simp only [List.length_cons, List.length_nil]; omega) (by simp [Aw.ids, rootsA, rootsAs, argSlots, slotGet]) (fun cx hcx => AT.weakG (ats_of ?_)); simp only [argSlots, Nat.zero_add, Nat.reduceAdd]
 refine gBN ?_
 refine gBN ?_
 refine gBN ?_
 (repeat refine ats_seq ?_); refine ats_loop (fun i : Nat => ⟨[(0, .lv (bsV c)), (3, .bptr 0 0), (4, .int i)], [(0, .bx [.lv (bsV c), .int (0 : Nat), .ik .u64 (frH c i)])]⟩) (fun i => i ≤ N) (fun i => N - i) 0 (Nat.zero_le _) (by
  refine And.intro ?_ rfl; simp only [leS, Nat.reduceEqDiff, ↓reduceIte, true_and, and_true]
  try rfl) (fun i hi => ?_)
 refine gBN ?_
 refine gI (fun hc => ?_) fun hc => ?_
 ·have hlt : i < c.length ∧ i < N := by
   simp only [Bool.and_eq_true, decide_eq_true_eq] at hc
   omega
  have hbi := hb i hlt.1
  have es : frH c (i + 1) = ((frH c i * 1099511628211 % 18446744073709551616 + c.getD i 0 % 18446744073709551616) % 18446744073709551616 + 11) % 18446744073709551616 := rfl
  refine ats_skip ?_
  (repeat refine ats_seq ?_); refine ats_block ?_
  (repeat refine ats_seq ?_)
  refine ats_plan [] (.one 0 (.one 1 (.one 2 (.one 3 (.one 4 (.one 5 (.one 6 (.one 7 (.one 8 (.one 9 (.one 10 (.one 11 (.one 12 (.one 13 (.one 14 (.alt 15 .fin .stop)))))))))))))))) ⟨[(0, .lv (bsV c)), (3, .bptr 0 0), (4, .int i)], [(0, .bx [.lv (bsV c), .int (0 : Nat), .ik .u64 (frH c (i + 1))])]⟩ (by first | exact fix0 hcx | exact fixN hcx rfl) mixed (by kernel_rfl) (fun K hK => ?_) ?_
  ·simp only [go_sem, seval, Option.getD_some, and_true, true_and, and_self, List.contains_cons, List.contains_nil, Bool.or_false, Bool.or_true]
   repeat' (first | exact hK _ (by refine And.intro ?_ rfl; simp only [leS, Nat.reduceEqDiff, ↓reduceIte, true_and, and_true])  | with_reducible refine And.intro ?_ ?_ | omega | ((simp only [bsV_get hlt.1, ← es])) | (simp only [go_sem, seval, Option.getD_some, and_true, true_and, and_self, List.contains_cons, List.contains_nil, Bool.or_false, Bool.or_true]))
  refine gBN ?_
  refine ⟨i + 1,  by omega, by omega, .inl ⟨by simp only [leS, Nat.reduceEqDiff, ↓reduceIte, true_and, and_true]; (try omega),  rfl⟩⟩
 ·have e : i = N := by
   simp only [Bool.and_eq_false_iff, decide_eq_false_iff_not] at hc
   omega
  subst e
  refine ats_exit (lq_x ?_)
  refine gBN ?_
  refine ats_ret ⟨⟨[(0, .lv (bsV c)), (2, .bptr 0 0)], [(0, .bx [.lv (bsV c), .int (0 : Nat), .ik .u64 (frH c i)])]⟩, ghost_to [] [], .inr rfl, (by first | rfl | exact ⟨trivial, rfl⟩ | (simp only [resL, resA, go_sem, seval]; done)), (by simp [St.get, slotGet, argSlots]), rfl⟩
end Go.Proofs.Ytcmgjlgmajhekaa
namespace Go.Proofs.Ytcmgjlgmajhekaa
open Go Go.Aw Go.Pl
end Go.Proofs.Ytcmgjlgmajhekaa
namespace Go.Proofs.Ytcmgjlgmajhekaa
open Go Go.Aw Go.Pl
end Go.Proofs.Ytcmgjlgmajhekaa
namespace Go.Proofs.Ytcmgjlgmajhekaa
open Go Go.Aw Go.Pl
end Go.Proofs.Ytcmgjlgmajhekaa
namespace Go.Proofs.Ytcmgjlgmajhekaa
open Go Go.Aw Go.Pl
end Go.Proofs.Ytcmgjlgmajhekaa
namespace Go.Proofs.Ytcmgjlgmajhekaa
open Go Go.Aw Go.Pl
end Go.Proofs.Ytcmgjlgmajhekaa
namespace Go.Proofs.Ytcmgjlgmajhekaa
open Go Go.Aw Go.Pl
end Go.Proofs.Ytcmgjlgmajhekaa
namespace Go.Proofs.Ytcmgjlgmajhekaa
open Go Go.Aw Go.Pl
theorem dOrdL_more {most : Int} {k : Nat} {o : List Int} {z : Int} {s : Src} (h : (nx s 2).1 = 0 ∧ 2 * z ≤ most) :
  dOrdL most (k + 1) o z s = dOrdL most k (o ++ [2 + (nx (nx s 2).2 (most / z - 1)).1]) (z * (2 + (nx (nx s 2).2 (most / z - 1)).1)) (nx (nx s 2).2 (most / z - 1)).2 := by
 show (if _ then _ else _) = _
 rw [if_pos h]
theorem dOrdL_stop {most : Int} {k : Nat} {o : List Int} {z : Int} {s : Src} (h : k = 0 ∨ ¬((nx s 2).1 = 0 ∧ 2 * z ≤ most)) : dOrdL most k o z s = (o, (nx s 2).2) := by
 cases k with
 | zero => rfl
 | succ k =>
  show (if _ then _ else _) = _
  rw [if_neg (h.resolve_left (Nat.succ_ne_zero k))]
set_option maxHeartbeats 2000000 in
theorem l06DrawOrders_ok (s : Src) (hs : s.Ok) (most : Int) (h1 : 1 ≤ most) (h2 : most ≤ 1048576) : OwnCall Try.prog 22 [.bptr 0 0, .int most] (TS s)
  [(0, .bx [.lv (bsV (dOrd s most).2.code), .int (dOrd s most).2.pos, .ik .u64 (dOrd s most).2.h]), (1, .t1 (dOrd s most).1)] (.ref 1 []) [0] := by
 have hN := l01Next_ok s hs most (by omega)
 have b1 := nx_bd s h1
 have m1 := nx_mv hs h1
 obtain ⟨R, eR⟩ : ∃ R, dOrd s most = R := ⟨_, rfl⟩
 have eR' : dOrdL most 3 [1 + (nx s most).1] (1 + (nx s most).1) (nx s most).2 = R := eR
 rw [eR]
 have ok1 := m1.ok hs
 generalize nx s most = r at *
 unfold TS at hN ⊢
 refine OwnCall.intro (n := 45) (rs := [.tmp 4]) 2 [0, 1] (X := [0]) Try.call22 Try.func22 rfl rfl rfl (by simp only [List.length_cons, List.length_nil]; omega) (by simp [Aw.ids, rootsA, rootsAs, argSlots, slotGet]) (fun cx hcx => AT.weakG (ats_of ?_)); simp only [argSlots, Nat.zero_add, Nat.reduceAdd]
 refine gBN ?_
 refine gCN fun K hK => ?_
 refine fcall_bx (hN) (k := ?_); simp only [Aw.ids, go_sem, seval]
 (repeat refine aI (hb := ?_))
 refine hK _ ?_; clear hK K
 refine gBN ?_
 (repeat refine ats_seq ?_); refine AT.ghost (st' := ⟨[(0, .bptr 0 0), (1, .int most), (5, .ref 1 []), (6, .int (1 + r.1))], [(0, .bx [.lv (bsV r.2.code), .int r.2.pos, .ik .u64 r.2.h]), (1, .t1 [1 + r.1])]⟩) (ghost_can [] (by simp only [go_sem, seval, AV.int.injEq, AV.bool.injEq, AV.l1.injEq, AV.l2.injEq, AV.l3.injEq]) (by simp only [go_sem, seval])) ?_
 (repeat refine ats_seq ?_); refine ats_loop (fun x : Nat × List Int × Int × Src => ⟨[(0, .bptr 0 0), (1, .int most), (5, .ref 1 []), (6, .int x.2.2.1)], [(0, .bx [.lv (bsV x.2.2.2.code), .int x.2.2.2.pos, .ik .u64 x.2.2.2.h]), (1, .t1 x.2.1)]⟩) (fun x => x.2.2.2.Ok ∧ x.2.1.length + x.1 = 4 ∧ 1 ≤ x.2.2.1 ∧ x.2.2.1 ≤ most ∧ dOrdL most x.1 x.2.1 x.2.2.1 x.2.2.2 = R) (fun x => x.1) (3, [1 + r.1], 1 + r.1, r.2) ⟨ok1, rfl, by dsimp only; omega, by dsimp only; omega, eR'⟩ (by
  refine And.intro ?_ rfl; simp only [leS, Nat.reduceEqDiff, ↓reduceIte, true_and, and_true]
  try rfl) (fun x hx => ?_)
 obtain ⟨k, o, z, s1⟩ := x
 dsimp only at hx ⊢
 obtain ⟨ok, hl, z1, z2, eD⟩ := hx
 have hN2 := l01Next_ok s1 ok 2 (by omega)
 have b2 := nx_bd s1 (n := 2) (by decide)
 have ok2 := nx_ok ok 2
 obtain ⟨q, eq⟩ : ∃ q, nx s1 2 = q := ⟨_, rfl⟩
 have eM := @dOrdL_more most (k - 1) o z s1
 have eX := @dOrdL_stop most k o z s1
 rw [eq] at hN2 b2 ok2 eM eX
 unfold TS at hN2
 refine gCN fun K hK => ?_
 refine fcall_bx (hN2) (k := ?_); simp only [Aw.ids, go_sem, seval]
 (repeat refine aI (hb := ?_))
 refine hK _ ?_; clear hK K
 refine gI (fun hc => ?_) fun hc => ?_
 ·simp only [Bool.and_eq_true, decide_eq_true_eq] at hc
  obtain ⟨k, rfl⟩ : ∃ j, k = j + 1 := ⟨k - 1, by omega⟩
  have eM := eM ⟨hc.1.1, hc.2⟩
  rw [show k + 1 - 1 = k by omega] at eM
  have hd := div_more z1 hc.2
  have td : most.tdiv z = most / z := Int.tdiv_eq_ediv_of_nonneg (by omega)
  have hN3 := l01Next_ok q.2 ok2 (most / z - 1) (by have := Int.ediv_le_self z (show 0 ≤ most by omega); omega)
  have b3 := nx_bd q.2 (n := most / z - 1) (by omega)
  have ok3 := nx_ok ok2 (most / z - 1)
  have bq : most / z ≤ most := Int.ediv_le_self z (by omega)
  obtain ⟨w, ew⟩ : ∃ w, nx q.2 (most / z - 1) = w := ⟨_, rfl⟩
  rw [ew] at hN3 b3 ok3 eM
  rw [eM] at eD
  have n1 : z * (2 + w.1) ≤ z * (most / z) := Int.mul_le_mul_of_nonneg_left (by omega) (by omega)
  have n2 : z * 1 ≤ z * (2 + w.1) := Int.mul_le_mul_of_nonneg_left (by omega) (by omega)
  unfold TS at hN3
  refine ats_skip ?_
  (repeat refine ats_seq ?_); refine AT.ghost (st' := ⟨[(0, .bptr 0 0), (1, .int most), (5, .ref 1 []), (6, .int z)], [(0, .bx [.lv (bsV q.2.code), .int q.2.pos, .ik .u64 q.2.h]), (1, .t1 o)]⟩) (ghost_can [] (by simp only [go_sem, seval, AV.int.injEq, AV.bool.injEq, AV.l1.injEq, AV.l2.injEq, AV.l3.injEq]) (by simp only [go_sem, seval])) ?_
  (repeat refine ats_seq ?_); refine ats_block ?_
  refine gCN fun K hK => ?_
  simp only [td]
  (repeat refine aI (hb := ?_))
  refine fcall_bx (hN3) (k := ?_); simp only [Aw.ids, go_sem, seval]
  (repeat refine aI (hb := ?_))
  refine hK _ ?_; clear hK K
  refine gBN ?_
  refine gBN ?_
  refine ⟨(k, o ++ [2 + w.1], z * (2 + w.1), w.2), ⟨ok3, by simp only [List.length_append, List.length_cons, List.length_nil]; omega, by dsimp only; omega, by dsimp only; omega, eD⟩, by omega, .inr ⟨[2], by simp only [killL, List.map_cons, List.map_nil, killA, killAs, killAs_bsV, qOf, rmT, killH, killT, List.filter_cons, List.filter_nil, List.contains_cons, List.contains_nil, SlotsLe, St.get, slotGet, Nat.reduceEqDiff, Nat.reduceBEq, Bool.or_false, Bool.or_true, Bool.false_and, Bool.not_true, Bool.not_false, Bool.false_eq_true, ↓reduceIte, if_true, if_false, AV.int.injEq, AV.bool.injEq, AV.l1.injEq, AV.l2.injEq, AV.l3.injEq, true_and, and_true]; (try rfl), by simp only [killL, List.map_cons, List.map_nil, killA, killAs, killAs_bsV, qOf, rmT, killH, killT, List.filter_cons, List.filter_nil, List.contains_cons, List.contains_nil, SlotsLe, St.get, slotGet, Nat.reduceEqDiff, Nat.reduceBEq, Bool.or_false, Bool.or_true, Bool.false_and, Bool.not_true, Bool.not_false, Bool.false_eq_true, ↓reduceIte, if_true, if_false, AV.int.injEq, AV.bool.injEq, AV.l1.injEq, AV.l2.injEq, AV.l3.injEq, true_and, and_true]; (try rfl)⟩⟩
 ·have eX := eX (by
   simp only [Bool.and_eq_false_iff, decide_eq_false_iff_not] at hc
   rcases Nat.eq_zero_or_pos k with h0 | h0
   ·exact .inl h0
   ·refine .inr fun hb => ?_
    rcases hc with (hc | hc) | hc
    ·exact hc hb.1
    ·omega
    ·exact hc hb.2)
  rw [eX] at eD
  subst eD
  refine ats_exit (lq_x ?_)
  refine gBN ?_
  refine ats_ret ⟨⟨[(0, .bptr 0 0), (1, .int most), (4, .ref 1 [])], [(0, .bx [.lv (bsV q.2.code), .int q.2.pos, .ik .u64 q.2.h]), (1, .t1 o)]⟩, ghost_to [] [], .inr rfl, (by first | rfl | exact ⟨trivial, rfl⟩ | (simp only [resL, resA, go_sem, seval]; done)), (by simp [St.get, slotGet, argSlots]), rfl⟩
end Go.Proofs.Ytcmgjlgmajhekaa
namespace Go.Proofs.Ytcmgjlgmajhekaa
open Go Go.Aw Go.Pl
end Go.Proofs.Ytcmgjlgmajhekaa
namespace Go.Proofs.Ytcmgjlgmajhekaa
open Go Go.Aw Go.Pl
end Go.Proofs.Ytcmgjlgmajhekaa
