import Derived.Test.YtjbdiekkjegckaaGreatKp1
import Derived.Test.YtjbdiekkjegckaaGreatLib7
import Derived.Test.YtjbdiekkjegckaaGreatDz1
set_option linter.unusedSimpArgs false
set_option linter.unusedVariables false
namespace Go.Proofs.YtjbdiekkjegckaaGreat
open Go Go.Aw Go.Pl
attribute [local go_sem] y9_ yB_ za_ zb_ wE_ yq_ List.getElem?_toArray List.getElem?_cons_zero List.getElem?_cons_succ
theorem TB_ {f : Nat → Nat} : ∀ {c : List Int}, rns f (bsV c) = bsV c
 | [] => rfl
 | b :: c => by
  show rn f (.ik .u8 b) :: rns f (bsV c) = .ik .u8 b :: bsV c
  rw [TB_]
  rfl
attribute [go_sem] yg_ yV_ VE_ TB_
attribute [simp] yg_ yV_ VE_
def TS (s : Src) : List (Nat × Tree) := [(0, .bx [.lv (bsV s.code), .int s.pos, .ik .u64 s.h])]
theorem Sl_ (h : Int) : (h * 6364136223846793005 % 18446744073709551616 + 1442695040888963407) % 18446744073709551616 = nxH h := rfl
theorem Sm_ (h : Int) : aH1 .u64 (h.fdiv (2 ^ min 33 64)) 16777215 = nxX h := rfl
theorem Xi_ (s : Src) (hs : s.Ok) (n : Int) (hn : n ≤ 1099511627776) : OwnCall Tryz.prog 51 [.bptr 0 0, .int n] (TS s) (TS (nx s n).2) (.int (nx s n).1) [0] := by
 obtain ⟨hl, hb, hp, hh⟩ := hs
 unfold nx TS
 by_cases h1 : n < 1
 ·rw [if_pos h1]
  dsimp only
  refine OwnCall.intro (n := 58) (rs := [.tmp 4]) 2 [0] (X := [0]) Tryz.call51 Tryz.func51 rfl rfl rfl (by simp only [List.length_cons, List.length_nil]; omega) (by simp [Aw.ids, x3_, xQ_, xl_, xg_]) (fun cx hcx => AT.weakG (x2_ ?_)); refine gE ?_
  refine gBN ?_
  refine gBN ?_
  refine gI (fun h => ?_) fun h => ?_
  ·refine gBN ?_
   refine xf_ ⟨⟨[(0, .bptr 0 0), (4, .int 0)], [(0, .bx [.lv (bsV s.code), .int s.pos, .ik .u64 s.h])]⟩, xm_ [] [], .inr rfl, (by first | rfl | exact ⟨trivial, rfl⟩ | (simp only [y1_, zZ_, go_sem, seval]; done)), (by simp [St.get, xg_, xl_]), rfl⟩
  ·omega
 ·rw [if_neg h1]
  have bx := ai8 (nxH s.h)
  have bh := UC_ s.h
  have et : ∀ x : Int, 0 ≤ x → x.tmod n = x % n := fun x hx => Int.tmod_eq_emod_of_nonneg hx
  by_cases h2 : s.pos < s.code.length
  ·rw [if_pos h2]
   have hb2 := hb _ h2
   have e1 := et (nxX (nxH s.h) + s.code.getD s.pos 0) (by omega)
   have m1 := Int.emod_nonneg (nxX (nxH s.h) + s.code.getD s.pos 0) (show n ≠ 0 by omega)
   have m2 := Int.emod_lt_of_pos (nxX (nxH s.h) + s.code.getD s.pos 0) (show 0 < n by omega)
   dsimp only
   rw [show ((s.pos + 1 : Nat) : Int) = (s.pos : Int) + 1 by push_cast; rfl]
   refine OwnCall.intro (n := 58) (rs := [.tmp 4]) 2 [0] (X := [0]) Tryz.call51 Tryz.func51 rfl rfl rfl (by simp only [List.length_cons, List.length_nil]; omega) (by simp [Aw.ids, x3_, xQ_, xl_, xg_]) (fun cx hcx => AT.weakG (x2_ ?_)); refine gE ?_
   refine gBN ?_
   refine gBN ?_
   refine gI (fun h => ?_) fun h => ?_
   ·omega
   ·refine xe_ ?_
    refine gCN fun K hK => ?_
    simp only [Sl_]
    refine hK _ ?_; clear hK K
    refine gCN fun K hK => ?_
    simp only [Sm_]
    refine gU ?_
    refine hK _ ?_; clear hK K
    (repeat refine xb_ ?_); refine AT.ghost (st' := ⟨[(0, .bptr 0 0), (1, .int n), (5, .int (nxX (nxH s.h)))], [(0, .bx [.lv (bsV s.code), .int s.pos, .ik .u64 (nxH s.h)])]⟩) (xr_ [] (by simp only [go_sem, seval, AV.int.injEq, AV.bool.injEq, AV.l1.injEq, AV.l2.injEq, AV.l3.injEq]) (by simp only [go_sem, seval])) ?_
    (repeat refine xb_ ?_); refine xI_ (by first | exact xO_ hcx | exact y2_ hcx rfl) mixed (by kernel_rfl) fun K hK => ?_; simp only [go_sem, seval]; (repeat refine aI (hb := ?_)); refine hK _ ?_; clear hK K
    refine gI (fun h3 => ?_) fun h3 => ?_
    ·(repeat refine xb_ ?_); refine xI_ (by first | exact xO_ hcx | exact y2_ hcx rfl) mixed (by kernel_rfl) fun K hK => ?_; simp only [go_sem, seval]
     simp only [VF_ h2]
     refine gW ?_
     refine hK _ ?_; clear hK K
     refine gBN ?_
     refine gCN fun K hK => ?_
     simp only [e1]
     refine gU ?_
     refine hK _ ?_; clear hK K
     refine xf_ ⟨⟨[(0, .bptr 0 0), (4, .int ((nxX (nxH s.h) + s.code.getD s.pos 0) % n))], [(0, .bx [.lv (bsV s.code), .int ((s.pos : Int) + 1), .ik .u64 (nxH s.h)])]⟩, xm_ [] [], .inr rfl, (by first | rfl | exact ⟨trivial, rfl⟩ | (simp only [y1_, zZ_, go_sem, seval]; done)), (by simp [St.get, xg_, xl_]), rfl⟩
    ·omega
  ·rw [if_neg h2]
   have e1 := et (nxX (nxH s.h)) (by omega)
   have m1 := Int.emod_nonneg (nxX (nxH s.h)) (show n ≠ 0 by omega)
   have m2 := Int.emod_lt_of_pos (nxX (nxH s.h)) (show 0 < n by omega)
   dsimp only
   refine OwnCall.intro (n := 58) (rs := [.tmp 4]) 2 [0] (X := [0]) Tryz.call51 Tryz.func51 rfl rfl rfl (by simp only [List.length_cons, List.length_nil]; omega) (by simp [Aw.ids, x3_, xQ_, xl_, xg_]) (fun cx hcx => AT.weakG (x2_ ?_)); refine gE ?_
   refine gBN ?_
   refine gBN ?_
   refine gI (fun h => ?_) fun h => ?_
   ·omega
   ·refine xe_ ?_
    refine gCN fun K hK => ?_
    simp only [Sl_]
    refine hK _ ?_; clear hK K
    refine gCN fun K hK => ?_
    simp only [Sm_]
    refine gU ?_
    refine hK _ ?_; clear hK K
    (repeat refine xb_ ?_); refine AT.ghost (st' := ⟨[(0, .bptr 0 0), (1, .int n), (5, .int (nxX (nxH s.h)))], [(0, .bx [.lv (bsV s.code), .int s.pos, .ik .u64 (nxH s.h)])]⟩) (xr_ [] (by simp only [go_sem, seval, AV.int.injEq, AV.bool.injEq, AV.l1.injEq, AV.l2.injEq, AV.l3.injEq]) (by simp only [go_sem, seval])) ?_
    (repeat refine xb_ ?_); refine xI_ (by first | exact xO_ hcx | exact y2_ hcx rfl) mixed (by kernel_rfl) fun K hK => ?_; simp only [go_sem, seval]; (repeat refine aI (hb := ?_)); refine hK _ ?_; clear hK K
    refine gI (fun h3 => ?_) fun h3 => ?_
    ·omega
    ·refine xe_ ?_
     refine gCN fun K hK => ?_
     simp only [e1]
     refine gU ?_
     refine hK _ ?_; clear hK K
     refine xf_ ⟨⟨[(0, .bptr 0 0), (4, .int (nxX (nxH s.h) % n))], [(0, .bx [.lv (bsV s.code), .int s.pos, .ik .u64 (nxH s.h)])]⟩, xm_ [] [], .inr rfl, (by first | rfl | exact ⟨trivial, rfl⟩ | (simp only [y1_, zZ_, go_sem, seval]; done)), (by simp [St.get, xg_, xl_]), rfl⟩
def frH (c : List Int) : Nat → Int
 | 0 => (7219 + (c.length : Int) % 18446744073709551616) % 18446744073709551616
 | i + 1 => ((frH c i * 1099511628211 % 18446744073709551616 + c.getD i 0 % 18446744073709551616) % 18446744073709551616 + 11) % 18446744073709551616
def frS (c : List Int) : Src := ⟨c, 0, frH c (min c.length 4096)⟩
theorem aG4 (c : List Int) : ∀ i, 0 ≤ frH c i ∧ frH c i < 18446744073709551616
 | 0 => by unfold frH; omega
 | i + 1 => by unfold frH; omega
theorem aj3 {c : List Int} (hl : c.length ≤ 1048576) (hb : ∀ i, i < c.length → 0 ≤ c.getD i 0 ∧ c.getD i 0 ≤ 255) : (frS c).Ok := ⟨hl, hb, Nat.zero_le _, aG4 _ _⟩
theorem RA_ (c : List Int) (hl : c.length ≤ 1048576) (hb : ∀ i, i < c.length → 0 ≤ c.getD i 0 ∧ c.getD i 0 ≤ 255) : OwnCall Tryz.prog 24 [.lv (bsV c)] [] (TS (frS c)) (.bptr 0 0) [] := by
 unfold TS frS
 dsimp only
 obtain ⟨N, eN⟩ : ∃ N, min c.length 4096 = N := ⟨_, rfl⟩
 rw [eN]
 refine OwnCall.intro (n := 38) (rs := [.tmp 2]) 1 [0] (X := []) Tryz.call24 Tryz.func24 rfl rfl rfl (by simp only [List.length_cons, List.length_nil]; omega) (by simp [Aw.ids, x3_, xQ_, xl_, xg_]) (fun cx hcx => AT.weakG (x2_ ?_)); refine gE ?_
 refine gBN ?_
 refine gBN ?_
 refine gBN ?_
 (repeat refine xb_ ?_); refine xt_ (fun i : Nat => ⟨[(0, .lv (bsV c)), (3, .bptr 0 0), (4, .int i)], [(0, .bx [.lv (bsV c), .int (0 : Nat), .ik .u64 (frH c i)])]⟩) (fun i => i ≤ N) (fun i => N - i) 0 (Nat.zero_le _) (by
  refine And.intro ?_ rfl; simp only [leS, Nat.reduceEqDiff, ↓reduceIte, true_and, and_true]
  try rfl) (fun i hi => ?_)
 refine gBN ?_
 refine gI (fun hc => ?_) fun hc => ?_
 ·have hlt : i < c.length ∧ i < N := by
   simp only [Bool.and_eq_true, decide_eq_true_eq] at hc
   omega
  have hbi := hb i hlt.1
  have es : frH c (i + 1) = ((frH c i * 1099511628211 % 18446744073709551616 + c.getD i 0 % 18446744073709551616) % 18446744073709551616 + 11) % 18446744073709551616 := rfl
  refine xe_ ?_
  refine gO ?_
  (repeat refine xb_ ?_)
  refine xZ_ [] (.one 0 (.one 1 (.one 2 (.one 3 (.one 4 (.one 5 (.one 6 (.one 7 (.one 8 (.one 9 (.one 10 (.one 11 (.one 12 (.one 13 (.one 14 (.alt 15 .fin .stop)))))))))))))))) ⟨[(0, .lv (bsV c)), (3, .bptr 0 0), (4, .int i)], [(0, .bx [.lv (bsV c), .int (0 : Nat), .ik .u64 (frH c (i + 1))])]⟩ (by first | exact xO_ hcx | exact y2_ hcx rfl) mixed (by kernel_rfl) (fun K hK => ?_) ?_
  ·simp only [go_sem, seval, Option.getD_some, and_true, true_and, and_self, List.contains_cons, List.contains_nil, Bool.or_false, Bool.or_true]
   repeat' (first | exact hK _ gM  | with_reducible refine And.intro ?_ ?_ | omega | ((simp only [VF_ hlt.1, ← es])) | (simp only [go_sem, seval, Option.getD_some, and_true, true_and, and_self, List.contains_cons, List.contains_nil, Bool.or_false, Bool.or_true]))
  refine gBN ?_
  refine ⟨i + 1,  by omega, by omega, .inl ⟨by simp only [leS, Nat.reduceEqDiff, ↓reduceIte, true_and, and_true]; (try omega),  rfl⟩⟩
 ·have e : i = N := by
   simp only [Bool.and_eq_false_iff, decide_eq_false_iff_not] at hc
   omega
  subst e
  refine xh_ (x9_ ?_)
  refine gBN ?_
  refine xf_ ⟨⟨[(0, .lv (bsV c)), (2, .bptr 0 0)], [(0, .bx [.lv (bsV c), .int (0 : Nat), .ik .u64 (frH c i)])]⟩, xm_ [] [], .inr rfl, (by first | rfl | exact ⟨trivial, rfl⟩ | (simp only [y1_, zZ_, go_sem, seval]; done)), (by simp [St.get, xg_, xl_]), rfl⟩
end Go.Proofs.YtjbdiekkjegckaaGreat
namespace Go.Proofs.YtjbdiekkjegckaaGreat
open Go Go.Aw Go.Pl
end Go.Proofs.YtjbdiekkjegckaaGreat
namespace Go.Proofs.YtjbdiekkjegckaaGreat
open Go Go.Aw Go.Pl
end Go.Proofs.YtjbdiekkjegckaaGreat
namespace Go.Proofs.YtjbdiekkjegckaaGreat
open Go Go.Aw Go.Pl
end Go.Proofs.YtjbdiekkjegckaaGreat
namespace Go.Proofs.YtjbdiekkjegckaaGreat
open Go Go.Aw Go.Pl
end Go.Proofs.YtjbdiekkjegckaaGreat
namespace Go.Proofs.YtjbdiekkjegckaaGreat
open Go Go.Aw Go.Pl
end Go.Proofs.YtjbdiekkjegckaaGreat
namespace Go.Proofs.YtjbdiekkjegckaaGreat
open Go Go.Aw Go.Pl
end Go.Proofs.YtjbdiekkjegckaaGreat
namespace Go.Proofs.YtjbdiekkjegckaaGreat
open Go Go.Aw Go.Pl
theorem RB_ {most : Int} {k : Nat} {o : List Int} {z : Int} {s : Src} (h : (nx s 2).1 = 0 ∧ 2 * z ≤ most) :
  YE_ most (k + 1) o z s = YE_ most k (o ++ [2 + (nx (nx s 2).2 (most / z - 1)).1]) (z * (2 + (nx (nx s 2).2 (most / z - 1)).1)) (nx (nx s 2).2 (most / z - 1)).2 := by
 show (if _ then _ else _) = _
 rw [if_pos h]
theorem RC_ {most : Int} {k : Nat} {o : List Int} {z : Int} {s : Src} (h : k = 0 ∨ ¬((nx s 2).1 = 0 ∧ 2 * z ≤ most)) : YE_ most k o z s = (o, (nx s 2).2) := by
 cases k with
 | zero => rfl
 | succ k =>
  show (if _ then _ else _) = _
  rw [if_neg (h.resolve_left (Nat.succ_ne_zero k))]
set_option maxHeartbeats 2000000 in
theorem wL_ (s : Src) (hs : s.Ok) (most : Int) (h1 : 1 ≤ most) (h2 : most ≤ 1048576) : OwnCall Tryz.prog 84 [.bptr 0 0, .int most] (TS s)
  [(0, .bx [.lv (bsV (UJ_ s most).2.code), .int (UJ_ s most).2.pos, .ik .u64 (UJ_ s most).2.h]), (1, .t1 (UJ_ s most).1)] (.ref 1 []) [0] := by
 have hN := Xi_ s hs most (by omega)
 have b1 := yO_ s h1
 have m1 := Rz_ hs h1
 obtain ⟨R, eR⟩ : ∃ R, UJ_ s most = R := ⟨_, rfl⟩
 have eR' : YE_ most 3 [1 + (nx s most).1] (1 + (nx s most).1) (nx s most).2 = R := eR
 rw [eR]
 have ok1 := m1.ok hs
 generalize nx s most = r at *
 unfold TS at hN ⊢
 refine OwnCall.intro (n := 45) (rs := [.tmp 4]) 2 [0, 1] (X := [0]) Tryz.call84 Tryz.func84 rfl rfl rfl (by simp only [List.length_cons, List.length_nil]; omega) (by simp [Aw.ids, x3_, xQ_, xl_, xg_]) (fun cx hcx => AT.weakG (x2_ ?_)); refine gE ?_
 refine gBN ?_
 refine gCN fun K hK => ?_
 refine xN_ (hN) (k := ?_); simp only [Aw.ids, go_sem, seval]
 refine gU ?_
 refine hK _ ?_; clear hK K
 refine gBN ?_
 (repeat refine xb_ ?_); refine AT.ghost (st' := ⟨[(0, .bptr 0 0), (1, .int most), (5, .ref 1 []), (6, .int (1 + r.1))], [(0, .bx [.lv (bsV r.2.code), .int r.2.pos, .ik .u64 r.2.h]), (1, .t1 [1 + r.1])]⟩) (xr_ [] (by simp only [go_sem, seval, AV.int.injEq, AV.bool.injEq, AV.l1.injEq, AV.l2.injEq, AV.l3.injEq]) (by simp only [go_sem, seval])) ?_
 (repeat refine xb_ ?_); refine xt_ (fun x : Nat × List Int × Int × Src => ⟨[(0, .bptr 0 0), (1, .int most), (5, .ref 1 []), (6, .int x.2.2.1)], [(0, .bx [.lv (bsV x.2.2.2.code), .int x.2.2.2.pos, .ik .u64 x.2.2.2.h]), (1, .t1 x.2.1)]⟩) (fun x => x.2.2.2.Ok ∧ x.2.1.length + x.1 = 4 ∧ 1 ≤ x.2.2.1 ∧ x.2.2.1 ≤ most ∧ YE_ most x.1 x.2.1 x.2.2.1 x.2.2.2 = R) (fun x => x.1) (3, [1 + r.1], 1 + r.1, r.2) ⟨ok1, rfl, by dsimp only; omega, by dsimp only; omega, eR'⟩ (by
  refine And.intro ?_ rfl; simp only [leS, Nat.reduceEqDiff, ↓reduceIte, true_and, and_true]
  try rfl) (fun x hx => ?_)
 obtain ⟨k, o, z, s1⟩ := x
 dsimp only at hx ⊢
 obtain ⟨ok, hl, z1, z2, eD⟩ := hx
 have hN2 := Xi_ s1 ok 2 (by omega)
 have b2 := yO_ s1 (n := 2) (by decide)
 have ok2 := yp_ ok 2
 obtain ⟨q, eq⟩ : ∃ q, nx s1 2 = q := ⟨_, rfl⟩
 have eM := @RB_ most (k - 1) o z s1
 have eX := @RC_ most k o z s1
 rw [eq] at hN2 b2 ok2 eM eX
 unfold TS at hN2
 refine gCN fun K hK => ?_
 refine xN_ (hN2) (k := ?_); simp only [Aw.ids, go_sem, seval]
 refine gU ?_
 refine hK _ ?_; clear hK K
 refine gI (fun hc => ?_) fun hc => ?_
 ·simp only [Bool.and_eq_true, decide_eq_true_eq] at hc
  obtain ⟨k, rfl⟩ : ∃ j, k = j + 1 := ⟨k - 1, by omega⟩
  have eM := eM ⟨hc.1.1, hc.2⟩
  rw [show k + 1 - 1 = k by omega] at eM
  have hd := Sa_ z1 hc.2
  have td : most.tdiv z = most / z := Int.tdiv_eq_ediv_of_nonneg (by omega)
  have hN3 := Xi_ q.2 ok2 (most / z - 1) (by have := Int.ediv_le_self z (show 0 ≤ most by omega); omega)
  have b3 := yO_ q.2 (n := most / z - 1) (by omega)
  have ok3 := yp_ ok2 (most / z - 1)
  have bq : most / z ≤ most := Int.ediv_le_self z (by omega)
  obtain ⟨w, ew⟩ : ∃ w, nx q.2 (most / z - 1) = w := ⟨_, rfl⟩
  rw [ew] at hN3 b3 ok3 eM
  rw [eM] at eD
  have n1 : z * (2 + w.1) ≤ z * (most / z) := Int.mul_le_mul_of_nonneg_left (by omega) (by omega)
  have n2 : z * 1 ≤ z * (2 + w.1) := Int.mul_le_mul_of_nonneg_left (by omega) (by omega)
  unfold TS at hN3
  refine xe_ ?_
  (repeat refine xb_ ?_); refine AT.ghost (st' := ⟨[(0, .bptr 0 0), (1, .int most), (5, .ref 1 []), (6, .int z)], [(0, .bx [.lv (bsV q.2.code), .int q.2.pos, .ik .u64 q.2.h]), (1, .t1 o)]⟩) (xr_ [] (by simp only [go_sem, seval, AV.int.injEq, AV.bool.injEq, AV.l1.injEq, AV.l2.injEq, AV.l3.injEq]) (by simp only [go_sem, seval])) ?_
  refine gO ?_
  refine gCN fun K hK => ?_
  simp only [td]
  refine gU ?_
  refine xN_ (hN3) (k := ?_); simp only [Aw.ids, go_sem, seval]
  refine gU ?_
  refine hK _ ?_; clear hK K
  refine gBN ?_
  refine gBN ?_
  refine ⟨(k, o ++ [2 + w.1], z * (2 + w.1), w.2), ⟨ok3, by simp only [List.length_append, List.length_cons, List.length_nil]; omega, by dsimp only; omega, by dsimp only; omega, eD⟩, by omega, .inr ⟨[2], by simp only [yj_, List.map_cons, List.map_nil, xu_, xH_, yg_, qOf, rmT, xD_, yF_, List.filter_cons, List.filter_nil, List.contains_cons, List.contains_nil, xs_, St.get, xg_, Nat.reduceEqDiff, Nat.reduceBEq, Bool.or_false, Bool.or_true, Bool.false_and, Bool.not_true, Bool.not_false, Bool.false_eq_true, ↓reduceIte, if_true, if_false, AV.int.injEq, AV.bool.injEq, AV.l1.injEq, AV.l2.injEq, AV.l3.injEq, true_and, and_true]; (try rfl), by simp only [yj_, List.map_cons, List.map_nil, xu_, xH_, yg_, qOf, rmT, xD_, yF_, List.filter_cons, List.filter_nil, List.contains_cons, List.contains_nil, xs_, St.get, xg_, Nat.reduceEqDiff, Nat.reduceBEq, Bool.or_false, Bool.or_true, Bool.false_and, Bool.not_true, Bool.not_false, Bool.false_eq_true, ↓reduceIte, if_true, if_false, AV.int.injEq, AV.bool.injEq, AV.l1.injEq, AV.l2.injEq, AV.l3.injEq, true_and, and_true]; (try rfl)⟩⟩
 ·have eX := eX (by
   simp only [Bool.and_eq_false_iff, decide_eq_false_iff_not] at hc
   rcases Nat.eq_zero_or_pos k with h0 | h0
   ·exact .inl h0
   ·refine .inr fun hb => ?_
    rcases hc with (hc | hc) | hc
    ·exact hc hb.1
    ·omega
    ·exact hc hb.2)
  rw [eX] at eD
  subst eD
  refine xh_ (x9_ ?_)
  refine gBN ?_
  refine xf_ ⟨⟨[(0, .bptr 0 0), (1, .int most), (4, .ref 1 [])], [(0, .bx [.lv (bsV q.2.code), .int q.2.pos, .ik .u64 q.2.h]), (1, .t1 o)]⟩, xm_ [] [], .inr rfl, (by first | rfl | exact ⟨trivial, rfl⟩ | (simp only [y1_, zZ_, go_sem, seval]; done)), (by simp [St.get, xg_, xl_]), rfl⟩
end Go.Proofs.YtjbdiekkjegckaaGreat
namespace Go.Proofs.YtjbdiekkjegckaaGreat
open Go Go.Aw Go.Pl
end Go.Proofs.YtjbdiekkjegckaaGreat
namespace Go.Proofs.YtjbdiekkjegckaaGreat
open Go Go.Aw Go.Pl
end Go.Proofs.YtjbdiekkjegckaaGreat
