import Derived.Test.YtjbdiekkjegckaaGreatJz2
set_option linter.unusedSimpArgs false
set_option linter.unusedVariables false
namespace Go.Proofs.YtjbdiekkjegckaaGreat
open Go Go.Aw Go.Pl
end Go.Proofs.YtjbdiekkjegckaaGreat
namespace Go.Proofs.YtjbdiekkjegckaaGreat
open Go Go.Aw Go.Pl
structure CodeOk (c : List Int) : Prop where
 len : c.length ≤ 1048576
 byte : ∀ i, i < c.length → 0 ≤ c.getD i 0 ∧ c.getD i 0 ≤ 255
end Go.Proofs.YtjbdiekkjegckaaGreat
namespace Go.Proofs.YtjbdiekkjegckaaGreat
open Go Go.Aw Go.Pl
attribute [local go_sem] y9_ yB_ za_ zb_ wE_ yq_ List.getElem?_toArray List.getElem?_cons_zero List.getElem?_cons_succ
theorem aG5 (c : List Int) : PureCall Tryz.prog 4 [.lv (bsV c)] (.bool (decide (4096 < c.length))) := by
 have hl := VE_ (c := c)
 refine gPC 6 [.tmp 2] Tryz.call4 Tryz.func4 fun cx hcx => gE ?_
 refine gBN ?_
 refine gBN ?_
 refine xf_ (yu_ rfl ?_)
 rw [decide_eq_decide]
 omega
theorem XF_ (xs ys : List Int) : PureCall Tryz.prog 11 [.l1 xs, .l1 ys] (.bool (decide (xs = ys))) := by
 refine gPC 26 [.tmp 4] Tryz.call11 Tryz.func11 fun cx hcx => gE ?_
 refine gBN ?_
 refine zp_ 0 fun h0 => ?_; simp only [St.get, xg_, Nat.reduceEqDiff, ↓reduceIte, if_true, fact, facts] at h0
 refine zp_ 1 fun h1 => ?_; simp only [St.get, xg_, Nat.reduceEqDiff, ↓reduceIte, if_true, fact, facts] at h1
 have lx := h0.1
 have ly := h1.1
 refine gBN ?_
 refine gI (fun hl => ?_) fun hl => ?_
 ·refine gBN ?_
  refine xf_ (yu_ rfl ?_)
  exact (decide_eq_false (fun h => hl (by rw [h]))).symm
 ·have el : xs.length = ys.length := by omega
  refine xe_ ?_
  refine gBN ?_
  (repeat refine xb_ ?_); refine xt_ (fun i : Nat => ⟨[(0, .l1 xs), (1, .l1 ys), (5, .int i)], []⟩) (fun i => i ≤ xs.length ∧ ∀ b, b < i → xs.getD b 0 = ys.getD b 0) (fun i => xs.length - i) 0 ⟨Nat.zero_le _, fun a h => absurd h (Nat.not_lt_zero a)⟩ (by refine And.intro ?_ rfl; simp only [leS, Nat.reduceEqDiff, ↓reduceIte, true_and, and_true]; rfl) (fun i hi => ?_); obtain ⟨hi, Hi⟩ := hi
  refine gBN ?_
  refine gI (fun h2 => ?_) fun h2 => ?_
  ·refine xe_ ?_
   refine gO ?_
   (repeat refine xb_ ?_); refine xI_ (by first | exact xO_ hcx | exact y2_ hcx rfl) mixed (by kernel_rfl) fun K hK => ?_; simp only [go_sem, seval]; (repeat refine aI (hb := ?_)); refine hK _ ?_; clear hK K
   refine gI (fun h3 => ?_) fun h3 => ?_
   ·refine gBN ?_
    refine xf_ (yu_ rfl ?_)
    exact (decide_eq_false (fun h => h3 (by rw [h]))).symm
   ·refine xe_ ?_
    refine gBN ?_
    refine ⟨i + 1, ⟨by omega, fun a ha => by rcases Nat.lt_succ_iff_lt_or_eq.1 ha with h | rfl; exact Hi a h; exact (by omega)⟩, by omega, .inl ⟨?_, rfl⟩⟩; simp only [leS, Nat.reduceEqDiff, ↓reduceIte, true_and, and_true]; omega
  ·refine xh_ (x9_ ?_)
   refine gBN ?_
   refine xf_ (yu_ rfl ?_)
   refine (decide_eq_true (List.ext_getElem el fun j j1 j2 => ?_)).symm
   have := Hi j (by omega)
   rw [List.getD_eq_getElem?_getD, List.getElem?_eq_getElem j1, List.getD_eq_getElem?_getD, List.getElem?_eq_getElem j2] at this
   simpa using this
theorem KO_ (s : Src) (hs : s.Ok) (n : Int) (hn : n ≤ 1099511627776) : OwnCall Tryz.prog 17 [.bptr 0 0, .int n] (TS s) (TS (nx s n).2) (.int (nx s n).1) [0] := by
 obtain ⟨hl, hb, hp, hh⟩ := hs
 unfold nx TS
 by_cases h1 : n < 1
 ·rw [if_pos h1]
  dsimp only
  refine OwnCall.intro (n := 58) (rs := [.tmp 4]) 2 [0] (X := [0]) Tryz.call17 Tryz.func17 rfl rfl rfl (by simp only [List.length_cons, List.length_nil]; omega) (by simp [Aw.ids, x3_, xQ_, xl_, xg_]) (fun cx hcx => AT.weakG (x2_ ?_)); refine gE ?_
  refine gBN ?_
  refine gBN ?_
  refine gI (fun h => ?_) fun h => ?_
  ·refine gBN ?_
   refine xf_ ⟨⟨[(0, .bptr 0 0), (4, .int 0)], [(0, .bx [.lv (bsV s.code), .int s.pos, .ik .u64 s.h])]⟩, xm_ [] [], .inr rfl, (by first | rfl | exact ⟨trivial, rfl⟩ | (simp only [y1_, zZ_, go_sem, seval]; done)), (by simp [St.get, xg_, xl_]), rfl⟩
  ·omega
 ·rw [if_neg h1]
  have bx := ai8 (nxH s.h)
  have bh := UC_ s.h
  have et : ∀ x : Int, 0 ≤ x → x.tmod n = x % n := fun x hx => Int.tmod_eq_emod_of_nonneg hx
  by_cases h2 : s.pos < s.code.length
  ·rw [if_pos h2]
   have hb2 := hb _ h2
   have e1 := et (nxX (nxH s.h) + s.code.getD s.pos 0) (by omega)
   have m1 := Int.emod_nonneg (nxX (nxH s.h) + s.code.getD s.pos 0) (show n ≠ 0 by omega)
   have m2 := Int.emod_lt_of_pos (nxX (nxH s.h) + s.code.getD s.pos 0) (show 0 < n by omega)
   dsimp only
   rw [show ((s.pos + 1 : Nat) : Int) = (s.pos : Int) + 1 by push_cast; rfl]
   refine OwnCall.intro (n := 58) (rs := [.tmp 4]) 2 [0] (X := [0]) Tryz.call17 Tryz.func17 rfl rfl rfl (by simp only [List.length_cons, List.length_nil]; omega) (by simp [Aw.ids, x3_, xQ_, xl_, xg_]) (fun cx hcx => AT.weakG (x2_ ?_)); refine gE ?_
   refine gBN ?_
   refine gBN ?_
   refine gI (fun h => ?_) fun h => ?_
   ·omega
   ·refine xe_ ?_
    refine gCN fun K hK => ?_
    simp only [Sl_]
    refine hK _ ?_; clear hK K
    refine gCN fun K hK => ?_
    simp only [Sm_]
    refine gU ?_
    refine hK _ ?_; clear hK K
    (repeat refine xb_ ?_); refine AT.ghost (st' := ⟨[(0, .bptr 0 0), (1, .int n), (5, .int (nxX (nxH s.h)))], [(0, .bx [.lv (bsV s.code), .int s.pos, .ik .u64 (nxH s.h)])]⟩) (xr_ [] (by simp only [go_sem, seval, AV.int.injEq, AV.bool.injEq, AV.l1.injEq, AV.l2.injEq, AV.l3.injEq]) (by simp only [go_sem, seval])) ?_
    (repeat refine xb_ ?_); refine xI_ (by first | exact xO_ hcx | exact y2_ hcx rfl) mixed (by kernel_rfl) fun K hK => ?_; simp only [go_sem, seval]; (repeat refine aI (hb := ?_)); refine hK _ ?_; clear hK K
    refine gI (fun h3 => ?_) fun h3 => ?_
    ·(repeat refine xb_ ?_); refine xI_ (by first | exact xO_ hcx | exact y2_ hcx rfl) mixed (by kernel_rfl) fun K hK => ?_; simp only [go_sem, seval]
     simp only [VF_ h2]
     refine gW ?_
     refine hK _ ?_; clear hK K
     refine gBN ?_
     refine gCN fun K hK => ?_
     simp only [e1]
     refine gU ?_
     refine hK _ ?_; clear hK K
     refine xf_ ⟨⟨[(0, .bptr 0 0), (4, .int ((nxX (nxH s.h) + s.code.getD s.pos 0) % n))], [(0, .bx [.lv (bsV s.code), .int ((s.pos : Int) + 1), .ik .u64 (nxH s.h)])]⟩, xm_ [] [], .inr rfl, (by first | rfl | exact ⟨trivial, rfl⟩ | (simp only [y1_, zZ_, go_sem, seval]; done)), (by simp [St.get, xg_, xl_]), rfl⟩
    ·omega
  ·rw [if_neg h2]
   have e1 := et (nxX (nxH s.h)) (by omega)
   have m1 := Int.emod_nonneg (nxX (nxH s.h)) (show n ≠ 0 by omega)
   have m2 := Int.emod_lt_of_pos (nxX (nxH s.h)) (show 0 < n by omega)
   dsimp only
   refine OwnCall.intro (n := 58) (rs := [.tmp 4]) 2 [0] (X := [0]) Tryz.call17 Tryz.func17 rfl rfl rfl (by simp only [List.length_cons, List.length_nil]; omega) (by simp [Aw.ids, x3_, xQ_, xl_, xg_]) (fun cx hcx => AT.weakG (x2_ ?_)); refine gE ?_
   refine gBN ?_
   refine gBN ?_
   refine gI (fun h => ?_) fun h => ?_
   ·omega
   ·refine xe_ ?_
    refine gCN fun K hK => ?_
    simp only [Sl_]
    refine hK _ ?_; clear hK K
    refine gCN fun K hK => ?_
    simp only [Sm_]
    refine gU ?_
    refine hK _ ?_; clear hK K
    (repeat refine xb_ ?_); refine AT.ghost (st' := ⟨[(0, .bptr 0 0), (1, .int n), (5, .int (nxX (nxH s.h)))], [(0, .bx [.lv (bsV s.code), .int s.pos, .ik .u64 (nxH s.h)])]⟩) (xr_ [] (by simp only [go_sem, seval, AV.int.injEq, AV.bool.injEq, AV.l1.injEq, AV.l2.injEq, AV.l3.injEq]) (by simp only [go_sem, seval])) ?_
    (repeat refine xb_ ?_); refine xI_ (by first | exact xO_ hcx | exact y2_ hcx rfl) mixed (by kernel_rfl) fun K hK => ?_; simp only [go_sem, seval]; (repeat refine aI (hb := ?_)); refine hK _ ?_; clear hK K
    refine gI (fun h3 => ?_) fun h3 => ?_
    ·omega
    ·refine xe_ ?_
     refine gCN fun K hK => ?_
     simp only [e1]
     refine gU ?_
     refine hK _ ?_; clear hK K
     refine xf_ ⟨⟨[(0, .bptr 0 0), (4, .int (nxX (nxH s.h) % n))], [(0, .bx [.lv (bsV s.code), .int s.pos, .ik .u64 (nxH s.h)])]⟩, xm_ [] [], .inr rfl, (by first | rfl | exact ⟨trivial, rfl⟩ | (simp only [y1_, zZ_, go_sem, seval]; done)), (by simp [St.get, xg_, xl_]), rfl⟩
theorem ag1 (s : Src) (hs : s.Ok) (n : Int) (hn : n ≤ 1099511627776) : OwnCall Tryz.prog 17 [.bptr 0 0, .int n] [(0, xv_ s)] [(0, xv_ (nx s n).2)] (.int (nx s n).1) [0] := KO_ s hs n hn
def rlH (c : List Int) (seed : Int) : Nat → Int
 | 0 => (seed * 6007 % 18446744073709551616 + (c.length : Int) % 18446744073709551616) % 18446744073709551616
 | i + 1 => ((rlH c seed i * 1099511628211 % 18446744073709551616 + c.getD i 0 % 18446744073709551616) % 18446744073709551616 + 5) % 18446744073709551616
def rlS (c : List Int) (seed : Int) : Src := ⟨c, 0, rlH c seed c.length⟩
theorem aG6 (c : List Int) (seed : Int) : ∀ i, 0 ≤ rlH c seed i ∧ rlH c seed i < 18446744073709551616
 | 0 => by unfold rlH; omega
 | i + 1 => by unfold rlH; omega
theorem aG7 {c : List Int} {seed : Int} (hc : CodeOk c) : (rlS c seed).Ok := ⟨hc.len, hc.byte, Nat.zero_le _, aG6 _ _ _⟩
theorem au8 (c : List Int) (hc : CodeOk c) (seed : Int) : OwnCall Tryz.prog 14 [.lv (bsV c), .ik .u64 seed] [] [(0, xv_ (rlS c seed))] (.bptr 0 0) [] := by
 have hl := hc.len
 have hb := hc.byte
 unfold xv_ rlS
 dsimp only
 obtain ⟨N, eN⟩ : ∃ N, c.length = N := ⟨_, rfl⟩
 have lb : (bsV c).length = N := by rw [VE_, eN]
 rw [eN] at hl ⊢
 refine OwnCall.intro (n := 38) (rs := [.tmp 4]) 2 [0] (X := []) Tryz.call14 Tryz.func14 rfl rfl rfl (by simp only [List.length_cons, List.length_nil]; omega) (by simp [Aw.ids, x3_, xQ_, xl_, xg_]) (fun cx hcx => AT.weakG (x2_ ?_)); refine gE ?_
 refine gBN ?_
 refine gBN ?_
 refine gBN ?_
 (repeat refine xb_ ?_); refine xt_ (fun i : Nat => ⟨[(0, .lv (bsV c)), (5, .bptr 0 0), (6, .int i)], [(0, .bx [.lv (bsV c), .int (0 : Nat), .ik .u64 (rlH c seed i)])]⟩) (fun i => i ≤ N) (fun i => N - i) 0 (Nat.zero_le _) (by
  refine And.intro ?_ rfl; simp only [leS, Nat.reduceEqDiff, ↓reduceIte, true_and, and_true]
  try rfl) (fun i hi => ?_)
 refine gBN ?_
 refine gI (fun hc2 => ?_) fun hc2 => ?_
 ·have hlt : i < c.length := by omega
  have hbi := hb i hlt
  have es : rlH c seed (i + 1) = ((rlH c seed i * 1099511628211 % 18446744073709551616 + c.getD i 0 % 18446744073709551616) % 18446744073709551616 + 5) % 18446744073709551616 := rfl
  refine xe_ ?_
  refine gO ?_
  (repeat refine xb_ ?_)
  refine xZ_ [] (.one 0 (.one 1 (.one 2 (.one 3 (.one 4 (.one 5 (.one 6 (.one 7 (.one 8 (.one 9 (.one 10 (.one 11 (.one 12 (.one 13 (.one 14 (.alt 15 .fin .stop)))))))))))))))) ⟨[(0, .lv (bsV c)), (5, .bptr 0 0), (6, .int i)], [(0, .bx [.lv (bsV c), .int (0 : Nat), .ik .u64 (rlH c seed (i + 1))])]⟩ (by first | exact xO_ hcx | exact y2_ hcx rfl) mixed (by kernel_rfl) (fun K hK => ?_) ?_
  ·simp only [go_sem, seval, Option.getD_some, and_true, true_and, and_self, List.contains_cons, List.contains_nil, Bool.or_false, Bool.or_true]
   repeat' (first | exact hK _ gM  | with_reducible refine And.intro ?_ ?_ | omega | ((simp only [VF_ hlt, ← es])) | (simp only [go_sem, seval, Option.getD_some, and_true, true_and, and_self, List.contains_cons, List.contains_nil, Bool.or_false, Bool.or_true]))
  refine gBN ?_
  refine ⟨i + 1,  by omega, by omega, .inl ⟨by simp only [leS, Nat.reduceEqDiff, ↓reduceIte, true_and, and_true]; (try omega),  rfl⟩⟩
 ·have e : i = N := by omega
  subst e
  refine xh_ (x9_ ?_)
  refine gBN ?_
  refine xf_ ⟨⟨[(0, .lv (bsV c)), (4, .bptr 0 0)], [(0, .bx [.lv (bsV c), .int (0 : Nat), .ik .u64 (rlH c seed i)])]⟩, xm_ [] [], .inr rfl, (by first | rfl | exact ⟨trivial, rfl⟩ | (simp only [y1_, zZ_, go_sem, seval]; done)), (by simp [St.get, xg_, xl_]), rfl⟩
end Go.Proofs.YtjbdiekkjegckaaGreat
namespace Go.Proofs.YtjbdiekkjegckaaGreat
open Go Go.Aw Go.Pl
end Go.Proofs.YtjbdiekkjegckaaGreat
