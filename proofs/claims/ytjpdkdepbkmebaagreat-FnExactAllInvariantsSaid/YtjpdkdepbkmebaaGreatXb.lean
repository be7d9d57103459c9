import Derived.Test.YtjpdkdepbkmebaaGreatGa
import Derived.Test.YtjpdkdepbkmebaaGreatDz1
set_option linter.unusedSimpArgs false
set_option linter.unusedVariables false
namespace Go.Proofs.YtjpdkdepbkmebaaGreat
open Go Go.Aw Go.Pl
attribute [local go_sem] pl_fin pl_stop pl_one pl_alt PK_ap pickO List.getElem?_toArray List.getElem?_cons_zero List.getElem?_cons_succ
def TX (s : List (List Int)) (t : List Int) (pl : List (Int × Int)) (O : List (List (List Int))) : List (Nat × Tree) := [(0, .bx [.l2 s, .l1 t]), (2, .t3 O), (3, .bx [.lp pl none]), (4, .bx [.ref 2 []])]
set_option maxHeartbeats 4000000 in
theorem backw_ok (xs : List Int) : OwnCall Tryz.prog 39 [.ref 7 []] [(7, .t1 xs)] [(7, .t1 xs), (9, .bx [.ref 7 []])] (.fn 65 [.bptr 9 0]) [7] := by
 refine OwnCall.intro (n := 4) (rs := [.tmp 2]) 1 [0] (X := [7]) Tryz.call39 Tryz.func39 rfl rfl rfl (by simp only [List.length_cons, List.length_nil]; omega) (by simp [Aw.ids, rootsA, rootsAs, argSlots, slotGet]) (fun cx hcx => AT.weakG (ats_of ?_)); simp only [argSlots, Nat.zero_add, Nat.reduceAdd]
 refine gBN ?_
 refine gBN ?_
 refine ats_ret ⟨⟨[(0, .ref 7 []), (2, .fn 65 [.bptr 9 0])], [(7, .t1 xs), (9, .bx [.ref 7 []])]⟩, ghost_trans (ghost_drop []) (ghost_can [(8, 9)] (by simp only [killL, killA, killAs, qOf, rmT, killH, killT, List.filter_cons, List.filter_nil, List.contains_cons, List.contains_nil, Bool.or_false, Bool.or_true, Bool.false_and, Bool.not_true, Bool.not_false, Bool.false_eq_true, if_true, if_false, rnLs, rnL, rn, rns, sw, SlotsLe, St.get, slotGet, List.map_cons, List.map_nil, seval, AV.int.injEq, AV.bool.injEq, AV.l1.injEq, AV.l2.injEq, AV.l3.injEq, true_and, and_true]) (by simp only [killL, killA, killAs, qOf, rmT, killH, killT, List.filter_cons, List.filter_nil, List.contains_cons, List.contains_nil, Bool.or_false, Bool.or_true, Bool.false_and, Bool.not_true, Bool.not_false, Bool.false_eq_true, if_true, if_false, sortH, insH, rnHs, rnH, rnT, rn, rns, sw, List.map_cons, List.map_nil, seval])), .inr rfl, (by first | rfl | exact ⟨trivial, rfl⟩ | (simp only [resL, resA, go_sem, seval]; done)), (by simp [St.get, slotGet, argSlots]), rfl⟩
set_option maxHeartbeats 8000000 in
theorem eachI_ok (V : Nat) (s : List (List Int)) (t : List Int) (pl : List (Int × Int)) (k b : Nat) (hk : k ≤ 256) (hb : b ≤ 3) (O : Nat → List (List (List Int)))
  (hv : (b + 1) ^ k ≤ 50000 → ∀ c, c < (b + 1) ^ k → OwnCall Tryz.prog V [.ref 7 [], .bptr 0 0, .bptr 3 0, .bptr 4 0] (TX s t pl (O c) ++ [(7, .t1 (rowF k (dgF (b + 1) k k c)))]) (TX s t pl (O (c + 1)) ++ [(7, .t1 (rowF k (dgF (b + 1) k k c)))]) (.tup []) [0, 3, 4, 7]) :
  OwnCall Tryz.prog 23 [.int k, .int b, .fn V [.bptr 0 0, .bptr 3 0, .bptr 4 0]] (TX s t pl (O 0)) (TX s t pl (if (b + 1) ^ k ≤ 50000 then O ((b + 1) ^ k) else O 0)) (.bool (decide ((b + 1) ^ k ≤ 50000))) [0, 3, 4] := by
 obtain ⟨pw, epw⟩ : ∃ pw : Nat → Nat, pw = fun j => (b + 1) ^ j := ⟨_, rfl⟩
 have p0 : pw 0 = 1 := by rw [epw]; rfl
 have ps : ∀ j, pw (j + 1) = pw j * (b + 1) := fun j => by rw [epw]; exact Nat.pow_succ ..
 have psI : ∀ j, ((pw j : Nat) : Int) * ((b : Int) + 1) = ((pw (j + 1) : Nat) : Int) := fun j => by rw [ps]; push_cast; rfl
 have pm : ∀ j, pw j ≤ pw (j + 1) := fun j => by rw [ps]; exact Nat.le_mul_of_pos_right _ (Nat.succ_pos _)
 have pm2 : ∀ i j, i ≤ j → pw i ≤ pw j := fun i j h => by
  induction j with
  | zero => rw [show i = 0 by omega]; exact Nat.le_refl _
  | succ j ih =>
   by_cases e : i = j + 1
   ·rw [e]; exact Nat.le_refl _
   ·exact Nat.le_trans (ih (by omega)) (pm j)
 have p4 : ∀ j, pw (j + 1) ≤ pw j * 4 := fun j => by rw [ps]; exact Nat.mul_le_mul_left _ (by omega)
 have ek : (b + 1) ^ k = pw k := by rw [epw]
 rw [ek] at hv ⊢
 by_cases hsm : pw k ≤ 50000
 ·rw [if_pos hsm, decide_eq_true hsm]
  refine OwnCall.introD (n := 46) (rs := [.tmp 6]) 3 [0, 1, 2] (X := [0, 3, 4]) Tryz.call23 Tryz.func23 rfl rfl rfl (by simp only [List.length_cons, List.length_nil]; omega) (by simp [Aw.ids, rootsA, rootsAs, argSlots, slotGet, TX]) (fun cx hcx hrd => ?_)
  have hcxA := hcx
  simp only [argSlots, Nat.zero_add, Nat.reduceAdd, TX]
  refine atd_take [_, _, _] ⟨[(0, .int k), (1, .int b), (2, .fn V [.bptr 0 0, .bptr 3 0, .bptr 4 0]), (4, .bptr 5 0), (7, .int (pw k))], [(0, .bx [.l2 s, .l1 t]), (2, .t3 (O 0)), (3, .bx [.lp pl none]), (4, .bx [.ref 2 []]), (5, .bx [.int b])]⟩ (fun cx hf => ?_) ?_
  ·replace hcx := hf.trans hcx
   refine gBN ?_
   refine gBN ?_
   refine gBN ?_
   (repeat refine ats_seq ?_); refine ats_loop (fun j : Nat => ⟨[(0, .int k), (1, .int b), (2, .fn V [.bptr 0 0, .bptr 3 0, .bptr 4 0]), (4, .bptr 5 0), (7, .int (pw j)), (11, .int k), (12, .int j)], [(0, .bx [.l2 s, .l1 t]), (2, .t3 (O 0)), (3, .bx [.lp pl none]), (4, .bx [.ref 2 []]), (5, .bx [.int b])]⟩) (fun j => j ≤ k) (fun j => k - j) 0 (Nat.zero_le _) (by
    rw [p0]
    refine And.intro ?_ rfl; simp only [leS, Nat.reduceEqDiff, ↓reduceIte, true_and, and_true]
    first | exact ⟨rfl, rfl⟩ | rfl) (fun j hj => ?_)
   have pj := pm2 j k hj
   have pj4 := p4 j
   refine gBN ?_
   refine gI (fun h1 => ?_) fun h1 => ?_
   ·have pj1 := pm2 (j + 1) k (by omega)
    refine ats_skip ?_
    (repeat refine ats_seq ?_); refine ats_block ?_
    refine gCN fun K hK => ?_
    simp only [psI]
    (repeat refine aI (hb := ?_))
    refine hK _ ?_; clear hK K
    refine gBN ?_
    refine gI (fun h2 => ?_) fun h2 => ?_
    ·omega
    ·refine ats_skip ?_
     refine gBN ?_
     refine ⟨j + 1,  by omega, by omega, .inl ⟨by simp only [leS, Nat.reduceEqDiff, ↓reduceIte, true_and, and_true]; omega,  rfl⟩⟩
   ·obtain rfl : j = k := by omega
    refine ats_exit (lq_x ?_)
    refine ats_nil ?_; refine Or.inl ⟨rfl, ghost_trans (ghost_drop []) (ghost_can [] (by simp only [killL, killA, killAs, qOf, rmT, killH, killT, List.filter_cons, List.filter_nil, List.contains_cons, List.contains_nil, Bool.or_false, Bool.or_true, Bool.false_and, Bool.not_true, Bool.not_false, Bool.false_eq_true, if_true, if_false, rnLs, rnL, rn, rns, sw, SlotsLe, St.get, slotGet, List.map_cons, List.map_nil, seval, AV.int.injEq, AV.bool.injEq, AV.l1.injEq, AV.l2.injEq, AV.l3.injEq, true_and, and_true]) (by simp only [killL, killA, killAs, qOf, rmT, killH, killT, List.filter_cons, List.filter_nil, List.contains_cons, List.contains_nil, Bool.or_false, Bool.or_true, Bool.false_and, Bool.not_true, Bool.not_false, Bool.false_eq_true, if_true, if_false, sortH, insH, rnHs, rnH, rnT, rn, rns, sw, List.map_cons, List.map_nil, seval]))⟩
  ·refine atds_of ?_
   (repeat refine atds_seq ?_)
   refine atds_cutG ⟨[(0, .int k), (1, .int b), (2, .fn V [.bptr 0 0, .bptr 3 0, .bptr 4 0]), (4, .bptr 5 0), (21, .int (pw k)), (22, .int 0)], [(0, .bx [.l2 s, .l1 t]), (2, .t3 (O 0)), (3, .bx [.lp pl none]), (4, .bx [.ref 2 []]), (5, .bx [.int b])]⟩ (fun cx hf => ?_) ?_
   ·replace hcx := hf.trans hcx
    refine gBN ?_
    refine ats_nil ?_; refine Or.inl ⟨rfl, ghost_trans (ghost_drop []) (ghost_can [] (by simp only [killL, killA, killAs, qOf, rmT, killH, killT, List.filter_cons, List.filter_nil, List.contains_cons, List.contains_nil, Bool.or_false, Bool.or_true, Bool.false_and, Bool.not_true, Bool.not_false, Bool.false_eq_true, if_true, if_false, rnLs, rnL, rn, rns, sw, SlotsLe, St.get, slotGet, List.map_cons, List.map_nil, seval, AV.int.injEq, AV.bool.injEq, AV.l1.injEq, AV.l2.injEq, AV.l3.injEq, true_and, and_true]) (by simp only [killL, killA, killAs, qOf, rmT, killH, killT, List.filter_cons, List.filter_nil, List.contains_cons, List.contains_nil, Bool.or_false, Bool.or_true, Bool.false_and, Bool.not_true, Bool.not_false, Bool.false_eq_true, if_true, if_false, sortH, insH, rnHs, rnH, rnT, rn, rns, sw, List.map_cons, List.map_nil, seval]))⟩
   refine atds_loop (fun c : Nat => ⟨[(0, .int k), (1, .int b), (2, .fn V [.bptr 0 0, .bptr 3 0, .bptr 4 0]), (4, .bptr 5 0), (21, .int (pw k)), (22, .int c)], [(0, .bx [.l2 s, .l1 t]), (2, .t3 (O c)), (3, .bx [.lp pl none]), (4, .bx [.ref 2 []]), (5, .bx [.int b])]⟩) (fun c => c ≤ pw k) (fun c => pw k - c) 0 (Nat.zero_le _) (by
    refine And.intro ?_ rfl; simp only [leS, Nat.reduceEqDiff, ↓reduceIte, true_and, and_true]
    try rfl) (fun c hc => ?_)
   by_cases hlt : c < pw k
   ·have hvc := hv hsm c hlt
    have e0 : rowF k (dgF (b + 1) k 0 c) = List.replicate k 0 := by
     have e : List.replicate k (0 : Int) = rowF k (fun _ => 0) := by simp [rowF, List.map_const']
     rw [e]
     refine rowF_congr fun y hy => ?_
     unfold dgF
     rw [if_neg (by omega)]
    have ec : c / (b + 1) ^ 0 = c := by rw [Nat.pow_zero, Nat.div_one]
    have hba := backw_ok (rowF k (dgF (b + 1) k 0 c))
    refine atd_take [_, _] ⟨[(0, .int k), (1, .int b), (2, .fn V [.bptr 0 0, .bptr 3 0, .bptr 4 0]), (4, .bptr 5 0), (21, .int (pw k)), (22, .int c)], [(0, .bx [.l2 s, .l1 t]), (2, .t3 (O c)), (3, .bx [.lp pl none]), (4, .bx [.ref 2 []]), (5, .bx [.int b])]⟩ (fun cx hf => ?_) ?_
    ·replace hcx := hf.trans hcx
     refine gBN ?_
     refine gI (fun h1 => ?_) fun h1 => ?_
     ·refine ats_skip ?_
      refine ats_nil ?_; refine Or.inl ⟨rfl, ghost_trans (ghost_drop []) (ghost_can [] (by simp only [killL, killA, killAs, qOf, rmT, killH, killT, List.filter_cons, List.filter_nil, List.contains_cons, List.contains_nil, Bool.or_false, Bool.or_true, Bool.false_and, Bool.not_true, Bool.not_false, Bool.false_eq_true, if_true, if_false, rnLs, rnL, rn, rns, sw, SlotsLe, St.get, slotGet, List.map_cons, List.map_nil, seval, AV.int.injEq, AV.bool.injEq, AV.l1.injEq, AV.l2.injEq, AV.l3.injEq, true_and, and_true]) (by simp only [killL, killA, killAs, qOf, rmT, killH, killT, List.filter_cons, List.filter_nil, List.contains_cons, List.contains_nil, Bool.or_false, Bool.or_true, Bool.false_and, Bool.not_true, Bool.not_false, Bool.false_eq_true, if_true, if_false, sortH, insH, rnHs, rnH, rnT, rn, rns, sw, List.map_cons, List.map_nil, seval]))⟩
     ·omega
    refine atds_of ?_
    refine atds_seq ?_
    refine atds_block ?_
    refine atds_of ?_
    (repeat refine atds_seq ?_)
    refine atds_cutG ⟨[(0, .int k), (1, .int b), (2, .fn V [.bptr 0 0, .bptr 3 0, .bptr 4 0]), (4, .bptr 5 0), (8, .bptr 6 0), (21, .int (pw k)), (22, .int c)], [(0, .bx [.l2 s, .l1 t]), (2, .t3 (O c)), (3, .bx [.lp pl none]), (4, .bx [.ref 2 []]), (5, .bx [.int b]), (6, .bx [.int (c / (b + 1) ^ 0 : Nat)])]⟩ (fun cx hf => ?_) ?_
    ·replace hcx := hf.trans hcx
     rw [ec]
     refine gBN ?_
     refine ats_nil ?_; refine Or.inl ⟨rfl, ghost_trans (ghost_drop []) (ghost_can [] (by simp only [killL, killA, killAs, qOf, rmT, killH, killT, List.filter_cons, List.filter_nil, List.contains_cons, List.contains_nil, Bool.or_false, Bool.or_true, Bool.false_and, Bool.not_true, Bool.not_false, Bool.false_eq_true, if_true, if_false, rnLs, rnL, rn, rns, sw, SlotsLe, St.get, slotGet, List.map_cons, List.map_nil, seval, AV.int.injEq, AV.bool.injEq, AV.l1.injEq, AV.l2.injEq, AV.l3.injEq, true_and, and_true]) (by simp only [killL, killA, killAs, qOf, rmT, killH, killT, List.filter_cons, List.filter_nil, List.contains_cons, List.contains_nil, Bool.or_false, Bool.or_true, Bool.false_and, Bool.not_true, Bool.not_false, Bool.false_eq_true, if_true, if_false, sortH, insH, rnHs, rnH, rnT, rn, rns, sw, List.map_cons, List.map_nil, seval]))⟩
    (repeat refine atds_seq ?_)
    refine atds_cutG ⟨[(0, .int k), (1, .int b), (2, .fn V [.bptr 0 0, .bptr 3 0, .bptr 4 0]), (4, .bptr 5 0), (8, .bptr 6 0), (9, .bptr 8 0), (21, .int (pw k)), (22, .int c)], [(0, .bx [.l2 s, .l1 t]), (2, .t3 (O c)), (3, .bx [.lp pl none]), (4, .bx [.ref 2 []]), (5, .bx [.int b]), (6, .bx [.int (c / (b + 1) ^ 0 : Nat)]), (7, .t1 (rowF k (dgF (b + 1) k 0 c))), (8, .bx [.ref 7 []])]⟩ (fun cx hf => ?_) ?_
    ·replace hcx := hf.trans hcx
     rw [e0]
     refine gBN ?_
     refine ats_nil ?_; refine Or.inl ⟨rfl, ghost_trans (ghost_drop []) (ghost_can [] (by simp only [killL, killA, killAs, qOf, rmT, killH, killT, List.filter_cons, List.filter_nil, List.contains_cons, List.contains_nil, Bool.or_false, Bool.or_true, Bool.false_and, Bool.not_true, Bool.not_false, Bool.false_eq_true, if_true, if_false, rnLs, rnL, rn, rns, sw, SlotsLe, St.get, slotGet, List.map_cons, List.map_nil, seval, AV.int.injEq, AV.bool.injEq, AV.l1.injEq, AV.l2.injEq, AV.l3.injEq, true_and, and_true]) (by simp only [killL, killA, killAs, qOf, rmT, killH, killT, List.filter_cons, List.filter_nil, List.contains_cons, List.contains_nil, Bool.or_false, Bool.or_true, Bool.false_and, Bool.not_true, Bool.not_false, Bool.false_eq_true, if_true, if_false, sortH, insH, rnHs, rnH, rnT, rn, rns, sw, List.map_cons, List.map_nil, seval]))⟩
    (repeat refine atds_seq ?_)
    refine atds_cutG ⟨[(0, .int k), (1, .int b), (2, .fn V [.bptr 0 0, .bptr 3 0, .bptr 4 0]), (4, .bptr 5 0), (8, .bptr 6 0), (9, .bptr 8 0), (21, .int (pw k)), (22, .int c), (28, .fn 65 [.bptr 9 0])], [(0, .bx [.l2 s, .l1 t]), (2, .t3 (O c)), (3, .bx [.lp pl none]), (4, .bx [.ref 2 []]), (5, .bx [.int b]), (6, .bx [.int (c / (b + 1) ^ 0 : Nat)]), (7, .t1 (rowF k (dgF (b + 1) k 0 c))), (8, .bx [.ref 7 []]), (9, .bx [.ref 7 []])]⟩ (fun cx hf => ?_) ?_
    ·replace hcx := hf.trans hcx
     refine gCN fun K hK => ?_
     refine fcall_box (hba) (by simp [Aw.ids]) (by simp [find]) (by simp [closedT, killT, killAs, killA, outQ, Aw.ids]) (by simp [killAs, killA, outQ, Aw.ids]) (by simp [Aw.ids]) ?_; simp only [Aw.ids, List.map_cons, List.map_nil, List.filter_cons, List.filter_nil, List.contains_cons, List.contains_nil, Bool.or_false, Bool.or_true, Bool.not_true, Bool.not_false, Nat.reduceBEq, Bool.false_eq_true, if_true, if_false, List.cons_append, List.nil_append]; simp only [go_sem, seval]
     refine hK _ ?_; clear hK K
     refine ats_nil ?_; refine Or.inl ⟨rfl, ghost_trans (ghost_drop []) (ghost_can [] (by simp only [killL, killA, killAs, qOf, rmT, killH, killT, List.filter_cons, List.filter_nil, List.contains_cons, List.contains_nil, Bool.or_false, Bool.or_true, Bool.false_and, Bool.not_true, Bool.not_false, Bool.false_eq_true, if_true, if_false, rnLs, rnL, rn, rns, sw, SlotsLe, St.get, slotGet, List.map_cons, List.map_nil, seval, AV.int.injEq, AV.bool.injEq, AV.l1.injEq, AV.l2.injEq, AV.l3.injEq, true_and, and_true]) (by simp only [killL, killA, killAs, qOf, rmT, killH, killT, List.filter_cons, List.filter_nil, List.contains_cons, List.contains_nil, Bool.or_false, Bool.or_true, Bool.false_and, Bool.not_true, Bool.not_false, Bool.false_eq_true, if_true, if_false, sortH, insH, rnHs, rnH, rnT, rn, rns, sw, List.map_cons, List.map_nil, seval]))⟩
    refine atds_block ?_
    refine ATD.back (fB := 65) backIt_ok Tryz.call65 hrd (gs := 28) (p0 := 29) (p1 := 30) k (fun x => [(0, .bx [.l2 s, .l1 t]), (2, .t3 (O c)), (3, .bx [.lp pl none]), (4, .bx [.ref 2 []]), (5, .bx [.int b]), (6, .bx [.int (c / (b + 1) ^ x : Nat)]), (7, .t1 (rowF k (dgF (b + 1) k x c))), (8, .bx [.ref 7 []]), (9, .bx [.ref 7 []])]) (fun x => (rowF k (dgF (b + 1) k x c)).getD (k - 1 - x) 0) (fun j => [0, 1, 2, 4, 8, 9, 21, 22, 28].contains j) (by unfold maxLen; omega) rfl rfl rfl (by decide) (by decide) (by decide) (capOk rfl) (elOkA (fun x => rowF_length ..) rfl (fun x => rfl) (fun x => rfl)) (fun x hx c2 hf2 => ?_) ?_
    ·have hcx := hf2
     refine ats_of ?_
     refine gBN ?_
     refine ⟨rfl, fun cx hf => ?_⟩
     have hcx := hf
     refine AT.weakG (ats_of ?_)
     have lr : (rowF k (dgF (b + 1) k x c)).length = k := rowF_length ..
     have b1 : ((b : Int) + 1) = ((b + 1 : Nat) : Int) := by push_cast; rfl
     have em : (((c / (b + 1) ^ x : Nat) : Int)).tmod ((b : Int) + 1) = ((c / (b + 1) ^ x % (b + 1) : Nat) : Int) := by rw [b1]; rfl
     have ed : (((c / (b + 1) ^ x : Nat) : Int)).tdiv ((b : Int) + 1) = ((c / (b + 1) ^ x / (b + 1) : Nat) : Int) := by rw [b1]; rfl
     have q1 := Nat.div_le_self c ((b + 1) ^ x)
     have q2 := Nat.mod_le (c / (b + 1) ^ x) (b + 1)
     have q3 := Nat.div_le_self (c / (b + 1) ^ x) (b + 1)
     obtain ⟨M, eM⟩ : ∃ M : Nat, c / (b + 1) ^ x % (b + 1) = M := ⟨_, rfl⟩
     obtain ⟨D, eD⟩ : ∃ D : Nat, c / (b + 1) ^ x / (b + 1) = D := ⟨_, rfl⟩
     have hM : M ≤ 50000 := by rw [← eM]; exact Nat.le_trans q2 (Nat.le_trans q1 (Nat.le_trans hc hsm))
     have hD : D ≤ 50000 := by rw [← eD]; exact Nat.le_trans q3 (Nat.le_trans q1 (Nat.le_trans hc hsm))
     have m1 : -9223372036854775808 ≤ (((c / (b + 1) ^ x : Nat) : Int)).tmod ((b : Int) + 1) := by rw [em, eM]; omega
     have m2 : (((c / (b + 1) ^ x : Nat) : Int)).tmod ((b : Int) + 1) ≤ 9223372036854775807 := by rw [em, eM]; omega
     have d1 : -9223372036854775808 ≤ (((c / (b + 1) ^ x : Nat) : Int)).tdiv ((b : Int) + 1) := by rw [ed, eD]; omega
     have d2 : (((c / (b + 1) ^ x : Nat) : Int)).tdiv ((b : Int) + 1) ≤ 9223372036854775807 := by rw [ed, eD]; omega
     have sx : (rowF k (dgF (b + 1) k x c)).set (k - 1 - x) ((((c / (b + 1) ^ x : Nat) : Int)).tmod ((b : Int) + 1)) = rowF k (dgF (b + 1) k (x + 1) c) := by
      rw [em, rowF_set]
      refine rowF_congr fun y hy => ?_
      unfold dgF dgt
      by_cases e : y = k - 1 - x
      ·rw [if_pos e, if_pos (by omega), show k - 1 - y = x by omega]
      ·rw [if_neg e]
       by_cases h : k ≤ y + x
       ·rw [if_pos h, if_pos (by omega)]
       ·rw [if_neg h, if_neg (by omega)]
     have nx : (((c / (b + 1) ^ x : Nat) : Int)).tdiv ((b : Int) + 1) = ((c / (b + 1) ^ (x + 1) : Nat) : Int) := by
      rw [ed, Nat.div_div_eq_div_mul, Nat.pow_succ]
     (repeat refine ats_seq ?_); refine ats_block ?_
     (repeat refine ats_seq ?_)
     refine ats_plan [] (.one 0 (.one 1 (.one 2 (.one 3 (.one 4 (.one 5 (.one 6 (.alt 7 .fin .stop)))))))) ⟨[(0, .int k), (1, .int b), (2, .fn V [.bptr 0 0, .bptr 3 0, .bptr 4 0]), (4, .bptr 5 0), (8, .bptr 6 0), (9, .bptr 8 0), (21, .int (pw k)), (22, .int c), (28, .fn 65 [.bptr 9 0])], [(0, .bx [.l2 s, .l1 t]), (2, .t3 (O c)), (3, .bx [.lp pl none]), (4, .bx [.ref 2 []]), (5, .bx [.int b]), (6, .bx [.int (c / (b + 1) ^ x : Nat)]), (7, .t1 ((rowF k (dgF (b + 1) k x c)).set (k - 1 - x) (Int.tmod ((c / (b + 1) ^ x : Nat) : Int) ((b : Int) + 1)))), (8, .bx [.ref 7 []]), (9, .bx [.ref 7 []])]⟩ (by first | exact fix0 hcx | exact fixN hcx rfl) mixed (by kernel_rfl) (fun K hK => ?_) ?_
     ·simp only [go_sem, seval, Option.getD_some, and_true, true_and, and_self, List.contains_cons, List.contains_nil, Bool.or_false, Bool.or_true]
      repeat' (first | exact hK _ (by refine And.intro ?_ rfl; simp only [leS, Nat.reduceEqDiff, ↓reduceIte, true_and, and_true])  | with_reducible refine And.intro ?_ ?_ | omega | ((exact m1)) | ((exact m2)))
     rw [sx]
     refine gCN fun K hK => ?_
     (repeat refine And.intro (by first | omega | (with_reducible exact d1) | (with_reducible exact d2)) ?_)
     refine hK _ ?_
     rw [nx]
     refine ats_nil (bq_n (ats_nil ?_))
     refine ⟨⟨[(0, .int k), (1, .int b), (2, .fn V [.bptr 0 0, .bptr 3 0, .bptr 4 0]), (4, .bptr 5 0), (8, .bptr 6 0), (9, .bptr 8 0), (21, .int (pw k)), (22, .int c), (28, .fn 65 [.bptr 9 0])], [(0, .bx [.l2 s, .l1 t]), (2, .t3 (O c)), (3, .bx [.lp pl none]), (4, .bx [.ref 2 []]), (5, .bx [.int b]), (6, .bx [.int (c / (b + 1) ^ (x + 1) : Nat)]), (7, .t1 (rowF k (dgF (b + 1) k (x + 1) c))), (8, .bx [.ref 7 []]), (9, .bx [.ref 7 []])]⟩, ghost_can [] (by simp only [rnLs, rnL, rn, rns, sw, SlotsLe, St.get, slotGet, List.map_cons, List.map_nil, seval, AV.int.injEq, true_and, and_true]) (by simp only [sortH, insH, rnHs, rnH, rnT, rn, rns, sw, List.map_cons, List.map_nil, seval]), rfl, ?_, rfl⟩
     show SlotsLe _ [(0, .int k), (1, .int b), (2, .fn V [.bptr 0 0, .bptr 3 0, .bptr 4 0]), (4, .bptr 5 0), (8, .bptr 6 0), (9, .bptr 8 0), (21, .int (pw k)), (22, .int c), (28, .fn 65 [.bptr 9 0])]
     simp only [leS, Nat.reduceEqDiff, ↓reduceIte, true_and, and_true]
    ·refine atds_last fun cx hf => ?_
     replace hcx := hf.trans hcxA
     refine ats_of ?_
     simp only [TX, List.cons_append, List.nil_append] at hvc
     refine gCN fun K hK => ?_
     refine fcall_box (hvc) (by simp [Aw.ids]) (by simp [find]) (by simp [closedT, killT, killAs, killA, outQ, Aw.ids]) (by simp [killAs, killA, outQ, Aw.ids]) (by simp [Aw.ids]) ?_; simp only [Aw.ids, List.map_cons, List.map_nil, List.filter_cons, List.filter_nil, List.contains_cons, List.contains_nil, Bool.or_false, Bool.or_true, Bool.not_true, Bool.not_false, Nat.reduceBEq, Bool.false_eq_true, if_true, if_false, List.cons_append, List.nil_append]; simp only [go_sem, seval]
     refine hK _ ?_; clear hK K
     refine ats_nil (show ATDs _ _ _ _ _ _ from ?_)
     refine atds_last fun cx hf => ?_
     replace hcx := hf.trans hcxA
     refine ats_of ?_
     refine gBN ?_
     refine ⟨c + 1, by omega, by omega, .inr ⟨[6, 7, 8, 9], by simp only [killL, List.map_cons, List.map_nil, killA, killAs, qOf, rmT, killH, killT, List.filter_cons, List.filter_nil, List.contains_cons, List.contains_nil, SlotsLe, St.get, slotGet, Nat.reduceEqDiff, Nat.reduceBEq, Bool.or_false, Bool.or_true, Bool.false_and, Bool.not_true, Bool.not_false, Bool.false_eq_true, ↓reduceIte, if_true, if_false, AV.int.injEq, AV.bool.injEq, AV.l1.injEq, AV.l2.injEq, AV.l3.injEq, true_and, and_true]; (try omega), by simp only [killL, List.map_cons, List.map_nil, killA, killAs, qOf, rmT, killH, killT, List.filter_cons, List.filter_nil, List.contains_cons, List.contains_nil, SlotsLe, St.get, slotGet, Nat.reduceEqDiff, Nat.reduceBEq, Bool.or_false, Bool.or_true, Bool.false_and, Bool.not_true, Bool.not_false, Bool.false_eq_true, ↓reduceIte, if_true, if_false, AV.int.injEq, AV.bool.injEq, AV.l1.injEq, AV.l2.injEq, AV.l3.injEq, true_and, and_true]; (try rfl)⟩⟩
   ·obtain rfl : c = pw k := by omega
    refine atds_last fun cx hf => ?_
    replace hcx := hf.trans hcx
    refine ats_of ?_
    refine gBN ?_
    refine gI (fun h1 => ?_) fun h1 => ?_
    ·omega
    ·refine ats_exit ?_
     refine lq_x ?_
     (repeat refine atds_seq ?_)
     refine atds_cutG ⟨[(0, .int k), (1, .int b), (2, .fn V [.bptr 0 0, .bptr 3 0, .bptr 4 0]), (6, .bool true)], [(0, .bx [.l2 s, .l1 t]), (2, .t3 (O (pw k))), (3, .bx [.lp pl none]), (4, .bx [.ref 2 []])]⟩ (fun cx hf => ?_) ?_
     ·replace hcx := hf.trans hcxA
      refine gBN ?_
      refine ats_nil ?_; refine Or.inl ⟨rfl, ghost_trans (ghost_drop [5]) (ghost_can [] (by simp only [killL, killA, killAs, qOf, rmT, killH, killT, List.filter_cons, List.filter_nil, List.contains_cons, List.contains_nil, Bool.or_false, Bool.or_true, Bool.false_and, Bool.not_true, Bool.not_false, Bool.false_eq_true, if_true, if_false, rnLs, rnL, rn, rns, sw, SlotsLe, St.get, slotGet, List.map_cons, List.map_nil, seval, AV.int.injEq, AV.bool.injEq, AV.l1.injEq, AV.l2.injEq, AV.l3.injEq, true_and, and_true]) (by simp only [killL, killA, killAs, qOf, rmT, killH, killT, List.filter_cons, List.filter_nil, List.contains_cons, List.contains_nil, Bool.or_false, Bool.or_true, Bool.false_and, Bool.not_true, Bool.not_false, Bool.false_eq_true, if_true, if_false, sortH, insH, rnHs, rnH, rnT, rn, rns, sw, List.map_cons, List.map_nil, seval]))⟩
     refine atds_last fun cx hf => ?_
     refine ats_of (ats_ret ?_)
     refine ⟨.inr rfl, (by first | rfl | exact ⟨trivial, rfl⟩), (by simp [St.get, slotGet, argSlots]), rfl⟩
 ·rw [if_neg hsm, decide_eq_false hsm]
  simp only [TX]
  refine OwnCall.intro (n := 46) (rs := [.tmp 6]) 3 [0, 1, 2] (X := [0, 3, 4]) Tryz.call23 Tryz.func23 rfl rfl rfl (by simp only [List.length_cons, List.length_nil]; omega) (by simp [Aw.ids, rootsA, rootsAs, argSlots, slotGet]) (fun cx hcx => AT.weakG (ats_of ?_)); simp only [argSlots, Nat.zero_add, Nat.reduceAdd]
  refine gBN ?_
  refine gBN ?_
  refine gBN ?_
  (repeat refine ats_seq ?_); refine ats_loop (fun j : Nat => ⟨[(0, .int k), (1, .int b), (2, .fn V [.bptr 0 0, .bptr 3 0, .bptr 4 0]), (4, .bptr 5 0), (7, .int (pw j)), (11, .int k), (12, .int j)], [(0, .bx [.l2 s, .l1 t]), (2, .t3 (O 0)), (3, .bx [.lp pl none]), (4, .bx [.ref 2 []]), (5, .bx [.int b])]⟩) (fun j => j ≤ k ∧ pw j ≤ 50000) (fun j => k - j) 0 ⟨Nat.zero_le _, by omega⟩ (by
   rw [p0]
   refine And.intro ?_ rfl; simp only [leS, Nat.reduceEqDiff, ↓reduceIte, true_and, and_true]
   first | exact ⟨rfl, rfl⟩ | rfl) (fun j hj => ?_)
  obtain ⟨hj, pj⟩ := hj
  have pj4 := p4 j
  refine gBN ?_
  refine gI (fun h1 => ?_) fun h1 => ?_
  ·refine ats_skip ?_
   (repeat refine ats_seq ?_); refine ats_block ?_
   refine gCN fun K hK => ?_
   simp only [psI]
   (repeat refine aI (hb := ?_))
   refine hK _ ?_; clear hK K
   refine gBN ?_
   refine gI (fun h2 => ?_) fun h2 => ?_
   ·refine gBN ?_
    refine ats_ret ⟨⟨[(0, .int k), (1, .int b), (2, .fn V [.bptr 0 0, .bptr 3 0, .bptr 4 0]), (6, .bool false)], [(0, .bx [.l2 s, .l1 t]), (2, .t3 (O 0)), (3, .bx [.lp pl none]), (4, .bx [.ref 2 []])]⟩, ghost_trans (ghost_drop [5]) (ghost_can [] (by simp only [killL, killA, killAs, qOf, rmT, killH, killT, List.filter_cons, List.filter_nil, List.contains_cons, List.contains_nil, Bool.or_false, Bool.or_true, Bool.false_and, Bool.not_true, Bool.not_false, Bool.false_eq_true, if_true, if_false, rnLs, rnL, rn, rns, sw, SlotsLe, St.get, slotGet, List.map_cons, List.map_nil, seval, AV.int.injEq, AV.bool.injEq, AV.l1.injEq, AV.l2.injEq, AV.l3.injEq, true_and, and_true]) (by simp only [killL, killA, killAs, qOf, rmT, killH, killT, List.filter_cons, List.filter_nil, List.contains_cons, List.contains_nil, Bool.or_false, Bool.or_true, Bool.false_and, Bool.not_true, Bool.not_false, Bool.false_eq_true, if_true, if_false, sortH, insH, rnHs, rnH, rnT, rn, rns, sw, List.map_cons, List.map_nil, seval])), .inr rfl, (by first | rfl | exact ⟨trivial, rfl⟩ | (simp only [resL, resA, go_sem, seval]; done)), (by simp [St.get, slotGet, argSlots]), rfl⟩
   ·refine ats_skip ?_
    refine gBN ?_
    refine ⟨j + 1,  ⟨by omega, by omega⟩, by omega, .inl ⟨by simp only [leS, Nat.reduceEqDiff, ↓reduceIte, true_and, and_true]; omega,  rfl⟩⟩
  ·obtain rfl : j = k := by omega
   exact absurd pj hsm
end Go.Proofs.YtjpdkdepbkmebaaGreat
