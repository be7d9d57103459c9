import Derived.Test.YtcmgjlgmajhekaaYz1
import Derived.Test.YtcmgjlgmajhekaaHy3
import Derived.Test.YtcmgjlgmajhekaaHy1
import Derived.Test.YtcmgjlgmajhekaaVx3
import Derived.Test.YtcmgjlgmajhekaaHy2
import Derived.Test.YtcmgjlgmajhekaaPm1
set_option linter.unusedSimpArgs false
set_option linter.unusedVariables false
namespace Go.Proofs.Ytcmgjlgmajhekaa
open Go Go.Aw Go.Pl
attribute [local go_sem] pl_fin pl_stop pl_one pl_alt PK_ap pickO List.getElem?_toArray List.getElem?_cons_zero List.getElem?_cons_succ
theorem plusN_ok (o : List Int) (m : Int) (h : PosO o) (h8 : prodO o ≤ 8) (x y : Nat) (hx : x ≤ 8) (hy : y ≤ 8) : PureCall Try.prog 35 [.agg [.l1 o, .int m, .nil], .int x, .int y] (.int (ad o x y)) := by
 refine PureCall.intro (n := 12) (rs := [.tmp 6]) Try.call35 Try.func35 rfl rfl rfl (by simp only [List.length_cons, List.length_nil]; omega) (fun cx hcx => ats_of ?_); simp only [argSlots, Nat.zero_add, Nat.reduceAdd]
 refine gB ?_
 refine gC fun K hK => ?_
 (repeat refine aI (hb := ?_))
 first | refine fcall_data (addElements_ok o h h8 x y hx hy) rfl ?_ | refine YR_intro (acall_data (addElements_ok o h h8 x y hx hy) rfl) ?_
 simp only [go_sem, seval]
 (repeat refine aI (hb := ?_))
 refine hK _ ?_; clear hK K
 refine ats_ret (finI rfl ?_)
 rfl
theorem cbR_bd {o : List Int} {m : Int} {n : Nat} {q : List (List Int)} (hp : PosO o) (hN : (n : Int) = prodO o) (hq : GridB n m q) {x y z : Nat} (hx : x < n) (hy : y < n) (hz : z < n) : -2 * m ≤ cbR o q x y z ∧ cbR o q x y z ≤ 2 * m := by
 have g := hp.grp
 rw [nO hN] at g
 have v1 := hq.bd hy hz
 have v2 := hq.bd (g.lt x hx y hy) hz
 have v3 := hq.bd hx (g.lt y hy z hz)
 have v4 := hq.bd hx hy
 unfold cbR
 omega
set_option maxHeartbeats 4000000 in
theorem cobK1_ok (n : Nat) (o : List Int) (m : Int) (q : List (List Int)) (hp : PosO o) (hN : (n : Int) = prodO o) (h8 : prodO o ≤ 8) (m1 : 1 ≤ m) (m2 : m ≤ 1000) (hq : GridB n m q) (x y z : Nat) (hx : x < n) (hy : y < n) (hz : z < n) :
  PureCall Try.prog 60 [.int x, .int y, .int z, .cptr [.l2 q] 0, .cptr [.l1 o, .int m, .nil] 0] (.int (cbR o q x y z)) := by
 have g := hp.grp
 rw [nO hN] at g
 have lq := hq.1
 have xy := g.lt x hx y hy
 have yz := g.lt y hy z hz
 have c1 := plusN_ok o m hp h8 x y (by omega) (by omega)
 have c2 := plusN_ok o m hp h8 y z (by omega) (by omega)
 have ecb : cbR o q x y z = (q.getD y []).getD z 0 - (q.getD (ad o x y) []).getD z 0 + (q.getD x []).getD (ad o y z) 0 - (q.getD x []).getD y 0 := rfl
 obtain ⟨A, eA⟩ : ∃ A, A = ad o x y := ⟨_, rfl⟩
 obtain ⟨B, eB⟩ : ∃ B, B = ad o y z := ⟨_, rfl⟩
 rw [← eA] at xy c1 ecb
 rw [← eB] at yz c2 ecb
 have r1 := hq.row hy
 have r2 := hq.row xy
 have r3 := hq.row hx
 have v1 := hq.bd hy hz
 have v2 := hq.bd xy hz
 have v3 := hq.bd hx yz
 have v4 := hq.bd hx hy
 unfold e2 at v1 v2 v3 v4
 rw [ecb]
 refine PureCall.intro (n := 46) (rs := [.tmp 8]) Try.call60 Try.func60 rfl rfl rfl (by simp only [List.length_cons, List.length_nil]; omega) (fun cx hcx => ats_of ?_); simp only [argSlots, Nat.zero_add, Nat.reduceAdd]
 refine gB ?_
 (repeat refine ats_seq ?_); refine ats_pick (fix0 hcx) mixed (by kernel_rfl) fun K hK => ?_; simp only [go_sem, seval]
 (repeat refine aI (hb := ?_))
 first | refine fcall_data (c1) rfl ?_ | refine YR_intro (acall_data (c1) rfl) ?_
 simp only [go_sem, seval]
 (repeat refine aI (hb := ?_))
 first | refine fcall_data (c2) rfl ?_ | refine YR_intro (acall_data (c2) rfl) ?_
 simp only [go_sem, seval]
 (repeat refine aI (hb := ?_))
 refine hK _ ?_; clear hK K
 refine ats_ret (finI rfl ?_)
 rfl
set_option maxRecDepth 100000 in
set_option maxHeartbeats 8000000 in
theorem cocycleByK_ok (n : Nat) (o : List Int) (m : Int) (pq : List (List Int)) (hp : PosO o) (hg : gsz o = n) (hN : (n : Int) = prodO o) (n1 : 1 ≤ n) (n8 : n ≤ 8) (m1 : 1 ≤ m) (m2 : m ≤ 1000) (hc : GridB n m pq) (hl : o.length ≤ 1048576) : FreshCall Try.prog 59 [.l1 o, .int m, .fn 60 [.cptr [.l2 pq] 0, .cptr [.l1 o, .int m, .nil] 0]] (.agg [.l1 o, .int m, .l3 (cobW o m n pq)]) := by
 have hC := bClone_ok o hp.1 (by omega)
 have hG := groupSize_ok o
 rw [hg] at hG
 have hz := zeros_ok n n (by omega) (by omega)
 have g8 : prodO o ≤ 8 := by omega
 obtain ⟨f, ef⟩ : ∃ f : Nat → Nat → Nat → Int, f = cbV o m pq := ⟨_, rfl⟩
 have eres : (.agg [.l1 o, .int m, .l3 (cobW o m n pq)] : AV) = .agg [.l1 o, .int m, .l3 (cubF n f)] := by rw [ef]; rfl
 rw [eres]
 have z0 : ∀ i, List.replicate n (List.replicate n (0 : Int)) = wrM n (f i) (fun _ _ => 0) 0 0 := fun i => by rw [wrM_zero, zeros_matF]
 obtain ⟨g, eg⟩ : ∃ g : Nat → Nat → Int, g = fun _ _ => 0 := ⟨_, rfl⟩
 rw [← eg] at z0
 refine FreshCall.intro (n := 57) (rs := [.cell 6 30]) Try.call59 Try.func59 rfl rfl rfl (by simp only [List.length_cons, List.length_nil]; omega) (fun cx hcx => ats_of ?_); simp only [argSlots, Nat.zero_add, Nat.reduceAdd]
 refine gA ?_
 refine gC fun K hK => ?_
 (repeat refine aI (hb := ?_))
 refine fcall_own rfl (hC) rfl ?_; simp only [go_sem, seval]
 (repeat refine aI (hb := ?_))
 first | refine fcall_data (hG) rfl ?_ | refine YR_intro (acall_data (hG) rfl) ?_
 simp only [go_sem, seval]
 (repeat refine aI (hb := ?_))
 refine hK _ ?_; clear hK K
 refine gB ?_
 (repeat refine ats_seq ?_)
 refine ats_loop (fun q : Option Nat => match q with
  | none => ⟨[(0, .l1 o), (1, .int m), (2, .fn 60 [.cptr [.l2 pq] 0, .cptr [.l1 o, .int m, .nil] 0]), (6, .bptr 0 0), (7, .bptr 2 0), (8, .int n), (19, .int n), (20, .int 0)], [(1, .t1 o), (0, .bx [.nil, .int 0, .nil]), (2, .bx [.ref 1 [], .int m, .nil])]⟩
  | some i => ⟨[(0, .l1 o), (1, .int m), (2, .fn 60 [.cptr [.l2 pq] 0, .cptr [.l1 o, .int m, .nil] 0]), (6, .bptr 0 0), (7, .bptr 2 0), (8, .int n), (19, .int n), (20, .int i)], [(1, .t1 o), (0, .bx [.nil, .int 0, .nil]), (2, .bx [.ref 1 [], .int m, .ref 5 []]), (5, .t3 (cubP n f i))]⟩) (fun q => match q with
  | none => True
  | some i => 1 ≤ i ∧ i ≤ n) (fun q => match q with
  | none => n + 1
  | some i => n - i) none trivial ⟨by simp only [SlotsLe, St.get, slotGet, Nat.reduceEqDiff, ↓reduceIte, true_and, and_true], rfl⟩ (fun q hq => ?_)
 cases q with
 | none =>
  dsimp only at hq ⊢
  refine gB ?_
  refine gI (fun hli => ?_) fun hli => ?_
  ·have z1 := z0 0
   have hlm := cubP_len (n := n) (f := f) (i := 0)
   refine ats_skip ?_
   (repeat refine ats_seq ?_); refine ats_block ?_
   refine gB ?_
   refine gC fun K hK => ?_
   (repeat refine aI (hb := ?_))
   refine fcall_own rfl (hz) rfl ?_; simp only [go_sem, seval]
   (repeat refine aI (hb := ?_))
   refine hK _ ?_; clear hK K
   rw [z1]
   refine gB ?_
   (repeat refine ats_seq ?_); refine ats_loop (fun j : Nat => ⟨[(0, .l1 o), (1, .int m), (2, .fn 60 [.cptr [.l2 pq] 0, .cptr [.l1 o, .int m, .nil] 0]), (6, .bptr 0 0), (7, .bptr 2 0), (8, .int n), (9, .int 0), (10, .ref 3 []), (19, .int n), (20, .int 0), (26, .int n), (27, .int j)], [(3, .t2 (wrM n (f 0) g j 0)), (1, .t1 o), (0, .bx [.nil, .int 0, .nil]), (2, .bx [.ref 1 [], .int m, .nil])]⟩) (fun j => j ≤ n) (fun j => n - j) 0 (Nat.zero_le _) (by refine And.intro ?_ rfl; simp only [leS, Nat.reduceEqDiff, ↓reduceIte, true_and, and_true]; repeat' (first | rfl | with_reducible refine And.intro ?_ ?_ | omega)) (fun j hj => ?_)
   refine gB ?_
   refine gI (fun hlj => ?_) fun hlj => ?_
   ·refine ats_skip ?_
    (repeat refine ats_seq ?_); refine ats_block ?_
    refine gB ?_
    refine gB ?_
    (repeat refine ats_seq ?_); refine ats_loop (fun k : Nat => ⟨[(0, .l1 o), (1, .int m), (2, .fn 60 [.cptr [.l2 pq] 0, .cptr [.l1 o, .int m, .nil] 0]), (6, .bptr 0 0), (7, .bptr 2 0), (8, .int n), (9, .int 0), (10, .ref 3 []), (11, .int j), (19, .int n), (20, .int 0), (26, .int n), (27, .int j), (30, .int n), (31, .int k)], [(3, .t2 (wrM n (f 0) g j k)), (1, .t1 o), (0, .bx [.nil, .int 0, .nil]), (2, .bx [.ref 1 [], .int m, .nil])]⟩) (fun k => k ≤ n) (fun k => n - k) 0 (Nat.zero_le _) (by refine And.intro ?_ rfl; simp only [leS, Nat.reduceEqDiff, ↓reduceIte, true_and, and_true]; repeat' (first | rfl | with_reducible refine And.intro ?_ ?_ | omega)) (fun k hk => ?_)
    refine gB ?_
    refine gI (fun hlk => ?_) fun hlk => ?_
    ·have l1 := wrM_len (n := n) (f := f 0) (g := g) (i := j) (j := k)
     have l2 := wrM_l2 (n := n) (f := f 0) (g := g) (i := j) (j := k) (x := j) (by omega)
     have hA := cobK1_ok n o m pq hp hN g8 m1 m2 hc 0 j k (by omega) (by omega) (by omega)
     have bK := cbR_bd hp hN hc (show 0 < n by omega) (show j < n by omega) (show k < n by omega)
     obtain ⟨K, eK⟩ : ∃ K, cbR o pq 0 j k = K := ⟨_, rfl⟩
     rw [eK] at hA bK
     have hR := restN_ok o m K m1 m2
     have ev : K % m = f 0 j k := by rw [ef, ← eK]; rfl
     have b1 := Int.emod_nonneg K (show m ≠ 0 by omega)
     have b2 := Int.emod_lt_of_pos K (show 0 < m by omega)
     rw [ev] at hR b1 b2
     have sk := wrM_set (n := n) (f := f 0) (g := g) (i := j) (j := k) (by omega)
     refine ats_skip ?_
     (repeat refine ats_seq ?_); refine ats_block ?_
     refine gB ?_
     (repeat refine ats_seq ?_)
     refine ats_plan [] (.one 0 (.one 1 (.one 2 (.one 3 (.one 4 (.one 5 (.one 6 (.one 7 (.one 8 (.one 9 (.one 10 (.one 11 (.one 12 (.alt 13 .fin .stop)))))))))))))) ⟨[(0, .l1 o), (1, .int m), (2, .fn 60 [.cptr [.l2 pq] 0, .cptr [.l1 o, .int m, .nil] 0]), (6, .bptr 0 0), (7, .bptr 2 0), (8, .int n), (9, .int 0), (10, .ref 3 []), (11, .int j), (19, .int n), (20, .int 0), (26, .int n), (27, .int j), (30, .int n), (31, .int k)], [(3, .t2 ((wrM n (f 0) g j k).set j (((wrM n (f 0) g j k).getD j []).set k (f 0 j k)))), (1, .t1 o), (0, .bx [.nil, .int 0, .nil]), (2, .bx [.ref 1 [], .int m, .nil])]⟩ (fix0 hcx) mixed (by kernel_rfl) (fun K hK => ?_) ?_
     ·simp only [go_sem, seval, Option.getD_some, and_true, true_and, and_self, List.contains_cons, List.contains_nil, Bool.or_false, Bool.or_true]
      repeat' (first | exact hK _ (by refine And.intro ?_ rfl; simp only [leS, Nat.reduceEqDiff, ↓reduceIte, true_and, and_true])  | with_reducible refine And.intro ?_ ?_ | omega | ((first | refine fcall_data (hA) rfl ?_ | refine YR_intro (acall_data (hA) rfl) ?_); simp only [go_sem, seval, Option.getD_some, and_true, true_and, and_self, List.contains_cons, List.contains_nil, Bool.or_false, Bool.or_true]) | ((first | refine fcall_free rfl rfl (hR) ?_ | refine YR_intro (acall_free rfl rfl (hR)) ?_); simp only [go_sem, seval, Option.getD_some, and_true, true_and, and_self, List.contains_cons, List.contains_nil, Bool.or_false, Bool.or_true]))
     rw [sk]
     refine gB ?_
     refine ⟨k + 1,  by omega, by omega, .inl ⟨by simp only [leS, Nat.reduceEqDiff, ↓reduceIte, true_and, and_true]; omega,  rfl⟩⟩
    ·obtain rfl : k = n := by omega
     rw [wrM_row]
     refine ats_exit (lq_x ?_)
     refine gB ?_
     refine ⟨j + 1,  by omega, by omega, .inl ⟨by simp only [leS, Nat.reduceEqDiff, ↓reduceIte, true_and, and_true]; omega,  rfl⟩⟩
   ·obtain rfl : j = n := by omega
    rw [wrM_end]
    refine ats_exit (lq_x ?_)
    refine gC fun K hK => ?_
    try simp only [hlm]
    (repeat refine aI (hb := ?_))
    refine hK _ ?_; clear hK K
    refine gB ?_
    refine ⟨some (0 + 1), ⟨by omega, by omega⟩, by show j - (0 + 1) < j + 1; omega, .inl ⟨?_, ?_⟩⟩
    ·simp only [SlotsLe, St.get, slotGet, Nat.reduceEqDiff, ↓reduceIte, AV.int.injEq, true_and, and_true]
     omega
    ·dsimp only
     rw [cubP_succ]
     try rfl
  ·omega
 | some i =>
  dsimp only at hq ⊢
  refine gB ?_
  refine gI (fun hli => ?_) fun hli => ?_
  ·have z1 := z0 i
   have hlm := cubP_len (n := n) (f := f) (i := i)
   refine ats_skip ?_
   (repeat refine ats_seq ?_); refine ats_block ?_
   refine gB ?_
   refine gC fun K hK => ?_
   (repeat refine aI (hb := ?_))
   refine fcall_own rfl (hz) rfl ?_; simp only [go_sem, seval]
   (repeat refine aI (hb := ?_))
   refine hK _ ?_; clear hK K
   rw [z1]
   refine gB ?_
   (repeat refine ats_seq ?_); refine ats_loop (fun j : Nat => ⟨[(0, .l1 o), (1, .int m), (2, .fn 60 [.cptr [.l2 pq] 0, .cptr [.l1 o, .int m, .nil] 0]), (6, .bptr 0 0), (7, .bptr 2 0), (8, .int n), (9, .int i), (10, .ref 6 []), (19, .int n), (20, .int i), (26, .int n), (27, .int j)], [(6, .t2 (wrM n (f i) g j 0)), (1, .t1 o), (0, .bx [.nil, .int 0, .nil]), (2, .bx [.ref 1 [], .int m, .ref 5 []]), (5, .t3 (cubP n f i))]⟩) (fun j => j ≤ n) (fun j => n - j) 0 (Nat.zero_le _) (by refine And.intro ?_ rfl; simp only [leS, Nat.reduceEqDiff, ↓reduceIte, true_and, and_true]; repeat' (first | rfl | with_reducible refine And.intro ?_ ?_ | omega)) (fun j hj => ?_)
   refine gB ?_
   refine gI (fun hlj => ?_) fun hlj => ?_
   ·refine ats_skip ?_
    (repeat refine ats_seq ?_); refine ats_block ?_
    refine gB ?_
    refine gB ?_
    (repeat refine ats_seq ?_); refine ats_loop (fun k : Nat => ⟨[(0, .l1 o), (1, .int m), (2, .fn 60 [.cptr [.l2 pq] 0, .cptr [.l1 o, .int m, .nil] 0]), (6, .bptr 0 0), (7, .bptr 2 0), (8, .int n), (9, .int i), (10, .ref 6 []), (11, .int j), (19, .int n), (20, .int i), (26, .int n), (27, .int j), (30, .int n), (31, .int k)], [(6, .t2 (wrM n (f i) g j k)), (1, .t1 o), (0, .bx [.nil, .int 0, .nil]), (2, .bx [.ref 1 [], .int m, .ref 5 []]), (5, .t3 (cubP n f i))]⟩) (fun k => k ≤ n) (fun k => n - k) 0 (Nat.zero_le _) (by refine And.intro ?_ rfl; simp only [leS, Nat.reduceEqDiff, ↓reduceIte, true_and, and_true]; repeat' (first | rfl | with_reducible refine And.intro ?_ ?_ | omega)) (fun k hk => ?_)
    refine gB ?_
    refine gI (fun hlk => ?_) fun hlk => ?_
    ·have l1 := wrM_len (n := n) (f := f i) (g := g) (i := j) (j := k)
     have l2 := wrM_l2 (n := n) (f := f i) (g := g) (i := j) (j := k) (x := j) (by omega)
     have hA := cobK1_ok n o m pq hp hN g8 m1 m2 hc i j k (by omega) (by omega) (by omega)
     have bK := cbR_bd hp hN hc (show i < n by omega) (show j < n by omega) (show k < n by omega)
     obtain ⟨K, eK⟩ : ∃ K, cbR o pq i j k = K := ⟨_, rfl⟩
     rw [eK] at hA bK
     have hR := rest_ok o m (cubP n f i) K m1 m2
     have ev : K % m = f i j k := by rw [ef, ← eK]; rfl
     have b1 := Int.emod_nonneg K (show m ≠ 0 by omega)
     have b2 := Int.emod_lt_of_pos K (show 0 < m by omega)
     rw [ev] at hR b1 b2
     have sk := wrM_set (n := n) (f := f i) (g := g) (i := j) (j := k) (by omega)
     refine ats_skip ?_
     (repeat refine ats_seq ?_); refine ats_block ?_
     refine gB ?_
     (repeat refine ats_seq ?_)
     refine ats_plan [] (.one 0 (.one 1 (.one 2 (.one 3 (.one 4 (.one 5 (.one 6 (.one 7 (.one 8 (.one 9 (.one 10 (.one 11 (.one 12 (.alt 13 .fin .stop)))))))))))))) ⟨[(0, .l1 o), (1, .int m), (2, .fn 60 [.cptr [.l2 pq] 0, .cptr [.l1 o, .int m, .nil] 0]), (6, .bptr 0 0), (7, .bptr 2 0), (8, .int n), (9, .int i), (10, .ref 6 []), (11, .int j), (19, .int n), (20, .int i), (26, .int n), (27, .int j), (30, .int n), (31, .int k)], [(6, .t2 ((wrM n (f i) g j k).set j (((wrM n (f i) g j k).getD j []).set k (f i j k)))), (1, .t1 o), (0, .bx [.nil, .int 0, .nil]), (2, .bx [.ref 1 [], .int m, .ref 5 []]), (5, .t3 (cubP n f i))]⟩ (fix0 hcx) mixed (by kernel_rfl) (fun K hK => ?_) ?_
     ·simp only [go_sem, seval, Option.getD_some, and_true, true_and, and_self, List.contains_cons, List.contains_nil, Bool.or_false, Bool.or_true]
      repeat' (first | exact hK _ (by refine And.intro ?_ rfl; simp only [leS, Nat.reduceEqDiff, ↓reduceIte, true_and, and_true])  | with_reducible refine And.intro ?_ ?_ | omega | ((first | refine fcall_data (hA) rfl ?_ | refine YR_intro (acall_data (hA) rfl) ?_); simp only [go_sem, seval, Option.getD_some, and_true, true_and, and_self, List.contains_cons, List.contains_nil, Bool.or_false, Bool.or_true]) | ((first | refine fcall_free rfl rfl (hR) ?_ | refine YR_intro (acall_free rfl rfl (hR)) ?_); simp only [go_sem, seval, Option.getD_some, and_true, true_and, and_self, List.contains_cons, List.contains_nil, Bool.or_false, Bool.or_true]))
     rw [sk]
     refine gB ?_
     refine ⟨k + 1,  by omega, by omega, .inl ⟨by simp only [leS, Nat.reduceEqDiff, ↓reduceIte, true_and, and_true]; omega,  rfl⟩⟩
    ·obtain rfl : k = n := by omega
     rw [wrM_row]
     refine ats_exit (lq_x ?_)
     refine gB ?_
     refine ⟨j + 1,  by omega, by omega, .inl ⟨by simp only [leS, Nat.reduceEqDiff, ↓reduceIte, true_and, and_true]; omega,  rfl⟩⟩
   ·obtain rfl : j = n := by omega
    rw [wrM_end]
    refine ats_exit (lq_x ?_)
    refine gC fun K hK => ?_
    try simp only [hlm]
    (repeat refine aI (hb := ?_))
    refine hK _ ?_; clear hK K
    refine gB ?_
    refine ⟨some (i + 1), ⟨by omega, by omega⟩, by show j - (i + 1) < j - i; omega, .inl ⟨?_, ?_⟩⟩
    ·simp only [SlotsLe, St.get, slotGet, Nat.reduceEqDiff, ↓reduceIte, AV.int.injEq, true_and, and_true]
     omega
    ·dsimp only
     rw [cubP_succ]
     try rfl
  ·obtain rfl : i = n := by omega
   rw [cubP_end]
   refine ats_exit (lq_x ?_)
   refine gB ?_
   exact ats_ret (ownC (v := .agg [.ref 1 [], .int m, .ref 5 []]) (by simp only [go_sem, seval]) rfl (by simp))
theorem coboundary_ok (o : List Int) (m : Int) (n : Nat) (q : List (List Int)) (hp : PosO o) (h8 : prodO o ≤ 8) (hN : (n : Int) = prodO o) (m1 : 1 ≤ m) (m2 : m ≤ 1000) (hq : GridB n m q) (hl : o.length ≤ 1048576) : FreshCall Try.prog 28 [.l1 o, .int m, .l2 q] (.agg [.l1 o, .int m, .l3 (cobW o m n q)]) := by
 have n1 := prodO_pos hp
 have hg : gsz o = n := by
  unfold gsz
  rw [if_pos (bd_true hp)]
  unfold min17
  rw [if_pos (by omega)]
  exact hN.symm
 have hC := cocycleByK_ok n o m q hp hg hN (by omega) (by omega) m1 m2 hq hl
 refine FreshCall.intro (n := 15) (rs := [.cell 6 30]) Try.call28 Try.func28 rfl rfl rfl (by simp only [List.length_cons, List.length_nil]; omega) (fun cx hcx => ats_of ?_); simp only [argSlots, Nat.zero_add, Nat.reduceAdd]
 refine gB ?_
 refine gB ?_
 refine gC fun K hK => ?_
 (repeat refine aI (hb := ?_))
 refine fcall_own rfl (hC) rfl ?_; simp only [go_sem, seval]
 (repeat refine aI (hb := ?_))
 refine hK _ ?_; clear hK K
 exact ats_ret (ownC (v := .agg [.ref 3 [], .int m, .ref 4 []]) (by simp only [go_sem, seval]) rfl (by simp))
noncomputable def cbCode (o : List Int) (m : Int) (q : List (List Int)) : Int :=
 if bd (PosO o) = true then (if prodO o ≤ 8 then (if 1 ≤ m ∧ m ≤ 1000 ∧ bd (PairB (prodO o).toNat m q) = true then 0 else 2) else 3) else 1
noncomputable def cbA (o : List Int) (m : Int) (q : List (List Int)) : AV :=
 if cbCode o m q = 0 then .tup [.agg [.l1 o, .int m, .l3 (cobW o m (prodO o).toNat q)], .int 0] else .tup [.agg [.l1 [], .int 0, .l3 []], .int (cbCode o m q)]
theorem cbA_no {o : List Int} {m : Int} {q : List (List Int)} {c : Int} (h : cbCode o m q = c) (hc : c ≠ 0) : AvLe (.tup [.agg [.nil, .int 0, .nil], .int c]) (cbA o m q) := by
 unfold cbA
 rw [h, if_neg hc]
 exact avLe_tup (avsLe_cons (avLe_agg (avsLe_cons avLe_nil1 (avsLe_cons (avLe_rfl (.int 0)) (avsLe_cons avLe_nil3 (avsLe_rfl _))))) (avsLe_rfl _))
theorem cbA_yes {o : List Int} {m : Int} {q : List (List Int)} (h : cbCode o m q = 0) : cbA o m q = .tup [.agg [.l1 o, .int m, .l3 (cobW o m (prodO o).toNat q)], .int 0] := if_pos h
end Go.Proofs.Ytcmgjlgmajhekaa
namespace Go.Proofs.Ytcmgjlgmajhekaa
open Go Go.Aw Go.Pl
attribute [local go_sem] pl_fin pl_stop pl_one pl_alt PK_ap pickO List.getElem?_toArray List.getElem?_cons_zero List.getElem?_cons_succ
theorem rkmF_ok (x : List Int) (k : Nat) (h : k < x.length) : PureCall Try.prog 67 [.l1 x, .cptr [.int (k : Int)] 0] (.bool (decide (x.getD k 0 ≠ 0))) := by
 refine PureCall.intro (n := 9) (rs := [.tmp 3]) Try.call67 Try.func67 rfl rfl rfl (by simp only [List.length_cons, List.length_nil]; omega) (fun cx hcx => ats_of ?_); simp only [argSlots, Nat.zero_add, Nat.reduceAdd]
 refine gB ?_
 refine gC fun K hK => ?_
 (repeat refine aI (hb := ?_))
 refine hK _ ?_; clear hK K
 refine ats_ret (finB rfl ?_)
 simp
theorem rkG_full {p : Int} {m : Nat} {G : Nat → Nat → Int} {c : Nat} (h : (rkG p m G c).2 = m) : ∀ j, (rkG p m G (c + j)).2 = m
 | 0 => h
 | j + 1 => by
  have ih := rkG_full h j
  show (stpB p m (rkG p m G (c + j)) (c + j)).2 = m
  unfold stpB
  rw [ih, Nat.sub_self]
  show (if m < m then _ else _ : (Nat → Nat → Int) × Nat).2 = m
  rw [if_neg (Nat.lt_irrefl m)]
  exact ih
theorem rkG_one {p : Int} {n : Nat} {G : Nat → Nat → Int} (hz : ∀ k, k < n → G 0 k = 0) : ∀ c, c ≤ n → rkG p 1 G c = (G, 0)
 | 0, _ => rfl
 | c + 1, hc => by
  show stpB p 1 (rkG p 1 G c) c = (G, 0)
  rw [rkG_one hz c (by omega)]
  unfold stpB
  have e : fndF G c (1 - 0) 0 = 1 := by
   show (if G 0 c = 0 then fndF G c 0 (0 + 1) else 0) = 1
   rw [if_pos (hz c (by omega))]
   rfl
  rw [if_neg]
  show ¬ fndF G c (1 - 0) 0 < 1
  omega
theorem tm_two {p V : Int} (h : 1 ≤ p) : -p < V.tmod p ∧ V.tmod p < p := ⟨by have := Int.lt_tmod_of_pos V (show 0 < p by omega); omega, Int.tmod_lt_of_pos V (by omega)⟩
set_option maxHeartbeats 16000000 in
theorem rankM_ok (p : Int) (n : Nat) (A : List (List Int)) (hp : SmP p) (hL : ∀ k, k < A.length → Lst p n (A.getD k [])) (hn1 : 1 ≤ n) (hn : n ≤ 1000) (hm : A.length ≤ 1000) (h1 : A.length = 1 → ∀ k, k < n → e2 A 0 k = 0) : PureCall Try.prog 39 [.l2 A, .int p] (.int (rkB p n A)) := by
 have h2 := hp.two
 have hC : ∀ i, i < A.length → FreshCall Try.prog 65 [.l1 (A.getD i [])] (.l1 (A.getD i [])) := fun i hi => by
  have h := (hL i hi).1
  exact bClone_ok _ (by omega) (by omega)
 have hlA : ∀ i, i < A.length → (A.getD i []).length = n := fun i hi => (hL i hi).1
 have ent : ∀ i, i < A.length → ∀ k, k < n → 0 ≤ e2 A i k ∧ e2 A i k < p := fun i hi k hk => (hL i hi).2 k hk
 have eA : A = matF A.length n (e2 A) := by
  refine (List.ext_getElem (by rw [matF_length]) fun i h3 h4 => ?_)
  have e1 : (matF A.length n (e2 A)).getD i [] = rowF n (e2 A i) := matF_get h3
  rw [List.getD_eq_getElem?_getD, List.getElem?_eq_getElem h4] at e1
  have e3 : rowF n (e2 A i) = A.getD i [] := rowF_own (hlA i h3)
  rw [e3, List.getD_eq_getElem?_getD, List.getElem?_eq_getElem h3] at e1
  exact e1.symm
 unfold rkB
 generalize e2 A = G0 at *
 obtain ⟨m, em⟩ : ∃ m, A.length = m := ⟨_, rfl⟩
 rw [em] at ent eA hm hC hlA h1 ⊢
 obtain ⟨pvn, hPn⟩ := rkG_P hp ent n (Nat.le_refl _)
 have hdn := hPn.dm
 refine PureCall.intro (n := 141) (rs := [.tmp 4]) Try.call39 Try.func39 rfl rfl rfl (by simp only [List.length_cons, List.length_nil]; omega) (fun cx hcx => ats_of ?_); simp only [argSlots, Nat.zero_add, Nat.reduceAdd]
 refine gB ?_
 refine gB ?_
 refine gB ?_
 (repeat refine ats_seq ?_); refine ats_loop (fun i : Nat => ⟨[(1, .int p), (5, .int 0), (6, .ref 0 []), (17, .l2 A), (18, .int m), (19, .int i)], [(0, .t2 (A.take i))]⟩) (fun i => i ≤ m) (fun i => m - i) 0 (Nat.zero_le _) (by refine And.intro ?_ rfl; simp only [leS, Nat.reduceEqDiff, ↓reduceIte, true_and, and_true]; repeat' (first | rfl | with_reducible refine And.intro ?_ ?_ | omega)) (fun i hi => ?_)
 have lt : (A.take i).length = i := by rw [List.length_take]; omega
 refine gB ?_
 refine gI (fun hc2 => ?_) fun hc2 => ?_
 ·have hi' : i < m := by omega
  have hCi := hC i hi'
  have hli := hlA i hi'
  have st := take_snoc (xs := A) (d := []) (k := i) (by omega)
  refine ats_skip ?_
  (repeat refine ats_seq ?_); refine ats_block ?_
  refine gB ?_
  refine gC fun K hK => ?_
  refine fcall_own rfl (hCi) rfl ?_; simp only [go_sem, seval]
  (repeat refine aI (hb := ?_))
  refine hK _ ?_; clear hK K
  refine gB ?_
  refine ⟨i + 1,  by omega, by omega, .inl ⟨by simp only [leS, Nat.reduceEqDiff, ↓reduceIte, true_and, and_true]; omega,  by rw [st]⟩⟩
 ·obtain rfl : i = m := by omega
  rw [List.take_of_length_le (by omega)]
  by_cases hm0 : i = 0
  ·subst hm0
   have hd0 : (rkG p 0 G0 n).2 = 0 := by omega
   have eA0 : A = [] := List.length_eq_zero_iff.1 em
   rw [hd0, eA0]
   refine ats_exit (lq_x ?_)
   refine gB ?_
   (repeat refine ats_seq ?_); refine AT.ghost (st' := ⟨[(1, .int p), (5, .int 0), (6, .ref 0 []), (9, .bptr 1 0)], [(0, .t2 []), (1, .bx [.int 0])]⟩) (ghost_can [] (by simp only [rnLs, rnL, rn, rns, sw, SlotsLe, St.get, slotGet, List.map_cons, List.map_nil, seval, AV.int.injEq, AV.bool.injEq, AV.l1.injEq, AV.l2.injEq, AV.l3.injEq, true_and, and_true]) (by simp only [sortH, insH, rnHs, rnH, rnT, rn, rns, sw, List.map_cons, List.map_nil, seval])) ?_
   (repeat refine ats_seq ?_)
   refine ats_upto ⟨[(5, .int 0)], []⟩ ?_ ?_
   ·(repeat refine ats_seq ?_); refine ats_loop (fun k : Nat => ⟨[(1, .int p), (5, .int 0), (6, .ref 0 []), (9, .bptr 1 0)], [(0, .t2 []), (1, .bx [.int 0])]⟩) (fun k => k ≤ 0) (fun k => 0 - k) 0 (Nat.zero_le _) (by refine And.intro ?_ rfl; simp only [leS, Nat.reduceEqDiff, ↓reduceIte, true_and, and_true]; repeat' (first | rfl | with_reducible refine And.intro ?_ ?_ | omega)) (fun k hk => ?_)
    (repeat refine ats_seq ?_); refine ats_pick (fix0 hcx) mixed (by kernel_rfl) fun K hK => ?_; simp only [go_sem, seval]; (repeat refine aI (hb := ?_)); refine hK _ ?_; clear hK K
    refine gI (fun hh => ?_) fun hh => ?_
    ·simp at hh
    ·refine ats_exit (lq_x ?_)
     refine ats_nil ?_; refine Or.inl ⟨rfl, ghost_trans (ghost_drop [0, 1]) (ghost_can [] (by simp only [killL, killA, killAs, qOf, rmT, killH, killT, List.filter_cons, List.filter_nil, List.contains_cons, List.contains_nil, Bool.or_false, Bool.or_true, Bool.false_and, Bool.not_true, Bool.not_false, Bool.false_eq_true, if_true, if_false, rnLs, rnL, rn, rns, sw, SlotsLe, St.get, slotGet, List.map_cons, List.map_nil, seval, AV.int.injEq, AV.bool.injEq, AV.l1.injEq, AV.l2.injEq, AV.l3.injEq, true_and, and_true]) (by simp only [killL, killA, killAs, qOf, rmT, killH, killT, List.filter_cons, List.filter_nil, List.contains_cons, List.contains_nil, Bool.or_false, Bool.or_true, Bool.false_and, Bool.not_true, Bool.not_false, Bool.false_eq_true, if_true, if_false, sortH, insH, rnHs, rnH, rnT, rn, rns, sw, List.map_cons, List.map_nil, seval]))⟩
   refine gB ?_
   refine ats_ret (finI rfl ?_)
   rfl
  ·rw [eA]
   clear hC hlA
   refine ats_exit (lq_x ?_)
   refine gB ?_
   (repeat refine ats_seq ?_); refine AT.ghost (st' := ⟨[(1, .int p), (5, .int 0), (6, .ref 0 []), (9, .bptr 1 0)], [(0, .t2 (matF i n G0)), (1, .bx [.int 0])]⟩) (ghost_can [] (by simp only [rnLs, rnL, rn, rns, sw, SlotsLe, St.get, slotGet, List.map_cons, List.map_nil, seval, AV.int.injEq, AV.bool.injEq, AV.l1.injEq, AV.l2.injEq, AV.l3.injEq, true_and, and_true]) (by simp only [sortH, insH, rnHs, rnH, rnT, rn, rns, sw, List.map_cons, List.map_nil, seval])) ?_
   (repeat refine ats_seq ?_)
   obtain ⟨R, eR⟩ : ∃ R : Int, R = (((rkG p i G0 n).2 : Nat) : Int) := ⟨_, rfl⟩
   rw [← eR]
   refine ats_upto ⟨[(5, .int R)], []⟩ ?_ ?_
   ·refine ats_loop (fun c : Nat => ⟨[(1, .int p), (5, .int ((rkG p i G0 c).2 : Nat)), (6, .ref 0 []), (9, .bptr 1 0)], [(0, .t2 (matF i n (rkG p i G0 c).1)), (1, .bx [.int c])]⟩) (fun c => c ≤ n) (fun c => n - c) 0 (Nat.zero_le _) ⟨by
     simp only [SlotsLe, St.get, slotGet, Nat.reduceEqDiff, ↓reduceIte, true_and, and_true]
     first | rfl | exact ⟨rfl, rfl⟩ | trivial, rfl⟩ (fun c hc => ?_)
    obtain ⟨pv, hP⟩ := rkG_P hp ent c hc
    have hstep : rkG p i G0 (c + 1) = stpB p i (rkG p i G0 c) c := rfl
    have hful : c < n → (rkG p i G0 (c + 1)).2 = i → (rkG p i G0 n).2 = i := fun h1 h2 => by
     have := rkG_full h2 (n - (c + 1))
     rwa [show c + 1 + (n - (c + 1)) = n by omega] at this
    have hone : i = 1 → rkG p i G0 c = (G0, 0) := fun e => by
     have hz := h1 e
     rw [e]
     exact rkG_one hz c hc
    obtain ⟨s, es⟩ : ∃ s, rkG p i G0 c = s := ⟨_, rfl⟩
    rw [es] at hP hstep hone ⊢
    obtain ⟨G, d⟩ := s
    have hdm : d ≤ i := hP.dm
    have hE : ∀ x, x < i → ∀ k, k < n → 0 ≤ G x k ∧ G x k < p := hP.rng
    clear hP pv
    have lM := matF_length i n G
    have r0 : (matF i n G).getD 0 [] = rowF n (G 0) := matF_get (by omega)
    have l0 := rowF_length n (G 0)
    have mpos : ((0 : Int) < (i : Int)) = True := eq_true (by omega)
    try dsimp only
    (repeat refine ats_seq ?_); refine ats_pick (fix0 hcx) mixed (by kernel_rfl) fun K hK => ?_; simp only [go_sem, seval, lM, r0, l0, mpos, decide_true, Bool.true_and]
    (repeat refine aI (hb := ?_))
    refine hK _ ?_; clear hK K
    refine gI (fun hk2 => ?_) fun hk2 => ?_
    ·have hcn : c < n := by omega
     obtain ⟨f1, f2, f3, f4⟩ := fndF_fact G c (i - d) d
     have hgs : stpB p i (G, d) c = if fndF G c (i - d) d < i then (elB p (swF G d (fndF G c (i - d) d)) d c (inP p (G (fndF G c (i - d) d) c)), d + 1) else (G, d) := rfl
     rw [hgs] at hstep
     generalize fndF G c (i - d) d = F at *
     have ldr : ((matF i n G).drop d).length = i - d := by rw [List.length_drop, lM]
     have gdr : ∀ x, x < i - d → ((matF i n G).drop d).getD x [] = rowF n (G (d + x)) := fun x hx => by
      have e1 : ((matF i n G).drop d).getD x [] = (matF i n G).getD (d + x) [] := by
       rw [List.getD_eq_getElem?_getD, List.getD_eq_getElem?_getD, List.getElem?_drop]
      rw [e1, matF_get (by omega)]
     have hIx := idxV_ok ((matF i n G).drop d) 67 [.cptr [.int (c : Int)] 0] (fun x => decide (x.getD c 0 ≠ 0)) rfl (fun x hx => by
      rw [ldr] at hx
      rw [gdr x hx]
      exact rkmF_ok _ c (by rw [rowF_length]; exact hcn)) (F - d) (by rw [ldr]; omega) (fun x hx => by
      rw [gdr x (by omega), rowF_get hcn]
      rw [f3 (d + x) (by omega) (by omega)]
      rfl) (fun hx => by
      rw [ldr] at hx
      rw [gdr _ hx, rowF_get hcn, show d + (F - d) = F by omega]
      exact decide_eq_true (f4 (by omega)))
     rw [ldr] at hIx
     have tkd : ((matF i n G).take i).drop d = (matF i n G).drop d := by rw [List.take_of_length_le (by omega)]
     refine ats_skip ?_
     (repeat refine ats_seq ?_); refine ats_block ?_
     rw [← tkd] at hIx
     (repeat refine ats_seq ?_); refine ats_go (fix0 hcx) fun K hK => ?_; simp only [go_sem, seval, lM]
     (repeat refine aI (hb := ?_))
     first | refine fcall_free rfl rfl (hIx) ?_ | refine YR_intro (acall_free rfl rfl (hIx)) ?_
     simp only [go_sem, seval]
     refine hK _ ?_; clear hK K
     by_cases hF : F < i
     ·rw [if_pos (by omega)]
      rw [if_pos hF] at hstep
      have dF : ((F - d : Nat) : Int) = (F : Int) - d := by omega
      refine gB ?_
      refine gI (fun hc5 => ?_) fun hc5 => ?_
      ·omega
      ·refine ats_skip ?_
       obtain ⟨G1, eG1⟩ : ∃ G1, swF G d F = G1 := ⟨_, rfl⟩
       have dlt : d < i := by omega
       have rd : (matF i n G).getD d [] = rowF n (G d) := matF_get dlt
       have rF : (matF i n G).getD F [] = rowF n (G F) := matF_get hF
       have eDF : (d : Int) + ((F - d : Nat) : Int) = (F : Int) := by omega
       obtain ⟨j, g, hj, hjd, hcase, sw⟩ : ∃ (j : Nat) (g : Nat → Int), j < i ∧ j ≠ d ∧ (F = d ∧ g = G j ∨ F = j ∧ g = G d) ∧ ((matF i n G).set d (rowF n (G F))).set j (rowF n g) = matF i n G1 := by
        by_cases he : F = d
        ·obtain ⟨j, hj, hjd⟩ : ∃ j, j < i ∧ j ≠ d := by
          by_cases e1 : i = 1
          ·have h3 := congrArg Prod.fst (hone e1)
           have h4 := h1 e1 c hcn
           have h5 := f4 (by omega)
           dsimp only at h3
           rw [h3, show F = 0 by omega] at h5
           exact absurd h4 h5
          ·by_cases e2 : d = 0
           ·exact ⟨1, by omega, by omega⟩
           ·exact ⟨0, by omega, by omega⟩
         refine ⟨j, G j, hj, hjd, .inl ⟨he, rfl⟩, ?_⟩
         rw [matF_srow, matF_srow, ← eG1]
         refine matF_congr fun x _ y _ => ?_
         unfold swF
         rw [he]
         by_cases e1 : x = j
         ·rw [if_pos e1, e1, if_neg hjd, if_neg hjd]
         ·rw [if_neg e1]
          by_cases e2 : x = d
          ·rw [if_pos e2, if_pos e2]
          ·rw [if_neg e2, if_neg e2, if_neg e2]
        ·refine ⟨F, G d, hF, he, .inr ⟨rfl, rfl⟩, ?_⟩
         rw [matF_srow, matF_srow, ← eG1]
         refine matF_congr fun x _ y _ => ?_
         unfold swF
         by_cases e1 : x = d
         ·rw [if_pos e1, if_neg (by omega), if_pos e1]
         ·rw [if_neg e1]
          by_cases e2 : x = F
          ·rw [if_pos e2, if_pos e2, if_neg e1]
          ·rw [if_neg e2, if_neg e2, if_neg e1]
       have rj : (matF i n G).getD j [] = rowF n (G j) := matF_get hj
       have hne1 : (j = d) = False := eq_false hjd
       have hne2 : (d = j) = False := eq_false (fun e => hjd e.symm)
       (repeat refine ats_seq ?_)
       refine ats_upto ⟨[(1, .int p), (5, .int d), (6, .ref 0 []), (9, .bptr 1 0)], [(0, .mx (matF i n G) d j (.ref 2 []) (.ref 3 [])), (1, .bx [.int c]), (2, .t1 (rowF n (G F))), (3, .t1 (rowF n g))]⟩ ?_ ?_
       ·rcases hcase with ⟨he, hg⟩ | ⟨he, hg⟩
        ·have eDF2 : (d : Int) + ((F - d : Nat) : Int) = (d : Int) := by omega
         rw [hg]
         (repeat refine ats_seq ?_); refine AT.ghost (ghost_mx 0 d j 2 3 rfl (by rw [lM]; exact dlt) (by rw [lM]; exact hj) (fun e => hjd e.symm) rfl rfl (by decide)) ?_; simp only [find, killL, killA, killAs, qOf, rmT, killH, killT, putT, List.map_cons, List.map_nil, List.filter_cons, List.filter_nil, List.contains_cons, List.contains_nil, List.isEmpty_nil, List.isEmpty_cons, Bool.or_false, Bool.or_true, Bool.false_and, Bool.true_and, Bool.and_false, Bool.and_true, Bool.not_true, Bool.not_false, Bool.false_eq_true, if_true, if_false, seval]
         rw [rd, rj, he]
         rw [he] at eDF2
         (repeat refine ats_seq ?_)
         refine ats_plan [] (.one 0 (.one 1 (.one 6 (.one 7 (.one 8 (.one 9 (.one 10 (.one 11 (.one 12 (.one 13 (.one 14 (.one 15 (.one 16 (.alt 2 (.alt 3 (.alt 4 (.alt 5 (.alt 17 (.one 18 (.alt 19 .fin .stop)) .stop) (.alt 17 (.one 5 (.one 18 (.alt 19 .fin .stop))) .stop)) (.alt 17 (.one 4 (.one 5 (.one 18 (.alt 19 .fin .stop)))) .stop)) (.alt 4 (.alt 3 (.alt 5 (.alt 17 (.one 18 (.alt 19 .fin .stop)) .stop) (.alt 17 (.one 5 (.one 18 (.alt 19 .fin .stop))) .stop)) (.alt 17 (.one 3 (.one 5 (.one 18 (.alt 19 .fin .stop)))) .stop)) (.alt 17 (.one 3 (.one 4 (.one 5 (.one 18 (.alt 19 .fin .stop))))) .stop))) (.alt 3 (.alt 2 (.alt 4 (.alt 5 (.alt 17 (.one 18 (.alt 19 .fin .stop)) .stop) (.alt 17 (.one 5 (.one 18 (.alt 19 .fin .stop))) .stop)) (.alt 17 (.one 4 (.one 5 (.one 18 (.alt 19 .fin .stop)))) .stop)) (.alt 4 (.alt 2 (.alt 5 (.alt 17 (.one 18 (.alt 19 .fin .stop)) .stop) (.alt 17 (.one 5 (.one 18 (.alt 19 .fin .stop))) .stop)) (.alt 5 (.alt 2 (.alt 17 (.one 18 (.alt 19 .fin .stop)) .stop) (.alt 17 (.one 2 (.one 18 (.alt 19 .fin .stop))) .stop)) (.alt 17 (.one 2 (.one 5 (.one 18 (.alt 19 .fin .stop)))) .stop))) (.alt 17 (.one 2 (.one 4 (.one 5 (.one 18 (.alt 19 .fin .stop))))) .stop))) (.alt 4 (.alt 2 (.alt 3 (.alt 5 (.alt 17 (.one 18 (.alt 19 .fin .stop)) .stop) (.alt 17 (.one 5 (.one 18 (.alt 19 .fin .stop))) .stop)) (.alt 17 (.one 3 (.one 5 (.one 18 (.alt 19 .fin .stop)))) .stop)) (.alt 3 (.alt 2 (.alt 5 (.alt 17 (.one 18 (.alt 19 .fin .stop)) .stop) (.alt 17 (.one 5 (.one 18 (.alt 19 .fin .stop))) .stop)) (.alt 5 (.alt 2 (.alt 17 (.one 18 (.alt 19 .fin .stop)) .stop) (.alt 17 (.one 2 (.one 18 (.alt 19 .fin .stop))) .stop)) (.alt 17 (.one 2 (.one 5 (.one 18 (.alt 19 .fin .stop)))) .stop))) (.alt 17 (.one 2 (.one 3 (.one 5 (.one 18 (.alt 19 .fin .stop))))) .stop))) (.alt 17 (.one 2 (.one 3 (.one 4 (.one 5 (.one 18 (.alt 19 .fin .stop)))))) .stop))))))))))))))))) ⟨[(1, .int p), (5, .int d), (6, .ref 0 []), (9, .bptr 1 0)], [(2, .t1 (rowF n (G d))), (3, .t1 (rowF n (G j))), (0, .mx (matF i n G) d j (.ref 2 []) (.ref 3 [])), (1, .bx [.int c])]⟩ (fix0 hcx) mixed (by kernel_rfl) (fun K hK => ?_) ?_
         ·simp only [go_sem, seval, Option.getD_some, and_true, true_and, and_self, List.contains_cons, List.contains_nil, Bool.or_false, Bool.or_true]
          repeat' (first | exact hK _ (by refine And.intro ?_ rfl; simp only [leS, Nat.reduceEqDiff, ↓reduceIte, true_and, and_true])  | with_reducible refine And.intro ?_ ?_ | omega | ((simp only [lM, eDF2, Int.toNat_natCast, hne2, if_true, if_false])) | (rfl) | ((simp only [true_or, or_true, hne2, if_true, if_false])))
         refine ats_nil ?_; refine Or.inl ⟨rfl, ghost_trans (ghost_drop []) (ghost_can [] (by simp only [killL, killA, killAs, qOf, rmT, killH, killT, List.filter_cons, List.filter_nil, List.contains_cons, List.contains_nil, Bool.or_false, Bool.or_true, Bool.false_and, Bool.not_true, Bool.not_false, Bool.false_eq_true, if_true, if_false, rnLs, rnL, rn, rns, sw, SlotsLe, St.get, slotGet, List.map_cons, List.map_nil, seval, AV.int.injEq, AV.bool.injEq, AV.l1.injEq, AV.l2.injEq, AV.l3.injEq, true_and, and_true]) (by simp only [killL, killA, killAs, qOf, rmT, killH, killT, List.filter_cons, List.filter_nil, List.contains_cons, List.contains_nil, Bool.or_false, Bool.or_true, Bool.false_and, Bool.not_true, Bool.not_false, Bool.false_eq_true, if_true, if_false, sortH, insH, rnHs, rnH, rnT, rn, rns, sw, List.map_cons, List.map_nil, seval]))⟩
        ·rw [hg, ← he]
         rw [← he] at hne1 hne2
         (repeat refine ats_seq ?_); refine AT.ghost (ghost_mx 0 d F 3 2 rfl (by rw [lM]; exact dlt) (by rw [lM]; exact hF) (fun e => hjd (he ▸ e.symm)) rfl rfl (by decide)) ?_; simp only [find, killL, killA, killAs, qOf, rmT, killH, killT, putT, List.map_cons, List.map_nil, List.filter_cons, List.filter_nil, List.contains_cons, List.contains_nil, List.isEmpty_nil, List.isEmpty_cons, Bool.or_false, Bool.or_true, Bool.false_and, Bool.true_and, Bool.and_false, Bool.and_true, Bool.not_true, Bool.not_false, Bool.false_eq_true, if_true, if_false, seval]
         rw [rd, rF]
         (repeat refine ats_seq ?_)
         refine ats_plan [] (.one 0 (.one 1 (.one 6 (.one 7 (.one 8 (.one 9 (.one 10 (.one 11 (.one 12 (.one 13 (.one 14 (.one 15 (.one 16 (.alt 2 (.alt 3 (.alt 4 (.alt 5 (.alt 17 (.one 18 (.alt 19 .fin .stop)) .stop) (.alt 17 (.one 5 (.one 18 (.alt 19 .fin .stop))) .stop)) (.alt 17 (.one 4 (.one 5 (.one 18 (.alt 19 .fin .stop)))) .stop)) (.alt 4 (.alt 3 (.alt 5 (.alt 17 (.one 18 (.alt 19 .fin .stop)) .stop) (.alt 17 (.one 5 (.one 18 (.alt 19 .fin .stop))) .stop)) (.alt 17 (.one 3 (.one 5 (.one 18 (.alt 19 .fin .stop)))) .stop)) (.alt 17 (.one 3 (.one 4 (.one 5 (.one 18 (.alt 19 .fin .stop))))) .stop))) (.alt 3 (.alt 2 (.alt 4 (.alt 5 (.alt 17 (.one 18 (.alt 19 .fin .stop)) .stop) (.alt 17 (.one 5 (.one 18 (.alt 19 .fin .stop))) .stop)) (.alt 17 (.one 4 (.one 5 (.one 18 (.alt 19 .fin .stop)))) .stop)) (.alt 4 (.alt 2 (.alt 5 (.alt 17 (.one 18 (.alt 19 .fin .stop)) .stop) (.alt 17 (.one 5 (.one 18 (.alt 19 .fin .stop))) .stop)) (.alt 5 (.alt 2 (.alt 17 (.one 18 (.alt 19 .fin .stop)) .stop) (.alt 17 (.one 2 (.one 18 (.alt 19 .fin .stop))) .stop)) (.alt 17 (.one 2 (.one 5 (.one 18 (.alt 19 .fin .stop)))) .stop))) (.alt 17 (.one 2 (.one 4 (.one 5 (.one 18 (.alt 19 .fin .stop))))) .stop))) (.alt 4 (.alt 2 (.alt 3 (.alt 5 (.alt 17 (.one 18 (.alt 19 .fin .stop)) .stop) (.alt 17 (.one 5 (.one 18 (.alt 19 .fin .stop))) .stop)) (.alt 17 (.one 3 (.one 5 (.one 18 (.alt 19 .fin .stop)))) .stop)) (.alt 3 (.alt 2 (.alt 5 (.alt 17 (.one 18 (.alt 19 .fin .stop)) .stop) (.alt 17 (.one 5 (.one 18 (.alt 19 .fin .stop))) .stop)) (.alt 5 (.alt 2 (.alt 17 (.one 18 (.alt 19 .fin .stop)) .stop) (.alt 17 (.one 2 (.one 18 (.alt 19 .fin .stop))) .stop)) (.alt 17 (.one 2 (.one 5 (.one 18 (.alt 19 .fin .stop)))) .stop))) (.alt 17 (.one 2 (.one 3 (.one 5 (.one 18 (.alt 19 .fin .stop))))) .stop))) (.alt 17 (.one 2 (.one 3 (.one 4 (.one 5 (.one 18 (.alt 19 .fin .stop)))))) .stop))))))))))))))))) ⟨[(1, .int p), (5, .int d), (6, .ref 0 []), (9, .bptr 1 0)], [(3, .t1 (rowF n (G d))), (2, .t1 (rowF n (G F))), (0, .mx (matF i n G) d F (.ref 2 []) (.ref 3 [])), (1, .bx [.int c])]⟩ (fix0 hcx) mixed (by kernel_rfl) (fun K hK => ?_) ?_
         ·simp only [go_sem, seval, Option.getD_some, and_true, true_and, and_self, List.contains_cons, List.contains_nil, Bool.or_false, Bool.or_true]
          repeat' (first | exact hK _ (by refine And.intro ?_ rfl; simp only [leS, Nat.reduceEqDiff, ↓reduceIte, true_and, and_true])  | with_reducible refine And.intro ?_ ?_ | omega | ((simp only [lM, eDF, Int.toNat_natCast, hne1, hne2, if_true, if_false])) | (rfl) | ((simp only [true_or, or_true, hne1, hne2, if_true, if_false])))
         refine ats_nil ?_; refine Or.inl ⟨rfl, ghost_trans (ghost_drop []) (ghost_can [] (by simp only [killL, killA, killAs, qOf, rmT, killH, killT, List.filter_cons, List.filter_nil, List.contains_cons, List.contains_nil, Bool.or_false, Bool.or_true, Bool.false_and, Bool.not_true, Bool.not_false, Bool.false_eq_true, if_true, if_false, rnLs, rnL, rn, rns, sw, SlotsLe, St.get, slotGet, List.map_cons, List.map_nil, seval, AV.int.injEq, AV.bool.injEq, AV.l1.injEq, AV.l2.injEq, AV.l3.injEq, true_and, and_true]) (by simp only [killL, killA, killAs, qOf, rmT, killH, killT, List.filter_cons, List.filter_nil, List.contains_cons, List.contains_nil, Bool.or_false, Bool.or_true, Bool.false_and, Bool.not_true, Bool.not_false, Bool.false_eq_true, if_true, if_false, sortH, insH, rnHs, rnH, rnT, rn, rns, sw, List.map_cons, List.map_nil, seval]))⟩
       (repeat refine ats_seq ?_); refine AT.ghost (ghost_xm 0 d j 2 3 rfl rfl rfl (by decide) (fun e => hjd e.symm)) ?_; simp only [find, killL, killA, killAs, qOf, rmT, killH, killT, putT, List.map_cons, List.map_nil, List.filter_cons, List.filter_nil, List.contains_cons, List.contains_nil, List.isEmpty_nil, List.isEmpty_cons, Bool.or_false, Bool.or_true, Bool.false_and, Bool.true_and, Bool.and_false, Bool.and_true, Bool.not_true, Bool.not_false, Bool.false_eq_true, if_true, if_false, seval]
       rw [sw]
       have hlz := f4 (by omega)
       have hle := hE F hF c hcn
       have E1 : ∀ x, x < i → ∀ k, k < n → 0 ≤ G1 x k ∧ G1 x k < p := fun x hx k hk => by
        rw [← eG1]
        unfold swF
        split
        ·exact hE F hF k hk
        ·split
         ·exact hE d dlt k hk
         ·exact hE x hx k hk
       have g1d : G1 d c = G F c := by rw [← eG1]; unfold swF; rw [if_pos rfl]
       obtain ⟨le, el⟩ : ∃ le, G F c = le := ⟨_, rfl⟩
       rw [el] at hle hlz g1d
       rw [eG1, el] at hstep
       obtain ⟨i1, i2, i3, i4, i5⟩ := inP_ok hp (d := le) (by omega) hle.2
       obtain ⟨v, ev⟩ : ∃ v, inP p le = v := ⟨_, rfl⟩
       rw [ev] at i1 i2 i3 i4 i5 hstep
       have lM1 := matF_length i n G1
       have rd1 : (matF i n G1).getD d [] = rowF n (G1 d) := matF_get dlt
       have ld1 := rowF_length n (G1 d)
       have ek1 : (rowF n (G1 d)).getD c 0 = le := by rw [rowF_get hcn, g1d]
       clear eG1 hIx tkd gdr ldr rd rF rj f3 f4 hgs hone sw hcase hne1 hne2
       refine gB ?_
       (repeat refine ats_seq ?_)
       (repeat refine ats_seq ?_); refine ats_loop (fun t : Nat => ⟨[(1, .int p), (5, .int d), (6, .ref 0 []), (9, .bptr 1 0), (11, .int t)], [(0, .t2 (matF i n G1)), (1, .bx [.int c])]⟩) (fun t => 1 ≤ t ∧ t ≤ v) (fun t => v - t) 1 ⟨Nat.le_refl _, i1⟩ (by
        refine And.intro ?_ rfl; simp only [leS, Nat.reduceEqDiff, ↓reduceIte, true_and, and_true]
        try rfl) (fun t ht => ?_)
       obtain ⟨t1, te⟩ := ht
       have tm := mul_tm (p := p) (e := t) (d := le) h2.1 h2.2 (by omega) (by omega) hle.1 hle.2
       obtain ⟨V, eV⟩ : ∃ V, (t : Int) * le = V := ⟨_, rfl⟩
       rw [eV] at tm
       have bV : 0 ≤ V % p ∧ V % p < p := ⟨Int.emod_nonneg _ (by omega), Int.emod_lt_of_pos _ (by omega)⟩
       (repeat refine ats_seq ?_); refine ats_pick (fix0 hcx) mixed (by kernel_rfl) fun K hK => ?_; simp only [go_sem, seval, lM1, rd1, ld1, ek1, eV, tm.1]
       (repeat refine aI (hb := ?_))
       refine hK _ ?_; clear hK K
       by_cases ht2 : t = v
       ·subst ht2
        rw [eV] at i4
        refine gI (fun hc3 => ?_) fun hc3 => ?_
        ·exact absurd i4 hc3
        ·have hs1 : matF i n G1 = matF i n (fun w => if w < d + 1 + 0 then elB p G1 d c t w else G1 w) := matF_congr fun w _ y _ => by
          split
          ·unfold elB; rw [if_neg (fun h => by omega)]
          ·rfl
         refine ats_exit (lq_x ?_)
         (repeat refine ats_seq ?_); refine ats_go (fix0 hcx) fun K hK => ?_; simp only [go_sem, seval, lM1]
         (repeat refine aI (hb := ?_))
         refine hK _ ?_; clear hK K
         rw [hs1]
         (repeat refine ats_seq ?_); refine ats_loop (fun x : Nat => ⟨[(1, .int p), (5, .int d), (6, .ref 0 []), (9, .bptr 1 0), (11, .int t), (84, .sub 0 [] (d + 1) i), (85, .int ((i - (d + 1) : Nat) : Int)), (86, .int x)], [(0, .t2 (matF i n (fun w => if w < d + 1 + x then elB p G1 d c t w else G1 w))), (1, .bx [.int c])]⟩) (fun x => x ≤ (i - (d + 1))) (fun x => (i - (d + 1)) - x) 0 (Nat.zero_le _) (by refine And.intro ?_ rfl; simp only [leS, Nat.reduceEqDiff, ↓reduceIte, true_and, and_true]; repeat' (first | rfl | with_reducible refine And.intro ?_ ?_ | omega)) (fun x hx => ?_)
         refine gB ?_
         refine gI (fun hx2 => ?_) fun hx2 => ?_
         ·obtain ⟨z, ez⟩ : ∃ z, d + 1 + x = z := ⟨_, rfl⟩
          have hzi : z < i := by omega
          obtain ⟨X, eX⟩ : ∃ X : Nat → Nat → Int, (fun w => if w < d + 1 + x then elB p G1 d c t w else G1 w) = X := ⟨_, rfl⟩
          have Xz : X z = G1 z := by rw [← eX]; exact if_neg (by omega)
          have Xd : X d = G1 d := by
           rw [← eX]
           dsimp only
           rw [if_pos (by omega)]
           funext y
           unfold elB
           rw [if_neg (fun h => by omega)]
          have nx : ∀ Y : Nat → Nat → Int, (∀ y, y < n → Y z y = elB p G1 d c t z y) → (∀ w, w ≠ z → Y w = X w) → matF i n Y = matF i n (fun w => if w < d + 1 + (x + 1) then elB p G1 d c t w else G1 w) := fun Y h1 h2 => by
           refine matF_congr fun w _ y hy => ?_
           by_cases e1 : w = z
           ·rw [e1, if_pos (by omega)]
            exact h1 y hy
           ·rw [h2 w e1, ← eX]
            dsimp only
            by_cases e2 : w < d + 1 + x
            ·rw [if_pos e2, if_pos (by omega)]
            ·rw [if_neg e2, if_neg (by omega)]
          rw [eX]
          have lX := matF_length i n X
          have rX : (matF i n X).getD z [] = rowF n (G1 z) := by rw [matF_get hzi, Xz]
          have lX2 := rowF_length n (G1 z)
          have gX : (rowF n (G1 z)).getD c 0 = G1 z c := rowF_get hcn
          have iX := E1 z hzi c hcn
          have tmx := mul_le7 (a := G1 z c) (b := (t : Int)) (by omega) (by omega) (by omega) (by omega)
          obtain ⟨W, eW⟩ : ∃ W, G1 z c * (t : Int) = W := ⟨_, rfl⟩
          rw [eW] at tmx
          obtain ⟨fc, efc⟩ : ∃ fc, W % p = fc := ⟨_, rfl⟩
          have bfc : 0 ≤ fc ∧ fc < p := by rw [← efc]; exact ⟨Int.emod_nonneg _ (by omega), Int.emod_lt_of_pos _ (by omega)⟩
          have eT : W.tmod p = fc := by rw [← efc]; exact Int.tmod_eq_emod_of_nonneg tmx.1
          have full : ∀ y, c ≤ y → elB p G1 d c t z y = (G1 z y - fc * G1 d y) % p := fun y hy => by
           unfold elB
           rw [if_pos ⟨by omega, hy⟩, eW, efc]
          have low : ∀ y, y < c → elB p G1 d c t z y = G1 z y := fun y hy => by
           unfold elB
           rw [if_neg (fun h => by omega)]
          refine ats_skip ?_
          (repeat refine ats_seq ?_); refine ats_block ?_
          (repeat refine ats_seq ?_); refine ats_go (fix0 hcx) fun K hK => ?_; simp only [go_sem, seval, lX, ez]
          (repeat refine aI (hb := ?_))
          refine hK _ ?_; clear hK K
          (repeat refine ats_seq ?_); refine ats_go (fix0 hcx) fun K hK => ?_; simp only [go_sem, seval, lX, rX, lX2, gX, eW, eT]
          (repeat refine aI (hb := ?_))
          refine hK _ ?_; clear hK K
          refine gB ?_
          have hs2 : matF i n X = matF i n (fun w y => if w = z ∧ y < c then elB p G1 d c t z y else X w y) := matF_congr fun w _ y _ => by
           split
           ·rename_i h
            rw [h.1, Xz, low y h.2]
           ·rfl
          rw [hs2]
          (repeat refine ats_seq ?_)
          (repeat refine ats_seq ?_); refine ats_loop (fun y : Nat => ⟨[(1, .int p), (5, .int d), (6, .ref 0 []), (9, .bptr 1 0), (11, .int t), (13, .ref 0 [z]), (14, .int fc), (15, .int y), (84, .sub 0 [] (d + 1) i), (85, .int ((i - (d + 1) : Nat) : Int)), (86, .int x)], [(0, .t2 (matF i n (fun w k => if w = z ∧ k < y then elB p G1 d c t z k else X w k))), (1, .bx [.int c])]⟩) (fun y => c ≤ y ∧ y ≤ n) (fun y => n - y) c ⟨Nat.le_refl _, by omega⟩ (by
           refine And.intro ?_ rfl; simp only [leS, Nat.reduceEqDiff, ↓reduceIte, true_and, and_true]
           try rfl) (fun y hy => ?_)
          obtain ⟨yc, yn⟩ := hy
          obtain ⟨Y, eY⟩ : ∃ Y : Nat → Nat → Int, (fun w k => if w = z ∧ k < y then elB p G1 d c t z k else X w k) = Y := ⟨_, rfl⟩
          have lY := matF_length i n Y
          have rY : (matF i n Y).getD z [] = rowF n (Y z) := matF_get hzi
          have lY1 := rowF_length n (Y z)
          have fin : (fc = 0 ∨ y = n) → matF i n Y = matF i n (fun w => if w < d + 1 + (x + 1) then elB p G1 d c t w else G1 w) := fun h => by
           refine nx Y (fun k hk => ?_) (fun w hw => by
            rw [← eY]; funext k; exact if_neg (fun h => hw h.1))
           rw [← eY]
           dsimp only
           by_cases c1 : k < y
           ·rw [if_pos ⟨rfl, c1⟩]
           ·rw [if_neg (fun h => c1 h.2), Xz, full k (by omega)]
            rcases h with h | h
            ·have := E1 z hzi k hk
             rw [h, Int.zero_mul, Int.sub_zero, Int.emod_eq_of_lt this.1 this.2]
            ·omega
          rw [eY]
          by_cases hz : fc = 0
          ·have hz' : (fc = 0) = True := eq_true hz
           (repeat refine ats_seq ?_); refine ats_go (fix0 hcx) fun K hK => ?_; simp only [go_sem, seval, hz', decide_true, Bool.not_true, Bool.false_and]
           (repeat refine aI (hb := ?_))
           refine hK _ ?_; clear hK K
           refine gI (fun hc11 => ?_) fun hc11 => ?_
           ·simp at hc11
           ·rw [fin (.inl hz)]
            refine ats_exit (lq_x ?_)
            refine gB ?_
            refine ⟨x + 1,  by omega, by omega, .inl ⟨by simp only [leS, Nat.reduceEqDiff, ↓reduceIte, true_and, and_true]; omega,  rfl⟩⟩
          ·have hz' : (fc = 0) = False := eq_false hz
           (repeat refine ats_seq ?_); refine ats_go (fix0 hcx) fun K hK => ?_; simp only [go_sem, seval, hz', decide_false, Bool.not_false, Bool.true_and, lY, rY, lY1]
           (repeat refine aI (hb := ?_))
           refine hK _ ?_; clear hK K
           refine gI (fun hc11 => ?_) fun hc11 => ?_
           ·have hyn : y < n := by omega
            have rD : (matF i n Y).getD d [] = rowF n (Y d) := matF_get dlt
            have lY2 := rowF_length n (Y d)
            have gY : (rowF n (Y z)).getD y 0 = G1 z y := by
             rw [rowF_get hyn, ← eY]
             dsimp only
             rw [if_neg (by omega), Xz]
            have gD : (rowF n (Y d)).getD y 0 = G1 d y := by
             rw [rowF_get hyn, ← eY]
             dsimp only
             rw [if_neg (fun h => by omega), Xd]
            have j1 := E1 z hzi y hyn
            have j2 := E1 d dlt y hyn
            have mm := mul_le7 (a := fc) (b := G1 d y) (by omega) (by omega) (by omega) (by omega)
            have fy := full y yc
            obtain ⟨M, eM⟩ : ∃ M, fc * G1 d y = M := ⟨_, rfl⟩
            rw [eM] at mm fy
            obtain ⟨U, eU⟩ : ∃ U, G1 z y - M = U := ⟨_, rfl⟩
            rw [eU] at fy
            have tU := tm_two (p := p) (V := U) (by omega)
            have rU : (U.tmod p + p).tmod p = U % p := rest_eq (by omega)
            have sY : (matF i n Y).set z ((rowF n (Y z)).set y (U % p)) = matF i n (fun w k => if w = z ∧ k < y + 1 then elB p G1 d c t z k else X w k) := by
             rw [rowF_set, matF_srow]
             refine matF_congr fun w _ k _ => ?_
             by_cases e1 : w = z
             ·rw [if_pos e1]
              by_cases e2 : k = y
              ·rw [if_pos e2, if_pos ⟨e1, by omega⟩, e2, fy]
              ·rw [if_neg e2, ← eY]
               dsimp only
               rw [e1]
               by_cases e4 : k < y
               ·rw [if_pos ⟨rfl, e4⟩, if_pos ⟨rfl, by omega⟩]
               ·rw [if_neg (fun h => e4 h.2), if_neg (fun h => by have := h.2; omega)]
             ·rw [if_neg e1, ← eY]
              dsimp only
              rw [if_neg (fun h => e1 h.1), if_neg (fun h => e1 h.1)]
            have bU : 0 ≤ U % p ∧ U % p < p := ⟨Int.emod_nonneg _ (by omega), Int.emod_lt_of_pos _ (by omega)⟩
            refine ats_skip ?_
            (repeat refine ats_seq ?_); refine ats_block ?_
            (repeat refine ats_seq ?_); refine ats_pick (fix0 hcx) mixed (by kernel_rfl) fun K hK => ?_; simp only [go_sem, seval, lY, rY, rD, lY1, lY2, gY, gD, eM, eU, rU, sY]
            (repeat refine aI (hb := ?_))
            refine hK _ ?_; clear hK K
            refine gB ?_
            refine ⟨y + 1,  ⟨by omega, by omega⟩, by omega, .inl ⟨by simp only [leS, Nat.reduceEqDiff, ↓reduceIte, true_and, and_true]; omega,  rfl⟩⟩
           ·rw [fin (.inr (by omega))]
            refine ats_exit (lq_x ?_)
            refine gB ?_
            refine ⟨x + 1,  by omega, by omega, .inl ⟨by simp only [leS, Nat.reduceEqDiff, ↓reduceIte, true_and, and_true]; omega,  rfl⟩⟩
         ·obtain rfl : x = i - (d + 1) := by omega
          have hs3 : matF i n (fun w => if w < d + 1 + (i - (d + 1)) then elB p G1 d c t w else G1 w) = matF i n (elB p G1 d c t) := matF_congr fun w hw y _ => by rw [if_pos (by omega)]
          rw [hs3]
          have lM3 := matF_length i n (elB p G1 d c t)
          refine ats_exit (lq_x ?_)
          refine gB ?_
          (repeat refine ats_seq ?_); refine ats_go (fix0 hcx) fun K hK => ?_; simp only [go_sem, seval, lM3]
          (repeat refine aI (hb := ?_))
          refine hK _ ?_; clear hK K
          refine gI (fun hc12 => ?_) fun hc12 => ?_
          ·have hR : (d : Int) + 1 = R := by
            have e1 : (rkG p i G0 (c + 1)).2 = d + 1 := by rw [hstep]
            have := hful hcn (by omega)
            rw [eR, this]
            omega
           rw [hR]
           refine ats_exit (bq_o (by decide) (lq_x ?_))
           refine ats_nil ?_; refine Or.inl ⟨rfl, ghost_trans (ghost_drop [0, 1]) (ghost_can [] (by simp only [killL, killA, killAs, qOf, rmT, killH, killT, List.filter_cons, List.filter_nil, List.contains_cons, List.contains_nil, Bool.or_false, Bool.or_true, Bool.false_and, Bool.not_true, Bool.not_false, Bool.false_eq_true, if_true, if_false, rnLs, rnL, rn, rns, sw, SlotsLe, St.get, slotGet, List.map_cons, List.map_nil, seval, AV.int.injEq, AV.bool.injEq, AV.l1.injEq, AV.l2.injEq, AV.l3.injEq, true_and, and_true]) (by simp only [killL, killA, killAs, qOf, rmT, killH, killT, List.filter_cons, List.filter_nil, List.contains_cons, List.contains_nil, Bool.or_false, Bool.or_true, Bool.false_and, Bool.not_true, Bool.not_false, Bool.false_eq_true, if_true, if_false, sortH, insH, rnHs, rnH, rnT, rn, rns, sw, List.map_cons, List.map_nil, seval]))⟩
          ·refine ats_skip ?_
           refine gB ?_
           refine gB ?_
           (repeat refine ats_seq ?_); refine AT.ghost (st' := ⟨[(1, .int p), (5, .int ((d : Int) + 1)), (6, .ref 0 []), (9, .bptr 1 0)], [(0, .t2 (matF i n (elB p G1 d c t))), (1, .bx [.int c])]⟩) (ghost_trans (ghost_drop [1]) (ghost_can [(2, 1)] (by simp only [killL, killA, killAs, qOf, rmT, killH, killT, List.filter_cons, List.filter_nil, List.contains_cons, List.contains_nil, Bool.or_false, Bool.or_true, Bool.false_and, Bool.not_true, Bool.not_false, Bool.false_eq_true, if_true, if_false, rnLs, rnL, rn, rns, sw, SlotsLe, St.get, slotGet, List.map_cons, List.map_nil, seval, AV.int.injEq, AV.bool.injEq, AV.l1.injEq, AV.l2.injEq, AV.l3.injEq, true_and, and_true]) (by simp only [killL, killA, killAs, qOf, rmT, killH, killT, List.filter_cons, List.filter_nil, List.contains_cons, List.contains_nil, Bool.or_false, Bool.or_true, Bool.false_and, Bool.not_true, Bool.not_false, Bool.false_eq_true, if_true, if_false, sortH, insH, rnHs, rnH, rnT, rn, rns, sw, List.map_cons, List.map_nil, seval]))) ?_
           refine gB ?_
           refine ⟨c + 1,  by omega, by omega, .inl ⟨by simp only [leS, Nat.reduceEqDiff, ↓reduceIte, true_and, and_true]; (rw [hstep]; try (first | rfl | omega | simp)),  by first | (rw [hstep]; done) | (rw [hstep]; rfl)⟩⟩
       ·have := i5 t t1 (by omega)
        rw [eV] at this
        refine gI (fun hc3 => ?_) fun hc3 => ?_
        ·refine ats_skip ?_
         (repeat refine ats_seq ?_); refine ats_block ?_
         refine gB ?_
         refine ⟨t + 1,  ⟨by omega, by omega⟩, by omega, .inl ⟨by simp only [leS, Nat.reduceEqDiff, ↓reduceIte, true_and, and_true]; omega,  rfl⟩⟩
        ·first | exact absurd hc3 this | exact absurd (Classical.byContradiction fun hh => hc3 hh) this
     ·rw [if_neg hF] at hstep
      rw [if_neg (by omega)]
      refine gB ?_
      refine gI (fun hc5 => ?_) fun hc5 => ?_
      ·refine ats_exit (bq_x ?_)
       refine gB ?_
       refine gB ?_
       (repeat refine ats_seq ?_); refine AT.ghost (st' := ⟨[(1, .int p), (5, .int d), (6, .ref 0 []), (9, .bptr 1 0)], [(0, .t2 (matF i n G)), (1, .bx [.int c])]⟩) (ghost_trans (ghost_drop [1]) (ghost_can [(2, 1)] (by simp only [killL, killA, killAs, qOf, rmT, killH, killT, List.filter_cons, List.filter_nil, List.contains_cons, List.contains_nil, Bool.or_false, Bool.or_true, Bool.false_and, Bool.not_true, Bool.not_false, Bool.false_eq_true, if_true, if_false, rnLs, rnL, rn, rns, sw, SlotsLe, St.get, slotGet, List.map_cons, List.map_nil, seval, AV.int.injEq, AV.bool.injEq, AV.l1.injEq, AV.l2.injEq, AV.l3.injEq, true_and, and_true]) (by simp only [killL, killA, killAs, qOf, rmT, killH, killT, List.filter_cons, List.filter_nil, List.contains_cons, List.contains_nil, Bool.or_false, Bool.or_true, Bool.false_and, Bool.not_true, Bool.not_false, Bool.false_eq_true, if_true, if_false, sortH, insH, rnHs, rnH, rnT, rn, rns, sw, List.map_cons, List.map_nil, seval]))) ?_
       refine gB ?_
       refine ⟨c + 1,  by omega, by omega, .inl ⟨by simp only [leS, Nat.reduceEqDiff, ↓reduceIte, true_and, and_true]; (rw [hstep]; try (first | rfl | omega | simp)),  by first | (rw [hstep]; done) | (rw [hstep]; rfl)⟩⟩
      ·first | omega | exact absurd trivial hc5
    ·obtain rfl : c = n := by omega
     have hR : (d : Int) = R := by rw [eR, es]
     rw [hR]
     refine ats_exit (lq_x ?_)
     refine ats_nil ?_; refine Or.inl ⟨rfl, ghost_trans (ghost_drop [0, 1]) (ghost_can [] (by simp only [killL, killA, killAs, qOf, rmT, killH, killT, List.filter_cons, List.filter_nil, List.contains_cons, List.contains_nil, Bool.or_false, Bool.or_true, Bool.false_and, Bool.not_true, Bool.not_false, Bool.false_eq_true, if_true, if_false, rnLs, rnL, rn, rns, sw, SlotsLe, St.get, slotGet, List.map_cons, List.map_nil, seval, AV.int.injEq, AV.bool.injEq, AV.l1.injEq, AV.l2.injEq, AV.l3.injEq, true_and, and_true]) (by simp only [killL, killA, killAs, qOf, rmT, killH, killT, List.filter_cons, List.filter_nil, List.contains_cons, List.contains_nil, Bool.or_false, Bool.or_true, Bool.false_and, Bool.not_true, Bool.not_false, Bool.false_eq_true, if_true, if_false, sortH, insH, rnHs, rnH, rnT, rn, rns, sw, List.map_cons, List.map_nil, seval]))⟩
   ·refine gB ?_
    refine ats_ret (finI rfl ?_)
    rfl
end Go.Proofs.Ytcmgjlgmajhekaa
namespace Go.Proofs.Ytcmgjlgmajhekaa
open Go Go.Aw Go.Pl
theorem growJ_ok (n : Nat) (h1 : 1 ≤ n) (h2 : n ≤ 1048576) : FreshCall Try.prog 78 [.nil, .int (n : Int)] (.l1 []) := by
 refine FreshCall.intro (n := 27) (rs := [.tmp 4]) Try.call78 Try.func78 rfl rfl rfl (by simp only [List.length_cons, List.length_nil]; omega) (fun cx hcx => ats_of ?_); simp only [argSlots, Nat.zero_add, Nat.reduceAdd]
 refine gB ?_
 refine gB ?_
 refine gI (fun hc0 => ?_) fun hc0 => ?_
 ·omega
 ·refine ats_skip ?_
  refine gB ?_
  refine gB ?_
  refine gI (fun hc => ?_) fun hc => ?_
  ·refine gB ?_
   refine ats_cutT 0 0 (t' := .t1 []) rfl rfl rfl rfl ?_
   refine gB ?_
   exact ats_ret (ownV (is := [0]) rfl ⟨rfl, trivial⟩ rfl (by simp))
  ·first | omega | simp_all
theorem concatJ_ok (m : List (List Int)) (h1 : 1 ≤ m.flatten.length) (h2 : m.flatten.length ≤ 1000000) (hl : m.length ≤ 1000) : FreshCall Try.prog 68 [.l2 m] (.l1 m.flatten) := by
 have hg := growJ_ok m.flatten.length h1 (by omega)
 have hpart : ∀ i, i < m.length → (m.take (i + 1)).flatten = (m.take i).flatten ++ m.getD i [] := by
  intro i hi
  rw [take_snoc (d := []) hi, List.flatten_append]; simp
 have hle : ∀ i, (m.take i).flatten.length ≤ 1000000 := by
  intro i
  have := congrArg (fun l => l.flatten.length) (List.take_append_drop i m)
  simp only [List.flatten_append, List.length_append] at this
  omega
 refine FreshCall.intro (n := 36) (rs := [.tmp 2]) Try.call68 Try.func68 rfl rfl rfl (by simp only [List.length_cons, List.length_nil]; omega) (fun cx hcx => ats_of ?_); simp only [argSlots, Nat.zero_add, Nat.reduceAdd]
 refine gB ?_
 refine gB ?_
 refine gB ?_
 (repeat refine ats_seq ?_); refine ats_loop (fun i : Nat => ⟨[(0, .l2 m), (3, .int ((m.take i).flatten.length : Nat)), (9, .l2 m), (10, .int m.length), (11, .int i)], []⟩) (fun i => i ≤ m.length) (fun i => m.length - i) 0 (Nat.zero_le _) (by refine And.intro ?_ rfl; simp only [leS, Nat.reduceEqDiff, ↓reduceIte, true_and, and_true]; repeat' (first | rfl | with_reducible refine And.intro ?_ ?_ | omega)) (fun i hi => ?_)
 refine gB ?_
 refine gI (fun hc2 => ?_) fun hc2 => ?_
 ·refine ats_skip ?_
  (repeat refine ats_seq ?_); refine ats_block ?_
  have hi' : i < m.length := by omega
  have e1 := congrArg List.length (hpart i hi')
  rw [List.length_append] at e1
  have e2 := hle i
  have e3 := hle (i + 1)
  refine gB ?_
  refine gB ?_
  refine gB ?_
  refine gI (fun hc3 => ?_) fun hc3 => ?_
  ·omega
  ·refine ats_skip ?_
   refine gB ?_
   refine ⟨i + 1,  by omega, by omega, .inl ⟨by simp only [leS, Nat.reduceEqDiff, ↓reduceIte, true_and, and_true]; (first | omega | (refine ⟨?_, ?_⟩ <;> omega)),  rfl⟩⟩
 ·refine ats_exit (lq_x ?_)
  obtain rfl : i = m.length := by omega
  rw [List.take_length]
  refine gC fun K hK => ?_
  refine fcall_own rfl (hg) rfl ?_; simp only [go_sem, seval]
  refine hK _ ?_; clear hK K
  refine gB ?_
  (repeat refine ats_seq ?_); refine ats_loop (fun i : Nat => ⟨[(6, .ref 0 []), (25, .l2 m), (26, .int m.length), (27, .int i)], [(0, .t1 (m.take i).flatten)]⟩) (fun i => i ≤ m.length) (fun i => m.length - i) 0 (Nat.zero_le _) (by refine And.intro ?_ rfl; simp only [leS, Nat.reduceEqDiff, ↓reduceIte, true_and, and_true]; repeat' (first | rfl | with_reducible refine And.intro ?_ ?_ | omega)) (fun i hi => ?_)
  refine gB ?_
  refine gI (fun hc4 => ?_) fun hc4 => ?_
  ·refine ats_skip ?_
   (repeat refine ats_seq ?_); refine ats_block ?_
   have hi' : i < m.length := by omega
   have e0 := (hpart i hi').symm
   have e1 := congrArg List.length (hpart i hi')
   rw [List.length_append] at e1
   have e2 := hle i
   have e3 := hle (i + 1)
   refine gB ?_
   (repeat refine ats_seq ?_); refine ats_go (fix0 hcx) fun K hK => ?_; simp only [go_sem, seval, e0]
   (repeat refine aI (hb := ?_))
   refine hK _ ?_; clear hK K
   refine gB ?_
   refine ⟨i + 1,  by omega, by omega, .inl ⟨by simp only [leS, Nat.reduceEqDiff, ↓reduceIte, true_and, and_true]; omega,  rfl⟩⟩
  ·refine ats_exit (lq_x ?_)
   obtain rfl : i = m.length := by omega
   rw [List.take_length]
   refine gB ?_
   exact ats_ret (ownV (is := [0]) rfl ⟨rfl, trivial⟩ rfl (by simp))
theorem matF_flat {n : Nat} {f : Nat → Nat → Int} : ∀ y, (matF y n f).flatten.length = y * n
 | 0 => by rw [Nat.zero_mul]; rfl
 | y + 1 => by
  rw [matP_succ, List.flatten_append, List.length_append, matF_flat y, Nat.succ_mul]
  simp [rowF]
theorem flat_ok (o : List Int) (m : Int) (n : Nat) (w : List (List (List Int))) (hw : CubB n m w) (h1 : 1 ≤ n) (h8 : n ≤ 8) : FreshCall Try.prog 40 [.agg [.l1 o, .int m, .l3 w]] (.l1 (flF n (e3 w))) := by
 have lw := hw.1
 have e0 : ([] : List Int) = flT n (e3 w) 0 0 := flT_zero.symm
 refine FreshCall.intro (n := 20) (rs := [.tmp 2]) Try.call40 Try.func40 rfl rfl rfl (by simp only [List.length_cons, List.length_nil]; omega) (fun cx hcx => ats_of ?_); simp only [argSlots, Nat.zero_add, Nat.reduceAdd]
 refine gB ?_
 refine gB ?_
 rw [e0]
 (repeat refine ats_seq ?_); refine ats_go (fix0 hcx) fun K hK => ?_; simp only [go_sem, seval, lw]
 (repeat refine aI (hb := ?_))
 refine hK _ ?_; clear hK K
 (repeat refine ats_seq ?_); refine ats_loop (fun i : Nat => ⟨[(3, .ref 1 []), (8, .l3 w), (9, .int n), (10, .int i)], [(0, .bx [.l1 o, .int m, .l3 w]), (1, .t1 (flT n (e3 w) i 0))]⟩) (fun i => i ≤ n) (fun i => n - i) 0 (Nat.zero_le _) (by refine And.intro ?_ rfl; simp only [leS, Nat.reduceEqDiff, ↓reduceIte, true_and, and_true]; repeat' (first | rfl | with_reducible refine And.intro ?_ ?_ | omega)) (fun i hi => ?_)
 refine gB ?_
 refine gI (fun hc2 => ?_) fun hc2 => ?_
 ·have hi : i < n := by omega
  have mi : matF n n (e3 w i) = w.getD i [] := matF_own (hw.2 i hi)
  have li := hw.mat hi
  have lf : (w.getD i []).flatten.length = n * n := by rw [← mi]; exact matF_flat n
  have nn : 1 ≤ n * n ∧ n * n ≤ 64 := ⟨Nat.mul_le_mul h1 h1, Nat.mul_le_mul h8 h8⟩
  have hc := concatJ_ok (w.getD i []) (by omega) (by omega) (by omega)
  have st := flT_rows (n := n) (F := e3 w) (x := i) n (Nat.le_refl _)
  rw [mi, flT_mat] at st
  have hl := flT_le (F := e3 w) h8 (show i ≤ n by omega) (Nat.zero_le n)
  refine ats_skip ?_
  (repeat refine ats_seq ?_); refine ats_block ?_
  (repeat refine ats_seq ?_); refine ats_go (fix0 hcx) fun K hK => ?_; simp only [go_sem, seval, lw]
  (repeat refine aI (hb := ?_))
  refine hK _ ?_; clear hK K
  refine gC fun K hK => ?_
  first | refine fcall_fresh rfl (hc) ?_ | refine YR_intro (acall_fresh rfl (hc)) ?_
  simp only [go_sem, seval]
  simp only [go_sem, seval, st]
  (repeat refine aI (hb := ?_))
  refine hK _ ?_; clear hK K
  refine gB ?_
  refine ⟨i + 1,  by omega, by omega, .inl ⟨by simp only [leS, Nat.reduceEqDiff, ↓reduceIte, true_and, and_true]; omega,  rfl⟩⟩
 ·obtain rfl : i = n := by omega
  rw [flT_end]
  refine ats_exit (lq_x ?_)
  refine gB ?_
  exact ats_ret (ownV (is := [1]) rfl ⟨rfl, trivial⟩ rfl (by simp))
set_option maxHeartbeats 8000000 in
theorem coboundaries_ok (o : List Int) (p : Int) (n : Nat) (hp : PosO o) (h8 : prodO o ≤ 8) (hn : (n : Int) = prodO o) (p2 : 2 ≤ p) (p7 : p ≤ 1000) (hl : o.length ≤ 1048576) : FreshCall Try.prog 38 [.l1 o, .int p] (.l2 (bdL o p n)) := by
 have n8 : n ≤ 8 := by omega
 have n1 : 1 ≤ n := by have := prodO_pos hp; omega
 have hg : gsz o = n := by
  unfold gsz
  rw [if_pos (bd_true hp)]
  unfold min17
  rw [if_pos (by omega)]
  exact hn.symm
 have hS := groupSize_ok o
 rw [hg] at hS
 have hz := zeros_ok n n (by omega) (by omega)
 have e0 : ([] : List (List Int)) = bdP o p n (1 - 1) 0 := rfl
 have hCob : ∀ x y, FreshCall Try.prog 28 [.l1 o, .int p, .l2 (unM n x y)] (.agg [.l1 o, .int p, .l3 (cobW o p n (unM n x y))]) := fun x y =>
  coboundary_ok o p n (unM n x y) hp h8 hn (by omega) p7 (unM_B p2) hl
 have hFl : ∀ x y, FreshCall Try.prog 40 [.agg [.l1 o, .int p, .l3 (cobW o p n (unM n x y))]] (.l1 (flF n (cbV o p (unM n x y)))) := fun x y => by
  have := flat_ok o p n _ (cobW_B (o := o) (n := n) (f := unM n x y) (show 1 ≤ p by omega)) n1 n8
  unfold cobW at this ⊢
  rwa [cubF_e3] at this
 refine FreshCall.intro (n := 41) (rs := [.tmp 4]) Try.call38 Try.func38 rfl rfl rfl (by simp only [List.length_cons, List.length_nil]; omega) (fun cx hcx => ats_of ?_); simp only [argSlots, Nat.zero_add, Nat.reduceAdd]
 refine gB ?_
 refine gC fun K hK => ?_
 first | refine fcall_data (hS) rfl ?_ | refine YR_intro (acall_data (hS) rfl) ?_
 simp only [go_sem, seval]
 (repeat refine aI (hb := ?_))
 refine hK _ ?_; clear hK K
 refine gB ?_
 (repeat refine ats_seq ?_)
 rw [e0]
 (repeat refine ats_seq ?_); refine ats_loop (fun x : Nat => ⟨[(0, .l1 o), (1, .int p), (6, .int n), (5, .ref 0 []), (7, .int x)], [(0, .t2 (bdP o p n (x - 1) 0))]⟩) (fun x => 1 ≤ x ∧ x ≤ n) (fun x => n - x) 1 ⟨Nat.le_refl _, n1⟩ (by
  refine And.intro ?_ rfl; simp only [leS, Nat.reduceEqDiff, ↓reduceIte, true_and, and_true]
  try rfl) (fun x hx => ?_)
 obtain ⟨x1, xn⟩ := hx
 refine gB ?_
 refine gI (fun hc2 => ?_) fun hc2 => ?_
 ·have hxn : x < n := by omega
  refine ats_skip ?_
  (repeat refine ats_seq ?_); refine ats_block ?_
  refine gB ?_
  (repeat refine ats_seq ?_)
  (repeat refine ats_seq ?_); refine ats_loop (fun y : Nat => ⟨[(0, .l1 o), (1, .int p), (6, .int n), (5, .ref 0 []), (7, .int x), (8, .int y)], [(0, .t2 (bdP o p n (x - 1) (y - 1)))]⟩) (fun y => 1 ≤ y ∧ y ≤ n) (fun y => n - y) 1 ⟨Nat.le_refl _, n1⟩ (by
   refine And.intro ?_ rfl; simp only [leS, Nat.reduceEqDiff, ↓reduceIte, true_and, and_true]
   try rfl) (fun y hy => ?_)
  obtain ⟨y1, yn⟩ := hy
  refine gB ?_
  refine gI (fun hc4 => ?_) fun hc4 => ?_
  ·have hyn : y < n := by omega
   have um : (List.replicate n (List.replicate n (0 : Int))).set x (((List.replicate n (List.replicate n (0 : Int))).getD x []).set y 1) = unM n x y := by
    rw [zeros_matF, matF_set hxn]; rfl
   have lz : (List.replicate n (List.replicate n (0 : Int))).length = n := List.length_replicate ..
   have rz : (List.replicate n (List.replicate n (0 : Int))).getD x [] = List.replicate n 0 := by
    rw [List.getD_eq_getElem?_getD, List.getElem?_replicate, if_pos hxn]; rfl
   have lr : (List.replicate n (0 : Int)).length = n := List.length_replicate ..
   have hC := hCob x y
   have hF := hFl x y
   have st := bdP_row (o := o) (p := p) (n := n) (x := x - 1) (y := y - 1)
   rw [show x - 1 + 1 = x by omega, show y - 1 + 1 = y by omega] at st
   have bl := bdP_len (o := o) (p := p) (n := n) (x := x - 1) (y := y - 1) n8 (by omega) (by omega)
   rw [rz] at um
   refine ats_skip ?_
   (repeat refine ats_seq ?_); refine ats_block ?_
   refine gC fun K hK => ?_
   (repeat refine aI (hb := ?_))
   refine fcall_own rfl (hz) rfl ?_; simp only [go_sem, seval]
   (repeat refine aI (hb := ?_))
   refine hK _ ?_; clear hK K
   (repeat refine ats_seq ?_); refine ats_go (fix0 hcx) fun K hK => ?_; simp only [go_sem, seval, lz, rz, lr]
   (repeat refine aI (hb := ?_))
   refine hK _ ?_; clear hK K
   rw [um]
   refine gC fun K hK => ?_
   first | refine fcall_fresh rfl (hC) ?_ | refine YR_intro (acall_fresh rfl (hC)) ?_
   simp only [go_sem, seval]
   refine fcall_own rfl (hF) rfl ?_; simp only [go_sem, seval]
   (repeat refine aI (hb := ?_))
   refine hK _ ?_; clear hK K
   rw [st]
   refine gB ?_
   refine ⟨y + 1, ⟨by omega, by omega⟩, by omega, .inr ⟨[1], by simp only [killL, List.map_cons, List.map_nil, killA, killAs, qOf, rmT, killH, killT, List.filter_cons, List.filter_nil, List.contains_cons, List.contains_nil, SlotsLe, St.get, slotGet, Nat.reduceEqDiff, Nat.reduceBEq, Bool.or_false, Bool.or_true, Bool.false_and, Bool.not_true, Bool.not_false, Bool.false_eq_true, ↓reduceIte, if_true, if_false, AV.int.injEq, AV.bool.injEq, AV.l1.injEq, AV.l2.injEq, AV.l3.injEq, true_and, and_true]; omega, by simp only [killL, List.map_cons, List.map_nil, killA, killAs, qOf, rmT, killH, killT, List.filter_cons, List.filter_nil, List.contains_cons, List.contains_nil, SlotsLe, St.get, slotGet, Nat.reduceEqDiff, Nat.reduceBEq, Bool.or_false, Bool.or_true, Bool.false_and, Bool.not_true, Bool.not_false, Bool.false_eq_true, ↓reduceIte, if_true, if_false, AV.int.injEq, AV.bool.injEq, AV.l1.injEq, AV.l2.injEq, AV.l3.injEq, true_and, and_true]; (rw [show y + 1 - 1 = y by omega])⟩⟩
  ·obtain rfl : y = n := by omega
   refine ats_exit (lq_x ?_)
   rw [bdP_mat]
   refine gB ?_
   refine ⟨x + 1,  ⟨by omega, by omega⟩, by omega, .inl ⟨by simp only [leS, Nat.reduceEqDiff, ↓reduceIte, true_and, and_true]; omega,  by rw [show x + 1 - 1 = x - 1 + 1 by omega]⟩⟩
 ·obtain rfl : x = n := by omega
  refine ats_exit (lq_x ?_)
  refine gB ?_
  exact ats_ret (ownV (is := [0]) rfl ⟨rfl, trivial⟩ rfl (by simp))
end Go.Proofs.Ytcmgjlgmajhekaa
