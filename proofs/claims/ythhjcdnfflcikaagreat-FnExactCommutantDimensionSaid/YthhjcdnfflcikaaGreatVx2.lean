import Derived.Test.YthhjcdnfflcikaaGreatVx1
import Derived.Test.YthhjcdnfflcikaaGreatDz2
import Derived.Test.YthhjcdnfflcikaaGreatLib7
import Derived.Test.YthhjcdnfflcikaaGreatDz1
set_option linter.unusedSimpArgs false
set_option linter.unusedVariables false
namespace Go.Proofs.YthhjcdnfflcikaaGreat
open Go Go.Aw Go.Pl
theorem mdV_two (n : Int) : -55441 < n.tmod 55441 ∧ n.tmod 55441 < 55441 ∧ (n.tmod 55441 + 55441).tmod 55441 = n % 55441 := by
 have h1 := Int.tmod_lt_of_pos n (show (0 : Int) < 55441 by omega)
 have h2 := Int.lt_tmod_of_pos n (show (0 : Int) < 55441 by omega)
 have h3 := Int.tmod_add_mul_tdiv n 55441
 refine ⟨by omega, h1, ?_⟩
 rw [tmP (by omega)]
 omega
theorem l01ModV_ok (n : Int) (h1 : -10000000000 ≤ n) (h2 : n ≤ 10000000000) : PureCall Tryz.prog 12 [.int n] (.int (n % 55441)) := by
 obtain ⟨e1, e2, e⟩ := mdV_two n
 refine PureCall.intro (n := 7) (rs := [.tmp 2]) Tryz.call12 Tryz.func12 rfl rfl rfl (by simp only [List.length_cons, List.length_nil]; omega) (fun cx hcx => ats_of ?_); simp only [argSlots, Nat.zero_add, Nat.reduceAdd]
 refine gB ?_
 (repeat refine ats_seq ?_); refine ats_go (fix0 hcx) fun K hK => ?_; simp only [go_sem, seval, e]
 (repeat refine aI (hb := ?_))
 refine hK _ ?_; clear hK K
 refine ats_ret (finI rfl ?_)
 rfl
theorem modV_ok (n : Int) (h1 : -10000000000 ≤ n) (h2 : n ≤ 10000000000) : PureCall Tryz.prog 34 [.int n] (.int (n % 55441)) := by
 obtain ⟨e1, e2, e⟩ := mdV_two n
 refine PureCall.intro (n := 7) (rs := [.tmp 2]) Tryz.call34 Tryz.func34 rfl rfl rfl (by simp only [List.length_cons, List.length_nil]; omega) (fun cx hcx => ats_of ?_); simp only [argSlots, Nat.zero_add, Nat.reduceAdd]
 refine gB ?_
 (repeat refine ats_seq ?_); refine ats_go (fix0 hcx) fun K hK => ?_; simp only [go_sem, seval, e]
 (repeat refine aI (hb := ?_))
 refine hK _ ?_; clear hK K
 refine ats_ret (finI rfl ?_)
 rfl
theorem l01OwnR_ok (m : List (List Int)) (lm : m.length ≤ 1000) (hm : ∀ j, j < m.length → (m.getD j []).length ≤ 1000) : FreshCall Tryz.prog 28 [.l2 m] (.l2 m) := by
 refine FreshCall.intro (n := 21) (rs := [.tmp 2]) Tryz.call28 Tryz.func28 rfl rfl rfl (by simp only [List.length_cons, List.length_nil]; omega) (fun cx hcx => ats_of ?_); simp only [argSlots, Nat.zero_add, Nat.reduceAdd]
 refine gA ?_
 refine gA ?_
 refine gA ?_
 (repeat refine ats_seq ?_); refine ats_loop (fun i : Nat => ⟨[(0, .l2 m), (3, .ref 0 []), (4, .int i)], [(0, .t2 (m.take i))]⟩) (fun i => i ≤ m.length) (fun i => m.length - i) 0 (Nat.zero_le _) (by refine And.intro ?_ rfl; simp only [leS, Nat.reduceEqDiff, ↓reduceIte, true_and, and_true]; repeat' (first | rfl | with_reducible refine And.intro ?_ ?_ | omega)) (fun i hi => ?_)
 have lt : (m.take i).length = i := by rw [List.length_take]; omega
 refine gB ?_
 refine gI (fun h2 => ?_) fun h2 => ?_
 ·have ri := hm i (by omega)
  have ho := l01Own_ok (m.getD i []) (by omega)
  have st := take_snoc (xs := m) (d := []) (k := i) (by omega)
  refine ats_skip ?_
  (repeat refine ats_seq ?_); refine ats_block ?_
  refine gC fun K hK => ?_
  (repeat refine aI (hb := ?_))
  refine fcall_own rfl (ho) rfl ?_; simp only [go_sem, seval]
  (repeat refine aI (hb := ?_))
  refine hK _ ?_; clear hK K
  refine gB ?_
  refine ⟨i + 1,  by omega, by omega, .inl ⟨by simp only [leS, Nat.reduceEqDiff, ↓reduceIte, true_and, and_true]; omega,  by rw [st]⟩⟩
 ·obtain rfl : i = m.length := by omega
  rw [List.take_of_length_le (by omega)]
  refine ats_exit (lq_x ?_)
  refine gB ?_
  exact ats_ret (ownV (is := [0]) rfl ⟨rfl, trivial⟩ rfl (by simp))
theorem l02ScaleF_ok (n : Nat) (hn : n ≤ 1000) (a : Nat → Int) (ha : ∀ c, c < n → InP (a c)) (v : Int) (hv : InP v) : PureCall Tryz.prog 45 [.l1 (rowF n a), .int v] (.l1 (rowF n fun c => a c * v % 55441)) := by
 have l0 := rowF_length n a
 have eg : ∀ c, c < n → (rowF n a).getD c 0 = a c := fun c hc => rowF_get hc
 generalize rowF n a = A at *
 refine PureCall.intro (n := 25) (rs := [.tmp 4]) Tryz.call45 Tryz.func45 rfl rfl rfl (by simp only [List.length_cons, List.length_nil]; omega) (fun cx hcx => ats_of ?_); simp only [argSlots, Nat.zero_add, Nat.reduceAdd]
 refine gB ?_
 refine gB ?_
 refine gB ?_
 (repeat refine ats_seq ?_); refine ats_loop (fun i : Nat => ⟨[(0, .l1 A), (1, .int v), (5, .ref 0 []), (6, .int i)], [(0, .t1 (rowF i fun c => a c * v % 55441))]⟩) (fun i => i ≤ n) (fun i => n - i) 0 (Nat.zero_le _) (by refine And.intro ?_ rfl; simp only [leS, Nat.reduceEqDiff, ↓reduceIte, true_and, and_true]; repeat' (first | rfl | with_reducible refine And.intro ?_ ?_ | omega)) (fun i hi => ?_)
 have l1 := rowF_length i fun c => a c * v % 55441
 refine gB ?_
 refine gI (fun h2 => ?_) fun h2 => ?_
 ·have hi : i < n := by omega
  have mp := mulP (ha i hi) hv
  have e1 : (a i * v).tmod 55441 = a i * v % 55441 := tmP mp.1
  have b1 : 0 ≤ a i * v % 55441 ∧ a i * v % 55441 < 55441 := ⟨Int.emod_nonneg _ (by omega), Int.emod_lt_of_pos _ (by omega)⟩
  have st := rowF_succ (n := i) (f := fun c => a c * v % 55441)
  have eg := eg i hi
  refine ats_skip ?_
  (repeat refine ats_seq ?_); refine ats_block ?_
  (repeat refine ats_seq ?_); refine ats_go (fix0 hcx) fun K hK => ?_; simp only [go_sem, seval, eg, e1]
  (repeat refine aI (hb := ?_))
  refine hK _ ?_; clear hK K
  refine gB ?_
  refine ⟨i + 1, by omega, by omega, .inr ⟨[1], by simp only [killL, List.map_cons, List.map_nil, killA, killAs, qOf, rmT, killH, killT, List.filter_cons, List.filter_nil, List.contains_cons, List.contains_nil, SlotsLe, St.get, slotGet, Nat.reduceEqDiff, Nat.reduceBEq, Bool.or_false, Bool.or_true, Bool.false_and, Bool.not_true, Bool.not_false, Bool.false_eq_true, ↓reduceIte, if_true, if_false, AV.int.injEq, AV.bool.injEq, AV.l1.injEq, AV.l2.injEq, AV.l3.injEq, true_and, and_true]; omega, by simp only [killL, List.map_cons, List.map_nil, killA, killAs, qOf, rmT, killH, killT, List.filter_cons, List.filter_nil, List.contains_cons, List.contains_nil, SlotsLe, St.get, slotGet, Nat.reduceEqDiff, Nat.reduceBEq, Bool.or_false, Bool.or_true, Bool.false_and, Bool.not_true, Bool.not_false, Bool.false_eq_true, ↓reduceIte, if_true, if_false, AV.int.injEq, AV.bool.injEq, AV.l1.injEq, AV.l2.injEq, AV.l3.injEq, true_and, and_true]; rw [st]⟩⟩
 ·obtain rfl : i = n := by omega
  refine ats_exit (lq_x ?_)
  refine gB ?_
  exact ats_ret (finV rfl ⟨rfl, trivial⟩ rfl)
theorem l02PlusF_ok (n : Nat) (hn : n ≤ 1000) (a b : Nat → Int) (ha : ∀ c, c < n → InP (a c)) (hb : ∀ c, c < n → InP (b c)) (v : Int) (hv : InP v) : PureCall Tryz.prog 47 [.l1 (rowF n a), .l1 (rowF n b), .int v] (.l1 (rowF n fun c => (a c + v * b c) % 55441)) := by
 have l0 := rowF_length n a
 have l9 := rowF_length n b
 have eg : ∀ c, c < n → (rowF n a).getD c 0 = a c := fun c hc => rowF_get hc
 have eh : ∀ c, c < n → (rowF n b).getD c 0 = b c := fun c hc => rowF_get hc
 generalize rowF n a = A at *
 generalize rowF n b = B at *
 refine PureCall.intro (n := 32) (rs := [.tmp 6]) Tryz.call47 Tryz.func47 rfl rfl rfl (by simp only [List.length_cons, List.length_nil]; omega) (fun cx hcx => ats_of ?_); simp only [argSlots, Nat.zero_add, Nat.reduceAdd]
 refine gB ?_
 refine gB ?_
 refine gB ?_
 (repeat refine ats_seq ?_); refine ats_loop (fun i : Nat => ⟨[(0, .l1 A), (1, .l1 B), (2, .int v), (7, .ref 0 []), (8, .int i)], [(0, .t1 (rowF i fun c => (a c + v * b c) % 55441))]⟩) (fun i => i ≤ n) (fun i => n - i) 0 (Nat.zero_le _) (by refine And.intro ?_ rfl; simp only [leS, Nat.reduceEqDiff, ↓reduceIte, true_and, and_true]; repeat' (first | rfl | with_reducible refine And.intro ?_ ?_ | omega)) (fun i hi => ?_)
 have l1 := rowF_length i fun c => (a c + v * b c) % 55441
 refine gB ?_
 refine gI (fun h2 => ?_) fun h2 => ?_
 ·have hi : i < n := by omega
  have ap := ha i hi
  have mp := mulP hv (hb i hi)
  unfold InP at ap
  have e1 : (a i + v * b i).tmod 55441 = (a i + v * b i) % 55441 := tmP (by omega)
  have b1 : 0 ≤ (a i + v * b i) % 55441 ∧ (a i + v * b i) % 55441 < 55441 := ⟨Int.emod_nonneg _ (by omega), Int.emod_lt_of_pos _ (by omega)⟩
  have st := rowF_succ (n := i) (f := fun c => (a c + v * b c) % 55441)
  have eg := eg i hi
  have eh := eh i hi
  refine ats_skip ?_
  (repeat refine ats_seq ?_); refine ats_block ?_
  (repeat refine ats_seq ?_); refine ats_pickP [0, 1, 2, 3, 4, 5, 6, 7, 8, 9, 10, 11, 12, 13, 14, 15] (fix0 hcx) mixed (by kernel_rfl) fun K hK => ?_; simp only [pickL, pickO, List.map_cons, List.map_nil, List.getElem?_toArray, List.getElem?_cons_zero, List.getElem?_cons_succ, Option.getD_some]; simp only [go_sem, seval]
  simp only [eg, eh, e1, Int.toNat_natCast, l0, l9, l1]
  try simp (disch := omega) only [tmP, tdP]
  (repeat refine aI (hb := ?_))
  refine hK _ ?_; clear hK K
  refine gB ?_
  refine ⟨i + 1, by omega, by omega, .inr ⟨[1], by simp only [killL, List.map_cons, List.map_nil, killA, killAs, qOf, rmT, killH, killT, List.filter_cons, List.filter_nil, List.contains_cons, List.contains_nil, SlotsLe, St.get, slotGet, Nat.reduceEqDiff, Nat.reduceBEq, Bool.or_false, Bool.or_true, Bool.false_and, Bool.not_true, Bool.not_false, Bool.false_eq_true, ↓reduceIte, if_true, if_false, AV.int.injEq, AV.bool.injEq, AV.l1.injEq, AV.l2.injEq, AV.l3.injEq, true_and, and_true]; omega, by simp only [killL, List.map_cons, List.map_nil, killA, killAs, qOf, rmT, killH, killT, List.filter_cons, List.filter_nil, List.contains_cons, List.contains_nil, SlotsLe, St.get, slotGet, Nat.reduceEqDiff, Nat.reduceBEq, Bool.or_false, Bool.or_true, Bool.false_and, Bool.not_true, Bool.not_false, Bool.false_eq_true, ↓reduceIte, if_true, if_false, AV.int.injEq, AV.bool.injEq, AV.l1.injEq, AV.l2.injEq, AV.l3.injEq, true_and, and_true]; rw [st]⟩⟩
 ·obtain rfl : i = n := by omega
  refine ats_exit (lq_x ?_)
  refine gB ?_
  exact ats_ret (finV rfl ⟨rfl, trivial⟩ rfl)
theorem l02FirstF_ok (n : Nat) (hn : n ≤ 1000) (a : Nat → Int) (ha : ∀ c, c < n → InP (a c)) (k : Nat) (hk : k < n) (h0 : ∀ c, c < k → a c = 0) (h1 : a k ≠ 0) : PureCall Tryz.prog 26 [.l1 (rowF n a)] (.int (k : Int)) := by
 have l0 := rowF_length n a
 have eg : ∀ c, c < n → (rowF n a).getD c 0 = a c := fun c hc => rowF_get hc
 generalize rowF n a = A at *
 refine PureCall.intro (n := 16) (rs := [.tmp 2]) Tryz.call26 Tryz.func26 rfl rfl rfl (by simp only [List.length_cons, List.length_nil]; omega) (fun cx hcx => ats_of ?_); simp only [argSlots, Nat.zero_add, Nat.reduceAdd]
 refine gB ?_
 refine gB ?_
 (repeat refine ats_seq ?_); refine ats_loop (fun i : Nat => ⟨[(0, .l1 A), (3, .int i)], []⟩) (fun i => i ≤ k) (fun i => k - i) 0 (Nat.zero_le _) (by refine And.intro ?_ rfl; simp only [leS, Nat.reduceEqDiff, ↓reduceIte, true_and, and_true]; repeat' (first | rfl | with_reducible refine And.intro ?_ ?_ | omega)) (fun i hi => ?_)
 refine gB ?_
 refine gI (fun h2 => ?_) fun h2 => ?_
 ·have hi : i < n := by omega
  have eg := eg i hi
  have ap := ha i hi
  unfold InP at ap
  refine ats_skip ?_
  (repeat refine ats_seq ?_); refine ats_block ?_
  (repeat refine ats_seq ?_); refine ats_go (fix0 hcx) fun K hK => ?_; simp only [go_sem, seval, eg]
  (repeat refine aI (hb := ?_))
  refine hK _ ?_; clear hK K
  by_cases e : i = k
  ·subst e
   refine gI (fun h3 => ?_) fun h3 => ?_
   ·refine gB ?_
    refine ats_ret (finI rfl ?_)
    rfl
   ·exact absurd h3 h1
  ·have hz := h0 i (by omega)
   refine gI (fun h3 => ?_) fun h3 => ?_
   ·exact absurd hz h3
   ·refine ats_skip ?_
    refine gB ?_
    refine ⟨i + 1,  by omega, by omega, .inl ⟨by simp only [leS, Nat.reduceEqDiff, ↓reduceIte, true_and, and_true]; omega,  rfl⟩⟩
 ·omega
end Go.Proofs.YthhjcdnfflcikaaGreat
namespace Go.Proofs.YthhjcdnfflcikaaGreat
open Go Go.Aw Go.Pl
set_option maxHeartbeats 8000000 in
theorem l02BasisF_ok (n : Nat) (A : List (List Int)) (hA : RowsP n A) (hn : n ≤ 1000) (hm : A.length ≤ 1000) : PureCall Tryz.prog 25 [.l2 A] (.l2 (basL n A)) := by
 have hO := l01OwnR_ok A hm (fun j hj => by
  have h := hA (A.getD j []) (by simp [List.getD, hj])
  rw [h.1]; exact hn)
 have ent := rowsP_ent hA
 have eA := rowsP_mat hA
 unfold basL rkL
 generalize e2 A = G0 at *
 obtain ⟨m, em⟩ : ∃ m, A.length = m := ⟨_, rfl⟩
 rw [em] at ent eA hm ⊢
 obtain ⟨pvn, hPn⟩ := gj_P ent n (Nat.le_refl _)
 have hdn := hPn.dm
 by_cases hm0 : m = 0
 ·subst hm0
  have hd0 : (gj 0 G0 n).2 = 0 := by omega
  rw [hd0]
  rw [show A = [] from eA] at hO ⊢
  refine PureCall.intro (n := 99) (rs := [.tmp 2]) Tryz.call25 Tryz.func25 rfl rfl rfl (by simp only [List.length_cons, List.length_nil]; omega) (fun cx hcx => ats_of ?_); simp only [argSlots, Nat.zero_add, Nat.reduceAdd]
  refine gB ?_
  refine gC fun K hK => ?_
  refine fcall_own rfl (hO) rfl ?_; simp only [go_sem, seval]
  refine hK _ ?_; clear hK K
  refine gB ?_
  refine gB ?_
  (repeat refine ats_seq ?_)
  refine ats_upto ⟨[(3, .ref 0 []), (4, .int 0)], [(0, .t2 [])]⟩ ?_ ?_
  ·(repeat refine ats_seq ?_); refine ats_loop (fun k : Nat => ⟨[(3, .ref 0 []), (4, .int 0), (5, .int 0)], [(0, .t2 [])]⟩) (fun k => k ≤ 0) (fun k => 0 - k) 0 (Nat.zero_le _) (by refine And.intro ?_ rfl; simp only [leS, Nat.reduceEqDiff, ↓reduceIte, true_and, and_true]; repeat' (first | rfl | with_reducible refine And.intro ?_ ?_ | omega)) (fun k hk => ?_)
   refine gB ?_
   refine gI (fun hh => ?_) fun hh => ?_
   ·simp at hh
   ·refine ats_exit (lq_x ?_)
    refine ats_nil ?_; refine Or.inl ⟨rfl, ghost_trans (ghost_drop []) (ghost_can [] (by simp only [killL, killA, killAs, qOf, rmT, killH, killT, List.filter_cons, List.filter_nil, List.contains_cons, List.contains_nil, Bool.or_false, Bool.or_true, Bool.false_and, Bool.not_true, Bool.not_false, Bool.false_eq_true, if_true, if_false, rnLs, rnL, rn, rns, sw, SlotsLe, St.get, slotGet, List.map_cons, List.map_nil, seval, AV.int.injEq, AV.bool.injEq, AV.l1.injEq, AV.l2.injEq, AV.l3.injEq, true_and, and_true]) (by simp only [killL, killA, killAs, qOf, rmT, killH, killT, List.filter_cons, List.filter_nil, List.contains_cons, List.contains_nil, Bool.or_false, Bool.or_true, Bool.false_and, Bool.not_true, Bool.not_false, Bool.false_eq_true, if_true, if_false, sortH, insH, rnHs, rnH, rnT, rn, rns, sw, List.map_cons, List.map_nil, seval]))⟩
  refine gB ?_
  exact ats_ret (finV rfl ⟨rfl, trivial⟩ rfl)
 ·have tk : ((matF m n (gj m G0 n).1).take (gj m G0 n).2).drop 0 = matF (gj m G0 n).2 n (gj m G0 n).1 := by rw [matF_take hdn]; rfl
  rw [eA] at hO ⊢
  refine PureCall.intro (n := 99) (rs := [.tmp 2]) Tryz.call25 Tryz.func25 rfl rfl rfl (by simp only [List.length_cons, List.length_nil]; omega) (fun cx hcx => ats_of ?_); simp only [argSlots, Nat.zero_add, Nat.reduceAdd]
  refine gB ?_
  refine gC fun K hK => ?_
  refine fcall_own rfl (hO) rfl ?_; simp only [go_sem, seval]
  refine hK _ ?_; clear hK K
  (repeat refine ats_seq ?_); refine AT.ghost (ghost_r2 0 rfl) ?_; simp only [find, killL, killA, killAs, qOf, rmT, killH, killT, putT, List.map_cons, List.map_nil, List.filter_cons, List.filter_nil, List.contains_cons, List.contains_nil, List.isEmpty_nil, List.isEmpty_cons, Bool.or_false, Bool.or_true, Bool.false_and, Bool.true_and, Bool.and_false, Bool.and_true, Bool.not_true, Bool.not_false, Bool.false_eq_true, if_true, if_false, seval]
  refine gB ?_
  refine gB ?_
  (repeat refine ats_seq ?_); refine ats_loop (fun k : Nat => ⟨[(3, .ref 0 []), (4, .int ((gj m G0 k).2 : Nat)), (5, .int k)], [(0, .r2 (matF m n (gj m G0 k).1))]⟩) (fun k => k ≤ n) (fun k => n - k) 0 (Nat.zero_le _) (by refine And.intro ?_ rfl; simp only [leS, Nat.reduceEqDiff, ↓reduceIte, true_and, and_true]; repeat' (first | rfl | with_reducible refine And.intro ?_ ?_ | omega)) (fun k hk => ?_)
  obtain ⟨pv, hP⟩ := gj_P ent k hk
  have hstep : gj m G0 (k + 1) = gjS m (gj m G0 k) k := rfl
  obtain ⟨s, es⟩ : ∃ s, gj m G0 k = s := ⟨_, rfl⟩
  rw [es] at hP hstep ⊢
  obtain ⟨G, d⟩ := s
  have hdm : d ≤ m := hP.dm
  have hE : ∀ i, i < m → ∀ c, c < n → InP (G i c) := hP.ent
  have lM := matF_length m n G
  have r0 : (matF m n G).getD 0 [] = rowF n (G 0) := matF_get (by omega)
  have l0 := rowF_length n (G 0)
  have mpos : ((0 : Int) < (m : Int)) = True := eq_true (by omega)
  try dsimp only
  (repeat refine ats_seq ?_); refine ats_go (by first | exact fix0 hcx | exact fix1 hcx rfl) fun K hK => ?_; simp only [go_sem, seval, lM, r0, l0, mpos, decide_true, Bool.true_and]
  (repeat refine aI (hb := ?_))
  refine hK _ ?_; clear hK K
  refine gI (fun hk2 => ?_) fun hk2 => ?_
  ·obtain ⟨f1, f2, f3, f4⟩ := fndF_fact G k (m - d) d
   have hgs : gjS m (G, d) k = if fndF G k (m - d) d < m then (elimF G d k (fndF G k (m - d) d), d + 1) else (G, d) := rfl
   rw [hgs] at hstep
   generalize fndF G k (m - d) d = F at *
   have hkn : k < n := by omega
   refine ats_skip ?_
   (repeat refine ats_seq ?_); refine ats_block ?_
   refine gB ?_
   (repeat refine ats_seq ?_); refine ats_loop (fun j : Nat => ⟨[(3, .ref 0 []), (4, .int (d : Nat)), (5, .int k), (6, .int j)], [(0, .r2 (matF m n G))]⟩) (fun j => d ≤ j ∧ j ≤ F) (fun j => F - j) d ⟨Nat.le_refl _, f1⟩ (by
    refine And.intro ?_ rfl; simp only [leS, Nat.reduceEqDiff, ↓reduceIte, true_and, and_true]
    try rfl) (fun j hj => ?_)
   obtain ⟨j1, j2⟩ := hj
   by_cases hjm : j < m
   ·have rj : (matF m n G).getD j [] = rowF n (G j) := matF_get hjm
    have lj := rowF_length n (G j)
    have ej : (rowF n (G j)).getD k 0 = G j k := rowF_get hkn
    have pj := hE j hjm k hkn
    unfold InP at pj
    have jpos : ((j : Int) < (m : Int)) = True := eq_true (by omega)
    (repeat refine ats_seq ?_); refine ats_go (by first | exact fix0 hcx | exact fix1 hcx rfl) fun K hK => ?_; simp only [go_sem, seval, lM, rj, lj, ej, jpos, decide_true, Bool.true_and]
    (repeat refine aI (hb := ?_))
    refine hK _ ?_; clear hK K
    by_cases hz : G j k = 0
    ·have hjF : j < F := by
      rcases Nat.lt_or_ge j F with h | h
      ·exact h
      ·have : j = F := by omega
       subst this
       exact absurd hz (f4 (by omega))
     refine gI (fun hc => ?_) fun hc => ?_
     ·refine ats_skip ?_
      (repeat refine ats_seq ?_); refine ats_block ?_
      refine gB ?_
      refine ⟨j + 1,  ⟨by omega, by omega⟩, by omega, .inl ⟨by simp only [leS, Nat.reduceEqDiff, ↓reduceIte, true_and, and_true]; omega,  rfl⟩⟩
     ·exact absurd hz hc
    ·have hjF : j = F := by
      rcases Nat.lt_or_ge j F with h | h
      ·exact absurd (f3 j j1 h) hz
      ·omega
     refine gI (fun hc => ?_) fun hc => ?_
     ·exact absurd hc hz
     ·subst hjF
      have Fm : ¬ ((j : Int) = (m : Int)) := by omega
      rw [if_pos hjm] at hstep
      obtain ⟨v, ev⟩ : ∃ v, inv (G j k) = v := ⟨_, rfl⟩
      have hI := l01Inv_ok (G j k) ⟨by omega, by omega⟩
      have pv1 : InP v := by rw [← ev]; exact inv_InP ⟨by omega, by omega⟩
      rw [ev] at hI
      have hS := l02ScaleF_ok n hn (G j) (hE j hjm) v pv1
      have dlt : d < m := by omega
      have rd : (matF m n G).getD d [] = rowF n (G d) := matF_get dlt
      have st1 : (matF m n G).set j (rowF n (G d)) = matF m n (fun x => if x = j then G d else G x) := matF_srow
      obtain ⟨G2, eG2⟩ : ∃ G2, smF (swF G d j) d v = G2 := ⟨_, rfl⟩
      have st2 : (matF m n (fun x => if x = j then G d else G x)).set d (rowF n fun c => G j c * v % 55441) = matF m n G2 := by
       rw [matF_srow, ← eG2]
       refine matF_congr fun x _ c _ => ?_
       unfold smF swF
       by_cases e1 : x = d
       ·rw [if_pos e1, if_pos e1, if_pos rfl]
       ·rw [if_neg e1, if_neg e1, if_neg e1]
        by_cases e2 : x = j
        ·rw [if_pos e2, if_pos e2]
        ·rw [if_neg e2, if_neg e2]
      have R2 : ∀ c, G2 d c = G j c * v % 55441 := fun c => by
       rw [← eG2]; unfold smF swF; rw [if_pos rfl, if_pos rfl]
      have E2 : ∀ x, x < m → ∀ c, c < n → InP (G2 x c) := fun x hx c hc => by
       rw [← eG2]; unfold smF swF
       by_cases e1 : x = d
       ·rw [if_pos e1]; exact inP_md _
       ·rw [if_neg e1, if_neg e1]
        split
        ·exact hE d dlt c hc
        ·exact hE x hx c hc
      have eR : rowF n (fun c => G j c * v % 55441) = rowF n (G2 d) := rowF_congr fun c _ => (R2 c).symm
      have lM1 := matF_length m n (fun x => if x = j then G d else G x)
      have hst2 : elimF G d k j = rdF G2 d k := by unfold elimF; rw [ev, eG2]
      rw [hst2] at hstep
      refine ats_exit (lq_x ?_)
      (repeat refine ats_seq ?_); refine ats_go (by first | exact fix0 hcx | exact fix1 hcx rfl) fun K hK => ?_; simp only [go_sem, seval, lM]
      (repeat refine aI (hb := ?_))
      refine hK _ ?_; clear hK K
      refine gI (fun hc2 => ?_) fun hc2 => ?_
      ·exact absurd hc2 Fm
      ·refine ats_skip ?_
       (repeat refine ats_seq ?_); refine ats_go (by first | exact fix0 hcx | exact fix1 hcx rfl) fun K hK => ?_; simp only [go_sem, seval, rj, lM]
       (repeat refine aI (hb := ?_))
       refine hK _ ?_; clear hK K
       (repeat refine ats_seq ?_); refine ats_go (by first | exact fix0 hcx | exact fix1 hcx rfl) fun K hK => ?_; simp only [go_sem, seval, rd, st1, lM]
       (repeat refine aI (hb := ?_))
       refine hK _ ?_; clear hK K
       (repeat refine ats_seq ?_); refine ats_go (by first | exact fix0 hcx | exact fix1 hcx rfl) fun K hK => ?_; simp only [go_sem, seval, ej, lj]
       (repeat refine aI (hb := ?_))
       first | refine fcall_data (hI) rfl ?_ | refine YR_intro (acall_data (hI) rfl) ?_
       simp only [go_sem, seval]
       first | refine fcall_data (hS) rfl ?_ | refine YR_intro (acall_data (hS) rfl) ?_
       simp only [go_sem, seval]
       refine hK _ ?_; clear hK K
       (repeat refine ats_seq ?_); refine ats_go (by first | exact fix0 hcx | exact fix1 hcx rfl) fun K hK => ?_; simp only [go_sem, seval, st2, lM1]
       (repeat refine aI (hb := ?_))
       refine hK _ ?_; clear hK K
       rw [eR]
       refine gB ?_
       clear hI hS st1 st2 eR eG2 hst2 tk hO
       have lR := rowF_length n (G2 d)
       (repeat refine ats_seq ?_); refine ats_loop (fun i : Nat => ⟨[(3, .ref 0 []), (4, .int (d : Nat)), (5, .int k), (7, .l1 (rowF n (G2 d))), (8, .int i)], [(0, .r2 (matF m n (fun x => if x < i then rdF G2 d k x else G2 x)))]⟩) (fun i => i ≤ m) (fun i => m - i) 0 (Nat.zero_le _) (by refine And.intro ?_ rfl; simp only [leS, Nat.reduceEqDiff, ↓reduceIte, true_and, and_true]; repeat' (first | rfl | with_reducible refine And.intro ?_ ?_ | omega)) (fun i hi => ?_)
       have lM2 := matF_length m n (fun x => if x < i then rdF G2 d k x else G2 x)
       (repeat refine ats_seq ?_); refine ats_go (by first | exact fix0 hcx | exact fix1 hcx rfl) fun K hK => ?_; simp only [go_sem, seval, lM2]
       (repeat refine aI (hb := ?_))
       refine hK _ ?_; clear hK K
       refine gI (fun hi2 => ?_) fun hi2 => ?_
       ·have him : i < m := by omega
        have nx : ∀ g : Nat → Int, (∀ c, c < n → g c = rdF G2 d k i c) → (matF m n (fun x => if x < i then rdF G2 d k x else G2 x)).set i (rowF n g) = matF m n (fun x => if x < i + 1 then rdF G2 d k x else G2 x) := fun g hg => by
         rw [rowF_congr hg, matF_srow]
         refine matF_congr fun x _ c _ => ?_
         by_cases e1 : x = i
         ·rw [if_pos e1, if_pos (by omega), e1]
         ·rw [if_neg e1]
          by_cases e2 : x < i
          ·rw [if_pos e2, if_pos (by omega)]
          ·rw [if_neg e2, if_neg (by omega)]
        refine ats_skip ?_
        (repeat refine ats_seq ?_); refine ats_block ?_
        refine gB ?_
        by_cases hid : i = d
        ·refine gI (fun hc3 => ?_) fun hc3 => ?_
         ·exact absurd hid (by omega)
         ·refine ats_skip ?_
          refine gB ?_
          subst hid
          have hsame : matF m n (fun x => if x < i then rdF G2 i k x else G2 x) = matF m n (fun x => if x < i + 1 then rdF G2 i k x else G2 x) := by
           refine matF_congr fun x _ c _ => ?_
           by_cases e1 : x = i
           ·subst e1
            rw [if_neg (Nat.lt_irrefl _), if_pos (Nat.lt_succ_self _)]
            unfold rdF
            rw [if_pos rfl]
           ·by_cases e2 : x < i
            ·rw [if_pos e2, if_pos (by omega)]
            ·rw [if_neg e2, if_neg (by omega)]
          refine ⟨i + 1,  by omega, by omega, .inl ⟨by simp only [leS, Nat.reduceEqDiff, ↓reduceIte, true_and, and_true]; omega,  by rw [hsame]⟩⟩
        ·have ri : (matF m n (fun x => if x < i then rdF G2 d k x else G2 x)).getD i [] = rowF n (G2 i) := by
          rw [matF_get him]
          exact congrArg (rowF n) (if_neg (Nat.lt_irrefl i))
         have li := rowF_length n (G2 i)
         have ei : (rowF n (G2 i)).getD k 0 = G2 i k := rowF_get hkn
         have pi := E2 i him k hkn
         unfold InP at pi
         have hM := l01ModV_ok (0 - G2 i k) (by omega) (by omega)
         have hP2 := l02PlusF_ok n hn (G2 i) (G2 d) (E2 i him) (E2 d dlt) ((0 - G2 i k) % 55441) (inP_md _)
         have hnx := nx (fun c => (G2 i c + (0 - G2 i k) % 55441 * G2 d c) % 55441) fun c hc => by
          unfold rdF
          rw [if_neg hid, Int.add_emod, Int.mul_emod, Int.emod_emod, ← Int.mul_emod, ← Int.add_emod, Int.sub_mul, Int.zero_mul, Int.zero_sub, ← Int.sub_eq_add_neg]
         refine gI (fun hc3 => ?_) fun hc3 => ?_
         ·(repeat refine ats_seq ?_); refine ats_pick (fix0 hcx) mixed (by kernel_rfl) fun K hK => ?_; simp only [go_sem, seval, ri, li, ei, lM2]
          (repeat refine aI (hb := ?_))
          first | refine fcall_data (hM) rfl ?_ | refine YR_intro (acall_data (hM) rfl) ?_
          simp only [go_sem, seval]
          (repeat refine aI (hb := ?_))
          first | refine fcall_data (hP2) rfl ?_ | refine YR_intro (acall_data (hP2) rfl) ?_
          simp only [go_sem, seval]
          (repeat refine aI (hb := ?_))
          simp only [go_sem, seval, hnx]
          refine hK _ ?_; clear hK K
          refine gB ?_
          refine ⟨i + 1,  by omega, by omega, .inl ⟨by simp only [leS, Nat.reduceEqDiff, ↓reduceIte, true_and, and_true]; omega,  rfl⟩⟩
         ·exact absurd hc3 (by omega)
       ·obtain rfl : i = m := by omega
        refine ats_exit (lq_x ?_)
        refine gB ?_
        refine gB ?_
        have hsame : matF i n (fun x => if x < i then rdF G2 d k x else G2 x) = matF i n (rdF G2 d k) := matF_congr fun x hx c _ => by rw [if_pos hx]
        refine ⟨k + 1,  by omega, by omega, .inl ⟨by simp only [leS, Nat.reduceEqDiff, ↓reduceIte, true_and, and_true]; (rw [hstep]; first | rfl | omega | simp),  by rw [hstep, hsame]⟩⟩
   ·have Fm : F = m := by omega
    have hjF : j = m := by omega
    subst hjF
    rw [if_neg (by omega)] at hstep
    have jneg : ((j : Int) < (j : Int)) = False := eq_false (by omega)
    (repeat refine ats_seq ?_); refine ats_go (by first | exact fix0 hcx | exact fix1 hcx rfl) fun K hK => ?_; simp only [go_sem, seval, lM, jneg, decide_false]
    (repeat refine aI (hb := ?_))
    refine hK _ ?_; clear hK K
    refine gI (fun hc => ?_) fun hc => ?_
    ·simp at hc
    ·refine ats_exit (lq_x ?_)
     (repeat refine ats_seq ?_); refine ats_go (by first | exact fix0 hcx | exact fix1 hcx rfl) fun K hK => ?_; simp only [go_sem, seval, lM]
     (repeat refine aI (hb := ?_))
     refine hK _ ?_; clear hK K
     refine gI (fun hc2 => ?_) fun hc2 => ?_
     ·refine ats_exit (bq_x ?_)
      refine gB ?_
      refine ⟨k + 1,  by omega, by omega, .inl ⟨by simp only [leS, Nat.reduceEqDiff, ↓reduceIte, true_and, and_true]; (rw [hstep]; first | rfl | omega),  by rw [hstep]⟩⟩
     ·first | exact absurd rfl hc2 | exact absurd trivial hc2
  ·obtain rfl : k = n := by omega
   rw [es] at tk
   refine ats_exit (lq_x ?_)
   (repeat refine ats_seq ?_); refine ats_go (by first | exact fix0 hcx | exact fix1 hcx rfl) fun K hK => ?_; simp only [go_sem, seval, lM]
   (repeat refine aI (hb := ?_))
   refine hK _ ?_; clear hK K
   rw [es]
   refine ats_ret (finV rfl ⟨rfl, trivial⟩ ?_)
   exact congrArg (fun z => some (AV.l2 z)) tk
end Go.Proofs.YthhjcdnfflcikaaGreat
namespace Go.Proofs.YthhjcdnfflcikaaGreat
open Go Go.Aw Go.Pl
theorem basL_rows {n : Nat} {A : List (List Int)} (hA : RowsP n A) : RowsP n (basL n A) := by
 obtain ⟨pv, hP⟩ := gj_P (rowsP_ent hA) n (Nat.le_refl _)
 have hd := hP.dm
 intro r hr
 unfold basL at hr
 obtain ⟨i, hi, rfl⟩ := List.mem_map.1 hr
 refine ⟨rowF_length _ _, fun x hx => ?_⟩
 obtain ⟨c, hc, rfl⟩ := List.mem_map.1 hx
 exact hP.ent i (by have := List.mem_range.1 hi; unfold rkL at this; omega) c (List.mem_range.1 hc)
theorem any_hasP {pv : Nat → Nat} {r k : Nat} : ((rowF r fun i => ((pv i : Nat) : Int)).any fun y => decide (y = (k : Int))) = hasP pv r k := by
 unfold rowF hasP
 rw [List.any_map]
 congr 1
 funext i
 exact decide_eq_decide.2 (by show ((pv i : Nat) : Int) = (k : Int) ↔ _; omega)
set_option maxHeartbeats 8000000 in
theorem l02KernelF_ok (n : Nat) (A : List (List Int)) (hA : RowsP n A) (h1 : 1 ≤ A.length) (hm : A.length ≤ 1000) (hn1 : 1 ≤ n) (hn : n ≤ 1000) :
  ∃ K : List (List Int), K.length = n - rkL n A ∧ PureCall Tryz.prog 13 [.l2 A] (.l2 K) := by
 have hB := l02BasisF_ok n A hA hn hm
 obtain ⟨pv, hP⟩ := gj_P (rowsP_ent hA) n (Nat.le_refl _)
 have hdm := hP.dm
 have hl0 : (A.getD 0 []).length = n := (hA (A.getD 0 []) (by simp [List.getD, show 0 < A.length by omega])).1
 unfold basL at hB
 have hrk : rkL n A = (gj A.length (e2 A) n).2 := rfl
 rw [← hrk] at hP hdm
 obtain ⟨r, er⟩ : ∃ r, rkL n A = r := ⟨_, rfl⟩
 rw [er] at hB hP hdm ⊢
 have hinj := fun i j hi hj e => hP.inj (i := i) (j := j) hi hj e
 have hfl := frL_len (n := n) hP.pk hinj
 obtain ⟨G, eG⟩ : ∃ G, (gj A.length (e2 A) n).1 = G := ⟨_, rfl⟩
 rw [eG] at hB hP
 have hE := hP.ent
 have hone := hP.one
 have hlead := hP.lead
 have hpk := hP.pk
 have kr := kerL_rows (G := G) (pv := pv) (d := r) (n := n) (k := n)
 have kk := kerL_rk (G := G) (pv := pv) (d := r) (n := n)
 have kl : ∀ k, (kerL G pv r n k).length ≤ k := fun k => by
  unfold kerL
  rw [List.length_map, frL_eq]
  exact Nat.le_trans (List.length_filter_le ..) (by rw [List.length_range]; exact Nat.le_refl _)
 have hKer := l02BasisF_ok n (kerL G pv r n n) kr hn (by have := kl n; omega)
 have kb := basL_rows kr
 have kbl : (basL n (kerL G pv r n n)).length = n - r := by rw [basL_length, kk, hfl]
 generalize basL n (kerL G pv r n n) = K at *
 have hO := l01OwnR_ok K (by omega) (fun j hj => by rw [(kb (K.getD j []) (by simp [List.getD, hj])).1]; exact hn)
 refine ⟨K, kbl, ?_⟩
 clear kb kk kr hfl hinj hP eG hrk er hA
 have lR := matF_length r n G
 refine PureCall.intro (n := 74) (rs := [.tmp 2]) Tryz.call13 Tryz.func13 rfl rfl rfl (by simp only [List.length_cons, List.length_nil]; omega) (fun cx hcx => ats_of ?_); simp only [argSlots, Nat.zero_add, Nat.reduceAdd]
 refine gB ?_
 (repeat refine ats_seq ?_); refine ats_pick (fix0 hcx) mixed (by kernel_rfl) fun K hK => ?_; simp only [go_sem, seval]
 (repeat refine aI (hb := ?_))
 first | refine fcall_data (hB) rfl ?_ | refine YR_intro (acall_data (hB) rfl) ?_
 simp only [go_sem, seval]
 simp only [go_sem, seval, hl0]
 (repeat refine aI (hb := ?_))
 refine hK _ ?_; clear hK K
 refine gB ?_
 refine gB ?_
 (repeat refine ats_seq ?_); refine ats_loop (fun i : Nat => ⟨[(3, .l2 (matF r n G)), (4, .int n), (5, .ref 0 []), (6, .ref 1 []), (7, .int i)], [(0, .t1 (rowF i fun i => ((pv i : Nat) : Int))), (1, .t2 [])]⟩) (fun i => i ≤ r) (fun i => r - i) 0 (Nat.zero_le _) (by refine And.intro ?_ rfl; simp only [leS, Nat.reduceEqDiff, ↓reduceIte, true_and, and_true]; repeat' (first | rfl | with_reducible refine And.intro ?_ ?_ | omega)) (fun i hi => ?_)
 have lp := rowF_length i fun i => ((pv i : Nat) : Int)
 (repeat refine ats_seq ?_); refine ats_go (by first | exact fix0 hcx | exact fix1 hcx rfl) fun K hK => ?_; simp only [go_sem, seval, lR]
 (repeat refine aI (hb := ?_))
 refine hK _ ?_; clear hK K
 refine gI (fun hc2 => ?_) fun hc2 => ?_
 ·have hi : i < r := by omega
  have ri : (matF r n G).getD i [] = rowF n (G i) := matF_get hi
  have hF := l02FirstF_ok n hn (G i) (hE i (by omega)) (pv i) (hpk i hi) (hlead i hi) (by rw [hone i (by omega) i hi, if_pos rfl]; decide)
  have st := rowF_succ (n := i) (f := fun i => ((pv i : Nat) : Int))
  refine ats_skip ?_
  (repeat refine ats_seq ?_); refine ats_block ?_
  (repeat refine ats_seq ?_); refine ats_go (by first | exact fix0 hcx | exact fix1 hcx rfl) fun K hK => ?_; simp only [go_sem, seval, ri, lR]
  (repeat refine aI (hb := ?_))
  first | refine fcall_data (hF) rfl ?_ | refine YR_intro (acall_data (hF) rfl) ?_
  simp only [go_sem, seval]
  (repeat refine aI (hb := ?_))
  refine hK _ ?_; clear hK K
  refine gB ?_
  refine ⟨i + 1, by omega, by omega, .inr ⟨[2], by simp only [killL, List.map_cons, List.map_nil, killA, killAs, qOf, rmT, killH, killT, List.filter_cons, List.filter_nil, List.contains_cons, List.contains_nil, SlotsLe, St.get, slotGet, Nat.reduceEqDiff, Nat.reduceBEq, Bool.or_false, Bool.or_true, Bool.false_and, Bool.not_true, Bool.not_false, Bool.false_eq_true, ↓reduceIte, if_true, if_false, AV.int.injEq, AV.bool.injEq, AV.l1.injEq, AV.l2.injEq, AV.l3.injEq, true_and, and_true]; omega, by simp only [killL, List.map_cons, List.map_nil, killA, killAs, qOf, rmT, killH, killT, List.filter_cons, List.filter_nil, List.contains_cons, List.contains_nil, SlotsLe, St.get, slotGet, Nat.reduceEqDiff, Nat.reduceBEq, Bool.or_false, Bool.or_true, Bool.false_and, Bool.not_true, Bool.not_false, Bool.false_eq_true, ↓reduceIte, if_true, if_false, AV.int.injEq, AV.bool.injEq, AV.l1.injEq, AV.l2.injEq, AV.l3.injEq, true_and, and_true]; rw [st]⟩⟩
 ·obtain rfl : i = r := by omega
  refine ats_exit (lq_x ?_)
  refine gB ?_
  have hd0 : kerL G pv i n 0 = [] := rfl
  (repeat refine ats_seq ?_); refine ats_loop (fun k : Nat => ⟨[(3, .l2 (matF i n G)), (4, .int n), (5, .ref 0 []), (6, .ref 1 []), (8, .int k)], [(0, .t1 (rowF i fun i => ((pv i : Nat) : Int))), (1, .t2 (kerL G pv i n k))]⟩) (fun k => k ≤ n) (fun k => n - k) 0 (Nat.zero_le _) (by refine And.intro ?_ rfl; simp only [leS, Nat.reduceEqDiff, ↓reduceIte, true_and, and_true]; repeat' (first | rfl | with_reducible refine And.intro ?_ ?_ | omega)) (fun k hk => ?_)
  have lk := kl k
  have hH := l01Has_ok (rowF i fun i => ((pv i : Nat) : Int)) k
  rw [any_hasP] at hH
  refine gB ?_
  refine gI (fun hc4 => ?_) fun hc4 => ?_
  ·have hk' : k < n := by omega
   refine ats_skip ?_
   (repeat refine ats_seq ?_); refine ats_block ?_
   cases hp : hasP pv i k with
   | true =>
    rw [hp] at hH
    have ks : kerL G pv i n (k + 1) = kerL G pv i n k := by
     have : frL pv i (k + 1) = frL pv i k := by rw [frL, hp]; rfl
     unfold kerL
     rw [this]
    refine gC fun K hK => ?_
    first | refine fcall_free rfl rfl (hH) ?_ | refine YR_intro (acall_free rfl rfl (hH)) ?_
    simp only [go_sem, seval]
    refine hK _ ?_; clear hK K
    (repeat refine ats_seq ?_); refine ats_yes rfl trivial ?_
    refine ats_exit (bq_x ?_)
    refine gB ?_
    refine ⟨k + 1,  by omega, by omega, .inl ⟨by simp only [leS, Nat.reduceEqDiff, ↓reduceIte, true_and, and_true]; omega,  by rw [ks]⟩⟩
   | false =>
    rw [hp] at hH
    have ks : kerL G pv i n (k + 1) = kerL G pv i n k ++ [rowF n (kvG G pv k i)] := by
     have : frL pv i (k + 1) = frL pv i k ++ [k] := by rw [frL, hp]; rfl
     unfold kerL
     rw [this, List.map_append]
     rfl
    have k0 : (List.replicate n (0 : Int)).set k 1 = rowF n (kvG G pv k 0) := by
     have e : List.replicate n (0 : Int) = rowF n (fun _ => 0) := by simp [rowF, List.map_const']
     rw [e, rowF_set]
     rfl
    refine gC fun K hK => ?_
    first | refine fcall_free rfl rfl (hH) ?_ | refine YR_intro (acall_free rfl rfl (hH)) ?_
    simp only [go_sem, seval]
    refine hK _ ?_; clear hK K
    (repeat refine ats_seq ?_); refine ats_no rfl trivial ?_
    refine ats_skip ?_
    refine gB ?_
    (repeat refine ats_seq ?_); refine ats_go (by first | exact fix0 hcx | exact fix1 hcx rfl) fun K hK => ?_; simp only [go_sem, seval, List.length_replicate]
    (repeat refine aI (hb := ?_))
    refine hK _ ?_; clear hK K
    rw [k0]
    refine gB ?_
    (repeat refine ats_seq ?_); refine ats_loop (fun j : Nat => ⟨[(3, .l2 (matF i n G)), (4, .int n), (5, .ref 0 []), (6, .ref 1 []), (8, .int k), (9, .ref 2 []), (10, .int j)], [(0, .t1 (rowF i fun i => ((pv i : Nat) : Int))), (1, .t2 (kerL G pv i n k)), (2, .t1 (rowF n (kvG G pv k j)))]⟩) (fun j => j ≤ i) (fun j => i - j) 0 (Nat.zero_le _) (by refine And.intro ?_ rfl; simp only [leS, Nat.reduceEqDiff, ↓reduceIte, true_and, and_true]; repeat' (first | rfl | with_reducible refine And.intro ?_ ?_ | omega)) (fun j hj => ?_)
    have lv := rowF_length n (kvG G pv k j)
    have lpi := rowF_length i fun i => ((pv i : Nat) : Int)
    (repeat refine ats_seq ?_); refine ats_go (by first | exact fix0 hcx | exact fix1 hcx rfl) fun K hK => ?_; simp only [go_sem, seval, lR]
    (repeat refine aI (hb := ?_))
    refine hK _ ?_; clear hK K
    refine gI (fun hc7 => ?_) fun hc7 => ?_
    ·have hj' : j < i := by omega
     have rj : (matF i n G).getD j [] = rowF n (G j) := matF_get hj'
     have lj := rowF_length n (G j)
     have ej : (rowF n (G j)).getD k 0 = G j k := rowF_get hk'
     have pj : (rowF i fun i => ((pv i : Nat) : Int)).getD j 0 = ((pv j : Nat) : Int) := rowF_get hj'
     have eI := hE j (by omega) k hk'
     unfold InP at eI
     have hM := l01ModV_ok (0 - G j k) (by omega) (by omega)
     have hpn := hpk j hj'
     have sv : (rowF n (kvG G pv k j)).set (pv j) ((0 - G j k) % 55441) = rowF n (kvG G pv k (j + 1)) := by rw [rowF_set]; rfl
     have tN : ((pv j : Nat) : Int).toNat = pv j := Int.toNat_natCast _
     refine ats_skip ?_
     (repeat refine ats_seq ?_); refine ats_block ?_
     (repeat refine ats_seq ?_); refine ats_pick (fix0 hcx) mixed (by kernel_rfl) fun K hK => ?_; simp only [go_sem, seval, rj, lj, ej, pj, lR, lpi, lv, tN]
     (repeat refine aI (hb := ?_))
     first | refine fcall_data (hM) rfl ?_ | refine YR_intro (acall_data (hM) rfl) ?_
     simp only [go_sem, seval]
     simp only [go_sem, seval, rj, lj, ej, pj, lR, lpi, lv, tN, sv]
     (repeat refine aI (hb := ?_))
     refine hK _ ?_; clear hK K
     refine gB ?_
     refine ⟨j + 1,  by omega, by omega, .inl ⟨by simp only [leS, Nat.reduceEqDiff, ↓reduceIte, true_and, and_true]; omega,  rfl⟩⟩
    ·obtain rfl : j = i := by omega
     have lv2 := kl k
     refine ats_exit (lq_x ?_)
     refine gB ?_
     refine gB ?_
     refine ⟨k + 1,  by omega, by omega, .inl ⟨by simp only [leS, Nat.reduceEqDiff, ↓reduceIte, true_and, and_true]; omega,  by rw [ks]⟩⟩
  ·obtain rfl : k = n := by omega
   refine ats_exit (lq_x ?_)
   (repeat refine ats_seq ?_); refine AT.ghost (ghost_frz [1]) ?_; simp only [frzV, find, killA, killAs, qOf, rmT, killH, killT, List.map_cons, List.map_nil, List.filter_cons, List.filter_nil, List.contains_cons, List.contains_nil, Bool.or_false, Bool.or_true, Bool.false_and, Bool.not_true, Bool.not_false, Bool.false_eq_true, if_true, if_false, seval]
   refine gC fun K hK => ?_
   first | refine fcall_data (hKer) rfl ?_ | refine YR_intro (acall_data (hKer) rfl) ?_
   simp only [go_sem, seval]
   first | refine fcall_fresh rfl (hO) ?_ | refine YR_intro (acall_fresh rfl (hO)) ?_
   simp only [go_sem, seval]
   refine hK _ ?_; clear hK K
   exact ats_ret (finV rfl ⟨rfl, trivial⟩ rfl)
end Go.Proofs.YthhjcdnfflcikaaGreat
namespace Go.Proofs.YthhjcdnfflcikaaGreat
open Go Go.Aw Go.Pl
attribute [local go_sem] pl_fin pl_stop pl_one pl_alt PK_ap pickO List.getElem?_toArray List.getElem?_cons_zero List.getElem?_cons_succ
noncomputable def comdN (s : List (List Int)) (t : List Int) : Nat := t.length * t.length - rkL (t.length * t.length) (eqA (e2 s) (fun i => t.getD i 0) t.length (t.length * t.length))
noncomputable def comdA (s : List (List Int)) (t : List Int) : AV := if isData s t then (if 6 < t.length then .tup [.int 0, .int 3] else .tup [.int (comdN s t : Nat), .int 0]) else .tup [.int 0, .int 1]
set_option maxHeartbeats 16000000 in
theorem specComd_ok (s : List (List Int)) (t : List Int) : PureCall Tryz.prog 5 [.agg [.l2 s, .l1 t]] (comdA s t) := by
 have hI := l12Is_ok s t
 unfold comdA
 cases hd : isData s t with
 | false =>
  rw [hd] at hI
  rw [if_neg (by simp)]
  refine PureCall.intro (n := 124) (rs := [.tmp 2, .tmp 3]) Tryz.call5 Tryz.func5 rfl rfl rfl (by simp only [List.length_cons, List.length_nil]; omega) (fun cx hcx => ats_of ?_); simp only [argSlots, Nat.zero_add, Nat.reduceAdd]
  refine gB ?_
  (repeat refine ats_seq ?_); refine ats_block ?_
  refine gC fun K hK => ?_
  first | refine fcall_data (hI) rfl ?_ | refine YR_intro (acall_data (hI) rfl) ?_
  simp only [go_sem, seval]
  refine hK _ ?_; clear hK K
  (repeat refine ats_seq ?_); refine ats_yes rfl trivial ?_
  refine gB ?_
  exact ats_ret (fin2 trivial trivial rfl)
 | true =>
  rw [hd] at hI
  rw [if_pos rfl]
  by_cases h6 : 6 < t.length
  ·rw [if_pos h6]
   refine PureCall.intro (n := 124) (rs := [.tmp 2, .tmp 3]) Tryz.call5 Tryz.func5 rfl rfl rfl (by simp only [List.length_cons, List.length_nil]; omega) (fun cx hcx => ats_of ?_); simp only [argSlots, Nat.zero_add, Nat.reduceAdd]
   refine gB ?_
   (repeat refine ats_seq ?_); refine ats_block ?_
   refine gC fun K hK => ?_
   first | refine fcall_data (hI) rfl ?_ | refine YR_intro (acall_data (hI) rfl) ?_
   simp only [go_sem, seval]
   refine hK _ ?_; clear hK K
   (repeat refine ats_seq ?_); refine ats_no rfl trivial ?_
   refine gB ?_
   refine gI (fun hc2 => ?_) fun hc2 => ?_
   ·refine gB ?_
    exact ats_ret (fin2 trivial trivial rfl)
   ·omega
  ·rw [if_neg h6]
   have hs := (isData_some hd).1
   have h1 := hs.1
   have hm := hs.2.2.1
   have hT := hs.2.2.2
   unfold comdN
   obtain ⟨n, en⟩ : ∃ n, t.length = n := ⟨_, rfl⟩
   rw [en] at hm hT h6 h1 ⊢
   obtain ⟨N, eN⟩ : ∃ N, n * n = N := ⟨_, rfl⟩
   have eN1 : (n : Int) * (n : Int) = (N : Int) := by rw [← eN]; exact (Int.natCast_mul _ _).symm
   have bN : 1 ≤ N ∧ N ≤ 36 := by
    have : n * n ≤ 6 * 6 := Nat.mul_le_mul (by omega) (by omega)
    have : 1 * 1 ≤ n * n := Nat.mul_le_mul (by omega) (by omega)
    omega
   have lm := hm.1
   have mat : ∀ i, i < n → ∀ j, j < n → i * n + j < N ∧ i * n ≤ 36 := fun i hi j hj => by
    have h2 : (i + 1) * n ≤ n * n := Nat.mul_le_mul_right n hi
    rw [Nat.succ_mul, eN] at h2
    omega
   have eP : ∀ i j : Nat, (i : Int) * (n : Int) + (j : Int) = ((i * n + j : Nat) : Int) := fun i j => by push_cast; rfl
   have eQ : ∀ i : Nat, (i : Int) * (n : Int) = ((i * n : Nat) : Int) := fun i => by push_cast; rfl
   obtain ⟨S, eS⟩ : ∃ S, S = e2 s := ⟨_, rfl⟩
   obtain ⟨T, eT⟩ : ∃ T : Nat → Int, T = fun i => t.getD i 0 := ⟨_, rfl⟩
   rw [← eS, ← eT]
   have zN : List.replicate N (0 : Int) = rowF N (fun _ => 0) := by simp [rowF, List.map_const']
   have lA : ∀ K, (eqA S T n K).length = 2 * K := eqA_length
   have hE0 : ([] : List (List Int)) = eqA S T n (0 * n) := by rw [Nat.zero_mul]; rfl
   have hz : n * n = N := eN
   obtain ⟨KK, kl, hKer⟩ := l02KernelF_ok N (eqA S T n N) (by rw [← eN]; exact eqA_rows) (by rw [lA]; omega) (by rw [lA]; omega) (by omega) (by omega)
   rw [eN, ← kl]
   clear kl
   refine PureCall.intro (n := 124) (rs := [.tmp 2, .tmp 3]) Tryz.call5 Tryz.func5 rfl rfl rfl (by simp only [List.length_cons, List.length_nil]; omega) (fun cx hcx => ats_of ?_); simp only [argSlots, Nat.zero_add, Nat.reduceAdd]
   refine gB ?_
   (repeat refine ats_seq ?_); refine ats_block ?_
   refine gC fun K hK => ?_
   first | refine fcall_data (hI) rfl ?_ | refine YR_intro (acall_data (hI) rfl) ?_
   simp only [go_sem, seval]
   refine hK _ ?_; clear hK K
   (repeat refine ats_seq ?_); refine ats_no rfl trivial ?_
   refine gB ?_
   refine gI (fun hc2 => ?_) fun hc2 => ?_
   ·omega
   ·refine ats_skip ?_
    refine gB ?_
    refine gB ?_
    (repeat refine ats_seq ?_); refine AT.ghost (ghost_r2 1 rfl) ?_; simp only [find, killL, killA, killAs, qOf, rmT, killH, killT, putT, List.map_cons, List.map_nil, List.filter_cons, List.filter_nil, List.contains_cons, List.contains_nil, List.isEmpty_nil, List.isEmpty_cons, Bool.or_false, Bool.or_true, Bool.false_and, Bool.true_and, Bool.and_false, Bool.and_true, Bool.not_true, Bool.not_false, Bool.false_eq_true, if_true, if_false, seval]
    refine gB ?_
    rw [hE0]
    (repeat refine ats_seq ?_); refine ats_loop (fun i : Nat => ⟨[(1, .bptr 0 0), (4, .int n), (5, .ref 1 []), (6, .int i)], [(0, .bx [.l2 s, .l1 t]), (1, .r2 (eqA S T n (i * n)))]⟩) (fun i => i ≤ n) (fun i => n - i) 0 (Nat.zero_le _) (by refine And.intro ?_ rfl; simp only [leS, Nat.reduceEqDiff, ↓reduceIte, true_and, and_true]; repeat' (first | rfl | with_reducible refine And.intro ?_ ?_ | omega)) (fun i hi => ?_)
    refine gB ?_
    refine gI (fun hc4 => ?_) fun hc4 => ?_
    ·have hin : i < n := by omega
     refine ats_skip ?_
     (repeat refine ats_seq ?_); refine ats_block ?_
     refine gB ?_
     (repeat refine ats_seq ?_); refine ats_loop (fun j : Nat => ⟨[(1, .bptr 0 0), (4, .int n), (5, .ref 1 []), (6, .int i), (7, .int j)], [(0, .bx [.l2 s, .l1 t]), (1, .r2 (eqA S T n (i * n + j)))]⟩) (fun j => j ≤ n) (fun j => n - j) 0 (Nat.zero_le _) (by refine And.intro ?_ rfl; simp only [leS, Nat.reduceEqDiff, ↓reduceIte, true_and, and_true]; repeat' (first | rfl | with_reducible refine And.intro ?_ ?_ | omega)) (fun j hj => ?_)
     refine gB ?_
     refine gI (fun hc6 => ?_) fun hc6 => ?_
     ·have hjn : j < n := by omega
      have hij := mat i hin j hjn
      refine ats_skip ?_
      (repeat refine ats_seq ?_); refine ats_block ?_
      (repeat refine ats_seq ?_)
      refine ats_planG [] (.one 0 (.one 1 (.one 2 (.one 4 (.one 5 (.one 6 (.alt 3 (.one 8 (.alt 7 (.one 9 .fin) .stop)) (.alt 7 (.alt 3 (.one 8 (.one 9 .fin)) .stop) .stop)))))))) ⟨[(1, .bptr 0 0), (4, .int n), (5, .ref 1 []), (6, .int i), (7, .int j), (8, .ref 2 []), (9, .ref 3 [])], [(0, .bx [.l2 s, .l1 t]), (1, .r2 (eqA S T n (i * n + j))), (2, .t1 (List.replicate N 0)), (3, .t1 (List.replicate N 0))]⟩ (fix0 hcx) mixed (by kernel_rfl) (fun K hK => ?_) ?_
      ·simp only [go_sem, seval, Option.getD_some, and_true, true_and, and_self, List.contains_cons, List.contains_nil, Bool.or_false, Bool.or_true]
       repeat' (first | (refine hK _ (ghost_can [] ?_ ?_); (focus (simp only [rnLs, rnL, rn, rns, sw, SlotsLe, St.get, slotGet, List.map_cons, List.map_nil, seval, AV.int.injEq, AV.bool.injEq, AV.l1.injEq, AV.l2.injEq, AV.l3.injEq, true_and, and_true]; done)); (focus (simp only [sortH, insH, rnHs, rnH, rnT, rn, rns, sw, List.map_cons, List.map_nil, seval]; done))) | (refine hK _ (ghost_can [(2, 3)] ?_ ?_); (focus (simp only [rnLs, rnL, rn, rns, sw, SlotsLe, St.get, slotGet, List.map_cons, List.map_nil, seval, AV.int.injEq, AV.bool.injEq, AV.l1.injEq, AV.l2.injEq, AV.l3.injEq, true_and, and_true]; done)); (focus (simp only [sortH, insH, rnHs, rnH, rnT, rn, rns, sw, List.map_cons, List.map_nil, seval]; done))) | with_reducible refine And.intro ?_ ?_ | omega | ((simp only [eN1, Int.toNat_natCast])) | ((simp only [eN1, Int.toNat_natCast])))
      rw [zN]
      refine gB ?_
      (repeat refine ats_seq ?_); refine ats_loop (fun k : Nat => ⟨[(1, .bptr 0 0), (4, .int n), (5, .ref 1 []), (6, .int i), (7, .int j), (8, .ref 2 []), (9, .ref 3 []), (10, .int k)], [(0, .bx [.l2 s, .l1 t]), (1, .r2 (eqA S T n (i * n + j))), (2, .t1 (rowF N (rsF S n i j k))), (3, .t1 (rowF N (fun _ => 0)))]⟩) (fun k => k ≤ n) (fun k => n - k) 0 (Nat.zero_le _) (by refine And.intro ?_ rfl; simp only [leS, Nat.reduceEqDiff, ↓reduceIte, true_and, and_true]; repeat' (first | rfl | with_reducible refine And.intro ?_ ?_ | omega)) (fun k hk => ?_)
      refine gB ?_
      refine gI (fun hc8 => ?_) fun hc8 => ?_
      ·have hkn : k < n := by omega
       have fs : rsF S n i j (k + 1) = up1 (up1 (rsF S n i j k) (k * n + j) ((rsF S n i j k (k * n + j) + S i k) % 55441)) (i * n + k) ((up1 (rsF S n i j k) (k * n + j) ((rsF S n i j k (k * n + j) + S i k) % 55441) (i * n + k) - S k j) % 55441) := rfl
       have fi := rsF_inP (S := S) (n := n) (i := i) (j := j) k
       obtain ⟨f, ef⟩ : ∃ f, rsF S n i j k = f := ⟨_, rfl⟩
       rw [ef] at fs fi ⊢
       have b1 := mat k hkn j hjn
       have b2 := mat i hin k hkn
       have q1 := eQ k
       have q2 := eQ i
       have p1 := eP k j
       have p2 := eP i k
       obtain ⟨p, ep⟩ : ∃ p, k * n + j = p := ⟨_, rfl⟩
       obtain ⟨q, eq⟩ : ∃ q, i * n + k = q := ⟨_, rfl⟩
       rw [ep] at p1 b1 fs
       rw [eq] at p2 b2 fs
       have r1 := hm.row hin
       have r2 := hm.row hkn
       have s1 : (s.getD i []).getD k 0 = S i k := by rw [eS]; try rfl
       have s2 : (s.getD k []).getD j 0 = S k j := by rw [eS]; try rfl
       have i1 : InP (S i k) := by rw [eS]; exact hm.inP hin hkn
       have i2 : InP (S k j) := by rw [eS]; exact hm.inP hkn hjn
       have g1 : (rowF N f).getD p 0 = f p := rowF_get b1.1
       have l1 := rowF_length N f
       have i3 := fi p
       have fi2 := up1_inP (f := f) (p := p) (x := f p + S i k) fi
       have st1 : (rowF N f).set p ((f p + S i k) % 55441) = rowF N (up1 f p ((f p + S i k) % 55441)) := rowF_up1
       have hM1 := l01ModV_ok (f p + S i k) (by unfold InP at i1 i3; omega) (by unfold InP at i1 i3; omega)
       obtain ⟨h, eh⟩ : ∃ h, up1 f p ((f p + S i k) % 55441) = h := ⟨_, rfl⟩
       rw [eh] at st1 fs fi2
       have g2 : (rowF N h).getD q 0 = h q := rowF_get b2.1
       have l2 := rowF_length N h
       have i4 := fi2 q
       have st2 : (rowF N h).set q ((h q - S k j) % 55441) = rowF N (up1 h q ((h q - S k j) % 55441)) := rowF_up1
       have hM2 := l01ModV_ok (h q - S k j) (by unfold InP at i2 i4; omega) (by unfold InP at i2 i4; omega)
       unfold InP at i1 i2 i3 i4
       refine ats_skip ?_
       (repeat refine ats_seq ?_); refine ats_block ?_
       (repeat refine ats_seq ?_); refine ats_pick (fix0 hcx) mixed (by kernel_rfl) fun K hK => ?_; simp only [go_sem, seval, p1, s1, g1, r1, l1, lm, Int.toNat_natCast]
       (repeat refine aI (hb := ?_))
       first | refine fcall_data (hM1) rfl ?_ | refine YR_intro (acall_data (hM1) rfl) ?_
       simp only [go_sem, seval]
       simp only [go_sem, seval, p1, s1, g1, r1, l1, lm, Int.toNat_natCast, st1]
       (repeat refine aI (hb := ?_))
       refine hK _ ?_; clear hK K
       (repeat refine ats_seq ?_); refine ats_pick (fix0 hcx) mixed (by kernel_rfl) fun K hK => ?_; simp only [go_sem, seval, p2, s2, g2, r2, l2, lm, Int.toNat_natCast]
       (repeat refine aI (hb := ?_))
       first | refine fcall_data (hM2) rfl ?_ | refine YR_intro (acall_data (hM2) rfl) ?_
       simp only [go_sem, seval]
       simp only [go_sem, seval, p2, s2, g2, r2, l2, lm, Int.toNat_natCast, st2]
       (repeat refine aI (hb := ?_))
       refine hK _ ?_; clear hK K
       refine gB ?_
       refine ⟨k + 1,  by omega, by omega, .inl ⟨by simp only [leS, Nat.reduceEqDiff, ↓reduceIte, true_and, and_true]; omega,  by rw [fs]⟩⟩
      ·obtain rfl : k = n := by omega
       have q2 := eQ i
       have p2 := eP i j
       have t1 : t.getD i 0 = T i := by rw [eT]
       have t2 : t.getD j 0 = T j := by rw [eT]
       have i1 : InP (T i) := by rw [← t1]; exact hT i hin
       have i2 : InP (T j) := by rw [← t2]; exact hT j hjn
       unfold InP at i1 i2
       have hM := l01ModV_ok (T i - T j) (by omega) (by omega)
       have l1 := rowF_length N (fun _ => 0)
       have st1 : (rowF N (fun _ => 0)).set (i * k + j) ((T i - T j) % 55441) = rowF N (twF T k i j) := rowF_up1
       have la := lA (i * k + j)
       have hsc := eqA_succ (S := S) (T := T) (i := i) hjn
       rw [eN] at hsc
       obtain ⟨q, eq⟩ : ∃ q, i * k + j = q := ⟨_, rfl⟩
       rw [eq] at p2 hij st1 la hsc ⊢
       refine ats_exit (lq_x ?_)
       (repeat refine ats_seq ?_); refine ats_pick (fix0 hcx) mixed (by kernel_rfl) fun K hK => ?_; simp only [go_sem, seval, p2, t1, t2, en, l1, Int.toNat_natCast]
       (repeat refine aI (hb := ?_))
       first | refine fcall_data (hM) rfl ?_ | refine YR_intro (acall_data (hM) rfl) ?_
       simp only [go_sem, seval]
       simp only [go_sem, seval, p2, t1, t2, en, l1, Int.toNat_natCast, st1]
       (repeat refine aI (hb := ?_))
       refine hK _ ?_; clear hK K
       (repeat refine ats_seq ?_); refine AT.ghost (ghost_frz [2, 3]) ?_; simp only [frzV, find, killA, killAs, qOf, rmT, killH, killT, List.map_cons, List.map_nil, List.filter_cons, List.filter_nil, List.contains_cons, List.contains_nil, Bool.or_false, Bool.or_true, Bool.false_and, Bool.not_true, Bool.not_false, Bool.false_eq_true, if_true, if_false, seval]
       (repeat refine ats_seq ?_); refine ats_go (fix0 hcx) fun K hK => ?_; simp only [go_sem, seval, la]
       (repeat refine aI (hb := ?_))
       refine hK _ ?_; clear hK K
       refine gB ?_
       refine ⟨j + 1, by omega, by omega, .inr ⟨[2], by simp only [killL, List.map_cons, List.map_nil, killA, killAs, qOf, rmT, killH, killT, List.filter_cons, List.filter_nil, List.contains_cons, List.contains_nil, SlotsLe, St.get, slotGet, Nat.reduceEqDiff, Nat.reduceBEq, Bool.or_false, Bool.or_true, Bool.false_and, Bool.not_true, Bool.not_false, Bool.false_eq_true, ↓reduceIte, if_true, if_false, AV.int.injEq, AV.bool.injEq, AV.l1.injEq, AV.l2.injEq, AV.l3.injEq, true_and, and_true]; omega, by simp only [killL, List.map_cons, List.map_nil, killA, killAs, qOf, rmT, killH, killT, List.filter_cons, List.filter_nil, List.contains_cons, List.contains_nil, SlotsLe, St.get, slotGet, Nat.reduceEqDiff, Nat.reduceBEq, Bool.or_false, Bool.or_true, Bool.false_and, Bool.not_true, Bool.not_false, Bool.false_eq_true, ↓reduceIte, if_true, if_false, AV.int.injEq, AV.bool.injEq, AV.l1.injEq, AV.l2.injEq, AV.l3.injEq, true_and, and_true]; rw [hsc]⟩⟩
     ·obtain rfl : j = n := by omega
      refine ats_exit (lq_x ?_)
      refine gB ?_
      refine ⟨i + 1,  by omega, by omega, .inl ⟨by simp only [leS, Nat.reduceEqDiff, ↓reduceIte, true_and, and_true]; omega,  by rw [Nat.succ_mul]⟩⟩
    ·obtain rfl : i = n := by omega
     rw [eN]
     refine ats_exit (lq_x ?_)
     (repeat refine ats_seq ?_); refine AT.ghost (ghost_frz [1]) ?_; simp only [frzV, find, killA, killAs, qOf, rmT, killH, killT, List.map_cons, List.map_nil, List.filter_cons, List.filter_nil, List.contains_cons, List.contains_nil, Bool.or_false, Bool.or_true, Bool.false_and, Bool.not_true, Bool.not_false, Bool.false_eq_true, if_true, if_false, seval]
     refine gC fun K hK => ?_
     first | refine fcall_data (hKer) rfl ?_ | refine YR_intro (acall_data (hKer) rfl) ?_
     simp only [go_sem, seval]
     refine hK _ ?_; clear hK K
     exact ats_ret (fin2 trivial trivial rfl)
end Go.Proofs.YthhjcdnfflcikaaGreat
