import Derived.Test.YthhjcdnfflcikaaGreatVx3
import Derived.Test.YthhjcdnfflcikaaGreatVx1
import Derived.Test.YthhjcdnfflcikaaGreatLib6
import Derived.Test.YthhjcdnfflcikaaGreatVx2
import Derived.Test.YthhjcdnfflcikaaGreatDz1
set_option linter.unusedSimpArgs false
set_option linter.unusedVariables false
namespace Go.Proofs.YthhjcdnfflcikaaGreat
open Go Go.Aw Go.Pl
theorem growR_ok (n : Nat) (h1 : 1 ≤ n) (h2 : n ≤ 1048576) : FreshCall Tryz.prog 36 [.nil, .int (n : Int)] (.l2 []) := by
 refine FreshCall.intro (n := 27) (rs := [.tmp 4]) Tryz.call36 Tryz.func36 rfl rfl rfl (by simp only [List.length_cons, List.length_nil]; omega) (fun cx hcx => ats_of ?_); simp only [argSlots, Nat.zero_add, Nat.reduceAdd]
 refine gB ?_
 refine gB ?_
 refine gI (fun hc0 => ?_) fun hc0 => ?_
 ·omega
 ·refine ats_skip ?_
  refine gB ?_
  refine gB ?_
  refine gI (fun hc => ?_) fun hc => ?_
  ·refine gB ?_
   refine ats_cutT 0 0 (t' := .t2 []) rfl rfl rfl rfl ?_
   refine gB ?_
   exact ats_ret (ownV (is := [0]) rfl ⟨rfl, trivial⟩ rfl (by simp))
  ·first | omega | simp_all
theorem concatR_ok (m : List (List (List Int))) (h1 : 1 ≤ m.flatten.length) (h2 : m.flatten.length ≤ 1000000) (hl : m.length ≤ 1000) : PureCall Tryz.prog 18 [.l3 m] (.l2 m.flatten) := by
 have hg := growR_ok m.flatten.length h1 (by omega)
 have hpart : ∀ i, i < m.length → (m.take (i + 1)).flatten = (m.take i).flatten ++ m.getD i [] := by
  intro i hi
  rw [take_snoc (d := []) hi, List.flatten_append]; simp
 have hle : ∀ i, (m.take i).flatten.length ≤ 1000000 := by
  intro i
  have := congrArg (fun l => l.flatten.length) (List.take_append_drop i m)
  simp only [List.flatten_append, List.length_append] at this
  omega
 refine PureCall.intro (n := 36) (rs := [.tmp 2]) Tryz.call18 Tryz.func18 rfl rfl rfl (by simp only [List.length_cons, List.length_nil]; omega) (fun cx hcx => ats_of ?_); simp only [argSlots, Nat.zero_add, Nat.reduceAdd]
 refine gB ?_
 refine gB ?_
 refine gB ?_
 (repeat refine ats_seq ?_); refine ats_loop (fun i : Nat => ⟨[(0, .l3 m), (3, .int ((m.take i).flatten.length : Nat)), (9, .l3 m), (10, .int m.length), (11, .int i)], []⟩) (fun i => i ≤ m.length) (fun i => m.length - i) 0 (Nat.zero_le _) (by refine And.intro ?_ rfl; simp only [leS, Nat.reduceEqDiff, ↓reduceIte, true_and, and_true]; repeat' (first | rfl | with_reducible refine And.intro ?_ ?_ | omega)) (fun i hi => ?_)
 refine gB ?_
 refine gI (fun hc2 => ?_) fun hc2 => ?_
 ·refine ats_skip ?_
  (repeat refine ats_seq ?_); refine ats_block ?_
  have hi' : i < m.length := by omega
  have e1 := congrArg List.length (hpart i hi')
  rw [List.length_append] at e1
  have e2 := hle i
  have e3 := hle (i + 1)
  refine gB ?_
  refine gB ?_
  refine gB ?_
  refine gI (fun hc3 => ?_) fun hc3 => ?_
  ·omega
  ·refine ats_skip ?_
   refine gB ?_
   refine ⟨i + 1,  by omega, by omega, .inl ⟨by simp only [leS, Nat.reduceEqDiff, ↓reduceIte, true_and, and_true]; (first | omega | (refine ⟨?_, ?_⟩ <;> omega)),  rfl⟩⟩
 ·refine ats_exit (lq_x ?_)
  obtain rfl : i = m.length := by omega
  rw [List.take_length]
  refine gC fun K hK => ?_
  refine fcall_own rfl (hg) rfl ?_; simp only [go_sem, seval]
  refine hK _ ?_; clear hK K
  (repeat refine ats_seq ?_); refine AT.ghost (ghost_r2 0 rfl) ?_; simp only [find, killL, killA, killAs, qOf, rmT, killH, killT, putT, List.map_cons, List.map_nil, List.filter_cons, List.filter_nil, List.contains_cons, List.contains_nil, List.isEmpty_nil, List.isEmpty_cons, Bool.or_false, Bool.or_true, Bool.false_and, Bool.true_and, Bool.and_false, Bool.and_true, Bool.not_true, Bool.not_false, Bool.false_eq_true, if_true, if_false, seval]
  refine gB ?_
  (repeat refine ats_seq ?_); refine ats_loop (fun i : Nat => ⟨[(6, .ref 0 []), (25, .l3 m), (26, .int m.length), (27, .int i)], [(0, .r2 (m.take i).flatten)]⟩) (fun i => i ≤ m.length) (fun i => m.length - i) 0 (Nat.zero_le _) (by refine And.intro ?_ rfl; simp only [leS, Nat.reduceEqDiff, ↓reduceIte, true_and, and_true]; repeat' (first | rfl | with_reducible refine And.intro ?_ ?_ | omega)) (fun i hi => ?_)
  refine gB ?_
  refine gI (fun hc4 => ?_) fun hc4 => ?_
  ·refine ats_skip ?_
   (repeat refine ats_seq ?_); refine ats_block ?_
   have hi' : i < m.length := by omega
   have e0 := (hpart i hi').symm
   have e1 := congrArg List.length (hpart i hi')
   rw [List.length_append] at e1
   have e2 := hle i
   have e3 := hle (i + 1)
   refine gB ?_
   (repeat refine ats_seq ?_); refine ats_go (fix0 hcx) fun K hK => ?_; simp only [go_sem, seval, e0]
   (repeat refine aI (hb := ?_))
   refine hK _ ?_; clear hK K
   refine gB ?_
   refine ⟨i + 1,  by omega, by omega, .inl ⟨by simp only [leS, Nat.reduceEqDiff, ↓reduceIte, true_and, and_true]; omega,  rfl⟩⟩
  ·refine ats_exit (lq_x ?_)
   obtain rfl : i = m.length := by omega
   rw [List.take_length]
   refine gB ?_
   exact ats_ret (finV rfl ⟨rfl, trivial⟩ rfl)
set_option maxHeartbeats 8000000 in
theorem commuting_ok (n : Nat) (h1 : 1 ≤ n) (h6 : n ≤ 6) (a : List (List Int)) (hm : MatP n a) : FreshCall Tryz.prog 19 [.l2 a] (.l2 (eqB (e2 a) n (n * n))) := by
 obtain ⟨N, eN⟩ : ∃ N, n * n = N := ⟨_, rfl⟩
 have eN1 : (n : Int) * (n : Int) = (N : Int) := by rw [← eN]; exact (Int.natCast_mul _ _).symm
 have bN : 1 ≤ N ∧ N ≤ 36 := by
  have : n * n ≤ 6 * 6 := Nat.mul_le_mul (by omega) (by omega)
  have : 1 * 1 ≤ n * n := Nat.mul_le_mul (by omega) (by omega)
  omega
 have lm := hm.1
 have mat : ∀ i, i < n → ∀ j, j < n → i * n + j < N ∧ i * n ≤ 36 := fun i hi j hj => by
  have h2 : (i + 1) * n ≤ n * n := Nat.mul_le_mul_right n hi
  rw [Nat.succ_mul, eN] at h2
  omega
 have eP : ∀ i j : Nat, (i : Int) * (n : Int) + (j : Int) = ((i * n + j : Nat) : Int) := fun i j => by push_cast; rfl
 have eQ : ∀ i : Nat, (i : Int) * (n : Int) = ((i * n : Nat) : Int) := fun i => by push_cast; rfl
 obtain ⟨S, eS⟩ : ∃ S, S = e2 a := ⟨_, rfl⟩
 rw [← eS]
 have zN : List.replicate N (0 : Int) = rowF N (fun _ => 0) := by simp [rowF, List.map_const']
 have lA : ∀ K, (eqB S n K).length = K := fun K => eqB_length
 have hE0 : ([] : List (List Int)) = eqB S n (0 * n) := by rw [Nat.zero_mul]; rfl
 refine FreshCall.intro (n := 84) (rs := [.tmp 2]) Tryz.call19 Tryz.func19 rfl rfl rfl (by simp only [List.length_cons, List.length_nil]; omega) (fun cx hcx => ats_of ?_); simp only [argSlots, Nat.zero_add, Nat.reduceAdd]
 refine gB ?_
 (repeat refine ats_seq ?_); refine ats_go (fix0 hcx) fun K hK => ?_; simp only [go_sem, seval, lm]
 (repeat refine aI (hb := ?_))
 refine hK _ ?_; clear hK K
 refine gB ?_
 rw [hE0]
 (repeat refine ats_seq ?_); refine ats_loop (fun i : Nat => ⟨[(0, .l2 a), (3, .int n), (4, .ref 0 []), (12, .int n), (13, .int i)], [(0, .t2 (eqB S n (i * n)))]⟩) (fun i => i ≤ n) (fun i => n - i) 0 (Nat.zero_le _) (by refine And.intro ?_ rfl; simp only [leS, Nat.reduceEqDiff, ↓reduceIte, true_and, and_true]; repeat' (first | rfl | with_reducible refine And.intro ?_ ?_ | omega)) (fun i hi => ?_)
 refine gB ?_
 refine gI (fun hc2 => ?_) fun hc2 => ?_
 ·have hin : i < n := by omega
  refine ats_skip ?_
  (repeat refine ats_seq ?_); refine ats_block ?_
  refine gB ?_
  refine gB ?_
  (repeat refine ats_seq ?_); refine ats_loop (fun j : Nat => ⟨[(0, .l2 a), (3, .int n), (4, .ref 0 []), (5, .int i), (12, .int n), (13, .int i), (16, .int n), (17, .int j)], [(0, .t2 (eqB S n (i * n + j)))]⟩) (fun j => j ≤ n) (fun j => n - j) 0 (Nat.zero_le _) (by refine And.intro ?_ rfl; simp only [leS, Nat.reduceEqDiff, ↓reduceIte, true_and, and_true]; repeat' (first | rfl | with_reducible refine And.intro ?_ ?_ | omega)) (fun j hj => ?_)
  refine gB ?_
  refine gI (fun hc4 => ?_) fun hc4 => ?_
  ·have hjn : j < n := by omega
   have hij := mat i hin j hjn
   refine ats_skip ?_
   (repeat refine ats_seq ?_); refine ats_block ?_
   refine gB ?_
   (repeat refine ats_seq ?_); refine ats_go (fix0 hcx) fun K hK => ?_; simp only [go_sem, seval, eN1, Int.toNat_natCast]
   (repeat refine aI (hb := ?_))
   refine hK _ ?_; clear hK K
   rw [zN]
   refine gB ?_
   (repeat refine ats_seq ?_); refine ats_loop (fun k : Nat => ⟨[(0, .l2 a), (3, .int n), (4, .ref 0 []), (5, .int i), (6, .int j), (7, .ref 1 []), (12, .int n), (13, .int i), (16, .int n), (17, .int j), (24, .int n), (25, .int k)], [(0, .t2 (eqB S n (i * n + j))), (1, .t1 (rowF N (riF S n i j k)))]⟩) (fun k => k ≤ n) (fun k => n - k) 0 (Nat.zero_le _) (by refine And.intro ?_ rfl; simp only [leS, Nat.reduceEqDiff, ↓reduceIte, true_and, and_true]; repeat' (first | rfl | with_reducible refine And.intro ?_ ?_ | omega)) (fun k hk => ?_)
   refine gB ?_
   refine gI (fun hc6 => ?_) fun hc6 => ?_
   ·have hkn : k < n := by omega
    have fs : riF S n i j (k + 1) = up1 (up1 (riF S n i j k) (i * n + k) ((riF S n i j k (i * n + k) + S k j) % 55441)) (k * n + j) ((up1 (riF S n i j k) (i * n + k) ((riF S n i j k (i * n + k) + S k j) % 55441) (k * n + j) - S i k) % 55441) := rfl
    have fi := riF_inP (S := S) (n := n) (i := i) (j := j) k
    obtain ⟨f, ef⟩ : ∃ f, riF S n i j k = f := ⟨_, rfl⟩
    rw [ef] at fs fi ⊢
    have b1 := mat i hin k hkn
    have b2 := mat k hkn j hjn
    have q1 := eQ i
    have q2 := eQ k
    have p1 := eP i k
    have p2 := eP k j
    obtain ⟨p, ep⟩ : ∃ p, i * n + k = p := ⟨_, rfl⟩
    obtain ⟨q, eq⟩ : ∃ q, k * n + j = q := ⟨_, rfl⟩
    rw [ep] at p1 b1 fs
    rw [eq] at p2 b2 fs
    have r1 := hm.row hkn
    have r2 := hm.row hin
    have s1 : (a.getD k []).getD j 0 = S k j := by rw [eS]; try rfl
    have s2 : (a.getD i []).getD k 0 = S i k := by rw [eS]; try rfl
    have i1 : InP (S k j) := by rw [eS]; exact hm.inP hkn hjn
    have i2 : InP (S i k) := by rw [eS]; exact hm.inP hin hkn
    have g1 : (rowF N f).getD p 0 = f p := rowF_get b1.1
    have l1 := rowF_length N f
    have i3 := fi p
    have fi2 := up1_inP (f := f) (p := p) (x := f p + S k j) fi
    have st1 : (rowF N f).set p ((f p + S k j) % 55441) = rowF N (up1 f p ((f p + S k j) % 55441)) := rowF_up1
    have hM1 := modV_ok (f p + S k j) (by unfold InP at i1 i3; omega) (by unfold InP at i1 i3; omega)
    obtain ⟨h, eh⟩ : ∃ h, up1 f p ((f p + S k j) % 55441) = h := ⟨_, rfl⟩
    rw [eh] at st1 fs fi2
    have g2 : (rowF N h).getD q 0 = h q := rowF_get b2.1
    have l2 := rowF_length N h
    have i4 := fi2 q
    have st2 : (rowF N h).set q ((h q - S i k) % 55441) = rowF N (up1 h q ((h q - S i k) % 55441)) := rowF_up1
    have hM2 := modV_ok (h q - S i k) (by unfold InP at i2 i4; omega) (by unfold InP at i2 i4; omega)
    unfold InP at i1 i2 i3 i4
    refine ats_skip ?_
    (repeat refine ats_seq ?_); refine ats_block ?_
    refine gB ?_
    (repeat refine ats_seq ?_); refine ats_pick (fix0 hcx) mixed (by kernel_rfl) fun K hK => ?_; simp only [go_sem, seval, p1, s1, g1, r1, l1, lm, Int.toNat_natCast]
    (repeat refine aI (hb := ?_))
    first | refine fcall_data (hM1) rfl ?_ | refine YR_intro (acall_data (hM1) rfl) ?_
    simp only [go_sem, seval]
    simp only [go_sem, seval, p1, s1, g1, r1, l1, lm, Int.toNat_natCast, st1]
    (repeat refine aI (hb := ?_))
    refine hK _ ?_; clear hK K
    (repeat refine ats_seq ?_); refine ats_pick (fix0 hcx) mixed (by kernel_rfl) fun K hK => ?_; simp only [go_sem, seval, p2, s2, g2, r2, l2, lm, Int.toNat_natCast]
    (repeat refine aI (hb := ?_))
    first | refine fcall_data (hM2) rfl ?_ | refine YR_intro (acall_data (hM2) rfl) ?_
    simp only [go_sem, seval]
    simp only [go_sem, seval, p2, s2, g2, r2, l2, lm, Int.toNat_natCast, st2]
    (repeat refine aI (hb := ?_))
    refine hK _ ?_; clear hK K
    refine gB ?_
    refine ⟨k + 1,  by omega, by omega, .inl ⟨by simp only [leS, Nat.reduceEqDiff, ↓reduceIte, true_and, and_true]; omega,  by rw [fs]⟩⟩
   ·obtain rfl : k = n := by omega
    have la := lA (i * k + j)
    have hsc := eqB_succ (S := S) (i := i) hjn
    rw [eN] at hsc
    refine ats_exit (lq_x ?_)
    (repeat refine ats_seq ?_); refine ats_go (fix0 hcx) fun K hK => ?_; simp only [go_sem, seval, la]
    (repeat refine aI (hb := ?_))
    refine hK _ ?_; clear hK K
    refine gB ?_
    refine ⟨j + 1,  by omega, by omega, .inl ⟨by simp only [leS, Nat.reduceEqDiff, ↓reduceIte, true_and, and_true]; omega,  by rw [hsc]⟩⟩
  ·obtain rfl : j = n := by omega
   refine ats_exit (lq_x ?_)
   refine gB ?_
   refine ⟨i + 1,  by omega, by omega, .inl ⟨by simp only [leS, Nat.reduceEqDiff, ↓reduceIte, true_and, and_true]; omega,  by rw [Nat.succ_mul]⟩⟩
 ·obtain rfl : i = n := by omega
  rw [eN]
  refine ats_exit (lq_x ?_)
  refine gB ?_
  exact ats_ret (ownV (is := [0]) rfl ⟨rfl, trivial⟩ rfl (by simp))
end Go.Proofs.YthhjcdnfflcikaaGreat
namespace Go.Proofs.YthhjcdnfflcikaaGreat
open Go Go.Aw Go.Pl
attribute [local go_sem] pl_fin pl_stop pl_one pl_alt PK_ap pickO List.getElem?_toArray List.getElem?_cons_zero List.getElem?_cons_succ
theorem gj_le {n : Nat} {A : List (List Int)} (hA : RowsP n A) : rkL n A ≤ n := by
 obtain ⟨pv, hP⟩ := gj_P (rowsP_ent hA) n (Nat.le_refl _)
 have nd : ((List.range (rkL n A)).map pv).Nodup := by
  unfold List.Nodup
  rw [List.pairwise_map]
  exact List.Pairwise.imp_of_mem (fun {a b} ha hb hne e => hne (hP.inj (List.mem_range.1 ha) (List.mem_range.1 hb) e)) List.nodup_range
 have := List.Nodup.length_le_of_subset nd (l₂ := List.range n) fun x hx => by
  obtain ⟨i, hi, rfl⟩ := List.mem_map.1 hx
  exact List.mem_range.2 (hP.pk i (List.mem_range.1 hi))
 rwa [List.length_map, List.length_range, List.length_range] at this
theorem riF_cg {S S' : Nat → Nat → Int} {n i j : Nat} (hi : i < n) (hj : j < n) (h : ∀ a, a < n → ∀ b, b < n → S a b = S' a b) : ∀ K, K ≤ n → riF S n i j K = riF S' n i j K
 | 0, _ => rfl
 | K + 1, hK => by
  unfold riF
  rw [riF_cg hi hj h K (by omega), h K (by omega) j hj, h i hi K (by omega)]
theorem eqB_cg {S S' : Nat → Nat → Int} {n : Nat} (h : ∀ a, a < n → ∀ b, b < n → S a b = S' a b) : eqB S n (n * n) = eqB S' n (n * n) := by
 unfold eqB
 refine List.map_congr_left fun t ht => ?_
 have ht := List.mem_range.1 ht
 have hn : 0 < n := by
  rcases Nat.eq_zero_or_pos n with rfl | h
  ·simp at ht
  ·exact h
 rw [riF_cg (Nat.div_lt_of_lt_mul ht) (Nat.mod_lt _ hn) h n (Nat.le_refl _)]
set_option maxHeartbeats 8000000 in
theorem implComd_ok (s : List (List Int)) (t : List Int) : PureCall Tryz.prog 7 [.agg [.l2 s, .l1 t]] (comdA s t) := by
 have hI := IsData_ok s t
 unfold comdA
 cases hd : isData s t with
 | false =>
  rw [hd] at hI
  rw [if_neg (by simp)]
  refine PureCall.intro (n := 34) (rs := [.tmp 2, .tmp 3]) Tryz.call7 Tryz.func7 rfl rfl rfl (by simp only [List.length_cons, List.length_nil]; omega) (fun cx hcx => ats_of ?_); simp only [argSlots, Nat.zero_add, Nat.reduceAdd]
  refine gB ?_
  refine gC fun K hK => ?_
  first | refine fcall_data (hI) rfl ?_ | refine YR_intro (acall_data (hI) rfl) ?_
  simp only [go_sem, seval]
  refine hK _ ?_; clear hK K
  (repeat refine ats_seq ?_); refine ats_yes rfl trivial ?_
  refine gB ?_
  exact ats_ret (fin2 trivial trivial rfl)
 | true =>
  rw [hd] at hI
  rw [if_pos rfl]
  by_cases h6 : 6 < t.length
  ·rw [if_pos h6]
   refine PureCall.intro (n := 34) (rs := [.tmp 2, .tmp 3]) Tryz.call7 Tryz.func7 rfl rfl rfl (by simp only [List.length_cons, List.length_nil]; omega) (fun cx hcx => ats_of ?_); simp only [argSlots, Nat.zero_add, Nat.reduceAdd]
   refine gB ?_
   refine gC fun K hK => ?_
   first | refine fcall_data (hI) rfl ?_ | refine YR_intro (acall_data (hI) rfl) ?_
   simp only [go_sem, seval]
   refine hK _ ?_; clear hK K
   (repeat refine ats_seq ?_); refine ats_no rfl trivial ?_
   refine ats_skip ?_
   refine gB ?_
   refine gB ?_
   refine gI (fun hc2 => ?_) fun hc2 => ?_
   ·refine gB ?_
    exact ats_ret (fin2 trivial trivial rfl)
   ·omega
  ·rw [if_neg h6]
   have hs := (isData_some hd).1
   have h1 := hs.1
   have hm := hs.2.2.1
   have hT := hs.2.2.2
   unfold comdN
   obtain ⟨n, en⟩ : ∃ n, t.length = n := ⟨_, rfl⟩
   rw [en] at hm hT h6 h1 ⊢
   have eD := eqB_cg (S := e2 (Pl.diF t n)) (S' := fun a b => if a = b then t.getD a 0 else 0) (n := n) fun a ha b hb => by
    unfold Pl.diF
    rw [matF_e2 ha hb]
   have hrk := comm_rk (S := e2 s) (T := fun i => t.getD i 0) (n := n)
   have hD := diagonal_ok t n (by omega) en
   have hC1 := commuting_ok n h1 (by omega) s hm
   have hC2 := commuting_ok n h1 (by omega) (Pl.diF t n) (diF_MatP hT)
   rw [eD] at hC2
   have l1 : (eqB (e2 s) n (n * n)).length = n * n := eqB_length
   have l2 : (eqB (fun a b => if a = b then t.getD a 0 else 0) n (n * n)).length = n * n := eqB_length
   have bN : 1 ≤ n * n ∧ n * n ≤ 36 := by
    have : n * n ≤ 6 * 6 := Nat.mul_le_mul (by omega) (by omega)
    have : 1 * 1 ≤ n * n := Nat.mul_le_mul (by omega) (by omega)
    omega
   have ef : ([eqB (e2 s) n (n * n), eqB (fun a b => if a = b then t.getD a 0 else 0) n (n * n)] : List (List (List Int))).flatten = eqB (e2 s) n (n * n) ++ eqB (fun a b => if a = b then t.getD a 0 else 0) n (n * n) := by simp
   have hRows : RowsP (n * n) (eqB (e2 s) n (n * n) ++ eqB (fun a b => if a = b then t.getD a 0 else 0) n (n * n)) := fun r hr => (List.mem_append.1 hr).elim (eqB_rows r) (eqB_rows r)
   have hlen : (eqB (e2 s) n (n * n) ++ eqB (fun a b => if a = b then t.getD a 0 else 0) n (n * n)).length = n * n + n * n := by rw [List.length_append, l1, l2]
   have hCat := concatR_ok [eqB (e2 s) n (n * n), eqB (fun a b => if a = b then t.getD a 0 else 0) n (n * n)] (by rw [ef, hlen]; omega) (by rw [ef, hlen]; omega) (by show 2 ≤ 1000; omega)
   rw [ef] at hCat
   obtain ⟨det, hRed⟩ := reduceF_ok (n * n) (eqB (e2 s) n (n * n) ++ eqB (fun a b => if a = b then t.getD a 0 else 0) n (n * n)) hRows (by omega) (by omega) (by rw [hlen]; omega) (by rw [hlen]; omega)
   have hle := gj_le hRows
   have hbl := basL_length (n := n * n) (A := eqB (e2 s) n (n * n) ++ eqB (fun a b => if a = b then t.getD a 0 else 0) n (n * n))
   rw [← hrk] at hle hbl
   generalize rkL (n * n) (eqA (e2 s) (fun i => t.getD i 0) n (n * n)) = r at *
   generalize basL (n * n) (eqB (e2 s) n (n * n) ++ eqB (fun a b => if a = b then t.getD a 0 else 0) n (n * n)) = B at *
   generalize eqB (e2 s) n (n * n) ++ eqB (fun a b => if a = b then t.getD a 0 else 0) n (n * n) = AB at *
   generalize eqB (e2 s) n (n * n) = A1 at *
   generalize eqB (fun a b => if a = b then t.getD a 0 else 0) n (n * n) = A2 at *
   generalize Pl.diF t n = Dg at *
   have eN1 : (n : Int) * (n : Int) = ((n * n : Nat) : Int) := (Int.natCast_mul _ _).symm
   generalize n * n = N at *
   clear ef hRows hlen l1 l2 hrk eD
   refine PureCall.intro (n := 34) (rs := [.tmp 2, .tmp 3]) Tryz.call7 Tryz.func7 rfl rfl rfl (by simp only [List.length_cons, List.length_nil]; omega) (fun cx hcx => ats_of ?_); simp only [argSlots, Nat.zero_add, Nat.reduceAdd]
   refine gB ?_
   refine gC fun K hK => ?_
   first | refine fcall_data (hI) rfl ?_ | refine YR_intro (acall_data (hI) rfl) ?_
   simp only [go_sem, seval]
   refine hK _ ?_; clear hK K
   (repeat refine ats_seq ?_); refine ats_no rfl trivial ?_
   refine ats_skip ?_
   refine gB ?_
   refine gB ?_
   refine gI (fun hc2 => ?_) fun hc2 => ?_
   ·omega
   ·refine ats_skip ?_
    (repeat refine ats_seq ?_)
    refine ats_plan [] (.one 0 (.one 1 (.one 2 (.one 3 (.one 4 (.one 5 (.one 6 (.alt 7 (.one 8 (.one 9 (.one 10 (.one 11 (.one 12 (.one 13 (.one 14 .fin))))))) .stop)))))))) ⟨[(4, .int t.length), (5, .l2 B)], [(0, .bx [.l2 s, .l1 t])]⟩ (fix0 hcx) mixed (by kernel_rfl) (fun K hK => ?_) ?_
    ·simp only [go_sem, seval, Option.getD_some, and_true, true_and, and_self, List.contains_cons, List.contains_nil, Bool.or_false, Bool.or_true]
     repeat' (first | exact hK _ (by refine And.intro ?_ rfl; simp only [leS, Nat.reduceEqDiff, ↓reduceIte, true_and, and_true])  | with_reducible refine And.intro ?_ ?_ | omega | ((first | refine fcall_fresh rfl (hC1) ?_ | refine YR_intro (acall_fresh rfl (hC1)) ?_); simp only [go_sem, seval, Option.getD_some, and_true, true_and, and_self, List.contains_cons, List.contains_nil, Bool.or_false, Bool.or_true]) | ((first | refine fcall_fresh rfl (hD) ?_ | refine YR_intro (acall_fresh rfl (hD)) ?_); simp only [go_sem, seval, Option.getD_some, and_true, true_and, and_self, List.contains_cons, List.contains_nil, Bool.or_false, Bool.or_true]) | ((first | refine fcall_fresh rfl (hC2) ?_ | refine YR_intro (acall_fresh rfl (hC2)) ?_); simp only [go_sem, seval, Option.getD_some, and_true, true_and, and_self, List.contains_cons, List.contains_nil, Bool.or_false, Bool.or_true]) | ((first | refine fcall_data (hCat) rfl ?_ | refine YR_intro (acall_data (hCat) rfl) ?_); simp only [go_sem, seval, Option.getD_some, and_true, true_and, and_self, List.contains_cons, List.contains_nil, Bool.or_false, Bool.or_true]) | ((first | refine fcall_data (hRed) rfl ?_ | refine YR_intro (acall_data (hRed) rfl) ?_); simp only [go_sem, seval, Option.getD_some, and_true, true_and, and_self, List.contains_cons, List.contains_nil, Bool.or_false, Bool.or_true]) | ((simp only [en])))
    rw [en]
    (repeat refine ats_seq ?_); refine ats_go (fix0 hcx) fun K hK => ?_; simp only [go_sem, seval, eN1, hbl]
    (repeat refine aI (hb := ?_))
    refine hK _ ?_; clear hK K
    have es : (N : Int) - (r : Int) = ((N - r : Nat) : Int) := by omega
    rw [es]
    exact ats_ret (fin2 trivial trivial rfl)
noncomputable def comR (s : List (List Int)) (t : List Int) : Int × Int := if isData s t then (if 6 < t.length then (0, 3) else ((comdN s t : Nat), 0)) else (0, 1)
theorem comdA_eq (s : List (List Int)) (t : List Int) : comdA s t = .tup [.int (comR s t).1, .int (comR s t).2] := by
 unfold comdA comR
 split
 ·split <;> rfl
 ·rfl
theorem specComR_ok (s : List (List Int)) (t : List Int) : PureCall Tryz.prog 5 [.agg [.l2 s, .l1 t]] (.tup [.int (comR s t).1, .int (comR s t).2]) := by rw [← comdA_eq]; exact specComd_ok s t
theorem implComR_ok (s : List (List Int)) (t : List Int) : PureCall Tryz.prog 7 [.agg [.l2 s, .l1 t]] (.tup [.int (comR s t).1, .int (comR s t).2]) := by rw [← comdA_eq]; exact implComd_ok s t
end Go.Proofs.YthhjcdnfflcikaaGreat
