import Derived.Test.YtmjcbgpbhlheoaaSz1
import Derived.Test.YtmjcbgpbhlheoaaQd7
import Derived.Test.YtmjcbgpbhlheoaaQd8
import Derived.Test.YtmjcbgpbhlheoaaLib7
set_option linter.unusedSimpArgs false
set_option linter.unusedVariables false
namespace Go.Proofs.Ytmjcbgpbhlheoaa
open Go Go.Aw Go.Pl
attribute [local go_sem] mv_nil mv_cons MVK_ap pl_fin pl_stop pl_one pl_alt PK_ap pickO List.getElem?_toArray List.getElem?_cons_zero List.getElem?_cons_succ
set_option maxRecDepth 100000 in
set_option maxHeartbeats 8000000 in
theorem nearGroup_ok (o : List Int) (h : PosO o) (k : Int) (h15 : prodO o ≤ 15) (k0 : 0 ≤ k) (k1 : k ≤ 1000) : FreshCall Try.prog 36 [.l1 o, .int k] (.agg [.l3 (nearT o k)]) := by
 have hp := prodO_pos h
 have hG := groupRing_ok o h (by omega)
 obtain ⟨n, en⟩ : ∃ n : Nat, (prodO o).toNat = n := ⟨_, rfl⟩
 have hend := ng_end h (k := k) en
 have shp : ∀ i, i < n → ((grpT o 0).getD i []).length = n ∧ ∀ j, j < n → (((grpT o 0).getD i []).getD j []).length = n := fun i hi => by
  rw [grpT_eq, en]
  exact ⟨cubF_mat hi, fun j hj => cubF_row hi hj⟩
 have lT : (grpT o 0).length = n := by rw [grpT_eq, en, cubF_length]
 have hn1 : 1 ≤ n := by omega
 have hn15 : n ≤ 15 := by omega
 have hE := emptyCube_ok (n + 1) (by omega) (by omega)
 rw [cub0, ng_zero (T := grpT o 0)] at hE
 rw [show ((n + 1 : Nat) : Int) = (n : Int) + 1 by push_cast; rfl] at hE
 rw [← hend]
 clear hend
 generalize grpT o 0 = T at *
 refine FreshCall.introR (n := 87) (rs := [.cell 4 28]) Try.call36 Try.func36 rfl rfl rfl (by simp only [List.length_cons, List.length_nil]; omega) (fun cx hcx hrd => ats_of ?_); simp only [argSlots, Nat.zero_add, Nat.reduceAdd]
 refine gB ?_
 refine gC fun K hK => ?_
 first | refine fcall_data (hG) rfl ?_ | refine YR_intro (acall_data (hG) rfl) ?_
 simp only [go_sem, seval]
 refine hK _ ?_; clear hK K
 refine gC fun K hK => ?_
 simp only [lT]
 refine hK _ ?_; clear hK K
 refine gC fun K hK => ?_
 (repeat refine aI (hb := ?_))
 refine fcall_own rfl (hE) rfl ?_; simp only [go_sem, seval]
 (repeat refine aI (hb := ?_))
 refine hK _ ?_; clear hK K
 refine gB ?_
 (repeat refine ats_seq ?_); refine ats_loop (fun i : Nat => ⟨[(1, .int k), (4, .bptr 0 0), (5, .bptr 1 0), (6, .int n), (7, .bptr 3 0), (18, .int n), (19, .int i)], [(2, .t3 (cubF (n + 1) (ngG T n i 0))), (0, .bx [.nil]), (1, .bx [.l3 T]), (3, .bx [.ref 2 []])]⟩) (fun i => i ≤ n) (fun i => n - i) 0 (Nat.zero_le _) (by refine And.intro ?_ rfl; simp only [leS, Nat.reduceEqDiff, ↓reduceIte, true_and, and_true]; repeat' (first | rfl | with_reducible refine And.intro ?_ ?_ | omega)) (fun i hi => ?_)
 refine gB ?_
 refine gI (fun hc2 => ?_) fun hc2 => ?_
 ·refine ats_skip ?_
  (repeat refine ats_seq ?_); refine ats_block ?_
  refine gB ?_
  refine gB ?_
  (repeat refine ats_seq ?_); refine ats_loop (fun j : Nat => ⟨[(1, .int k), (4, .bptr 0 0), (5, .bptr 1 0), (6, .int n), (7, .bptr 3 0), (8, .int i), (18, .int n), (19, .int i), (22, .int n), (23, .int j)], [(2, .t3 (cubF (n + 1) (ngG T n i j))), (0, .bx [.nil]), (1, .bx [.l3 T]), (3, .bx [.ref 2 []])]⟩) (fun j => j ≤ n) (fun j => n - j) 0 (Nat.zero_le _) (by refine And.intro ?_ rfl; simp only [leS, Nat.reduceEqDiff, ↓reduceIte, true_and, and_true]; repeat' (first | rfl | with_reducible refine And.intro ?_ ?_ | omega)) (fun j hj => ?_)
  refine gB ?_
  refine gI (fun hc4 => ?_) fun hc4 => ?_
  ·have hi' : i < n := by omega
   have hj' : j < n := by omega
   have l1 := cubF_length (n + 1) (ngG T n i j)
   have l2 := cubF_mat (f := ngG T n i j) (show i < n + 1 by omega)
   have l3 := cubF_row (f := ngG T n i j) (show i < n + 1 by omega) (show j < n + 1 by omega)
   obtain ⟨s1, s2⟩ := shp i hi'
   have s3 := s2 j hj'
   have sk := ng_copy (T := T) hi' hj' s3
   clear shp s2
   refine ats_skip ?_
   (repeat refine ats_seq ?_); refine ats_block ?_
   refine gB ?_
   (repeat refine ats_seq ?_)
   refine ats_plan [] (.one 0 (.one 1 (.one 2 (.one 3 (.one 4 (.one 5 (.one 6 (.one 7 (.one 8 (.one 9 (.one 10 (.one 11 (.one 12 (.one 13 (.one 14 (.one 15 (.alt 16 .fin .stop))))))))))))))))) ⟨[(1, .int k), (4, .bptr 0 0), (5, .bptr 1 0), (6, .int n), (7, .bptr 3 0), (8, .int i), (18, .int n), (19, .int i), (22, .int n), (23, .int j)], [(2, .t3 (cubF (n + 1) (ngG T n i (j + 1)))), (0, .bx [.nil]), (1, .bx [.l3 T]), (3, .bx [.ref 2 []])]⟩ (fix0 hcx) mixed (by kernel_rfl) (fun K hK => ?_) ?_
   ·simp only [go_sem, seval, Option.getD_some, and_true, true_and, and_self, List.contains_cons, List.contains_nil, Bool.or_false, Bool.or_true]
    repeat' (first | exact hK _ (by refine And.intro ?_ rfl; simp only [leS, Nat.reduceEqDiff, ↓reduceIte, true_and, and_true])  | with_reducible refine And.intro ?_ ?_ | omega | ((rw [sk])))
   refine gB ?_
   refine ⟨j + 1,  by omega, by omega, .inl ⟨by simp only [leS, Nat.reduceEqDiff, ↓reduceIte, true_and, and_true]; omega,  rfl⟩⟩
  ·obtain rfl : j = n := by omega
   have st := ng_step (T := T) (n := j) (show i < j by omega)
   obtain ⟨G, eG⟩ : ∃ G, ngG T j i j = G := ⟨_, rfl⟩
   rw [eG] at st ⊢
   have l1 := cubF_length (j + 1) G
   have l2 := cubF_mat (f := G) (show i < j + 1 by omega)
   have l3 := cubF_row (f := G) (show i < j + 1 by omega) (show j < j + 1 by omega)
   have l4 := cubF_mat (f := G) (show j < j + 1 by omega)
   have l5 := cubF_row (f := G) (show j < j + 1 by omega) (show i < j + 1 by omega)
   have l6 := cubF_row (f := G) (show j < j + 1 by omega) (show j < j + 1 by omega)
   have u1 := cubF_upd (n := j + 1) (g := G) (i := i) (j := j) (k := j) (v := 1) (by omega) (by omega)
   have u2 := cubF_upd (n := j + 1) (g := updG G i j j 1) (i := j) (j := i) (k := j) (v := 1) (by omega) (by omega)
   have u3 := cubF_upd (n := j + 1) (g := updG (updG G i j j 1) j i j 1) (i := j) (j := j) (k := i) (v := 1) (by omega) (by omega)
   obtain ⟨G1, eG1⟩ : ∃ g, updG G i j j 1 = g := ⟨_, rfl⟩
   rw [eG1] at u1 u2 u3 st
   obtain ⟨G2, eG2⟩ : ∃ g, updG G1 j i j 1 = g := ⟨_, rfl⟩
   rw [eG2] at u2 u3 st
   have a1 := cubF_length (j + 1) G1
   have a2 := cubF_mat (f := G1) (show j < j + 1 by omega)
   have a3 := cubF_row (f := G1) (show j < j + 1 by omega) (show i < j + 1 by omega)
   have b1 := cubF_length (j + 1) G2
   have b2 := cubF_mat (f := G2) (show j < j + 1 by omega)
   have b3 := cubF_row (f := G2) (show j < j + 1 by omega) (show j < j + 1 by omega)
   clear eG eG1 eG2 shp
   refine ats_exit (lq_x ?_)
   (repeat refine ats_seq ?_)
   refine ats_planM [99] [2, 5, 8, 11, 14, 17, 20, 23, 26] (.one 0 (.one 1 (.one 3 (.one 4 (.one 6 (.one 7 (.one 9 (.one 10 (.one 12 (.one 13 (.one 15 (.one 16 (.one 18 (.one 19 (.one 21 (.one 22 (.one 24 (.one 25 (.one 27 (.alt 28 (.one 29 (.alt 30 (.one 31 (.alt 32 .fin .stop)) .stop)) .stop)))))))))))))))))))) ⟨[(1, .int k), (4, .bptr 0 0), (5, .bptr 1 0), (6, .int j), (7, .bptr 3 0), (18, .int j), (19, .int i)], [(2, .t3 (cubF (j + 1) (updG G2 j j i 1))), (0, .bx [.nil]), (1, .bx [.l3 T]), (3, .bx [.ref 2 []])]⟩ hrd (fix0 hcx) mixed (by kernel_rfl) (fun K hK => ?_) ?_
   ·as_aux_lemma =>
     simp only [go_sem, seval, Option.getD_some, and_true, true_and, and_self, List.contains_cons, List.contains_nil, Bool.or_false, Bool.or_true]
     repeat' (first | exact hK _ (by refine And.intro ?_ rfl; simp only [leS, Nat.reduceEqDiff, ↓reduceIte, true_and, and_true]) | with_reducible refine And.intro ?_ ?_ | omega | ((simp only [u1])) | ((simp only [u2])) | ((simp only [u3])))
   rw [st]
   refine gB ?_
   refine ⟨i + 1,  by omega, by omega, .inl ⟨by simp only [leS, Nat.reduceEqDiff, ↓reduceIte, true_and, and_true]; omega,  rfl⟩⟩
 ·obtain rfl : i = n := by omega
  obtain ⟨G, eG⟩ : ∃ G, ngG T i i 0 = G := ⟨_, rfl⟩
  rw [eG]
  have l1 := cubF_length (i + 1) G
  have l2 := cubF_mat (f := G) (show i < i + 1 by omega)
  have l3 := cubF_row (f := G) (show i < i + 1 by omega) (show i < i + 1 by omega)
  have u1 := cubF_upd (n := i + 1) (g := G) (i := i) (j := i) (k := i) (v := k) (by omega) (by omega)
  refine ats_exit (lq_x ?_)
  refine gB ?_
  rw [u1]
  refine gB ?_
  exact ats_ret (ownC (v := .agg [.ref 2 []]) (by simp only [go_sem, seval]) rfl (by simp))
theorem implNr_ok (o : List Int) (k : Int) : PureCall Try.prog 12 [.l1 o, .int k] (.tup [.agg [.l3 (nrR o k).1], .int (nrR o k).2]) := by
 have hc := ordersCode_ok o 15 (by decide) (by decide)
 have hI := within_ok k 0 1000
 unfold nrR
 have bad : ¬ (0 ≤ k ∧ k ≤ 1000) → oCode o 15 = 0 ∨ oCode o 15 = 3 → PureCall Try.prog 12 [.l1 o, .int k] (.tup [.agg [.l3 []], .int 2]) := fun hk e => by
  rw [show (decide (0 ≤ k) && decide (k ≤ 1000)) = false by rw [← Bool.decide_and]; exact decide_eq_false hk] at hI
  refine ring_nil ?_
  rcases e with e | e
  ·rw [e] at hc
   refine PureCall.intro (n := 23) (rs := [.cell 4 28, .tmp 5]) Try.call12 Try.func12 rfl rfl rfl (by simp only [List.length_cons, List.length_nil]; omega) (fun cx hcx => ats_of ?_); simp only [argSlots, Nat.zero_add, Nat.reduceAdd]
   refine gB ?_
   refine gC fun K hK => ?_
   first | refine fcall_data (hc) rfl ?_ | refine YR_intro (acall_data (hc) rfl) ?_
   simp only [go_sem, seval]
   refine hK _ ?_; clear hK K
   refine gC fun K hK => ?_
   first | refine YR_intro (fun _ => acall_data (hI) rfl) ?_ | refine YR_intro (acall_data (hI) rfl) ?_
   simp only [go_sem, seval]
   refine hK _ ?_; clear hK K
   (repeat refine ats_seq ?_); refine ats_yes rfl trivial ?_
   refine gB ?_
   refine gB ?_
   (repeat refine ats_seq ?_); refine ats_yes rfl trivial ?_
   refine gB ?_
   exact ats_ret ⟨.inr rfl, .tup [.agg [.nil], .int 2], by simp only [resL, resA, go_sem, seval], rfl⟩
  ·rw [e] at hc
   refine PureCall.intro (n := 23) (rs := [.cell 4 28, .tmp 5]) Try.call12 Try.func12 rfl rfl rfl (by simp only [List.length_cons, List.length_nil]; omega) (fun cx hcx => ats_of ?_); simp only [argSlots, Nat.zero_add, Nat.reduceAdd]
   refine gB ?_
   refine gC fun K hK => ?_
   first | refine fcall_data (hc) rfl ?_ | refine YR_intro (acall_data (hc) rfl) ?_
   simp only [go_sem, seval]
   refine hK _ ?_; clear hK K
   refine gC fun K hK => ?_
   first | refine YR_intro (fun _ => acall_data (hI) rfl) ?_ | refine YR_intro (acall_data (hI) rfl) ?_
   simp only [go_sem, seval]
   refine hK _ ?_; clear hK K
   (repeat refine ats_seq ?_); refine ats_yes rfl trivial ?_
   refine gB ?_
   refine gB ?_
   (repeat refine ats_seq ?_); refine ats_yes rfl trivial ?_
   refine gB ?_
   exact ats_ret ⟨.inr rfl, .tup [.agg [.nil], .int 2], by simp only [resL, resA, go_sem, seval], rfl⟩
 rcases o_cases o 15 with ⟨h, hp, e⟩ | ⟨h, hp, e⟩ | ⟨h, e⟩
 ·by_cases hk : 0 ≤ k ∧ k ≤ 1000
  ·rw [show (decide (0 ≤ k) && decide (k ≤ 1000)) = true by rw [← Bool.decide_and]; exact decide_eq_true hk] at hI
   rw [if_neg (by omega), if_pos hk, if_pos e]
   rw [e] at hc
   dsimp only
   have hG := nearGroup_ok o h k hp hk.1 hk.2
   generalize nearT o k = T at *
   refine PureCall.intro (n := 23) (rs := [.cell 4 28, .tmp 5]) Try.call12 Try.func12 rfl rfl rfl (by simp only [List.length_cons, List.length_nil]; omega) (fun cx hcx => ats_of ?_); simp only [argSlots, Nat.zero_add, Nat.reduceAdd]
   refine gB ?_
   refine gC fun K hK => ?_
   first | refine fcall_data (hc) rfl ?_ | refine YR_intro (acall_data (hc) rfl) ?_
   simp only [go_sem, seval]
   refine hK _ ?_; clear hK K
   refine gC fun K hK => ?_
   first | refine YR_intro (fun _ => acall_data (hI) rfl) ?_ | refine YR_intro (acall_data (hI) rfl) ?_
   simp only [go_sem, seval]
   refine hK _ ?_; clear hK K
   (repeat refine ats_seq ?_); refine ats_no rfl trivial ?_
   refine ats_skip ?_
   refine gB ?_
   (repeat refine ats_seq ?_); refine ats_no rfl trivial ?_
   refine ats_skip ?_
   refine gC fun K hK => ?_
   first | refine fcall_fresh rfl (hG) ?_ | refine YR_intro (acall_fresh rfl (hG)) ?_
   simp only [go_sem, seval]
   refine hK _ ?_; clear hK K
   exact ats_ret ⟨.inr rfl, .tup [.agg [.l3 T], .int 0], by simp only [resL, resA, go_sem, seval], rfl⟩
  ·rw [if_neg (by omega), if_neg hk]
   exact bad hk (.inl e)
 ·by_cases hk : 0 ≤ k ∧ k ≤ 1000
  ·rw [show (decide (0 ≤ k) && decide (k ≤ 1000)) = true by rw [← Bool.decide_and]; exact decide_eq_true hk] at hI
   rw [if_neg (by omega), if_pos hk, if_neg (by omega)]
   rw [e] at hc
   refine ring_nil ?_
   refine PureCall.intro (n := 23) (rs := [.cell 4 28, .tmp 5]) Try.call12 Try.func12 rfl rfl rfl (by simp only [List.length_cons, List.length_nil]; omega) (fun cx hcx => ats_of ?_); simp only [argSlots, Nat.zero_add, Nat.reduceAdd]
   refine gB ?_
   refine gC fun K hK => ?_
   first | refine fcall_data (hc) rfl ?_ | refine YR_intro (acall_data (hc) rfl) ?_
   simp only [go_sem, seval]
   refine hK _ ?_; clear hK K
   refine gC fun K hK => ?_
   first | refine YR_intro (fun _ => acall_data (hI) rfl) ?_ | refine YR_intro (acall_data (hI) rfl) ?_
   simp only [go_sem, seval]
   refine hK _ ?_; clear hK K
   (repeat refine ats_seq ?_); refine ats_no rfl trivial ?_
   refine ats_skip ?_
   refine gB ?_
   (repeat refine ats_seq ?_); refine ats_yes rfl trivial ?_
   refine gB ?_
   exact ats_ret ⟨.inr rfl, .tup [.agg [.nil], .int 3], by simp only [resL, resA, go_sem, seval], rfl⟩
  ·rw [if_neg (by omega), if_neg hk]
   exact bad hk (.inr e)
 ·rw [if_pos e]
  rw [e] at hc
  refine ring_nil ?_
  refine PureCall.intro (n := 23) (rs := [.cell 4 28, .tmp 5]) Try.call12 Try.func12 rfl rfl rfl (by simp only [List.length_cons, List.length_nil]; omega) (fun cx hcx => ats_of ?_); simp only [argSlots, Nat.zero_add, Nat.reduceAdd]
  refine gB ?_
  refine gC fun K hK => ?_
  first | refine fcall_data (hc) rfl ?_ | refine YR_intro (acall_data (hc) rfl) ?_
  simp only [go_sem, seval]
  refine hK _ ?_; clear hK K
  refine gC fun K hK => ?_
  refine YR_intro (v := .bool true) (by first | trivial | (intro h; cases h) | (intro h; simp at h)) ?_
  simp only [go_sem, seval]
  refine hK _ ?_; clear hK K
  (repeat refine ats_seq ?_); refine ats_no rfl trivial ?_
  refine ats_skip ?_
  refine gB ?_
  (repeat refine ats_seq ?_); refine ats_yes rfl trivial ?_
  refine gB ?_
  exact ats_ret ⟨.inr rfl, .tup [.agg [.nil], .int 1], by simp only [resL, resA, go_sem, seval], rfl⟩
theorem implTy_ok (o : List Int) : PureCall Try.prog 11 [.l1 o] (.tup [.agg [.l3 (nrR o 0).1], .int (nrR o 0).2]) := by
 have h := implNr_ok o 0
 generalize (nrR o 0).1 = T at *
 generalize (nrR o 0).2 = c at *
 refine PureCall.intro (n := 8) (rs := [.cell 2 28, .tmp 3]) Try.call11 Try.func11 rfl rfl rfl (by simp only [List.length_cons, List.length_nil]; omega) (fun cx hcx => ats_of ?_); simp only [argSlots, Nat.zero_add, Nat.reduceAdd]
 refine gB ?_
 refine gC fun K hK => ?_
 first | refine fcall_data (h) rfl ?_ | refine YR_intro (acall_data (h) rfl) ?_
 simp only [go_sem, seval]
 refine hK _ ?_; clear hK K
 exact ats_ret ⟨.inr rfl, .tup [.agg [.l3 T], .int c], by simp only [resL, resA, go_sem, seval], rfl⟩
theorem dihedral1_ok (m i j : Nat) (hm : 1 ≤ m) (h8 : m ≤ 8) (hi : i < 2 * m) (hj : j < 2 * m) : PureCall Try.prog 48 [.int i, .int j, .cptr [.int m] 0] (.int (dhZ m i j)) := by
 have e1 := tdivN j m
 have e2 := tmodN j m
 by_cases c : i < m
 ·have e := dh_low hm c hj
  have e3 := tmodN (i + j) m
  have hq : j / m ≤ j := Nat.div_le_self _ _
  have hq2 : j / m ≤ 1 := by
   have : j / m < 2 := Nat.div_lt_of_lt_mul (by omega)
   omega
  have hr : (i + j) % m < m := Nat.mod_lt _ (by omega)
  have hqm : j / m * m ≤ 1 * m := Nat.mul_le_mul_right _ hq2
  rw [e, Int.natCast_add, Int.natCast_mul]
  rw [Int.natCast_add] at e3
  have hqc : ((j / m : Nat) : Int) * (m : Int) = ((j / m * m : Nat) : Int) := by push_cast; rfl
  generalize (i + j) % m = r at *
  generalize j / m = q at *
  refine PureCall.intro (n := 36) (rs := [.tmp 5]) Try.call48 Try.func48 rfl rfl rfl (by simp only [List.length_cons, List.length_nil]; omega) (fun cx hcx => ats_of ?_); simp only [argSlots, Nat.zero_add, Nat.reduceAdd]
  refine gB ?_
  refine gB ?_
  refine gI (fun hc => ?_) fun hc => ?_
  ·(repeat refine ats_seq ?_); refine ats_pick (fix0 hcx) mixed (by kernel_rfl) fun K hK => ?_; simp only [go_sem, seval]
   simp only [e1, e3]
   (repeat refine aI (hb := ?_))
   refine hK _ ?_; clear hK K
   refine ats_ret (finI rfl ?_)
   rfl
  ·omega
 ·obtain ⟨e, hq2, hr⟩ := dh_high hm c hi hj
  generalize j % m = s at *
  have e3 := tmodN (i + m - s) m
  have hr2 : (i + m - s) % m < m := Nat.mod_lt _ (by omega)
  have hqm : (1 - j / m) * m ≤ 1 * m := Nat.mul_le_mul_right _ (Nat.sub_le 1 _)
  rw [e, Int.natCast_add, Int.natCast_mul]
  rw [show ((i + m - s : Nat) : Int) = (i : Int) + m - (s : Int) by omega] at e3
  have hqc : ((1 - j / m : Nat) : Int) * (m : Int) = (((1 - j / m) * m : Nat) : Int) := by push_cast; rfl
  have hqd : ((1 - j / m : Nat) : Int) = 1 - ((j / m : Nat) : Int) := by omega
  rw [hqd] at hqc ⊢
  generalize (i + m - s) % m = r at *
  generalize (1 - j / m) * m = qm at *
  generalize j / m = q at *
  refine PureCall.intro (n := 36) (rs := [.tmp 5]) Try.call48 Try.func48 rfl rfl rfl (by simp only [List.length_cons, List.length_nil]; omega) (fun cx hcx => ats_of ?_); simp only [argSlots, Nat.zero_add, Nat.reduceAdd]
  refine gB ?_
  refine gB ?_
  refine gI (fun hc => ?_) fun hc => ?_
  ·omega
  ·refine ats_skip ?_
   (repeat refine ats_seq ?_); refine ats_pick (fix0 hcx) mixed (by kernel_rfl) fun K hK => ?_; simp only [go_sem, seval]
   simp only [e1, e2, e3]
   (repeat refine aI (hb := ?_))
   refine hK _ ?_; clear hK K
   refine ats_ret (finI rfl ?_)
   rfl
theorem implDg_ok (n : Int) : PureCall Try.prog 22 [.int n] (.tup [.agg [.l3 (if 1 ≤ n ∧ n ≤ 8 then dhgT n.toNat else [])], .int (if 1 ≤ n ∧ n ≤ 8 then 0 else 2)]) := by
 have hw := within_ok n 1 8
 by_cases hn : 1 ≤ n ∧ n ≤ 8
 ·rw [decide_eq_true hn.1, decide_eq_true hn.2] at hw
  rw [if_pos hn, if_pos hn]
  obtain ⟨m, rfl⟩ : ∃ m : Nat, n = m := ⟨n.toNat, by omega⟩
  have hT := fromTable_ok (2 * m) (by omega) (by omega) 48 [.cptr [.int m] 0] (dhZ m) rfl (dh_grp m (by omega) (by omega)).lt (fun i j hi hj => dihedral1_ok m i j (by omega) (by omega) hi hj)
  have e2 : cubF (2 * m) (it (fun x g => it (fun y g => updG g x y (dhZ m x y) 1) (2 * m) g) (2 * m) zG) = dhgT m := rfl
  rw [e2, show ((2 * m : Nat) : Int) = 2 * (m : Int) by push_cast; rfl] at hT
  rw [Int.toNat_natCast]
  generalize dhgT m = T at *
  refine PureCall.intro (n := 14) (rs := [.cell 2 28, .tmp 3]) Try.call22 Try.func22 rfl rfl rfl (by simp only [List.length_cons, List.length_nil]; omega) (fun cx hcx => ats_of ?_); simp only [argSlots, Nat.zero_add, Nat.reduceAdd]
  refine gB ?_
  refine gC fun K hK => ?_
  first | refine fcall_data (hw) rfl ?_ | refine YR_intro (acall_data (hw) rfl) ?_
  simp only [go_sem, seval]
  refine hK _ ?_; clear hK K
  (repeat refine ats_seq ?_); refine ats_no rfl trivial ?_
  refine ats_skip ?_
  refine gB ?_
  refine gC fun K hK => ?_
  (repeat refine aI (hb := ?_))
  first | refine fcall_fresh rfl (hT) ?_ | refine YR_intro (acall_fresh rfl (hT)) ?_
  simp only [go_sem, seval]
  refine hK _ ?_; clear hK K
  exact ats_ret ⟨.inr rfl, .tup [.agg [.l3 T], .int 0], by simp only [resL, resA, go_sem, seval], rfl⟩
 ·rw [show (decide (1 ≤ n) && decide (n ≤ 8)) = false by rw [← Bool.decide_and]; exact decide_eq_false hn] at hw
  rw [if_neg hn, if_neg hn]
  refine ring_nil ?_
  refine PureCall.intro (n := 14) (rs := [.cell 2 28, .tmp 3]) Try.call22 Try.func22 rfl rfl rfl (by simp only [List.length_cons, List.length_nil]; omega) (fun cx hcx => ats_of ?_); simp only [argSlots, Nat.zero_add, Nat.reduceAdd]
  refine gB ?_
  refine gC fun K hK => ?_
  first | refine fcall_data (hw) rfl ?_ | refine YR_intro (acall_data (hw) rfl) ?_
  simp only [go_sem, seval]
  refine hK _ ?_; clear hK K
  (repeat refine ats_seq ?_); refine ats_yes rfl trivial ?_
  refine gB ?_
  exact ats_ret ⟨.inr rfl, .tup [.agg [.nil], .int 2], by simp only [resL, resA, go_sem, seval], rfl⟩
end Go.Proofs.Ytmjcbgpbhlheoaa
namespace Go.Proofs.Ytmjcbgpbhlheoaa
open Go Go.Aw Go.Pl
theorem rep_rowF (N : Nat) : List.replicate N (0 : Int) = rowF N fun _ => 0 := by simp [rowF, List.map_const']
theorem sv_two {N n h a b : Nat} (hk : ∀ z, svN n h z = if z = a ∨ z = b then 1 else 0) : ((List.replicate N (0 : Int)).set a 1).set b 1 = rowF N fun z => ((svN n h z : Nat) : Int) := by
 rw [rep_rowF, rowF_set, rowF_set]
 refine rowF_congr fun z _ => ?_
 rw [hk z]
 by_cases h1 : z = b
 ·rw [if_pos h1, if_pos (.inr h1)]; rfl
 ·rw [if_neg h1]
  by_cases h2 : z = a
  ·rw [if_pos h2, if_pos (.inl h2)]; rfl
  ·rw [if_neg h2, if_neg (by omega)]; rfl
theorem sv_one {N n h a : Nat} (hk : ∀ z, svN n h z = if z = a then 1 else 0) : (List.replicate N (0 : Int)).set a 1 = rowF N fun z => ((svN n h z : Nat) : Int) := by
 rw [rep_rowF, rowF_set]
 refine rowF_congr fun z _ => ?_
 rw [hk z]
 by_cases h1 : z = a
 ·rw [if_pos h1, if_pos h1]; rfl
 ·rw [if_neg h1, if_neg h1]; rfl
theorem spreadV_ok (n h : Nat) (hn : 1 ≤ n) (h18 : n ≤ 18) (hh : h ≤ n) : FreshCall Try.prog 43 [.int n, .int h, .int (dhdN n)] (.l1 (rowF (dhdN n) fun z => ((svN n h z : Nat) : Int))) := by
 have eN : dhdN n = onesD n + (n - 1) / 2 := rfl
 have eO : onesD n = if n % 2 = 0 then 4 else 2 := rfl
 obtain ⟨k, ek⟩ : ∃ k, turnK n h = k := ⟨_, rfl⟩
 have hk : 2 * k ≤ n := by rw [← ek]; unfold turnK; split <;> omega
 have e1 : (if (n : Int) - h < h then (n : Int) - h else h) = (k : Int) := by
  rw [← ek]; unfold turnK; split <;> split <;> omega
 have e2 := tmodN n 2
 rw [show ((2 : Nat) : Int) = 2 from rfl] at e2
 obtain ⟨N, hN⟩ : ∃ N, dhdN n = N := ⟨_, rfl⟩
 have hN18 : N ≤ 13 := by rw [← hN, eN, eO]; split <;> omega
 have hb2 : 2 ≤ N := by rw [← hN, eN, eO]; split <;> omega
 have hb4 : 2 * k = n → 4 ≤ N := fun c => by rw [← hN, eN, eO, if_pos (by omega)]; omega
 have hbo : n % 2 = 1 → k + 1 < N := fun c => by rw [← hN, eN, eO, if_neg (by omega)]; omega
 have hbe : n % 2 = 0 → 2 * k ≠ n → k + 3 < N := fun c c2 => by rw [← hN, eN, eO, if_pos c]; omega
 have lr : (List.replicate N (0 : Int)).length = N := List.length_replicate
 have lr2 : ∀ (a : Nat) (v : Int), ((List.replicate N (0 : Int)).set a v).length = N := fun a v => by rw [List.length_set, lr]
 rw [hN]
 clear eN eO
 refine FreshCall.intro (n := 44) (rs := [.tmp 6]) Try.call43 Try.func43 rfl rfl rfl (by simp only [List.length_cons, List.length_nil]; omega) (fun cx hcx => ats_of ?_); simp only [argSlots, Nat.zero_add, Nat.reduceAdd]
 refine gBN ?_
 refine gBN ?_
 refine gCN fun K hK => ?_
 simp only [e1]
 (repeat refine aI (hb := ?_))
 refine hK _ ?_; clear hK K
 (repeat refine ats_seq ?_); refine ats_block ?_
 refine gBN ?_
 refine gI (fun hc1 => ?_) fun hc1 => ?_
 ·have hs := sv_two (N := N) (n := n) (h := h) (a := 0) (b := 1) (fun z => by unfold svN; rw [ek, if_pos (by omega)])
  have l3 := lr2 0 1
  refine gBN ?_
  rw [hs]
  refine gBN ?_
  exact ats_ret (ownV (is := [0]) rfl ⟨rfl, trivial⟩ rfl (by simp))
 ·refine gBN ?_
  refine gI (fun hc2 => ?_) fun hc2 => ?_
  ·have hs := sv_two (N := N) (n := n) (h := h) (a := 2) (b := 3) (fun z => by unfold svN; rw [ek, if_neg (by omega), if_pos (by omega)])
   have l3 := lr2 2 1
   have := hb4 (by omega)
   refine gBN ?_
   rw [hs]
   refine gBN ?_
   exact ats_ret (ownV (is := [0]) rfl ⟨rfl, trivial⟩ rfl (by simp))
  ·refine gCN fun K hK => ?_
   simp only [e2]
   (repeat refine aI (hb := ?_))
   refine hK _ ?_; clear hK K
   refine gI (fun hc3 => ?_) fun hc3 => ?_
   ·have hs := sv_one (N := N) (n := n) (h := h) (a := k + 1) (fun z => by unfold svN; rw [ek, if_neg (by omega), if_neg (by omega), show n % 2 = 1 by omega, if_pos rfl, Nat.add_comm])
    have := hbo (by omega)
    have e3 : ((k : Int) + 1).toNat = k + 1 := by omega
    refine gCN fun K hK => ?_
    simp only [e3]
    (repeat refine aI (hb := ?_))
    refine hK _ ?_; clear hK K
    rw [hs]
    refine gBN ?_
    exact ats_ret (ownV (is := [0]) rfl ⟨rfl, trivial⟩ rfl (by simp))
   ·have hs := sv_one (N := N) (n := n) (h := h) (a := k + 3) (fun z => by unfold svN; rw [ek, if_neg (by omega), if_neg (by omega), show n % 2 = 0 by omega, if_neg (show ¬ (0 : Nat) = 1 by decide), Nat.add_comm])
    have := hbe (by omega) (by omega)
    have e3 : ((k : Int) + 3).toNat = k + 3 := by omega
    refine gCN fun K hK => ?_
    simp only [e3]
    (repeat refine aI (hb := ?_))
    refine hK _ ?_; clear hK K
    rw [hs]
    refine gBN ?_
    exact ats_ret (ownV (is := [0]) rfl ⟨rfl, trivial⟩ rfl (by simp))
theorem addTo_ok (xs ys : List Int) (hl : ys.length ≤ xs.length) (hb : ∀ k, k < ys.length → -1000000 ≤ xs.getD k 0 ∧ xs.getD k 0 ≤ 1000000 ∧ -1000000 ≤ ys.getD k 0 ∧ ys.getD k 0 ≤ 1000000) :
  OwnCall Try.prog 42 [.ref 0 [], .l1 ys] [(0, .t1 xs)] [(0, .t1 (adL xs ys ys.length))] (.tup []) [0] := by
 refine OwnCall.intro (n := 21) (rs := []) 2 [0] (X := [0]) Try.call42 Try.func42 rfl rfl rfl (by simp only [List.length_cons, List.length_nil]; omega) (by simp [Aw.ids, rootsA, rootsAs, argSlots, slotGet]) (fun cx hcx => AT.weakG (ats_of ?_)); simp only [argSlots, Nat.zero_add, Nat.reduceAdd]
 refine gBN ?_
 refine ats_know 1 fun h1 => ?_; simp only [St.get, slotGet, Nat.reduceEqDiff, ↓reduceIte, if_true, fact, facts] at h1
 have lx := h1.1
 (repeat refine ats_seq ?_); refine ats_loop (fun k : Nat => ⟨[(0, .ref 0 []), (1, .l1 ys), (6, .l1 ys), (7, .int ys.length), (8, .int k)], [(0, .t1 (adK xs ys k))]⟩) (fun k => k ≤ ys.length) (fun k => ys.length - k) 0 (Nat.zero_le _) (by
  refine And.intro ?_ rfl; simp only [leS, Nat.reduceEqDiff, ↓reduceIte, true_and, and_true]
  try rfl) (fun k hk => ?_)
 have ek := adK_eq (xs := xs) (ys := ys) k (by omega)
 rw [ek]
 have ll := adL_len xs ys k
 refine gBN ?_
 refine gI (fun hc2 => ?_) fun hc2 => ?_
 ·have hkl : k < ys.length := by omega
  have b := hb k hkl
  have eg : (adL xs ys k).getD k 0 = xs.getD k 0 := by rw [adL_get (by omega), if_neg (by omega), Int.add_zero]
  have st := adL_step (xs := xs) (ys := ys) (k := k) (by omega)
  refine ats_skip ?_
  (repeat refine ats_seq ?_); refine ats_block ?_
  refine gBN ?_
  refine gCN fun K hK => ?_
  simp only [eg]
  (repeat refine aI (hb := ?_))
  refine hK _ ?_; clear hK K
  rw [st, ← adK_eq (k + 1) (by omega)]
  refine gBN ?_
  refine ⟨k + 1,  by omega, by omega, .inl ⟨by simp only [leS, Nat.reduceEqDiff, ↓reduceIte, true_and, and_true]; omega,  rfl⟩⟩
 ·obtain rfl : k = ys.length := by omega
  refine ats_exit (lq_x ?_)
  refine id ⟨⟨[(0, .ref 0 [])], [(0, .t1 (adL xs ys ys.length))]⟩, ghost_trans (ghost_drop []) (ghost_can [] (by simp only [killL, killA, killAs, qOf, rmT, killH, killT, List.filter_cons, List.filter_nil, List.contains_cons, List.contains_nil, Bool.or_false, Bool.or_true, Bool.false_and, Bool.not_true, Bool.not_false, Bool.false_eq_true, if_true, if_false, rnLs, rnL, rn, rns, sw, SlotsLe, St.get, slotGet, List.map_cons, List.map_nil, seval, AV.int.injEq, AV.bool.injEq, AV.l1.injEq, AV.l2.injEq, AV.l3.injEq, true_and, and_true]) (by simp only [killL, killA, killAs, qOf, rmT, killH, killT, List.filter_cons, List.filter_nil, List.contains_cons, List.contains_nil, Bool.or_false, Bool.or_true, Bool.false_and, Bool.not_true, Bool.not_false, Bool.false_eq_true, if_true, if_false, sortH, insH, rnHs, rnH, rnT, rn, rns, sw, List.map_cons, List.map_nil, seval])), .inl rfl, (by first | rfl | exact ⟨trivial, rfl⟩ | (simp only [resL, resA, go_sem, seval]; done)), (by simp [St.get, slotGet, argSlots]), rfl⟩
theorem addTo_row (xs ys : List Int) (hl : ys.length ≤ xs.length) (hb : ∀ k, k < ys.length → -1000000 ≤ xs.getD k 0 ∧ xs.getD k 0 ≤ 1000000 ∧ -1000000 ≤ ys.getD k 0 ∧ ys.getD k 0 ≤ 1000000) :
  RowCall Try.prog 42 [.l1 ys] xs (adL xs ys ys.length) (.tup []) := RowCall.ofOwn rfl rfl (addTo_ok xs ys hl hb)
theorem sv_bd (n h z : Nat) : ((svN n h z : Nat) : Int) ≤ 1 := by
 unfold svN
 (repeat' split) <;> decide
theorem addRow_ok {N : Nat} {G : Gf} {i j : Nat} {f : Nat → Nat} (hi : i < N) (hj : j < N) (hG : ∀ z, z < N → 0 ≤ G i j z ∧ G i j z ≤ 1) (hf : ∀ z, ((f z : Nat) : Int) ≤ 1) :
  RowCall Try.prog 42 [.l1 (rowF N fun z => ((f z : Nat) : Int))] (((cubF N G).getD i []).getD j []) (adL (((cubF N G).getD i []).getD j []) (rowF N fun z => ((f z : Nat) : Int)) N) (.tup []) := by
 have e : ((cubF N G).getD i []).getD j [] = rowF N (G i j) := by rw [cubF_get hi, matF_get hj]
 rw [e]
 have h := addTo_row (rowF N (G i j)) (rowF N fun z => ((f z : Nat) : Int)) (by rw [rowF_length, rowF_length]; exact Nat.le_refl _) (fun k hk => by
  rw [rowF_length] at hk
  rw [rowF_get hk, rowF_get hk]
  have := hG k hk
  have := hf k
  omega)
 rw [rowF_length] at h
 exact h
set_option maxHeartbeats 8000000 in
theorem dihedral_ok (n : Nat) (h1 : 1 ≤ n) (h18 : n ≤ 18) : FreshCall Try.prog 18 [.int n] (.tup [.agg [.l3 (dhdT n)], .int 0]) := by
 have hw := within_ok n 1 18
 rw [decide_eq_true (show (1 : Int) ≤ n by omega), decide_eq_true (show (n : Int) ≤ 18 by omega)] at hw
 rw [dih_tab n h1 h18, ← lg_end]
 have eN : dhdN n = onesD n + (n - 1) / 2 := rfl
 obtain ⟨s, es⟩ : ∃ s, onesD n = s := ⟨_, rfl⟩
 have hs4 : s = 4 ∨ s = 2 := by rw [← es]; unfold onesD; split <;> omega
 have hs4e : n % 2 = 0 → s = 4 := fun c => by rw [← es]; unfold onesD; rw [if_pos c]
 have hs4o : ¬ n % 2 = 0 → s = 2 := fun c => by rw [← es]; unfold onesD; rw [if_neg c]
 have e2 := tmodN n 2
 rw [show ((2 : Nat) : Int) = 2 from rfl] at e2
 have e3 := tdivN (n - 1) 2
 rw [show ((2 : Nat) : Int) = 2 from rfl, show ((n - 1 : Nat) : Int) = (n : Int) - 1 by omega] at e3
 have e4 := tdivN n 2
 rw [show ((2 : Nat) : Int) = 2 from rfl] at e4
 have hsv : ∀ h : Nat, h ≤ n → FreshCall Try.prog 43 [.int n, .int h, .int (dhdN n)] (.l1 (rowF (dhdN n) fun z => ((svN n h z : Nat) : Int))) := fun h hh => spreadV_ok n h h1 h18 hh
 obtain ⟨N, hN⟩ : ∃ N, dhdN n = N := ⟨_, rfl⟩
 rw [es, hN] at eN
 rw [hN] at hsv ⊢
 have hE := emptyCube_ok N (by omega) (by omega)
 rw [cub0, lg_zero (n := n)] at hE
 have e5 : (s : Int) + (((n - 1) / 2 : Nat) : Int) = N := by omega
 have hN13 : N ≤ 13 := by omega
 refine FreshCall.intro (n := 145) (rs := [.cell 2 28, .tmp 3]) Try.call18 Try.func18 rfl rfl rfl (by simp only [List.length_cons, List.length_nil]; omega) (fun cx hcx => ats_of ?_); simp only [argSlots, Nat.zero_add, Nat.reduceAdd]
 refine gBN ?_
 refine gCN fun K hK => ?_
 first | refine fcall_data (hw) rfl ?_ | refine YR_intro (acall_data (hw) rfl) ?_
 simp only [go_sem, seval]
 refine hK _ ?_; clear hK K
 (repeat refine ats_seq ?_); refine ats_no rfl trivial ?_
 refine ats_skip ?_
 refine gBN ?_
 refine gCN fun K hK => ?_
 simp only [e2]
 (repeat refine aI (hb := ?_))
 refine hK _ ?_; clear hK K
 (repeat refine ats_seq ?_)
 refine ats_upto ⟨[(0, .int n), (2, .bptr 0 0), (4, .int s)], [(0, .bx [.nil])]⟩ ?_ ?_
 ·refine gI (fun hc => ?_) fun hc => ?_
  ·have := hs4e (by omega)
   subst this
   refine gBN ?_
   refine ats_nil ?_; refine Or.inl ⟨rfl, ghost_trans (ghost_drop []) (ghost_can [] (by simp only [killL, killA, killAs, qOf, rmT, killH, killT, List.filter_cons, List.filter_nil, List.contains_cons, List.contains_nil, Bool.or_false, Bool.or_true, Bool.false_and, Bool.not_true, Bool.not_false, Bool.false_eq_true, if_true, if_false, rnLs, rnL, rn, rns, sw, SlotsLe, St.get, slotGet, List.map_cons, List.map_nil, seval, AV.int.injEq, AV.bool.injEq, AV.l1.injEq, AV.l2.injEq, AV.l3.injEq, true_and, and_true]) (by simp only [killL, killA, killAs, qOf, rmT, killH, killT, List.filter_cons, List.filter_nil, List.contains_cons, List.contains_nil, Bool.or_false, Bool.or_true, Bool.false_and, Bool.not_true, Bool.not_false, Bool.false_eq_true, if_true, if_false, sortH, insH, rnHs, rnH, rnT, rn, rns, sw, List.map_cons, List.map_nil, seval]))⟩
  ·have := hs4o (by omega)
   subst this
   refine ats_skip ?_
   refine ats_nil ?_; refine Or.inl ⟨rfl, ghost_trans (ghost_drop []) (ghost_can [] (by simp only [killL, killA, killAs, qOf, rmT, killH, killT, List.filter_cons, List.filter_nil, List.contains_cons, List.contains_nil, Bool.or_false, Bool.or_true, Bool.false_and, Bool.not_true, Bool.not_false, Bool.false_eq_true, if_true, if_false, rnLs, rnL, rn, rns, sw, SlotsLe, St.get, slotGet, List.map_cons, List.map_nil, seval, AV.int.injEq, AV.bool.injEq, AV.l1.injEq, AV.l2.injEq, AV.l3.injEq, true_and, and_true]) (by simp only [killL, killA, killAs, qOf, rmT, killH, killT, List.filter_cons, List.filter_nil, List.contains_cons, List.contains_nil, Bool.or_false, Bool.or_true, Bool.false_and, Bool.not_true, Bool.not_false, Bool.false_eq_true, if_true, if_false, sortH, insH, rnHs, rnH, rnT, rn, rns, sw, List.map_cons, List.map_nil, seval]))⟩
 refine gCN fun K hK => ?_
 simp only [e3, e5]
 (repeat refine aI (hb := ?_))
 refine hK _ ?_; clear hK K
 refine gCN fun K hK => ?_
 refine fcall_own rfl (hE) rfl ?_; simp only [go_sem, seval]
 refine hK _ ?_; clear hK K
 refine gBN ?_
 (repeat refine ats_seq ?_); refine ats_loop (fun i : Nat => ⟨[(0, .int n), (2, .bptr 0 0), (4, .int s), (5, .int N), (6, .bptr 2 0), (26, .int N), (27, .int i)], [(1, .t3 (cubF N (lgG n i 0))), (0, .bx [.nil]), (2, .bx [.ref 1 []])]⟩) (fun i => i ≤ N) (fun i => N - i) 0 (Nat.zero_le _) (by refine And.intro ?_ rfl; simp only [leS, Nat.reduceEqDiff, ↓reduceIte, true_and, and_true]; repeat' (first | rfl | with_reducible refine And.intro ?_ ?_ | omega)) (fun i hi => ?_)
 refine gBN ?_
 refine gI (fun hc2 => ?_) fun hc2 => ?_
 ·refine ats_skip ?_
  (repeat refine ats_seq ?_); refine ats_block ?_
  refine gBN ?_
  refine gBN ?_
  (repeat refine ats_seq ?_); refine ats_loop (fun j : Nat => ⟨[(0, .int n), (2, .bptr 0 0), (4, .int s), (5, .int N), (6, .bptr 2 0), (7, .int i), (26, .int N), (27, .int i), (30, .int N), (31, .int j)], [(1, .t3 (cubF N (lgG n i j))), (0, .bx [.nil]), (2, .bx [.ref 1 []])]⟩) (fun j => j ≤ N) (fun j => N - j) 0 (Nat.zero_le _) (by refine And.intro ?_ rfl; simp only [leS, Nat.reduceEqDiff, ↓reduceIte, true_and, and_true]; repeat' (first | rfl | with_reducible refine And.intro ?_ ?_ | omega)) (fun j hj => ?_)
  refine gBN ?_
  refine gI (fun hc4 => ?_) fun hc4 => ?_
  ·have hi : i < N := by omega
   have hj : j < N := by omega
   have l1 := cubF_length N (lgG n i j)
   have l2 := cubF_mat (f := lgG n i j) hi
   have l3 := cubF_row (f := lgG n i j) hi hj
   have g0 : ∀ z, z < N → 0 ≤ lgG n i j i j z ∧ lgG n i j i j z ≤ 1 := fun z _ => by rw [lg_at]; decide
   have ca : ∀ f : Nat → Nat, (cubF N (lgG n i j)).set i (((cubF N (lgG n i j)).getD i []).set j (adL (((cubF N (lgG n i j)).getD i []).getD j []) (rowF N fun z => ((f z : Nat) : Int)) N)) = _ := fun f => cub_add hi hj
   have one : ∀ f : Nat → Nat, (∀ z, f z = dpN n i j z) → cubF N (fun x y z => if x = i ∧ y = j then lgG n i j i j z + ((f z : Nat) : Int) else lgG n i j x y z) = cubF N (lgG n i (j + 1)) := fun f hf => by
    refine lg_next (fun z hz => ?_) (fun x y z c => if_neg c)
    rw [if_pos ⟨rfl, rfl⟩, lg_at, hf z, Int.zero_add]; rfl
   refine ats_skip ?_
   (repeat refine ats_seq ?_); refine ats_block ?_
   refine gBN ?_
   by_cases ci : i < s
   ·have hiT : ((i : Int) - s + 1 ≤ 0) = True := eq_true (by omega)
    by_cases cj : j < s
    ·have hjT : ((j : Int) - s + 1 ≤ 0) = True := eq_true (by omega)
     have hx := xorI_nat (a := i) (b := j) (by omega) (by omega)
     have hxs : i ^^^ j < N := by
      rcases hs4 with c | c
      ·have := Nat.xor_lt_two_pow (n := 2) (x := i) (y := j) (by omega) (by omega); omega
      ·have := Nat.xor_lt_two_pow (n := 1) (x := i) (y := j) (by omega) (by omega); omega
     have su := cubF_upd (n := N) (g := lgG n i j) (i := i) (j := j) (k := i ^^^ j) (v := 1) hi hj
     have sl : cubF N (updG (lgG n i j) i j (i ^^^ j) 1) = cubF N (lgG n i (j + 1)) := by
      refine lg_next (fun z hz => ?_) (fun x y z c => if_neg fun e => c ⟨e.1, e.2.1⟩)
      unfold updG dpF dpN
      rw [es, if_pos ci, if_pos cj, lg_at]
      by_cases c : z = i ^^^ j
      ·rw [if_pos ⟨rfl, rfl, c⟩, if_pos c]; rfl
      ·rw [if_neg fun e => c e.2.2, if_neg c]; rfl
     generalize i ^^^ j = p at *
     refine gBN ?_
     (repeat refine ats_seq ?_); refine ats_block ?_
     refine gCN fun K hK => ?_
     simp only [hiT, hjT, decide_true]
     refine hK _ ?_; clear hK K
     (repeat refine ats_seq ?_); refine ats_yes rfl trivial ?_
     refine gCN fun K hK => ?_
     simp only [hx]
     (repeat refine aI (hb := ?_))
     refine hK _ ?_; clear hK K
     simp only [Int.toNat_natCast]
     rw [su, sl]
     refine gBN ?_
     refine ⟨j + 1,  by omega, by omega, .inl ⟨by simp only [leS, Nat.reduceEqDiff, ↓reduceIte, true_and, and_true]; omega,  rfl⟩⟩
    ·obtain ⟨kk, hk⟩ : ∃ kk : Nat, j + 1 - s = kk := ⟨_, rfl⟩
     have hkI : (j : Int) - s + 1 = kk := by omega
     have hkF : ((kk : Int) ≤ 0) = False := eq_false (by omega)
     have em : (if ((n / 2 : Nat) : Int) - kk < kk - ((n / 2 : Nat) : Int) then (kk : Int) - ((n / 2 : Nat) : Int) else ((n / 2 : Nat) : Int) - kk) = ((absN (n / 2) kk : Nat) : Int) := by unfold absN; split <;> omega
     have ha : absN (n / 2) kk ≤ n := by unfold absN; omega
     refine gCN fun K hK => ?_
     simp only [hkI]
     (repeat refine aI (hb := ?_))
     refine hK _ ?_; clear hK K
     (repeat refine ats_seq ?_); refine ats_block ?_
     refine gCN fun K hK => ?_
     simp only [hiT, hkF, decide_true, decide_false]
     refine hK _ ?_; clear hK K
     (repeat refine ats_seq ?_); refine ats_no rfl trivial ?_
     by_cases c2 : i < 2
     ·have hi2 : ((i : Int) < 2) = True := eq_true (by omega)
      refine gCN fun K hK => ?_
      simp only [hiT, hi2, decide_true, decide_false]
      refine hK _ ?_; clear hK K
      (repeat refine ats_seq ?_); refine ats_yes rfl trivial ?_
      refine gCN fun K hK => ?_
      first | refine fcall_fresh rfl (hsv kk (by omega)) ?_ | refine YR_intro (acall_fresh rfl (hsv kk (by omega))) ?_
      simp only [go_sem, seval]
      refine fcall_rowd (xss := cubF N (lgG n i j)) rfl (by rw [l1]; exact hi) (by rw [l2]; exact hj) rfl (addRow_ok hi hj g0 (sv_bd n kk)) ?_
      simp only [go_sem, seval]
      refine hK _ ?_; clear hK K
      rw [ca, one _ fun z => by unfold dpN; rw [es, if_pos ci, if_neg cj, if_pos c2, hk]]
      refine gBN ?_
      refine ⟨j + 1,  by omega, by omega, .inl ⟨by simp only [leS, Nat.reduceEqDiff, ↓reduceIte, true_and, and_true]; omega,  rfl⟩⟩
     ·have hi2 : ((i : Int) < 2) = False := eq_false (by omega)
      refine gCN fun K hK => ?_
      simp only [hiT, hi2, decide_true, decide_false]
      refine hK _ ?_; clear hK K
      (repeat refine ats_seq ?_); refine ats_no rfl trivial ?_
      refine gCN fun K hK => ?_
      simp only [hiT, decide_true]
      refine hK _ ?_; clear hK K
      (repeat refine ats_seq ?_); refine ats_yes rfl trivial ?_
      refine gCN fun K hK => ?_
      simp only [e4, em]
      (repeat refine aI (hb := ?_))
      first | refine fcall_fresh rfl (hsv (absN (n / 2) kk) ha) ?_ | refine YR_intro (acall_fresh rfl (hsv (absN (n / 2) kk) ha)) ?_
      simp only [go_sem, seval]
      refine fcall_rowd (xss := cubF N (lgG n i j)) rfl (by rw [l1]; exact hi) (by rw [l2]; exact hj) rfl (addRow_ok hi hj g0 (sv_bd n _)) ?_
      simp only [go_sem, seval]
      refine hK _ ?_; clear hK K
      rw [ca, one _ fun z => by unfold dpN; rw [es, if_pos ci, if_neg cj, if_neg c2, hk]]
      refine gBN ?_
      refine ⟨j + 1,  by omega, by omega, .inl ⟨by simp only [leS, Nat.reduceEqDiff, ↓reduceIte, true_and, and_true]; omega,  rfl⟩⟩
   ·obtain ⟨hh, hk⟩ : ∃ hh : Nat, i + 1 - s = hh := ⟨_, rfl⟩
    have hkI : (i : Int) - s + 1 = hh := by omega
    have hkF : ((hh : Int) ≤ 0) = False := eq_false (by omega)
    have em : (if ((n / 2 : Nat) : Int) - hh < hh - ((n / 2 : Nat) : Int) then (hh : Int) - ((n / 2 : Nat) : Int) else ((n / 2 : Nat) : Int) - hh) = ((absN (n / 2) hh : Nat) : Int) := by unfold absN; split <;> omega
    have ha : absN (n / 2) hh ≤ n := by unfold absN; omega
    by_cases cj : j < s
    ·have hjT : ((j : Int) - s + 1 ≤ 0) = True := eq_true (by omega)
     refine gCN fun K hK => ?_
     simp only [hkI]
     (repeat refine aI (hb := ?_))
     refine hK _ ?_; clear hK K
     (repeat refine ats_seq ?_); refine ats_block ?_
     refine gCN fun K hK => ?_
     simp only [hkF, decide_false]
     refine hK _ ?_; clear hK K
     (repeat refine ats_seq ?_); refine ats_no rfl trivial ?_
     refine gCN fun K hK => ?_
     simp only [hkF, decide_false]
     refine hK _ ?_; clear hK K
     (repeat refine ats_seq ?_); refine ats_no rfl trivial ?_
     refine gCN fun K hK => ?_
     simp only [hkF, decide_false]
     refine hK _ ?_; clear hK K
     (repeat refine ats_seq ?_); refine ats_no rfl trivial ?_
     by_cases c2 : j < 2
     ·have hi2 : ((j : Int) < 2) = True := eq_true (by omega)
      refine gCN fun K hK => ?_
      simp only [hjT, hi2, decide_true, decide_false]
      refine hK _ ?_; clear hK K
      (repeat refine ats_seq ?_); refine ats_yes rfl trivial ?_
      refine gCN fun K hK => ?_
      first | refine fcall_fresh rfl (hsv hh (by omega)) ?_ | refine YR_intro (acall_fresh rfl (hsv hh (by omega))) ?_
      simp only [go_sem, seval]
      refine fcall_rowd (xss := cubF N (lgG n i j)) rfl (by rw [l1]; exact hi) (by rw [l2]; exact hj) rfl (addRow_ok hi hj g0 (sv_bd n hh)) ?_
      simp only [go_sem, seval]
      refine hK _ ?_; clear hK K
      rw [ca, one _ fun z => by unfold dpN; rw [es, if_neg ci, if_pos cj, if_pos c2, hk]]
      refine gBN ?_
      refine ⟨j + 1,  by omega, by omega, .inl ⟨by simp only [leS, Nat.reduceEqDiff, ↓reduceIte, true_and, and_true]; omega,  rfl⟩⟩
     ·have hi2 : ((j : Int) < 2) = False := eq_false (by omega)
      refine gCN fun K hK => ?_
      simp only [hjT, hi2, decide_true, decide_false]
      refine hK _ ?_; clear hK K
      (repeat refine ats_seq ?_); refine ats_no rfl trivial ?_
      refine gCN fun K hK => ?_
      simp only [hjT, decide_true]
      refine hK _ ?_; clear hK K
      (repeat refine ats_seq ?_); refine ats_yes rfl trivial ?_
      refine gCN fun K hK => ?_
      simp only [e4, em]
      (repeat refine aI (hb := ?_))
      first | refine fcall_fresh rfl (hsv (absN (n / 2) hh) ha) ?_ | refine YR_intro (acall_fresh rfl (hsv (absN (n / 2) hh) ha)) ?_
      simp only [go_sem, seval]
      refine fcall_rowd (xss := cubF N (lgG n i j)) rfl (by rw [l1]; exact hi) (by rw [l2]; exact hj) rfl (addRow_ok hi hj g0 (sv_bd n _)) ?_
      simp only [go_sem, seval]
      refine hK _ ?_; clear hK K
      rw [ca, one _ fun z => by unfold dpN; rw [es, if_neg ci, if_pos cj, if_neg c2, hk]]
      refine gBN ?_
      refine ⟨j + 1,  by omega, by omega, .inl ⟨by simp only [leS, Nat.reduceEqDiff, ↓reduceIte, true_and, and_true]; omega,  rfl⟩⟩
    ·obtain ⟨kk, hk2⟩ : ∃ kk : Nat, j + 1 - s = kk := ⟨_, rfl⟩
     have hkI2 : (j : Int) - s + 1 = kk := by omega
     have hkF2 : ((kk : Int) ≤ 0) = False := eq_false (by omega)
     have em2 : (if (hh : Int) - kk < kk - hh then (kk : Int) - hh else (hh : Int) - kk) = ((absN hh kk : Nat) : Int) := by unfold absN; split <;> omega
     have ha2 : absN hh kk ≤ n := by unfold absN; omega
     have hs1 := hsv (hh + kk) (by omega)
     rw [Int.natCast_add] at hs1
     refine gCN fun K hK => ?_
     simp only [hkI, hkI2]
     (repeat refine aI (hb := ?_))
     refine hK _ ?_; clear hK K
     (repeat refine ats_seq ?_); refine ats_block ?_
     refine gCN fun K hK => ?_
     simp only [hkF, decide_false]
     refine hK _ ?_; clear hK K
     (repeat refine ats_seq ?_); refine ats_no rfl trivial ?_
     refine gCN fun K hK => ?_
     simp only [hkF, decide_false]
     refine hK _ ?_; clear hK K
     (repeat refine ats_seq ?_); refine ats_no rfl trivial ?_
     refine gCN fun K hK => ?_
     simp only [hkF, decide_false]
     refine hK _ ?_; clear hK K
     (repeat refine ats_seq ?_); refine ats_no rfl trivial ?_
     refine gCN fun K hK => ?_
     simp only [hkF2, decide_false]
     refine hK _ ?_; clear hK K
     (repeat refine ats_seq ?_); refine ats_no rfl trivial ?_
     refine gCN fun K hK => ?_
     simp only [hkF2, decide_false]
     refine hK _ ?_; clear hK K
     (repeat refine ats_seq ?_); refine ats_no rfl trivial ?_
     refine gCN fun K hK => ?_
     (repeat refine aI (hb := ?_))
     first | refine fcall_fresh rfl (hs1) ?_ | refine YR_intro (acall_fresh rfl (hs1)) ?_
     simp only [go_sem, seval]
     refine fcall_rowd (xss := cubF N (lgG n i j)) rfl (by rw [l1]; exact hi) (by rw [l2]; exact hj) rfl (addRow_ok hi hj g0 (sv_bd n _)) ?_
     simp only [go_sem, seval]
     refine hK _ ?_; clear hK K
     rw [ca]
     obtain ⟨G1, eG1⟩ : ∃ G1 : Gf, (fun x y z => if x = i ∧ y = j then lgG n i j i j z + ((svN n (hh + kk) z : Nat) : Int) else lgG n i j x y z) = G1 := ⟨_, rfl⟩
     rw [eG1]
     have g1 : ∀ z, G1 i j z = ((svN n (hh + kk) z : Nat) : Int) := fun z => by rw [← eG1]; show (if i = i ∧ j = j then _ else _) = _; rw [if_pos ⟨rfl, rfl⟩, lg_at, Int.zero_add]
     have g2 : ∀ x y z, ¬ (x = i ∧ y = j) → G1 x y z = lgG n i j x y z := fun x y z c => by rw [← eG1]; exact if_neg c
     have m1 := cubF_length N G1
     have m2 := cubF_mat (f := G1) hi
     have m3 := cubF_row (f := G1) hi hj
     have fin : cubF N (fun x y z => if x = i ∧ y = j then G1 i j z + ((svN n (absN hh kk) z : Nat) : Int) else G1 x y z) = cubF N (lgG n i (j + 1)) := by
      refine lg_next (fun z hz => ?_) (fun x y z c => by rw [if_neg c, g2 x y z c])
      rw [if_pos ⟨rfl, rfl⟩, g1 z]
      unfold dpF dpN
      rw [es, if_neg ci, if_neg cj, hk, hk2, Int.natCast_add]
     clear eG1
     refine gCN fun K hK => ?_
     simp only [em2]
     (repeat refine aI (hb := ?_))
     first | refine fcall_fresh rfl (hsv (absN hh kk) ha2) ?_ | refine YR_intro (acall_fresh rfl (hsv (absN hh kk) ha2)) ?_
     simp only [go_sem, seval]
     refine fcall_rowd (xss := cubF N G1) rfl (by rw [m1]; exact hi) (by rw [m2]; exact hj) rfl (addRow_ok hi hj (fun z _ => by rw [g1 z]; exact ⟨Int.natCast_nonneg _, sv_bd n _ z⟩) (sv_bd n _)) ?_
     simp only [go_sem, seval]
     refine hK _ ?_; clear hK K
     rw [cub_add hi hj, fin]
     refine gBN ?_
     refine ⟨j + 1,  by omega, by omega, .inl ⟨by simp only [leS, Nat.reduceEqDiff, ↓reduceIte, true_and, and_true]; omega,  rfl⟩⟩
  ·obtain rfl : j = N := by omega
   rw [lg_row]
   refine ats_exit (lq_x ?_)
   refine gBN ?_
   refine ⟨i + 1,  by omega, by omega, .inl ⟨by simp only [leS, Nat.reduceEqDiff, ↓reduceIte, true_and, and_true]; omega,  rfl⟩⟩
 ·obtain rfl : i = N := by omega
  refine ats_exit (lq_x ?_)
  refine gBN ?_
  exact ats_ret (own2C (v := .agg [.ref 1 []]) (by simp only [go_sem, seval]) trivial rfl (by simp))
theorem implDh_ok (n : Int) : PureCall Try.prog 18 [.int n] (.tup [.agg [.l3 (dhR n).1], .int (dhR n).2]) := by
 by_cases hn : 1 ≤ n ∧ n ≤ 18
 ·have e : dhR n = (dhdT n.toNat, 0) := by unfold dhR; rw [if_pos hn]
  rw [e]
  obtain ⟨m, rfl⟩ : ∃ m : Nat, n = m := ⟨n.toNat, by omega⟩
  rw [Int.toNat_natCast]
  exact (dihedral_ok m (by omega) (by omega)).pure
 ·have hw := within_ok n 1 18
  rw [in_no hn] at hw
  have e : dhR n = ([], 2) := by unfold dhR; rw [if_neg hn]
  rw [e]
  refine ring_nil ?_
  refine PureCall.intro (n := 145) (rs := [.cell 2 28, .tmp 3]) Try.call18 Try.func18 rfl rfl rfl (by simp only [List.length_cons, List.length_nil]; omega) (fun cx hcx => ats_of ?_); simp only [argSlots, Nat.zero_add, Nat.reduceAdd]
  refine gBN ?_
  refine gCN fun K hK => ?_
  first | refine fcall_data (hw) rfl ?_ | refine YR_intro (acall_data (hw) rfl) ?_
  simp only [go_sem, seval]
  refine hK _ ?_; clear hK K
  (repeat refine ats_seq ?_); refine ats_yes rfl trivial ?_
  refine gBN ?_
  exact ats_ret ⟨.inr rfl, .tup [.agg [.nil], .int 2], by simp only [resL, resA, go_sem, seval], rfl⟩
end Go.Proofs.Ytmjcbgpbhlheoaa
