import Derived.Test.YtmjcbgpbhlheoaaDoorMz3
set_option linter.unusedSimpArgs false
set_option linter.unusedVariables false
namespace Go.Proofs.YtmjcbgpbhlheoaaDoor
open Go Go.Aw Go.Pl
attribute [local go_sem] pl_fin pl_stop pl_one pl_alt PK_ap pickO List.getElem?_toArray List.getElem?_cons_zero List.getElem?_cons_succ
set_option maxRecDepth 100000 in
theorem ringOfG_ok (t : Cu) (h : RingP t) (s : Nat) (hs : ClosP t s) (ef : pcF s = (lbl 16 s).length) : FreshCall Tryd.prog 29 [.agg [.l3 t], .int s] (.agg [.l3 (subR t s)]) := by
 have hc := h.cube
 have h16 := hc.2.1
 have hb := full_in h16 hs.lt
 have hm := hc.2.2
 have hL := labelsIn_ok t.length h16 s hs.lt
 have hO := onesG_ok t.length s h16 hs.lt ef
 have l0 := (lbl_zero h.pos hs.zero).1
 have l1 := lbl_len (n := t.length) (s := s)
 have gl : ∀ a, a < (lbl t.length s).length → ∃ x : Nat, x < t.length ∧ (lbI t.length s).getD a 0 = x ∧ (lbl t.length s).getD a 0 = x := fun a ha => ⟨_, (lbl_get ha).1, lbI_get ha, rfl⟩
 have hE := emptyCube_ok (lbl t.length s).length (by omega) (by omega)
 rw [← flL_start (g := sbG t s)] at hE
 rw [subR_tab, tabF_cub, ← flL_end]
 have gG : ∀ {a b c x y z : Nat}, (lbl t.length s).getD a 0 = x → (lbl t.length s).getD b 0 = y → (lbl t.length s).getD c 0 = z → sbG t s a b c = e3 t x y z := fun h1 h2 h3 => by unfold sbG; rw [h1, h2, h3]
 have ew : (s : Int) % 18446744073709551616 = s := by omega
 generalize sbG t s = G at *
 have ll : (lbI t.length s).length = (lbl t.length s).length := lbI_len
 generalize (lbl t.length s).length = m at *
 generalize lbI t.length s = L at *
 refine FreshCall.intro (n := 65) (rs := [.cell 4 27]) Tryd.call29 Tryd.func29 rfl rfl rfl (by simp only [List.length_cons, List.length_nil]; omega) (fun cx hcx => ats_of ?_); simp only [argSlots, Nat.zero_add, Nat.reduceAdd]
 refine gA ?_
 refine gC fun K hK => ?_
 first | refine fcall_fresh rfl (hL) ?_ | refine YR_intro (acall_fresh rfl (hL)) ?_
 simp only [go_sem, seval]
 rw [ew]
 first | refine fcall_data (hO) rfl ?_ | refine YR_intro (acall_data (hO) rfl) ?_
 simp only [go_sem, seval]
 refine fcall_own rfl (hE) rfl ?_; simp only [go_sem, seval]
 refine hK _ ?_; clear hK K
 refine gA ?_
 rw [ll]
 (repeat refine ats_seq ?_); refine ats_loop (fun i : Nat => ⟨[(2, .bptr 0 0), (4, .bptr 1 0), (5, .l1 L), (6, .bptr 3 0), (19, .l1 L), (20, .int m), (21, .int i)], [(2, .t3 (flL m G i 0 0)), (0, .bx [.l3 t]), (1, .bx [.nil]), (3, .bx [.ref 2 []])]⟩) (fun i => i ≤ m) (fun i => m - i) 0 (Nat.zero_le _) (by refine And.intro ?_ rfl; simp only [leS, Nat.reduceEqDiff, ↓reduceIte, true_and, and_true]; repeat' (first | rfl | with_reducible refine And.intro ?_ ?_ | omega)) (fun i hi => ?_)
 refine gA ?_
 refine gI (fun hli => ?_) fun hli => ?_
 ·obtain ⟨x, hx, q1, q2⟩ := gl i (by omega)
  have mx := (hm x hx).1
  refine ats_skip ?_
  (repeat refine ats_seq ?_); refine ats_block ?_
  refine gC fun K hK => ?_
  rw [q1]
  (repeat refine aI (hb := ?_))
  refine hK _ ?_; clear hK K
  refine gA ?_
  rw [ll]
  (repeat refine ats_seq ?_); refine ats_loop (fun j : Nat => ⟨[(2, .bptr 0 0), (4, .bptr 1 0), (5, .l1 L), (6, .bptr 3 0), (7, .int i), (8, .int x), (19, .l1 L), (20, .int m), (21, .int i), (26, .l1 L), (27, .int m), (28, .int j)], [(2, .t3 (flL m G i j 0)), (0, .bx [.l3 t]), (1, .bx [.nil]), (3, .bx [.ref 2 []])]⟩) (fun j => j ≤ m) (fun j => m - j) 0 (Nat.zero_le _) (by refine And.intro ?_ rfl; simp only [leS, Nat.reduceEqDiff, ↓reduceIte, true_and, and_true]; repeat' (first | rfl | with_reducible refine And.intro ?_ ?_ | omega)) (fun j hj => ?_)
  refine gA ?_
  refine gI (fun hlj => ?_) fun hlj => ?_
  ·obtain ⟨y, hy, q3, q4⟩ := gl j (by omega)
   have my := hc.row hx hy
   refine ats_skip ?_
   (repeat refine ats_seq ?_); refine ats_block ?_
   refine gC fun K hK => ?_
   rw [q3]
   (repeat refine aI (hb := ?_))
   refine hK _ ?_; clear hK K
   refine gA ?_
   rw [ll]
   (repeat refine ats_seq ?_); refine ats_loop (fun k : Nat => ⟨[(2, .bptr 0 0), (4, .bptr 1 0), (5, .l1 L), (6, .bptr 3 0), (7, .int i), (8, .int x), (9, .int j), (10, .int y), (19, .l1 L), (20, .int m), (21, .int i), (26, .l1 L), (27, .int m), (28, .int j), (33, .l1 L), (34, .int m), (35, .int k)], [(2, .t3 (flL m G i j k)), (0, .bx [.l3 t]), (1, .bx [.nil]), (3, .bx [.ref 2 []])]⟩) (fun k => k ≤ m) (fun k => m - k) 0 (Nat.zero_le _) (by refine And.intro ?_ rfl; simp only [leS, Nat.reduceEqDiff, ↓reduceIte, true_and, and_true]; repeat' (first | rfl | with_reducible refine And.intro ?_ ?_ | omega)) (fun k hk => ?_)
   refine gA ?_
   refine gI (fun hlk => ?_) fun hlk => ?_
   ·obtain ⟨z, hz, q5, q6⟩ := gl k (by omega)
    have eg := gG q2 q4 q6
    have st := flL_set (n := m) (g := G) (i := i) (j := j) (k := k) (by omega) (by omega)
    rw [eg] at st
    have n1 := flL_len (n := m) (g := G) (i := i) (j := j) (k := k)
    have n2 := flL_mat (n := m) (g := G) (i := i) (j := j) (k := k) (x := i) (by omega)
    have n3 := flL_row (n := m) (g := G) (i := i) (j := j) (k := k) (x := i) (y := j) (by omega) (by omega)
    refine ats_skip ?_
    (repeat refine ats_seq ?_); refine ats_block ?_
    refine gC fun K hK => ?_
    rw [q5]
    (repeat refine aI (hb := ?_))
    refine hK _ ?_; clear hK K
    (repeat refine ats_seq ?_)
    refine ats_plan [] (.one 0 (.one 1 (.one 2 (.one 3 (.one 4 (.one 5 (.one 6 (.one 7 (.one 8 (.one 9 (.one 10 (.one 11 (.one 12 (.one 13 (.one 14 (.one 15 (.one 16 (.one 17 (.one 18 (.one 19 (.one 20 (.alt 21 .fin .stop)))))))))))))))))))))) ⟨[(2, .bptr 0 0), (4, .bptr 1 0), (5, .l1 L), (6, .bptr 3 0), (7, .int i), (8, .int x), (9, .int j), (10, .int y), (19, .l1 L), (20, .int m), (21, .int i), (26, .l1 L), (27, .int m), (28, .int j), (33, .l1 L), (34, .int m), (35, .int k)], [(2, .t3 ((flL m G i j k).set i (((flL m G i j k).getD i []).set j ((((flL m G i j k).getD i []).getD j []).set k (e3 t x y z))))), (0, .bx [.l3 t]), (1, .bx [.nil]), (3, .bx [.ref 2 []])]⟩ (fix0 hcx) mixed (by kernel_rfl) (fun K hK => ?_) ?_
    ·simp only [go_sem, seval, Option.getD_some, and_true, true_and, and_self, List.contains_cons, List.contains_nil, Bool.or_false, Bool.or_true]
     repeat' (first | exact hK _ (by refine And.intro ?_ rfl; simp only [leS, Nat.reduceEqDiff, ↓reduceIte, true_and, and_true])  | with_reducible refine And.intro ?_ ?_ | omega)
    rw [st]
    refine gB ?_
    refine ⟨k + 1,  by omega, by omega, .inl ⟨by simp only [leS, Nat.reduceEqDiff, ↓reduceIte, true_and, and_true]; omega,  rfl⟩⟩
   ·obtain rfl : k = m := by omega
    rw [flL_k]
    refine ats_exit (lq_x ?_)
    refine gB ?_
    refine ⟨j + 1,  by omega, by omega, .inl ⟨by simp only [leS, Nat.reduceEqDiff, ↓reduceIte, true_and, and_true]; omega,  rfl⟩⟩
  ·obtain rfl : j = m := by omega
   rw [flL_j]
   refine ats_exit (lq_x ?_)
   refine gB ?_
   refine ⟨i + 1,  by omega, by omega, .inl ⟨by simp only [leS, Nat.reduceEqDiff, ↓reduceIte, true_and, and_true]; omega,  rfl⟩⟩
 ·obtain rfl : i = m := by omega
  refine ats_exit (lq_x ?_)
  refine gA ?_
  exact ats_ret (ownC (v := .agg [.ref 2 []]) (by simp only [go_sem, seval]) rfl (by simp))
end Go.Proofs.YtmjcbgpbhlheoaaDoor
