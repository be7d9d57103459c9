import Derived.Test.YtaijdhkjemffhaaHv
set_option linter.unusedSimpArgs false
set_option linter.unusedVariables false
namespace Go.Proofs.Ytaijdhkjemffhaa
open Go Go.Aw Go.Pl
attribute [local go_sem] pl_fin pl_stop pl_one pl_alt PK_ap pickO List.getElem?_toArray List.getElem?_cons_zero List.getElem?_cons_succ
theorem cp_whole {xs ys : List Int} (h : xs.length = ys.length) : cpL xs ys 0 xs.length = ys := by
  unfold cpL
  rw [Nat.sub_zero, h, List.take_zero, List.nil_append, List.take_length, Nat.zero_add, Nat.min_self, List.drop_eq_nil_of_le (by omega), List.append_nil]
set_option maxRecDepth 100000 in
set_option maxHeartbeats 8000000 in
theorem byLeading_ok (o : List Int) (m : Int) (w : List (List (List Int))) (hs : CocS o m w) (hk : chk o = true) (h3 : o.length ≤ 3) (L : List Int) (hLl : L.length = o.length * o.length) (hL : ∀ j, j < o.length * o.length → 0 ≤ L.getD j 0 ∧ L.getD j 0 ≤ m - 1) :
    OwnCall Try.prog 51 [.agg [.l1 o, .int m, .l3 w], .l1 L] [] [(20, .t2 (bLd o m w L)), (21, .bx [.l1 o, .int m, .l3 w, .ref 20 []])] (.agg [.l1 o, .int m, .l3 w, .ref 20 []]) [] := by
  have n8 := hs.n8
  have m1 := hs.2.2.1
  have hG := ownGenerators_ok o hs.1 hs.2.1 (by omega)
  have lG : (gensL o).length = o.length := rowF_length ..
  have gG : ∀ k, k < o.length → (gensL o).getD k 0 = (own o k : Int) := fun k hk => rowF_get hk
  have en := hs.nE
  have hz := zeros_ok w.length w.length (by omega) (by omega)
  have z0 : List.replicate w.length (List.replicate w.length (0 : Int)) = rowsP o m w L 0 := zeros_matF ..
  have z1 : ∀ R, List.replicate w.length (List.replicate w.length (0 : Int)) = allT o m w R 0 := fun R => zeros_matF ..
  have hz1 := hz
  rw [z0] at hz
  obtain ⟨g, eg⟩ : ∃ g, gensL o = g := ⟨_, rfl⟩
  have hS1 := fun i (hi : i < o.length) (hg : own o i < w.length) => eachSum1_ok o m w hs hk (by omega) L h3 hLl hL i hi hg
  have hS2 := eachSum2_ok o m w hs hk (by omega) (rowsP o m w L o.length) (rowsP_gr m1 _)
  simp only [eg] at hG lG gG hS1 hS2
  rw [z1 (rowsP o m w L o.length)] at hz1
  simp only [TB] at hS2
  have eb : allT o m w (rowsP o m w L o.length) (w.length - 1) = bLd o m w L := rfl
  rw [eb] at hS2
  refine OwnCall.intro (n := 63) (rs := [.cell 4 35]) 2 [] (X := []) Try.call51 Try.func51 rfl rfl rfl (by simp only [List.length_cons, List.length_nil]; omega) (by simp [Aw.ids, rootsA, rootsAs, argSlots, slotGet]) (fun cx hcx => AT.weakG (ats_of ?_)); simp only [argSlots, Nat.zero_add, Nat.reduceAdd]
  (repeat refine ats_seq ?_); refine ats_go (by first | exact fix0 hcx | exact fix1 hcx rfl | exact fixN hcx rfl) fun K hK => ?_; simp only [go_sem, seval]; (repeat refine And.intro (by first | omega | (intro hq; first | omega | (simp at hq <;> omega) | (simp_all <;> omega))) ?_); refine hK _ ?_; clear hK K
  (repeat refine ats_seq ?_)
  refine ats_planG [] (.one 0 (.one 1 (.one 2 (.one 3 (.one 4 (.one 5 (.alt 6 (.alt 7 (.alt 8 (.alt 9 (.one 10 (.alt 11 (.alt 12 .fin .stop) .stop)) .stop) (.alt 9 (.alt 8 (.one 10 (.alt 11 (.alt 12 .fin .stop) .stop)) .stop) .stop)) (.alt 8 (.alt 7 (.alt 9 (.one 10 (.alt 11 (.alt 12 .fin .stop) .stop)) .stop) (.alt 9 (.one 10 (.alt 7 (.alt 11 (.alt 12 .fin .stop) .stop) (.alt 11 (.one 7 (.alt 12 .fin .stop)) .stop))) .stop)) (.alt 9 (.alt 7 (.alt 8 (.one 10 (.alt 11 (.alt 12 .fin .stop) .stop)) .stop) (.alt 8 (.one 10 (.alt 7 (.alt 11 (.alt 12 .fin .stop) .stop) (.alt 11 (.one 7 (.alt 12 .fin .stop)) .stop))) .stop)) .stop))) (.alt 8 (.alt 6 (.alt 7 (.alt 9 (.one 10 (.alt 11 (.alt 12 .fin .stop) .stop)) .stop) (.alt 9 (.one 10 (.alt 7 (.alt 11 (.alt 12 .fin .stop) .stop) (.alt 11 (.one 7 (.alt 12 .fin .stop)) .stop))) .stop)) (.alt 9 (.one 10 (.alt 6 (.alt 7 (.alt 11 (.alt 12 .fin .stop) .stop) (.alt 11 (.one 7 (.alt 12 .fin .stop)) .stop)) (.alt 11 (.one 6 (.one 7 (.alt 12 .fin .stop))) .stop))) .stop)) (.alt 9 (.alt 6 (.alt 7 (.alt 8 (.one 10 (.alt 11 (.alt 12 .fin .stop) .stop)) .stop) (.alt 8 (.one 10 (.alt 7 (.alt 11 (.alt 12 .fin .stop) .stop) (.alt 11 (.one 7 (.alt 12 .fin .stop)) .stop))) .stop)) (.alt 8 (.one 10 (.alt 6 (.alt 7 (.alt 11 (.alt 12 .fin .stop) .stop) (.alt 11 (.one 7 (.alt 12 .fin .stop)) .stop)) (.alt 11 (.one 6 (.one 7 (.alt 12 .fin .stop))) .stop))) .stop)) .stop))))))))) ⟨[(2, .bptr 0 0), (3, .bptr 1 0), (4, .bptr 2 0), (5, .l1 g), (6, .bptr 3 0), (7, .bptr 4 0)], [(0, .bx [.l1 o, .int m, .l3 w]), (1, .bx [.l1 L]), (2, .bx [.nil, .int 0, .nil, .nil]), (3, .bx [.int w.length]), (4, .bx [.l3 w])]⟩ (by first | exact fix0 hcx | exact fixN hcx rfl) mixed (by kernel_rfl) (fun K hK => ?_) ?_
  · simp only [go_sem, seval, Option.getD_some, and_true, true_and, and_self, List.contains_cons, List.contains_nil, Bool.or_false, Bool.or_true]
    repeat' (first | (refine hK _ (ghost_can [] ?_ ?_); (focus (simp only [rnLs, rnL, rn, rns, sw, SlotsLe, St.get, slotGet, List.map_cons, List.map_nil, seval, AV.int.injEq, AV.bool.injEq, AV.l1.injEq, AV.l2.injEq, AV.l3.injEq, true_and, and_true]; done)); (focus (simp only [sortH, insH, rnHs, rnH, rnT, rn, rns, sw, List.map_cons, List.map_nil, seval]; done))) | (refine hK _ (ghost_can [(3, 4)] ?_ ?_); (focus (simp only [rnLs, rnL, rn, rns, sw, SlotsLe, St.get, slotGet, List.map_cons, List.map_nil, seval, AV.int.injEq, AV.bool.injEq, AV.l1.injEq, AV.l2.injEq, AV.l3.injEq, true_and, and_true]; done)); (focus (simp only [sortH, insH, rnHs, rnH, rnT, rn, rns, sw, List.map_cons, List.map_nil, seval]; done))) | with_reducible refine And.intro ?_ ?_ | omega | ((first | refine fcall_fresh rfl (hG) ?_ | refine YR_intro (acall_fresh rfl (hG)) ?_); simp only [go_sem, seval, Option.getD_some, and_true, true_and, and_self, List.contains_cons, List.contains_nil, Bool.or_false, Bool.or_true]))
  (repeat refine ats_seq ?_)
  refine ats_planG [3] (.one 1 (.one 2 (.alt 0 (.alt 3 (.one 4 (.alt 5 (.alt 6 .fin .stop) .stop)) (.alt 5 (.alt 3 (.one 4 (.alt 6 .fin .stop)) .stop) .stop)) (.alt 3 (.one 0 (.one 4 (.alt 5 (.alt 6 .fin .stop) .stop))) (.alt 5 (.alt 0 (.alt 3 (.one 4 (.alt 6 .fin .stop)) .stop) (.alt 3 (.one 0 (.one 4 (.alt 6 .fin .stop))) .stop)) .stop))))) ⟨[(2, .bptr 0 0), (3, .bptr 1 0), (4, .bptr 2 0), (5, .l1 g), (6, .bptr 3 0), (7, .bptr 4 0), (8, .bptr 6 0)], [(0, .bx [.l1 o, .int m, .l3 w]), (1, .bx [.l1 L]), (2, .bx [.nil, .int 0, .nil, .nil]), (3, .bx [.int w.length]), (4, .bx [.l3 w]), (5, .t2 (rowsP o m w L 0)), (6, .bx [.l1 o, .int m, .l3 w, .ref 5 []])]⟩ (by first | exact fix0 hcx | exact fixN hcx rfl) mixed (by kernel_rfl) (fun K hK => ?_) ?_
  · simp only [go_sem, seval, Option.getD_some, and_true, true_and, and_self, List.contains_cons, List.contains_nil, Bool.or_false, Bool.or_true]
    repeat' (first | (refine hK _ (ghost_can [] ?_ ?_); (focus (simp only [rnLs, rnL, rn, rns, sw, SlotsLe, St.get, slotGet, List.map_cons, List.map_nil, seval, AV.int.injEq, AV.bool.injEq, AV.l1.injEq, AV.l2.injEq, AV.l3.injEq, true_and, and_true]; done)); (focus (simp only [sortH, insH, rnHs, rnH, rnT, rn, rns, sw, List.map_cons, List.map_nil, seval]; done))) | (refine hK _ (ghost_can [(5, 6)] ?_ ?_); (focus (simp only [rnLs, rnL, rn, rns, sw, SlotsLe, St.get, slotGet, List.map_cons, List.map_nil, seval, AV.int.injEq, AV.bool.injEq, AV.l1.injEq, AV.l2.injEq, AV.l3.injEq, true_and, and_true]; done)); (focus (simp only [sortH, insH, rnHs, rnH, rnT, rn, rns, sw, List.map_cons, List.map_nil, seval]; done))) | with_reducible refine And.intro ?_ ?_ | omega | (refine fcall_own rfl (hz) rfl ?_; simp only [go_sem, seval, Option.getD_some, and_true, true_and, and_self, List.contains_cons, List.contains_nil, Bool.or_false, Bool.or_true]))
  (repeat refine ats_seq ?_); refine ats_go (by first | exact fix0 hcx | exact fix1 hcx rfl | exact fixN hcx rfl) fun K hK => ?_; simp only [go_sem, seval]
  simp only [lG]
  (repeat refine And.intro (by first | omega | (intro hq; first | omega | (simp at hq <;> omega) | (simp_all <;> omega))) ?_)
  refine hK _ ?_; clear hK K
  (repeat refine ats_seq ?_); refine ats_go (by first | exact fix0 hcx | exact fix1 hcx rfl | exact fixN hcx rfl) fun K hK => ?_; simp only [go_sem, seval]
  simp only [lG]
  (repeat refine And.intro (by first | omega | (intro hq; first | omega | (simp at hq <;> omega) | (simp_all <;> omega))) ?_)
  refine hK _ ?_; clear hK K
  (repeat refine ats_seq ?_); refine ats_loop (fun i : Nat => ⟨[(2, .bptr 0 0), (3, .bptr 1 0), (4, .bptr 2 0), (5, .l1 g), (6, .bptr 3 0), (7, .bptr 4 0), (8, .bptr 6 0), (9, .bptr 7 0), (30, .l1 g), (31, .int o.length), (32, .int i)], [(0, .bx [.l1 o, .int m, .l3 w]), (1, .bx [.l1 L]), (2, .bx [.nil, .int 0, .nil, .nil]), (3, .bx [.int w.length]), (4, .bx [.l3 w]), (5, .t2 (rowsP o m w L i)), (6, .bx [.l1 o, .int m, .l3 w, .ref 5 []]), (7, .bx [.int o.length])]⟩) (fun i => i ≤ o.length) (fun i => o.length - i) 0 (Nat.zero_le _) (by refine And.intro ?_ rfl; simp only [SlotsLe, St.get, slotGet, Nat.reduceEqDiff, ↓reduceIte, true_and, and_true, AV.int.injEq, AV.bool.injEq, AV.l1.injEq, AV.l2.injEq, AV.l3.injEq]; repeat' (first | rfl | with_reducible refine And.intro ?_ ?_ | omega)) (fun i hi => ?_)
  (repeat refine ats_seq ?_); refine ats_go (by first | exact fix0 hcx | exact fix1 hcx rfl | exact fixN hcx rfl) fun K hK => ?_; simp only [go_sem, seval]; (repeat refine And.intro (by first | omega | (intro hq; first | omega | (simp at hq <;> omega) | (simp_all <;> omega))) ?_); refine hK _ ?_; clear hK K
  (repeat refine ats_seq ?_); first | refine ats_ifn (p := _) rfl trivial (fun hl => ?_) (fun hl => ?_) | refine ats_ifp (p := _) rfl trivial (fun hl => ?_) (fun hl => ?_) | refine ats_cond rfl trivial (fun hl => ?_) (fun hl => ?_)
  · have hi : i < o.length := by omega
    have gi := gG i hi
    have hgi := (getOwn hk hi).1
    rw [en] at hgi
    have h1 := hS1 i hi hgi
    have e0 : rowT o m w L i 0 = List.replicate w.length 0 := rfl
    have sq := rowsP_sq (o := o) (m := m) (w := w) (L := L) i
    have lsq := sq.1
    have rsq := sq.2 _ hgi
    have lT := rowT_len (o := o) (m := m) (w := w) (L := L) (i := i) (w.length - 1)
    have hcp : cpL ((rowsP o m w L i).getD (own o i) []) (rowT o m w L i (w.length - 1)) 0 w.length = rowT o m w L i (w.length - 1) := by
      have := cp_whole (xs := (rowsP o m w L i).getD (own o i) []) (ys := rowT o m w L i (w.length - 1)) (by rw [rsq, lT])
      rwa [rsq] at this
    have es : rowsP o m w L (i + 1) = (rowsP o m w L i).set (own o i) (rowT o m w L i (w.length - 1)) := rfl
    simp only [TA, e0] at h1
    refine ats_skip ?_
    (repeat refine ats_seq ?_); refine ats_block ?_
    (repeat refine ats_seq ?_); refine ats_go (by first | exact fix0 hcx | exact fix1 hcx rfl | exact fixN hcx rfl) fun K hK => ?_; simp only [go_sem, seval]
    simp only [gi]
    (repeat refine And.intro (by first | omega | (intro hq; first | omega | (simp at hq <;> omega) | (simp_all <;> omega))) ?_)
    refine hK _ ?_; clear hK K
    (repeat refine ats_seq ?_); refine ats_go (by first | exact fix0 hcx | exact fix1 hcx rfl | exact fixN hcx rfl) fun K hK => ?_; simp only [go_sem, seval]; (repeat refine And.intro (by first | omega | (intro hq; first | omega | (simp at hq <;> omega) | (simp_all <;> omega))) ?_); refine hK _ ?_; clear hK K
    (repeat refine ats_seq ?_); refine ats_go (by first | exact fix0 hcx | exact fix1 hcx rfl | exact fixN hcx rfl) fun K hK => ?_; simp only [go_sem, seval]
    (repeat refine And.intro (by first | omega | (intro hq; first | omega | (simp at hq <;> omega) | (simp_all <;> omega))) ?_)
    refine fcall_box (h1) (by simp [Aw.ids]) (by simp [find]) (by simp [closedT, killT, killAs, killA, outQ, Aw.ids]) (by simp [killAs, killA, outQ, Aw.ids]) (by simp [Aw.ids]) ?_; simp only [Aw.ids, List.map_cons, List.map_nil, List.filter_cons, List.filter_nil, List.contains_cons, List.contains_nil, Bool.or_false, Bool.or_true, Bool.not_true, Bool.not_false, Nat.reduceBEq, Bool.false_eq_true, if_true, if_false, List.cons_append, List.nil_append]; simp only [go_sem, seval]
    (repeat refine And.intro (by first | omega | (intro hq; first | omega | (simp at hq <;> omega) | (simp_all <;> omega))) ?_)
    refine hK _ ?_; clear hK K
    (repeat refine ats_seq ?_)
    refine ats_plan [] (.one 0 (.one 1 (.one 2 (.one 3 (.one 4 (.one 5 (.alt 6 .fin .stop))))))) ⟨[(2, .bptr 0 0), (3, .bptr 1 0), (4, .bptr 2 0), (5, .l1 g), (6, .bptr 3 0), (7, .bptr 4 0), (8, .bptr 6 0), (9, .bptr 7 0), (30, .l1 g), (31, .int o.length), (32, .int i)], [(0, .bx [.l1 o, .int m, .l3 w]), (1, .bx [.l1 L]), (4, .bx [.l3 w]), (7, .bx [.int o.length]), (8, .bx [.int i]), (9, .bx [.int (own o i)]), (10, .t1 (rowT o m w L i (w.length - 1))), (11, .bx [.ref 10 []]), (2, .bx [.nil, .int 0, .nil, .nil]), (3, .bx [.int w.length]), (5, .t2 ((rowsP o m w L i).set (own o i) (rowT o m w L i (w.length - 1)))), (6, .bx [.l1 o, .int m, .l3 w, .ref 5 []])]⟩ (by first | exact fix0 hcx | exact fixN hcx rfl) mixed (by kernel_rfl) (fun K hK => ?_) ?_
    · simp only [go_sem, seval, Option.getD_some, and_true, true_and, and_self, List.contains_cons, List.contains_nil, Bool.or_false, Bool.or_true]
      repeat' (first | exact hK _ (by refine And.intro ?_ rfl; simp only [SlotsLe, St.get, slotGet, Nat.reduceEqDiff, ↓reduceIte, AV.int.injEq, AV.bool.injEq, AV.l1.injEq, AV.l2.injEq, AV.l3.injEq, true_and, and_true])  | with_reducible refine And.intro ?_ ?_ | omega | ((simp only [rsq, hcp])))
    rw [← es]
    (repeat refine ats_seq ?_); refine AT.ghost (st' := ⟨[(2, .bptr 0 0), (3, .bptr 1 0), (4, .bptr 2 0), (5, .l1 g), (6, .bptr 3 0), (7, .bptr 4 0), (8, .bptr 6 0), (9, .bptr 7 0), (30, .l1 g), (31, .int o.length), (32, .int i)], [(0, .bx [.l1 o, .int m, .l3 w]), (1, .bx [.l1 L]), (2, .bx [.nil, .int 0, .nil, .nil]), (3, .bx [.int w.length]), (4, .bx [.l3 w]), (5, .t2 (rowsP o m w L (i + 1))), (6, .bx [.l1 o, .int m, .l3 w, .ref 5 []]), (7, .bx [.int o.length])]⟩) (ghost_trans (ghost_drop [8, 9, 10, 11]) (ghost_can [] (by simp only [killL, killA, killAs, qOf, rmT, killH, killT, List.filter_cons, List.filter_nil, List.contains_cons, List.contains_nil, Bool.or_false, Bool.or_true, Bool.false_and, Bool.not_true, Bool.not_false, Bool.false_eq_true, if_true, if_false, rnLs, rnL, rn, rns, sw, SlotsLe, St.get, slotGet, List.map_cons, List.map_nil, seval, AV.int.injEq, AV.bool.injEq, AV.l1.injEq, AV.l2.injEq, AV.l3.injEq, true_and, and_true]) (by simp only [killL, killA, killAs, qOf, rmT, killH, killT, List.filter_cons, List.filter_nil, List.contains_cons, List.contains_nil, Bool.or_false, Bool.or_true, Bool.false_and, Bool.not_true, Bool.not_false, Bool.false_eq_true, if_true, if_false, sortH, insH, rnHs, rnH, rnT, rn, rns, sw, List.map_cons, List.map_nil, seval]))) ?_
    (repeat refine ats_seq ?_); refine ats_go (by first | exact fix0 hcx | exact fix1 hcx rfl | exact fixN hcx rfl) fun K hK => ?_; simp only [go_sem, seval]; (repeat refine And.intro (by first | omega | (intro hq; first | omega | (simp at hq <;> omega) | (simp_all <;> omega))) ?_); refine hK _ ?_; clear hK K
    refine ⟨i + 1,  by omega, by omega, .inl ⟨by simp only [SlotsLe, St.get, slotGet, Nat.reduceEqDiff, ↓reduceIte, AV.int.injEq, AV.bool.injEq, AV.l1.injEq, AV.l2.injEq, AV.l3.injEq, true_and, and_true]; (try omega),  rfl⟩⟩
  · obtain rfl : i = o.length := by omega
    refine ats_exit (lq_x ?_)
    (repeat refine ats_seq ?_); refine ats_go (by first | exact fix0 hcx | exact fix1 hcx rfl | exact fixN hcx rfl) fun K hK => ?_; simp only [go_sem, seval]; (repeat refine And.intro (by first | omega | (intro hq; first | omega | (simp at hq <;> omega) | (simp_all <;> omega))) ?_); refine hK _ ?_; clear hK K
    (repeat refine ats_seq ?_); refine ats_go (by first | exact fix0 hcx | exact fix1 hcx rfl | exact fixN hcx rfl) fun K hK => ?_; simp only [go_sem, seval]
    (repeat refine And.intro (by first | omega | (intro hq; first | omega | (simp at hq <;> omega) | (simp_all <;> omega))) ?_)
    refine fcall_own rfl (hz1) rfl ?_; simp only [go_sem, seval]
    (repeat refine And.intro (by first | omega | (intro hq; first | omega | (simp at hq <;> omega) | (simp_all <;> omega))) ?_)
    refine hK _ ?_; clear hK K
    (repeat refine ats_seq ?_); refine ats_go (by first | exact fix0 hcx | exact fix1 hcx rfl | exact fixN hcx rfl) fun K hK => ?_; simp only [go_sem, seval]
    (repeat refine And.intro (by first | omega | (intro hq; first | omega | (simp at hq <;> omega) | (simp_all <;> omega))) ?_)
    refine fcall_box (hS2) (by simp [Aw.ids]) (by simp [find]) (by simp [closedT, killT, killAs, killA, outQ, Aw.ids]) (by simp [killAs, killA, outQ, Aw.ids]) (by simp [Aw.ids]) ?_; simp only [Aw.ids, List.map_cons, List.map_nil, List.filter_cons, List.filter_nil, List.contains_cons, List.contains_nil, Bool.or_false, Bool.or_true, Bool.not_true, Bool.not_false, Nat.reduceBEq, Bool.false_eq_true, if_true, if_false, List.cons_append, List.nil_append]; simp only [go_sem, seval]
    (repeat refine And.intro (by first | omega | (intro hq; first | omega | (simp at hq <;> omega) | (simp_all <;> omega))) ?_)
    refine hK _ ?_; clear hK K
    (repeat refine ats_seq ?_); refine ats_go (by first | exact fix0 hcx | exact fix1 hcx rfl | exact fixN hcx rfl) fun K hK => ?_; simp only [go_sem, seval]; (repeat refine And.intro (by first | omega | (intro hq; first | omega | (simp at hq <;> omega) | (simp_all <;> omega))) ?_); refine hK _ ?_; clear hK K
    (repeat refine ats_seq ?_); refine ats_go (by first | exact fix0 hcx | exact fix1 hcx rfl | exact fixN hcx rfl) fun K hK => ?_; simp only [go_sem, seval]; (repeat refine And.intro (by first | omega | (intro hq; first | omega | (simp at hq <;> omega) | (simp_all <;> omega))) ?_); refine hK _ ?_; clear hK K
    refine ats_ret ⟨⟨[(4, .bptr 21 0)], [(20, .t2 (bLd o m w L)), (21, .bx [.l1 o, .int m, .l3 w, .ref 20 []])]⟩, ghost_trans (ghost_drop [0, 1, 3, 4, 5, 6, 7, 8, 10]) (ghost_can [(2, 21), (9, 20)] (by simp only [killL, killA, killAs, qOf, rmT, killH, killT, List.filter_cons, List.filter_nil, List.contains_cons, List.contains_nil, Bool.or_false, Bool.or_true, Bool.false_and, Bool.not_true, Bool.not_false, Bool.false_eq_true, if_true, if_false, rnLs, rnL, rn, rns, sw, SlotsLe, St.get, slotGet, List.map_cons, List.map_nil, seval, AV.int.injEq, AV.bool.injEq, AV.l1.injEq, AV.l2.injEq, AV.l3.injEq, true_and, and_true]) (by simp only [killL, killA, killAs, qOf, rmT, killH, killT, List.filter_cons, List.filter_nil, List.contains_cons, List.contains_nil, Bool.or_false, Bool.or_true, Bool.false_and, Bool.not_true, Bool.not_false, Bool.false_eq_true, if_true, if_false, sortH, insH, rnHs, rnH, rnT, rn, rns, sw, List.map_cons, List.map_nil, seval])), .inr rfl, (by first | rfl | exact ⟨trivial, rfl⟩ | (simp only [resL, resA, go_sem, seval]; done)), (by simp [St.get, slotGet, argSlots]), rfl⟩
end Go.Proofs.Ytaijdhkjemffhaa
