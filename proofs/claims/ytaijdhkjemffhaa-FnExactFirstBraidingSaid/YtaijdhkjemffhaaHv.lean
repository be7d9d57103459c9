import Derived.Test.YtaijdhkjemffhaaHu
set_option linter.unusedSimpArgs false
set_option linter.unusedVariables false
namespace Go.Proofs.Ytaijdhkjemffhaa
open Go Go.Aw Go.Pl
attribute [local go_sem] pl_fin pl_stop pl_one pl_alt PK_ap pickO List.getElem?_toArray List.getElem?_cons_zero List.getElem?_cons_succ
section
variable {o : List Int} {m : Int} {w : List (List (List Int))}
theorem emod_bd (m1 : 1 ≤ m) (a : Int) : 0 ≤ a % m ∧ a % m ≤ m - 1 := by
  have b1 := Int.emod_nonneg a (show m ≠ 0 by omega)
  have b2 := Int.emod_lt_of_pos a (show 0 < m by omega)
  omega
theorem rowT_bd (m1 : 1 ≤ m) {L : List Int} {i : Nat} : ∀ t y, 0 ≤ (rowT o m w L i t).getD y 0 ∧ (rowT o m w L i t).getD y 0 ≤ m - 1
  | 0, y => by
    have e : (rowT o m w L i 0).getD y 0 = 0 := by
      show (List.replicate w.length (0 : Int)).getD y 0 = 0
      rw [repl_rowF]
      by_cases h : y < w.length
      · rw [rowF_get h]
      · rw [List.getD_eq_getElem?_getD, List.getElem?_eq_none (by rw [rowF_length]; omega)]; rfl
    rw [e]; omega
  | t + 1, y => by
    rw [rowT, getD_set']
    split
    · exact emod_bd m1 _
    · exact rowT_bd m1 t y
theorem gridB_set {n : Nat} {A : List (List Int)} (h : GridB n m A) {i : Nat} {r : List Int} (hr : RowB n m r) : GridB n m (A.set i r) := by
  refine ⟨by rw [List.length_set]; exact h.1, fun j hj => ?_⟩
  rw [getD_set']
  split
  · exact hr
  · exact h.2 j hj
theorem gridB_zero (m1 : 1 ≤ m) (n : Nat) : GridB n m (matF n n fun _ _ => 0) := by
  refine ⟨matF_length .., fun j hj => ?_⟩
  rw [matF_get hj]
  exact ⟨rowF_length .., fun k hk => by rw [rowF_get hk]; omega⟩
theorem rowsP_gr (m1 : 1 ≤ m) {L : List Int} : ∀ i, GridB w.length m (rowsP o m w L i)
  | 0 => gridB_zero m1 _
  | i + 1 => gridB_set (rowsP_gr m1 i) ⟨rowT_len _, fun k _ => rowT_bd m1 _ k⟩
theorem allT_gr (m1 : 1 ≤ m) {R : List (List Int)} : ∀ t, GridB w.length m (allT o m w R t)
  | 0 => gridB_zero m1 _
  | t + 1 => gridB_set (allT_gr m1 t) ⟨rowF_length .., fun k hk => by rw [rowF_get hk]; exact emod_bd m1 _⟩
end
set_option maxRecDepth 100000 in
set_option maxHeartbeats 8000000 in
theorem eachSum1_ok (o : List Int) (m : Int) (w : List (List (List Int))) (hs : CocS o m w) (hk : chk o = true) (hl : o.length ≤ 1048576) (L : List Int) (h3 : o.length ≤ 3) (hLl : L.length = o.length * o.length) (hL : ∀ j, j < o.length * o.length → 0 ≤ L.getD j 0 ∧ L.getD j 0 ≤ m - 1) (i : Nat) (hi : i < o.length) (hg : own o i < w.length) :
    OwnCall Try.prog 78 [.agg [.l1 o, .int m, .l3 w], .l1 (gensL o), .fn 79 [.bptr 0 0, .bptr 11 0, .bptr 1 0, .bptr 8 0, .bptr 7 0, .bptr 4 0, .bptr 9 0]] (TA o m w L i (rowT o m w L i 0)) (TA o m w L i (rowT o m w L i (w.length - 1))) (.tup []) [0, 11, 1, 8, 7, 4, 9] := by
  have n8 := hs.n8
  have lG : (gensL o).length = o.length := rowF_length ..
  have gG : ∀ k, k < o.length → (gensL o).getD k 0 = (own o k : Int) := fun k hk => rowF_get hk
  have en := hs.nE
  have hr := hs.1.1
  simp only [TA]
  refine OwnCall.intro (n := 43) (rs := []) 3 [0, 1, 2] (X := [0, 11, 1, 8, 7, 4, 9]) Try.call78 Try.func78 rfl rfl rfl (by simp only [List.length_cons, List.length_nil]; omega) (by simp [Aw.ids, rootsA, rootsAs, argSlots, slotGet]) (fun cx hcx => AT.weakG (ats_of ?_)); simp only [argSlots, Nat.zero_add, Nat.reduceAdd]
  (repeat refine ats_seq ?_); refine ats_go (by first | exact fix0 hcx | exact fix1 hcx rfl | exact fixN hcx rfl) fun K hK => ?_; simp only [go_sem, seval]; (repeat refine And.intro (by first | omega | (intro hq; first | omega | (simp at hq <;> omega) | (simp_all <;> omega))) ?_); refine hK _ ?_; clear hK K
  (repeat refine ats_seq ?_); refine ats_go (by first | exact fix0 hcx | exact fix1 hcx rfl | exact fixN hcx rfl) fun K hK => ?_; simp only [go_sem, seval]; (repeat refine And.intro (by first | omega | (intro hq; first | omega | (simp at hq <;> omega) | (simp_all <;> omega))) ?_); refine hK _ ?_; clear hK K
  (repeat refine ats_seq ?_); refine ats_loop (fun s : Nat => ⟨[(0, .agg [.l1 o, .int m, .l3 w]), (1, .l1 (gensL o)), (2, .fn 79 [.bptr 0 0, .bptr 11 0, .bptr 1 0, .bptr 8 0, .bptr 7 0, .bptr 4 0, .bptr 9 0]), (3, .bptr 12 0), (6, .int ((s + 1 : Nat) : Int))], [(0, .bx [.l1 o, .int m, .l3 w]), (1, .bx [.l1 L]), (4, .bx [.l3 w]), (7, .bx [.int o.length]), (8, .bx [.int i]), (9, .bx [.int (own o i)]), (10, .t1 (rowT o m w L i s)), (11, .bx [.ref 10 []]), (12, .bx [.l1 o, .int m, .l3 w])]⟩) (fun s => s + 1 ≤ w.length) (fun s => w.length - s) 0 (by omega) (by
    refine And.intro ?_ rfl; simp only [SlotsLe, St.get, slotGet, Nat.reduceEqDiff, ↓reduceIte, AV.int.injEq, AV.bool.injEq, AV.l1.injEq, AV.l2.injEq, AV.l3.injEq, true_and, and_true]
    try rfl) (fun s hs1 => ?_)
  (repeat refine ats_seq ?_); refine ats_go (by first | exact fix0 hcx | exact fix1 hcx rfl | exact fixN hcx rfl) fun K hK => ?_; simp only [go_sem, seval]; (repeat refine And.intro (by first | omega | (intro hq; first | omega | (simp at hq <;> omega) | (simp_all <;> omega))) ?_); refine hK _ ?_; clear hK K
  (repeat refine ats_seq ?_); first | refine ats_ifn (p := _) rfl trivial (fun h1 => ?_) (fun h1 => ?_) | refine ats_ifp (p := _) rfl trivial (fun h1 => ?_) (fun h1 => ?_) | refine ats_cond rfl trivial (fun h1 => ?_) (fun h1 => ?_)
  · have hsn : s + 1 < w.length := by omega
    obtain ⟨k1, k2, k3, k4, k5⟩ := getK hk (y := s + 1) (by rw [en]; exact hsn) (by omega)
    have hT := tupleOf_ok o hs.1 hs.2.1 hl (s + 1) (by omega)
    have hh := (getOwn hk k1).1
    rw [en] at hh
    have hV := vis1_ok o m w L hs h3 hLl hL i hi hg (rowT o m w L i s) (rowT_len s) (rowT_bd hs.2.2.1 s) (s + 1 - own o (kOf o (s + 1))) (own o (kOf o (s + 1))) (kOf o (s + 1)) (by omega) (by omega) k1
    rw [k5] at hV
    have es : rowT o m w L i (s + 1) = (rowT o m w L i s).set (s + 1) (cl1 o m w L i (rowT o m w L i s) (s + 1 - own o (kOf o (s + 1))) (own o (kOf o (s + 1))) (kOf o (s + 1))) := rfl
    rw [← es] at hV
    obtain ⟨D, eD⟩ : ∃ D, rowF o.length (dgO o (s + 1)) = D := ⟨_, rfl⟩
    have lD : D.length = o.length := by rw [← eD]; exact rowF_length ..
    have gD : ∀ k, k < o.length → D.getD k 0 = dgO o (s + 1) k := fun k hk => by rw [← eD]; exact rowF_get hk
    rw [eD] at hT
    obtain ⟨κ, eκ⟩ : ∃ κ, kOf o (s + 1) = κ := ⟨_, rfl⟩
    have kl : ∀ j, κ < j → j < o.length → dgO o (s + 1) j = 0 := fun j h1 h2 => kS_last o.length j (by rw [← eκ] at h1; exact h1) h2
    obtain ⟨g, eg⟩ : ∃ g, own o κ = g := ⟨_, rfl⟩
    have gκ := gG κ (by rw [← eκ]; exact k1)
    simp only [eκ, eg] at k1 k2 k3 k4 hV hh gκ
    have dκ := gD κ k1
    have e1 : ((s + 1 : Nat) : Int) - (g : Int) = ((s + 1 - g : Nat) : Int) := by omega
    simp only [TA] at hV
    clear es
    refine ats_skip ?_
    (repeat refine ats_seq ?_); refine ats_block ?_
    (repeat refine ats_seq ?_); refine ats_go (by first | exact fix0 hcx | exact fix1 hcx rfl | exact fixN hcx rfl) fun K hK => ?_; simp only [go_sem, seval]
    (repeat refine And.intro (by first | omega | (intro hq; first | omega | (simp at hq <;> omega) | (simp_all <;> omega))) ?_)
    first | refine fcall_fresh rfl (hT) ?_ | refine YR_intro (acall_fresh rfl (hT)) ?_
    simp only [go_sem, seval]
    (repeat refine And.intro (by first | omega | (intro hq; first | omega | (simp at hq <;> omega) | (simp_all <;> omega))) ?_)
    refine hK _ ?_; clear hK K
    (repeat refine ats_seq ?_); refine ats_go (by first | exact fix0 hcx | exact fix1 hcx rfl | exact fixN hcx rfl) fun K hK => ?_; simp only [go_sem, seval]; (repeat refine And.intro (by first | omega | (intro hq; first | omega | (simp at hq <;> omega) | (simp_all <;> omega))) ?_); refine hK _ ?_; clear hK K
    (repeat refine ats_seq ?_); refine ats_loop (fun k : Nat => ⟨[(0, .agg [.l1 o, .int m, .l3 w]), (1, .l1 (gensL o)), (2, .fn 79 [.bptr 0 0, .bptr 11 0, .bptr 1 0, .bptr 8 0, .bptr 7 0, .bptr 4 0, .bptr 9 0]), (3, .bptr 12 0), (6, .int ((s + 1 : Nat) : Int)), (7, .l1 D), (8, .int k)], [(0, .bx [.l1 o, .int m, .l3 w]), (1, .bx [.l1 L]), (4, .bx [.l3 w]), (7, .bx [.int o.length]), (8, .bx [.int i]), (9, .bx [.int (own o i)]), (10, .t1 (rowT o m w L i s)), (11, .bx [.ref 10 []]), (12, .bx [.l1 o, .int m, .l3 w])]⟩) (fun k => κ ≤ k ∧ k < o.length) (fun k => k) (o.length - 1) ⟨by omega, by omega⟩ (by
      refine And.intro ?_ rfl; simp only [SlotsLe, St.get, slotGet, Nat.reduceEqDiff, ↓reduceIte, AV.int.injEq, AV.bool.injEq, AV.l1.injEq, AV.l2.injEq, AV.l3.injEq, true_and, and_true]
      omega) (fun k hkk => ?_)
    obtain ⟨hk1, hk2⟩ := hkk
    have dk := gD k hk2
    (repeat refine ats_seq ?_); refine ats_go (by first | exact fix0 hcx | exact fix1 hcx rfl | exact fixN hcx rfl) fun K hK => ?_; simp only [go_sem, seval]; (repeat refine And.intro (by first | omega | (intro hq; first | omega | (simp at hq <;> omega) | (simp_all <;> omega))) ?_); refine hK _ ?_; clear hK K
    (repeat refine ats_seq ?_); first | refine ats_ifn (p := _) rfl trivial (fun h2 => ?_) (fun h2 => ?_) | refine ats_ifp (p := _) rfl trivial (fun h2 => ?_) (fun h2 => ?_) | refine ats_cond rfl trivial (fun h2 => ?_) (fun h2 => ?_)
    · rw [dk] at h2
      have : k ≠ κ := fun e => k2 (by rw [← e]; exact h2)
      refine ats_skip ?_
      (repeat refine ats_seq ?_); refine ats_block ?_
      (repeat refine ats_seq ?_); refine ats_go (by first | exact fix0 hcx | exact fix1 hcx rfl | exact fixN hcx rfl) fun K hK => ?_; simp only [go_sem, seval]; (repeat refine And.intro (by first | omega | (intro hq; first | omega | (simp at hq <;> omega) | (simp_all <;> omega))) ?_); refine hK _ ?_; clear hK K
      refine ⟨k - 1,  ⟨by omega, by omega⟩, by omega, .inl ⟨by simp only [SlotsLe, St.get, slotGet, Nat.reduceEqDiff, ↓reduceIte, AV.int.injEq, AV.bool.injEq, AV.l1.injEq, AV.l2.injEq, AV.l3.injEq, true_and, and_true]; omega,  rfl⟩⟩
    · obtain rfl : k = κ := by
        rw [dk] at h2
        exact Classical.byContradiction fun h => h2 (kl k (by omega) hk2)
      refine ats_exit (lq_x ?_)
      (repeat refine ats_seq ?_)
      refine ats_plan [12] (.one 0 (.one 1 (.one 2 (.one 3 (.one 4 (.one 5 (.one 6 (.one 7 (.one 8 (.one 9 (.one 10 (.one 11 (.alt 12 .fin .stop))))))))))))) ⟨[(0, .agg [.l1 o, .int m, .l3 w]), (1, .l1 (gensL o)), (2, .fn 79 [.bptr 0 0, .bptr 11 0, .bptr 1 0, .bptr 8 0, .bptr 7 0, .bptr 4 0, .bptr 9 0]), (3, .bptr 12 0), (6, .int ((s + 1 : Nat) : Int))], [(0, .bx [.l1 o, .int m, .l3 w]), (1, .bx [.l1 L]), (4, .bx [.l3 w]), (7, .bx [.int o.length]), (8, .bx [.int i]), (9, .bx [.int (own o i)]), (10, .t1 (rowT o m w L i (s + 1))), (11, .bx [.ref 10 []]), (12, .bx [.l1 o, .int m, .l3 w])]⟩ (by first | exact fix0 hcx | exact fixN hcx rfl) mixed (by kernel_rfl) (fun K hK => ?_) ?_
      · simp only [go_sem, seval, Option.getD_some, and_true, true_and, and_self, List.contains_cons, List.contains_nil, Bool.or_false, Bool.or_true]
        repeat' (first | exact hK _ (by refine And.intro ?_ rfl; simp only [SlotsLe, St.get, slotGet, Nat.reduceEqDiff, ↓reduceIte, AV.int.injEq, AV.bool.injEq, AV.l1.injEq, AV.l2.injEq, AV.l3.injEq, true_and, and_true])  | with_reducible refine And.intro ?_ ?_ | omega | ((simp only [gκ, e1])) | (refine fcall_box (hV) (by simp [Aw.ids]) (by simp [find]) (by simp [closedT, killT, killAs, killA, outQ, Aw.ids]) (by simp [killAs, killA, outQ, Aw.ids]) (by simp [Aw.ids]) ?_; simp only [Aw.ids, List.map_cons, List.map_nil, List.filter_cons, List.filter_nil, List.contains_cons, List.contains_nil, Bool.or_false, Bool.or_true, Bool.not_true, Bool.not_false, Nat.reduceBEq, Bool.false_eq_true, if_true, if_false, List.cons_append, List.nil_append]; simp only [go_sem, seval, Option.getD_some, and_true, true_and, and_self, List.contains_cons, List.contains_nil, Bool.or_false, Bool.or_true]))
      (repeat refine ats_seq ?_); refine ats_go (by first | exact fix0 hcx | exact fix1 hcx rfl | exact fixN hcx rfl) fun K hK => ?_; simp only [go_sem, seval]; (repeat refine And.intro (by first | omega | (intro hq; first | omega | (simp at hq <;> omega) | (simp_all <;> omega))) ?_); refine hK _ ?_; clear hK K
      refine ⟨s + 1,  by omega, by omega, .inl ⟨by simp only [SlotsLe, St.get, slotGet, Nat.reduceEqDiff, ↓reduceIte, AV.int.injEq, AV.bool.injEq, AV.l1.injEq, AV.l2.injEq, AV.l3.injEq, true_and, and_true]; (try omega),  rfl⟩⟩
  · obtain ⟨N, eN⟩ : ∃ N, w.length = N := ⟨_, rfl⟩
    obtain rfl : s = N - 1 := by omega
    rw [eN]
    refine ats_exit (lq_x ?_)
    refine id ⟨⟨[(0, .agg [.l1 o, .int m, .l3 w]), (1, .l1 (gensL o)), (2, .fn 79 [.bptr 0 0, .bptr 11 0, .bptr 1 0, .bptr 8 0, .bptr 7 0, .bptr 4 0, .bptr 9 0])], [(0, .bx [.l1 o, .int m, .l3 w]), (1, .bx [.l1 L]), (4, .bx [.l3 w]), (7, .bx [.int o.length]), (8, .bx [.int i]), (9, .bx [.int (own o i)]), (10, .t1 (rowT o m w L i (N - 1))), (11, .bx [.ref 10 []])]⟩, ghost_trans (ghost_drop [12]) (ghost_can [] (by simp only [killL, killA, killAs, qOf, rmT, killH, killT, List.filter_cons, List.filter_nil, List.contains_cons, List.contains_nil, Bool.or_false, Bool.or_true, Bool.false_and, Bool.not_true, Bool.not_false, Bool.false_eq_true, if_true, if_false, rnLs, rnL, rn, rns, sw, SlotsLe, St.get, slotGet, List.map_cons, List.map_nil, seval, AV.int.injEq, AV.bool.injEq, AV.l1.injEq, AV.l2.injEq, AV.l3.injEq, true_and, and_true]) (by simp only [killL, killA, killAs, qOf, rmT, killH, killT, List.filter_cons, List.filter_nil, List.contains_cons, List.contains_nil, Bool.or_false, Bool.or_true, Bool.false_and, Bool.not_true, Bool.not_false, Bool.false_eq_true, if_true, if_false, sortH, insH, rnHs, rnH, rnT, rn, rns, sw, List.map_cons, List.map_nil, seval])), .inl rfl, (by first | rfl | exact ⟨trivial, rfl⟩ | (simp only [resL, resA, go_sem, seval]; done)), (by simp [St.get, slotGet, argSlots]), rfl⟩
set_option maxRecDepth 100000 in
set_option maxHeartbeats 8000000 in
theorem eachSum2_ok (o : List Int) (m : Int) (w : List (List (List Int))) (hs : CocS o m w) (hk : chk o = true) (hl : o.length ≤ 1048576) (R : List (List Int)) (hR : GridB w.length m R) :
    OwnCall Try.prog 78 [.agg [.l1 o, .int m, .l3 w], .l1 (gensL o), .fn 80 [.bptr 3 0, .bptr 0 0, .bptr 10 0, .bptr 8 0, .bptr 4 0]] (TB o m w R (allT o m w R 0)) (TB o m w R (allT o m w R (w.length - 1))) (.tup []) [3, 0, 10, 8, 4] := by
  have n8 := hs.n8
  have lG : (gensL o).length = o.length := rowF_length ..
  have gG : ∀ k, k < o.length → (gensL o).getD k 0 = (own o k : Int) := fun k hk => rowF_get hk
  have en := hs.nE
  have hr := hs.1.1
  simp only [TB]
  refine OwnCall.intro (n := 43) (rs := []) 3 [0, 1, 2] (X := [3, 0, 10, 8, 4]) Try.call78 Try.func78 rfl rfl rfl (by simp only [List.length_cons, List.length_nil]; omega) (by simp [Aw.ids, rootsA, rootsAs, argSlots, slotGet]) (fun cx hcx => AT.weakG (ats_of ?_)); simp only [argSlots, Nat.zero_add, Nat.reduceAdd]
  (repeat refine ats_seq ?_); refine ats_go (by first | exact fix0 hcx | exact fix1 hcx rfl | exact fixN hcx rfl) fun K hK => ?_; simp only [go_sem, seval]; (repeat refine And.intro (by first | omega | (intro hq; first | omega | (simp at hq <;> omega) | (simp_all <;> omega))) ?_); refine hK _ ?_; clear hK K
  (repeat refine ats_seq ?_); refine ats_go (by first | exact fix0 hcx | exact fix1 hcx rfl | exact fixN hcx rfl) fun K hK => ?_; simp only [go_sem, seval]; (repeat refine And.intro (by first | omega | (intro hq; first | omega | (simp at hq <;> omega) | (simp_all <;> omega))) ?_); refine hK _ ?_; clear hK K
  (repeat refine ats_seq ?_); refine ats_loop (fun s : Nat => ⟨[(0, .agg [.l1 o, .int m, .l3 w]), (1, .l1 (gensL o)), (2, .fn 80 [.bptr 3 0, .bptr 0 0, .bptr 10 0, .bptr 8 0, .bptr 4 0]), (3, .bptr 11 0), (6, .int ((s + 1 : Nat) : Int))], [(0, .bx [.l1 o, .int m, .l3 w]), (3, .bx [.int w.length]), (4, .bx [.l3 w]), (5, .t2 R), (8, .bx [.ref 5 []]), (9, .t2 (allT o m w R s)), (10, .bx [.ref 9 []]), (11, .bx [.l1 o, .int m, .l3 w])]⟩) (fun s => s + 1 ≤ w.length) (fun s => w.length - s) 0 (by omega) (by
    refine And.intro ?_ rfl; simp only [SlotsLe, St.get, slotGet, Nat.reduceEqDiff, ↓reduceIte, AV.int.injEq, AV.bool.injEq, AV.l1.injEq, AV.l2.injEq, AV.l3.injEq, true_and, and_true]
    try rfl) (fun s hs1 => ?_)
  (repeat refine ats_seq ?_); refine ats_go (by first | exact fix0 hcx | exact fix1 hcx rfl | exact fixN hcx rfl) fun K hK => ?_; simp only [go_sem, seval]; (repeat refine And.intro (by first | omega | (intro hq; first | omega | (simp at hq <;> omega) | (simp_all <;> omega))) ?_); refine hK _ ?_; clear hK K
  (repeat refine ats_seq ?_); first | refine ats_ifn (p := _) rfl trivial (fun h1 => ?_) (fun h1 => ?_) | refine ats_ifp (p := _) rfl trivial (fun h1 => ?_) (fun h1 => ?_) | refine ats_cond rfl trivial (fun h1 => ?_) (fun h1 => ?_)
  · have hsn : s + 1 < w.length := by omega
    obtain ⟨k1, k2, k3, k4, k5⟩ := getK hk (y := s + 1) (by rw [en]; exact hsn) (by omega)
    have hT := tupleOf_ok o hs.1 hs.2.1 hl (s + 1) (by omega)
    have hh := (getOwn hk k1).1
    rw [en] at hh
    have hV := vis2_ok o m w hs R (allT o m w R s) hR (allT_gr hs.2.2.1 s) (s + 1 - own o (kOf o (s + 1))) (own o (kOf o (s + 1))) (kOf o (s + 1)) (by omega) (by omega)
    rw [k5] at hV
    have es : allT o m w R (s + 1) = (allT o m w R s).set (s + 1) (rowF w.length (cl2 m w R (allT o m w R s) (s + 1 - own o (kOf o (s + 1))) (own o (kOf o (s + 1))))) := rfl
    rw [← es] at hV
    obtain ⟨D, eD⟩ : ∃ D, rowF o.length (dgO o (s + 1)) = D := ⟨_, rfl⟩
    have lD : D.length = o.length := by rw [← eD]; exact rowF_length ..
    have gD : ∀ k, k < o.length → D.getD k 0 = dgO o (s + 1) k := fun k hk => by rw [← eD]; exact rowF_get hk
    rw [eD] at hT
    obtain ⟨κ, eκ⟩ : ∃ κ, kOf o (s + 1) = κ := ⟨_, rfl⟩
    have kl : ∀ j, κ < j → j < o.length → dgO o (s + 1) j = 0 := fun j h1 h2 => kS_last o.length j (by rw [← eκ] at h1; exact h1) h2
    obtain ⟨g, eg⟩ : ∃ g, own o κ = g := ⟨_, rfl⟩
    have gκ := gG κ (by rw [← eκ]; exact k1)
    simp only [eκ, eg] at k1 k2 k3 k4 hV hh gκ
    have dκ := gD κ k1
    have e1 : ((s + 1 : Nat) : Int) - (g : Int) = ((s + 1 - g : Nat) : Int) := by omega
    simp only [TB] at hV
    clear es
    refine ats_skip ?_
    (repeat refine ats_seq ?_); refine ats_block ?_
    (repeat refine ats_seq ?_); refine ats_go (by first | exact fix0 hcx | exact fix1 hcx rfl | exact fixN hcx rfl) fun K hK => ?_; simp only [go_sem, seval]
    (repeat refine And.intro (by first | omega | (intro hq; first | omega | (simp at hq <;> omega) | (simp_all <;> omega))) ?_)
    first | refine fcall_fresh rfl (hT) ?_ | refine YR_intro (acall_fresh rfl (hT)) ?_
    simp only [go_sem, seval]
    (repeat refine And.intro (by first | omega | (intro hq; first | omega | (simp at hq <;> omega) | (simp_all <;> omega))) ?_)
    refine hK _ ?_; clear hK K
    (repeat refine ats_seq ?_); refine ats_go (by first | exact fix0 hcx | exact fix1 hcx rfl | exact fixN hcx rfl) fun K hK => ?_; simp only [go_sem, seval]; (repeat refine And.intro (by first | omega | (intro hq; first | omega | (simp at hq <;> omega) | (simp_all <;> omega))) ?_); refine hK _ ?_; clear hK K
    (repeat refine ats_seq ?_); refine ats_loop (fun k : Nat => ⟨[(0, .agg [.l1 o, .int m, .l3 w]), (1, .l1 (gensL o)), (2, .fn 80 [.bptr 3 0, .bptr 0 0, .bptr 10 0, .bptr 8 0, .bptr 4 0]), (3, .bptr 11 0), (6, .int ((s + 1 : Nat) : Int)), (7, .l1 D), (8, .int k)], [(0, .bx [.l1 o, .int m, .l3 w]), (3, .bx [.int w.length]), (4, .bx [.l3 w]), (5, .t2 R), (8, .bx [.ref 5 []]), (9, .t2 (allT o m w R s)), (10, .bx [.ref 9 []]), (11, .bx [.l1 o, .int m, .l3 w])]⟩) (fun k => κ ≤ k ∧ k < o.length) (fun k => k) (o.length - 1) ⟨by omega, by omega⟩ (by
      refine And.intro ?_ rfl; simp only [SlotsLe, St.get, slotGet, Nat.reduceEqDiff, ↓reduceIte, AV.int.injEq, AV.bool.injEq, AV.l1.injEq, AV.l2.injEq, AV.l3.injEq, true_and, and_true]
      omega) (fun k hkk => ?_)
    obtain ⟨hk1, hk2⟩ := hkk
    have dk := gD k hk2
    (repeat refine ats_seq ?_); refine ats_go (by first | exact fix0 hcx | exact fix1 hcx rfl | exact fixN hcx rfl) fun K hK => ?_; simp only [go_sem, seval]; (repeat refine And.intro (by first | omega | (intro hq; first | omega | (simp at hq <;> omega) | (simp_all <;> omega))) ?_); refine hK _ ?_; clear hK K
    (repeat refine ats_seq ?_); first | refine ats_ifn (p := _) rfl trivial (fun h2 => ?_) (fun h2 => ?_) | refine ats_ifp (p := _) rfl trivial (fun h2 => ?_) (fun h2 => ?_) | refine ats_cond rfl trivial (fun h2 => ?_) (fun h2 => ?_)
    · rw [dk] at h2
      have : k ≠ κ := fun e => k2 (by rw [← e]; exact h2)
      refine ats_skip ?_
      (repeat refine ats_seq ?_); refine ats_block ?_
      (repeat refine ats_seq ?_); refine ats_go (by first | exact fix0 hcx | exact fix1 hcx rfl | exact fixN hcx rfl) fun K hK => ?_; simp only [go_sem, seval]; (repeat refine And.intro (by first | omega | (intro hq; first | omega | (simp at hq <;> omega) | (simp_all <;> omega))) ?_); refine hK _ ?_; clear hK K
      refine ⟨k - 1,  ⟨by omega, by omega⟩, by omega, .inl ⟨by simp only [SlotsLe, St.get, slotGet, Nat.reduceEqDiff, ↓reduceIte, AV.int.injEq, AV.bool.injEq, AV.l1.injEq, AV.l2.injEq, AV.l3.injEq, true_and, and_true]; omega,  rfl⟩⟩
    · obtain rfl : k = κ := by
        rw [dk] at h2
        exact Classical.byContradiction fun h => h2 (kl k (by omega) hk2)
      refine ats_exit (lq_x ?_)
      (repeat refine ats_seq ?_)
      refine ats_plan [12] (.one 0 (.one 1 (.one 2 (.one 3 (.one 4 (.one 5 (.one 6 (.one 7 (.one 8 (.one 9 (.one 10 (.one 11 (.alt 12 .fin .stop))))))))))))) ⟨[(0, .agg [.l1 o, .int m, .l3 w]), (1, .l1 (gensL o)), (2, .fn 80 [.bptr 3 0, .bptr 0 0, .bptr 10 0, .bptr 8 0, .bptr 4 0]), (3, .bptr 11 0), (6, .int ((s + 1 : Nat) : Int))], [(0, .bx [.l1 o, .int m, .l3 w]), (3, .bx [.int w.length]), (4, .bx [.l3 w]), (5, .t2 R), (8, .bx [.ref 5 []]), (9, .t2 (allT o m w R (s + 1))), (10, .bx [.ref 9 []]), (11, .bx [.l1 o, .int m, .l3 w])]⟩ (by first | exact fix0 hcx | exact fixN hcx rfl) mixed (by kernel_rfl) (fun K hK => ?_) ?_
      · simp only [go_sem, seval, Option.getD_some, and_true, true_and, and_self, List.contains_cons, List.contains_nil, Bool.or_false, Bool.or_true]
        repeat' (first | exact hK _ (by refine And.intro ?_ rfl; simp only [SlotsLe, St.get, slotGet, Nat.reduceEqDiff, ↓reduceIte, AV.int.injEq, AV.bool.injEq, AV.l1.injEq, AV.l2.injEq, AV.l3.injEq, true_and, and_true])  | with_reducible refine And.intro ?_ ?_ | omega | ((simp only [gκ, e1])) | (refine fcall_box (hV) (by simp [Aw.ids]) (by simp [find]) (by simp [closedT, killT, killAs, killA, outQ, Aw.ids]) (by simp [killAs, killA, outQ, Aw.ids]) (by simp [Aw.ids]) ?_; simp only [Aw.ids, List.map_cons, List.map_nil, List.filter_cons, List.filter_nil, List.contains_cons, List.contains_nil, Bool.or_false, Bool.or_true, Bool.not_true, Bool.not_false, Nat.reduceBEq, Bool.false_eq_true, if_true, if_false, List.cons_append, List.nil_append]; simp only [go_sem, seval, Option.getD_some, and_true, true_and, and_self, List.contains_cons, List.contains_nil, Bool.or_false, Bool.or_true]))
      (repeat refine ats_seq ?_); refine ats_go (by first | exact fix0 hcx | exact fix1 hcx rfl | exact fixN hcx rfl) fun K hK => ?_; simp only [go_sem, seval]; (repeat refine And.intro (by first | omega | (intro hq; first | omega | (simp at hq <;> omega) | (simp_all <;> omega))) ?_); refine hK _ ?_; clear hK K
      refine ⟨s + 1,  by omega, by omega, .inl ⟨by simp only [SlotsLe, St.get, slotGet, Nat.reduceEqDiff, ↓reduceIte, AV.int.injEq, AV.bool.injEq, AV.l1.injEq, AV.l2.injEq, AV.l3.injEq, true_and, and_true]; (try omega),  rfl⟩⟩
  · obtain ⟨N, eN⟩ : ∃ N, w.length = N := ⟨_, rfl⟩
    obtain rfl : s = N - 1 := by omega
    rw [eN]
    refine ats_exit (lq_x ?_)
    refine id ⟨⟨[(0, .agg [.l1 o, .int m, .l3 w]), (1, .l1 (gensL o)), (2, .fn 80 [.bptr 3 0, .bptr 0 0, .bptr 10 0, .bptr 8 0, .bptr 4 0])], [(0, .bx [.l1 o, .int m, .l3 w]), (3, .bx [.int N]), (4, .bx [.l3 w]), (5, .t2 R), (8, .bx [.ref 5 []]), (9, .t2 (allT o m w R (N - 1))), (10, .bx [.ref 9 []])]⟩, ghost_trans (ghost_drop [11]) (ghost_can [] (by simp only [killL, killA, killAs, qOf, rmT, killH, killT, List.filter_cons, List.filter_nil, List.contains_cons, List.contains_nil, Bool.or_false, Bool.or_true, Bool.false_and, Bool.not_true, Bool.not_false, Bool.false_eq_true, if_true, if_false, rnLs, rnL, rn, rns, sw, SlotsLe, St.get, slotGet, List.map_cons, List.map_nil, seval, AV.int.injEq, AV.bool.injEq, AV.l1.injEq, AV.l2.injEq, AV.l3.injEq, true_and, and_true]) (by simp only [killL, killA, killAs, qOf, rmT, killH, killT, List.filter_cons, List.filter_nil, List.contains_cons, List.contains_nil, Bool.or_false, Bool.or_true, Bool.false_and, Bool.not_true, Bool.not_false, Bool.false_eq_true, if_true, if_false, sortH, insH, rnHs, rnH, rnT, rn, rns, sw, List.map_cons, List.map_nil, seval])), .inl rfl, (by first | rfl | exact ⟨trivial, rfl⟩ | (simp only [resL, resA, go_sem, seval]; done)), (by simp [St.get, slotGet, argSlots]), rfl⟩
end Go.Proofs.Ytaijdhkjemffhaa
