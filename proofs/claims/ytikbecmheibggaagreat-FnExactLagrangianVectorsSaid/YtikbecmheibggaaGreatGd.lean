import Derived.Test.YtikbecmheibggaaGreatGc
import Derived.Test.YtikbecmheibggaaGreatEc
set_option linter.unusedSimpArgs false
set_option linter.unusedVariables false
namespace Go.Proofs.YtikbecmheibggaaGreat
open Go Go.Aw Go.Pl
theorem vF_zero {t : List Int} {B n c : Nat} : (List.replicate n (0 : Int)).set 0 1 = rowF n (vF t B n c 0) := by
  have e : List.replicate n (0 : Int) = rowF n (fun _ => 0) := by simp [rowF, List.map_const']
  rw [e, rowF_set]
  refine rowF_congr fun y _ => ?_
  unfold vF
  by_cases h : y = 0
  · rw [if_pos h, if_pos h]
  · rw [if_neg h, if_neg h, if_neg (fun h => by omega)]
theorem vF_step {t : List Int} {B n c j x : Nat} (hj : j < cb t n) (hx : fr t x = true) (hc : cb t x = j) :
    (rowF n (vF t B n c j)).set x ((rowF (cb t n) (dgF B (cb t n) (cb t n) c)).getD j 0) = rowF n (vF t B n c (j + 1)) := by
  have h1 : 1 ≤ x := by
    unfold fr at hx
    simp only [Bool.and_eq_true, decide_eq_true_eq] at hx
    exact hx.1
  rw [rowF_get hj, rowF_set]
  refine rowF_congr fun y _ => ?_
  unfold vF dgF
  rw [if_pos (show cb t n ≤ j + cb t n by omega)]
  by_cases e : y = x
  · subst e
    rw [if_pos rfl, if_neg (by omega), if_pos ⟨hx, by omega⟩, hc]
  · rw [if_neg e]
    by_cases h0 : y = 0
    · rw [if_pos h0, if_pos h0]
    · rw [if_neg h0, if_neg h0]
      by_cases hy : fr t y = true
      · have : cb t y ≠ j := fun h => e (cb_inj hy hx (by omega))
        by_cases hl : cb t y < j
        · rw [if_pos ⟨hy, hl⟩, if_pos ⟨hy, by omega⟩]
        · rw [if_neg (fun h => hl h.2), if_neg (fun h => by have := h.2; omega)]
      · rw [if_neg (fun h => hy h.1), if_neg (fun h => hy h.1)]
noncomputable def visW (s : List (List Int)) (t u : List Int) (O : List (List Int)) : List (List Int) := if bd (LagP s t u) = true then O ++ [u] else O
theorem cb_le {t : List Int} : ∀ n, cb t n ≤ n
  | 0 => Nat.le_refl _
  | n + 1 => by
    rw [cb_succ]
    have := cb_le (t := t) n
    split <;> omega
set_option maxHeartbeats 8000000 in
theorem visitor_ok (s : List (List Int)) (t : List Int) (hs : Shape s t) (B c : Nat) (O : List (List Int)) (hO : O.length ≤ 50000) :
    OwnCall Tryz.prog 36 [.ref 7 [], .bptr 0 0, .bptr 3 0, .bptr 4 0] (TW s t (plc t t.length) O ++ [(7, .t1 (rowF (cb t t.length) (dgF B (cb t t.length) (cb t t.length) c)))]) (TW s t (plc t t.length) (visW s t (vOf t B c) O) ++ [(7, .t1 (rowF (cb t t.length) (dgF B (cb t t.length) (cb t t.length) c)))]) (.tup []) [0, 3, 4, 7] := by
  have h16 := hs.2.1
  have h1 := hs.1
  have hlag := isLagrangian_ok s t (vOf t B c) hs
  obtain ⟨n, en⟩ : ∃ n, t.length = n := ⟨_, rfl⟩
  have eV : vOf t B c = rowF n (vF t B n c (cb t n)) := by unfold vOf; rw [en]
  obtain ⟨k, ek⟩ : ∃ k, cb t n = k := ⟨_, rfl⟩
  have lp := plc_length (t := t) n
  have kn := cb_le (t := t) n
  have hpl := plc_get (t := t) n
  have hst := fun j x => vF_step (t := t) (B := B) (n := n) (c := c) (j := j) (x := x)
  simp only [en, ek] at lp eV kn hst hpl h16 h1 hlag ⊢
  obtain ⟨C, eC⟩ : ∃ C, rowF k (dgF B k k c) = C := ⟨_, rfl⟩
  have lc : C.length = k := by rw [← eC]; exact rowF_length ..
  obtain ⟨pl, ep⟩ : ∃ pl, plc t n = pl := ⟨_, rfl⟩
  simp only [eC, ep] at lp hpl hst ⊢
  rcases hbd : bd (LagP s t (vOf t B c)) with _ | _
  · have eW : visW s t (vOf t B c) O = O := by unfold visW; rw [if_neg (by rw [hbd]; decide)]
    rw [eW]
    rw [hbd, eV] at hlag
    try rw [eV]
    simp only [TW, List.cons_append, List.nil_append]
    refine OwnCall.intro (n := 36) (rs := []) 4 [0, 1, 2, 3] (X := [0, 3, 4, 7]) Tryz.call36 Tryz.func36 rfl rfl rfl (by simp only [List.length_cons, List.length_nil]; omega) (by simp [Aw.ids, rootsA, rootsAs, argSlots, slotGet]) (fun cx hcx => AT.weakG (ats_of ?_)); simp only [argSlots, Nat.zero_add, Nat.reduceAdd]
    (repeat refine ats_seq ?_); refine ats_go (by first | exact fix0 hcx | exact fix1 hcx rfl | exact fixN hcx rfl) fun K hK => ?_; simp only [go_sem, seval]; (repeat refine And.intro (by first | omega | (intro hq; first | omega | (simp at hq <;> omega) | (simp_all <;> omega))) ?_); refine hK _ ?_; clear hK K
    (repeat refine ats_seq ?_); refine ats_go (by first | exact fix0 hcx | exact fix1 hcx rfl | exact fixN hcx rfl) fun K hK => ?_; simp only [go_sem, seval]
    simp only [en, List.length_replicate]
    (repeat refine And.intro (by first | omega | (intro hq; first | omega | (simp at hq <;> omega) | (simp_all <;> omega))) ?_)
    refine hK _ ?_; clear hK K
    rw [vF_zero (t := t) (B := B) (c := c)]
    (repeat refine ats_seq ?_); refine ats_go (by first | exact fix0 hcx | exact fix1 hcx rfl | exact fixN hcx rfl) fun K hK => ?_; simp only [go_sem, seval]; (repeat refine And.intro (by first | omega | (intro hq; first | omega | (simp at hq <;> omega) | (simp_all <;> omega))) ?_); refine hK _ ?_; clear hK K
    (repeat refine ats_seq ?_); refine ats_loop (fun j : Nat => ⟨[(0, .ref 7 []), (1, .bptr 0 0), (2, .bptr 3 0), (3, .bptr 4 0), (5, .ref 8 []), (14, .ref 1 []), (15, .int k), (16, .int j)], [(0, .bx [.l2 s, .l1 t]), (1, .t1 pl), (2, .t2 O), (3, .bx [.ref 1 []]), (4, .bx [.ref 2 []]), (7, .t1 C), (8, .t1 (rowF n (vF t B n c j)))]⟩) (fun j => j ≤ k) (fun j => k - j) 0 (Nat.zero_le _) (by refine And.intro ?_ rfl; simp only [SlotsLe, St.get, slotGet, Nat.reduceEqDiff, ↓reduceIte, true_and, and_true, AV.int.injEq, AV.bool.injEq, AV.l1.injEq, AV.l2.injEq, AV.l3.injEq]; repeat' (first | rfl | omega | refine And.intro ?_ ?_)) (fun j hj => ?_)
    have lv : (rowF n (vF t B n c j)).length = n := rowF_length ..
    (repeat refine ats_seq ?_); refine ats_go (by first | exact fix0 hcx | exact fix1 hcx rfl | exact fixN hcx rfl) fun K hK => ?_; simp only [go_sem, seval]; (repeat refine And.intro (by first | omega | (intro hq; first | omega | (simp at hq <;> omega) | (simp_all <;> omega))) ?_); refine hK _ ?_; clear hK K
    (repeat refine ats_seq ?_); first | refine ats_ifn (p := _) rfl trivial (fun hc2 => ?_) (fun hc2 => ?_) | refine ats_ifp (p := _) rfl trivial (fun hc2 => ?_) (fun hc2 => ?_) | refine ats_cond rfl trivial (fun hc2 => ?_) (fun hc2 => ?_)
    · obtain ⟨x, hx, hfx, hcx2, hpx⟩ := hpl j (by omega)
      have hsx := hst j x (by omega) hfx hcx2
      refine ats_skip ?_
      (repeat refine ats_seq ?_); refine ats_block ?_
      (repeat refine ats_seq ?_); refine ats_go (by first | exact fix0 hcx | exact fix1 hcx rfl | exact fixN hcx rfl) fun K hK => ?_; simp only [go_sem, seval]; (repeat refine And.intro (by first | omega | (intro hq; first | omega | (simp at hq <;> omega) | (simp_all <;> omega))) ?_); refine hK _ ?_; clear hK K
      (repeat refine ats_seq ?_); refine ats_go (by first | exact fix0 hcx | exact fix1 hcx rfl | exact fixN hcx rfl) fun K hK => ?_; simp only [go_sem, seval]
      simp only [hpx, Int.toNat_natCast]
      (repeat refine And.intro (by first | omega | (intro hq; first | omega | (simp at hq <;> omega) | (simp_all <;> omega))) ?_)
      refine hK _ ?_; clear hK K
      rw [hsx]
      (repeat refine ats_seq ?_); refine ats_go (by first | exact fix0 hcx | exact fix1 hcx rfl | exact fixN hcx rfl) fun K hK => ?_; simp only [go_sem, seval]; (repeat refine And.intro (by first | omega | (intro hq; first | omega | (simp at hq <;> omega) | (simp_all <;> omega))) ?_); refine hK _ ?_; clear hK K
      refine ⟨j + 1,  by omega, by omega, .inl ⟨by simp only [SlotsLe, St.get, slotGet, Nat.reduceEqDiff, ↓reduceIte, AV.int.injEq, AV.bool.injEq, AV.l1.injEq, AV.l2.injEq, AV.l3.injEq, true_and, and_true]; omega,  rfl⟩⟩
    · obtain rfl : j = k := by omega
      refine ats_exit (lq_x ?_)
      (repeat refine ats_seq ?_); refine ats_go (by first | exact fix0 hcx | exact fix1 hcx rfl | exact fixN hcx rfl) fun K hK => ?_; simp only [go_sem, seval]
      (repeat refine And.intro (by first | omega | (intro hq; first | omega | (simp at hq <;> omega) | (simp_all <;> omega))) ?_)
      first | refine fcall_free rfl rfl (hlag) ?_ | refine YR_intro (acall_free rfl rfl (hlag)) ?_
      simp only [go_sem, seval]
      (repeat refine And.intro (by first | omega | (intro hq; first | omega | (simp at hq <;> omega) | (simp_all <;> omega))) ?_)
      refine hK _ ?_; clear hK K
      (repeat refine ats_seq ?_); first | refine ats_ifn (p := _) rfl trivial (fun hc3 => ?_) (fun hc3 => ?_) | refine ats_ifp (p := _) rfl trivial (fun hc3 => ?_) (fun hc3 => ?_) | refine ats_cond rfl trivial (fun hc3 => ?_) (fun hc3 => ?_)
      · exact absurd hc3 (by decide)
      · refine ats_skip ?_
        refine id ⟨⟨[(0, .ref 7 []), (1, .bptr 0 0), (2, .bptr 3 0), (3, .bptr 4 0)], [(0, .bx [.l2 s, .l1 t]), (1, .t1 pl), (2, .t2 O), (3, .bx [.ref 1 []]), (4, .bx [.ref 2 []]), (7, .t1 C)]⟩, ghost_trans (ghost_drop [8]) (ghost_can [] (by simp only [killL, killA, killAs, qOf, rmT, killH, killT, List.filter_cons, List.filter_nil, List.contains_cons, List.contains_nil, Bool.or_false, Bool.or_true, Bool.false_and, Bool.not_true, Bool.not_false, Bool.false_eq_true, if_true, if_false, rnLs, rnL, rn, rns, sw, SlotsLe, St.get, slotGet, List.map_cons, List.map_nil, seval, AV.int.injEq, AV.bool.injEq, AV.l1.injEq, AV.l2.injEq, AV.l3.injEq, true_and, and_true]) (by simp only [killL, killA, killAs, qOf, rmT, killH, killT, List.filter_cons, List.filter_nil, List.contains_cons, List.contains_nil, Bool.or_false, Bool.or_true, Bool.false_and, Bool.not_true, Bool.not_false, Bool.false_eq_true, if_true, if_false, sortH, insH, rnHs, rnH, rnT, rn, rns, sw, List.map_cons, List.map_nil, seval])), .inl rfl, (by first | rfl | exact ⟨trivial, rfl⟩), (by simp [St.get, slotGet, argSlots]), rfl⟩
  · have eW : visW s t (vOf t B c) O = O ++ [vOf t B c] := by unfold visW; rw [if_pos hbd]
    rw [eW]
    rw [hbd, eV] at hlag
    try rw [eV]
    simp only [TW, List.cons_append, List.nil_append]
    refine OwnCall.intro (n := 36) (rs := []) 4 [0, 1, 2, 3] (X := [0, 3, 4, 7]) Tryz.call36 Tryz.func36 rfl rfl rfl (by simp only [List.length_cons, List.length_nil]; omega) (by simp [Aw.ids, rootsA, rootsAs, argSlots, slotGet]) (fun cx hcx => AT.weakG (ats_of ?_)); simp only [argSlots, Nat.zero_add, Nat.reduceAdd]
    (repeat refine ats_seq ?_); refine ats_go (by first | exact fix0 hcx | exact fix1 hcx rfl | exact fixN hcx rfl) fun K hK => ?_; simp only [go_sem, seval]; (repeat refine And.intro (by first | omega | (intro hq; first | omega | (simp at hq <;> omega) | (simp_all <;> omega))) ?_); refine hK _ ?_; clear hK K
    (repeat refine ats_seq ?_); refine ats_go (by first | exact fix0 hcx | exact fix1 hcx rfl | exact fixN hcx rfl) fun K hK => ?_; simp only [go_sem, seval]
    simp only [en, List.length_replicate]
    (repeat refine And.intro (by first | omega | (intro hq; first | omega | (simp at hq <;> omega) | (simp_all <;> omega))) ?_)
    refine hK _ ?_; clear hK K
    rw [vF_zero (t := t) (B := B) (c := c)]
    (repeat refine ats_seq ?_); refine ats_go (by first | exact fix0 hcx | exact fix1 hcx rfl | exact fixN hcx rfl) fun K hK => ?_; simp only [go_sem, seval]; (repeat refine And.intro (by first | omega | (intro hq; first | omega | (simp at hq <;> omega) | (simp_all <;> omega))) ?_); refine hK _ ?_; clear hK K
    (repeat refine ats_seq ?_); refine ats_loop (fun j : Nat => ⟨[(0, .ref 7 []), (1, .bptr 0 0), (2, .bptr 3 0), (3, .bptr 4 0), (5, .ref 8 []), (14, .ref 1 []), (15, .int k), (16, .int j)], [(0, .bx [.l2 s, .l1 t]), (1, .t1 pl), (2, .t2 O), (3, .bx [.ref 1 []]), (4, .bx [.ref 2 []]), (7, .t1 C), (8, .t1 (rowF n (vF t B n c j)))]⟩) (fun j => j ≤ k) (fun j => k - j) 0 (Nat.zero_le _) (by refine And.intro ?_ rfl; simp only [SlotsLe, St.get, slotGet, Nat.reduceEqDiff, ↓reduceIte, true_and, and_true, AV.int.injEq, AV.bool.injEq, AV.l1.injEq, AV.l2.injEq, AV.l3.injEq]; repeat' (first | rfl | omega | refine And.intro ?_ ?_)) (fun j hj => ?_)
    have lv : (rowF n (vF t B n c j)).length = n := rowF_length ..
    (repeat refine ats_seq ?_); refine ats_go (by first | exact fix0 hcx | exact fix1 hcx rfl | exact fixN hcx rfl) fun K hK => ?_; simp only [go_sem, seval]; (repeat refine And.intro (by first | omega | (intro hq; first | omega | (simp at hq <;> omega) | (simp_all <;> omega))) ?_); refine hK _ ?_; clear hK K
    (repeat refine ats_seq ?_); first | refine ats_ifn (p := _) rfl trivial (fun hc2 => ?_) (fun hc2 => ?_) | refine ats_ifp (p := _) rfl trivial (fun hc2 => ?_) (fun hc2 => ?_) | refine ats_cond rfl trivial (fun hc2 => ?_) (fun hc2 => ?_)
    · obtain ⟨x, hx, hfx, hcx2, hpx⟩ := hpl j (by omega)
      have hsx := hst j x (by omega) hfx hcx2
      refine ats_skip ?_
      (repeat refine ats_seq ?_); refine ats_block ?_
      (repeat refine ats_seq ?_); refine ats_go (by first | exact fix0 hcx | exact fix1 hcx rfl | exact fixN hcx rfl) fun K hK => ?_; simp only [go_sem, seval]; (repeat refine And.intro (by first | omega | (intro hq; first | omega | (simp at hq <;> omega) | (simp_all <;> omega))) ?_); refine hK _ ?_; clear hK K
      (repeat refine ats_seq ?_); refine ats_go (by first | exact fix0 hcx | exact fix1 hcx rfl | exact fixN hcx rfl) fun K hK => ?_; simp only [go_sem, seval]
      simp only [hpx, Int.toNat_natCast]
      (repeat refine And.intro (by first | omega | (intro hq; first | omega | (simp at hq <;> omega) | (simp_all <;> omega))) ?_)
      refine hK _ ?_; clear hK K
      rw [hsx]
      (repeat refine ats_seq ?_); refine ats_go (by first | exact fix0 hcx | exact fix1 hcx rfl | exact fixN hcx rfl) fun K hK => ?_; simp only [go_sem, seval]; (repeat refine And.intro (by first | omega | (intro hq; first | omega | (simp at hq <;> omega) | (simp_all <;> omega))) ?_); refine hK _ ?_; clear hK K
      refine ⟨j + 1,  by omega, by omega, .inl ⟨by simp only [SlotsLe, St.get, slotGet, Nat.reduceEqDiff, ↓reduceIte, AV.int.injEq, AV.bool.injEq, AV.l1.injEq, AV.l2.injEq, AV.l3.injEq, true_and, and_true]; omega,  rfl⟩⟩
    · obtain rfl : j = k := by omega
      refine ats_exit (lq_x ?_)
      (repeat refine ats_seq ?_); refine ats_go (by first | exact fix0 hcx | exact fix1 hcx rfl | exact fixN hcx rfl) fun K hK => ?_; simp only [go_sem, seval]
      (repeat refine And.intro (by first | omega | (intro hq; first | omega | (simp at hq <;> omega) | (simp_all <;> omega))) ?_)
      first | refine fcall_free rfl rfl (hlag) ?_ | refine YR_intro (acall_free rfl rfl (hlag)) ?_
      simp only [go_sem, seval]
      (repeat refine And.intro (by first | omega | (intro hq; first | omega | (simp at hq <;> omega) | (simp_all <;> omega))) ?_)
      refine hK _ ?_; clear hK K
      (repeat refine ats_seq ?_); first | refine ats_ifn (p := _) rfl trivial (fun hc3 => ?_) (fun hc3 => ?_) | refine ats_ifp (p := _) rfl trivial (fun hc3 => ?_) (fun hc3 => ?_) | refine ats_cond rfl trivial (fun hc3 => ?_) (fun hc3 => ?_)
      · (repeat refine ats_seq ?_); refine ats_go (by first | exact fix0 hcx | exact fix1 hcx rfl | exact fixN hcx rfl) fun K hK => ?_; simp only [go_sem, seval]; (repeat refine And.intro (by first | omega | (intro hq; first | omega | (simp at hq <;> omega) | (simp_all <;> omega))) ?_); refine hK _ ?_; clear hK K
        refine id ⟨⟨[(0, .ref 7 []), (1, .bptr 0 0), (2, .bptr 3 0), (3, .bptr 4 0)], [(0, .bx [.l2 s, .l1 t]), (1, .t1 pl), (2, .t2 (O ++ [rowF n (vF t B n c j)])), (3, .bx [.ref 1 []]), (4, .bx [.ref 2 []]), (7, .t1 C)]⟩, ghost_trans (ghost_drop []) (ghost_can [] (by simp only [killL, killA, killAs, qOf, rmT, killH, killT, List.filter_cons, List.filter_nil, List.contains_cons, List.contains_nil, Bool.or_false, Bool.or_true, Bool.false_and, Bool.not_true, Bool.not_false, Bool.false_eq_true, if_true, if_false, rnLs, rnL, rn, rns, sw, SlotsLe, St.get, slotGet, List.map_cons, List.map_nil, seval, AV.int.injEq, AV.bool.injEq, AV.l1.injEq, AV.l2.injEq, AV.l3.injEq, true_and, and_true]) (by simp only [killL, killA, killAs, qOf, rmT, killH, killT, List.filter_cons, List.filter_nil, List.contains_cons, List.contains_nil, Bool.or_false, Bool.or_true, Bool.false_and, Bool.not_true, Bool.not_false, Bool.false_eq_true, if_true, if_false, sortH, insH, rnHs, rnH, rnT, rn, rns, sw, List.map_cons, List.map_nil, seval])), .inl rfl, (by first | rfl | exact ⟨trivial, rfl⟩), (by simp [St.get, slotGet, argSlots]), rfl⟩
      · exact absurd hc3 (by decide)
end Go.Proofs.YtikbecmheibggaaGreat
