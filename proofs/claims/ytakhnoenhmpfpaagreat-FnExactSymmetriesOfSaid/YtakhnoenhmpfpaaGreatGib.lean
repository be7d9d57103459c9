import Derived.Test.YtakhnoenhmpfpaaGreatGi
set_option linter.unusedSimpArgs false
set_option linter.unusedVariables false
namespace Go.Proofs.YtakhnoenhmpfpaaGreat
open Go Go.Aw Go.Pl
attribute [local go_sem] mv_nil mv_cons MVK_ap pl_fin pl_stop pl_one pl_alt PK_ap pickO List.getElem?_toArray List.getElem?_cons_zero List.getElem?_cons_succ
set_option maxRecDepth 20000 in
set_option maxHeartbeats 16000000 in
theorem seek_some (n : Nat) (s : List (List Int)) (t : List Int) (s' : List (List Int)) (t' : List Int) (hs : Shape s t) (hs' : Shape s' t') (hn : t.length = n) (hn' : t'.length = n) (most : Nat) (hmo : most ≤ 5000) (d : Nat) (ihd : SeekOk n s t s' t' most d) : ∀ p c m st, st ≠ none → p.length + (d + 1) = n → QOk n p → ColOk n c → ColOk n m → (st.getD []).length ≤ most → (d + 1 = 0 → (st.getD []).length < most) →
    OwnCall Tryz.prog 27 [.agg [.l2 s, .l1 t], .agg [.l2 s', .l1 t'], .l1 p, .l1 c, .l1 m, .int most, argS st] (TS st) (TS (seekO n s t s' t' most (d + 1) p c m st)) (argS (seekO n s t s' t' most (d + 1) p c m st)) [] := by
    intro p c m st hst hd hq hc hm hl hl0
    have h16 : n ≤ 16 := by rw [← hn]; exact hs.2.1
    obtain ⟨S, hS⟩ : ∃ S : Nat → Option (List (List Int)), S = fun x => (List.range x).foldl (fun st (y : Nat) => if (st.getD []).length < most ∧ bd (OkX s t s' t' p y) = true ∧ c.getD p.length 0 = m.getD y 0 then (match refF n s t s' t' (2 * n + 2) 0 (c.set p.length 60) (m.set y 60) with
      | none => st
      | some (l, r) => seekO n s t s' t' most d (p ++ [(y : Int)]) l r st) else st) st := ⟨_, rfl⟩
    have hS0 : S 0 = st := by rw [hS]; rfl
    have hSs : ∀ y, S (y + 1) = if ((S y).getD []).length < most ∧ bd (OkX s t s' t' p y) = true ∧ c.getD p.length 0 = m.getD y 0 then (match refF n s t s' t' (2 * n + 2) 0 (c.set p.length 60) (m.set y 60) with
      | none => S y
      | some (l, r) => seekO n s t s' t' most d (p ++ [(y : Int)]) l r (S y)) else S y := fun y => by
      rw [hS]
      simp only [List.range_succ, List.foldl_append, List.foldl_cons, List.foldl_nil]
    have hSe : seekO n s t s' t' most (d + 1) p c m st = S n := by rw [seekO, hS] <;> rfl
    have hlen : ∀ y, ((S y).getD []).length ≤ most := fun y => by
      induction y with
      | zero => rw [hS0]; exact hl
      | succ y ih =>
        rw [hSs]
        split
        · rename_i hcc
          split
          · exact ih
          · rw [seekO_eq]; exact seekO_len _ _ _ _ _ ih (fun _ => hcc.1)
        · exact ih
    have hstop : ∀ y, ¬ ((S y).getD []).length < most → ∀ x, S (y + x) = S y := fun y hy x => by
      induction x with
      | zero => rfl
      | succ x ih => rw [← Nat.add_assoc, hSs, ih, if_neg (fun h => hy h.1)]
    have hSmo : ∀ y L, S y = some L → ∃ L', S (y + 1) = some L' := fun y L h => by
      rw [hSs, h]
      split
      · split
        · exact ⟨L, rfl⟩
        · rename_i l r _
          exact seekO_some d _ _ _ _
      · exact ⟨L, rfl⟩
    have hSo : ∀ L0, S 0 = some L0 → ∀ x, ∃ L, S x = some L := fun L0 h x => by
      induction x with
      | zero => exact ⟨L0, h⟩
      | succ x ih => obtain ⟨L, hL⟩ := ih; exact hSmo x L hL
    have hih : ∀ y l r, y < n → ColOk n l → ColOk n r → ((S y).getD []).length < most → OwnCall Tryz.prog 27 [.agg [.l2 s, .l1 t], .agg [.l2 s', .l1 t'], .l1 (p ++ [(y : Int)]), .l1 l, .l1 r, .int most, argS (S y)] (TS (S y)) (TS (seekO n s t s' t' most d (p ++ [(y : Int)]) l r (S y))) (argS (seekO n s t s' t' most d (p ++ [(y : Int)]) l r (S y))) [] := fun y l r hy hcl hcr hlt =>
      ihd (p ++ [(y : Int)]) l r (S y) (by simp; omega) (hq.app (QOk.one hy)) hcl hcr (Nat.le_of_lt hlt) (fun _ => hlt)
    have hMs := hs.2.2.1
    have hMs' := hs'.2.2.1
    rw [hn] at hMs
    rw [hn'] at hMs'
    have lc := hc.1
    have lm := hm.1
    rw [hSe, ← hS0]
    obtain ⟨s0, es0⟩ : ∃ s0, S 0 = s0 := ⟨_, rfl⟩
    rw [es0]
    obtain ⟨L0, rfl⟩ : ∃ L0, s0 = some L0 := by
      cases s0 with
      | none => exact absurd (by rw [← hS0]; exact es0) hst
      | some L0 => exact ⟨L0, rfl⟩
    simp only [TS, argS]
    refine OwnCall.introR (n := 159) (rs := [.tmp 14]) 6 [2, 3, 4, 5] (X := []) Tryz.call27 Tryz.func27 rfl rfl rfl (by simp only [List.length_cons, List.length_nil]; omega) (by simp [Aw.ids, rootsA, rootsAs, argSlots, slotGet]) (fun cx hcx hrd => AT.weakG (ats_of ?_)); simp only [argSlots, Nat.zero_add, Nat.reduceAdd]
    (repeat refine ats_seq ?_); refine ats_go (by first | exact fix0 hcx | exact fix1 hcx rfl | exact fixN hcx rfl) fun K hK => ?_; simp only [go_sem, seval]; (repeat refine And.intro (by first | omega | (intro hq; first | omega | (simp at hq <;> omega) | (simp_all <;> omega))) ?_); refine hK _ ?_; clear hK K
    (repeat refine ats_seq ?_); refine ats_go (by first | exact fix0 hcx | exact fix1 hcx rfl | exact fixN hcx rfl) fun K hK => ?_; simp only [go_sem, seval]; (repeat refine And.intro (by first | omega | (intro hq; first | omega | (simp at hq <;> omega) | (simp_all <;> omega))) ?_); refine hK _ ?_; clear hK K
    (repeat refine ats_seq ?_); refine ats_go (by first | exact fix0 hcx | exact fix1 hcx rfl | exact fixN hcx rfl) fun K hK => ?_; simp only [go_sem, seval]
    simp only [hn]
    (repeat refine And.intro (by first | omega | (intro hq; first | omega | (simp at hq <;> omega) | (simp_all <;> omega))) ?_)
    refine hK _ ?_; clear hK K
    (repeat refine ats_seq ?_); first | refine ats_ifn (p := _) rfl trivial (fun h0 => ?_) (fun h0 => ?_) | refine ats_ifp (p := _) rfl trivial (fun h0 => ?_) (fun h0 => ?_) | refine ats_cond rfl trivial (fun h0 => ?_) (fun h0 => ?_)
    · omega
    · refine ats_skip ?_
      (repeat refine ats_seq ?_); refine ats_go (by first | exact fix0 hcx | exact fix1 hcx rfl | exact fixN hcx rfl) fun K hK => ?_; simp only [go_sem, seval]; (repeat refine And.intro (by first | omega | (intro hq; first | omega | (simp at hq <;> omega) | (simp_all <;> omega))) ?_); refine hK _ ?_; clear hK K
      (repeat refine ats_seq ?_); refine ats_loop (fun y : Nat => ⟨[(2, .l1 p), (3, .l1 c), (4, .l1 m), (5, .int most), (6, argS (S y)), (7, .bptr 10 0), (8, .bptr 11 0), (15, .int p.length), (16, .int y)], TS (S y) ++ [(10, .bx [.l2 s, .l1 t]), (11, .bx [.l2 s', .l1 t'])]⟩) (fun y => y ≤ n) (fun y => n - y) 0 (Nat.zero_le _) (by
        rw [es0]
        refine And.intro ?_ rfl; simp only [SlotsLe, St.get, slotGet, Nat.reduceEqDiff, ↓reduceIte, AV.int.injEq, AV.bool.injEq, AV.l1.injEq, AV.l2.injEq, AV.l3.injEq, true_and, and_true]
        first | exact ⟨rfl, rfl⟩ | rfl) (fun y hy => ?_)
      obtain ⟨sy, es⟩ : ∃ sy, S y = sy := ⟨_, rfl⟩
      have hly := hlen y
      rw [es] at hly ⊢
      obtain ⟨L, rfl⟩ : ∃ L, sy = some L := by
        obtain ⟨L, hL⟩ := hSo L0 es0 y
        exact ⟨L, by rw [← es, hL]⟩
      simp only [TS, argS, List.cons_append, List.nil_append, List.append_nil, Option.getD_some] at hly ⊢
      (repeat refine ats_seq ?_); refine ats_go (by first | exact fix0 hcx | exact fix1 hcx rfl | exact fixN hcx rfl) fun K hK => ?_; simp only [go_sem, seval]
      simp only [hn']
      (repeat refine And.intro (by first | omega | (intro hq; first | omega | (simp at hq <;> omega) | (simp_all <;> omega))) ?_)
      refine hK _ ?_; clear hK K
      (repeat refine ats_seq ?_); first | refine ats_ifn (p := _) rfl trivial (fun h1 => ?_) (fun h1 => ?_) | refine ats_ifp (p := _) rfl trivial (fun h1 => ?_) (fun h1 => ?_) | refine ats_cond rfl trivial (fun h1 => ?_) (fun h1 => ?_)
      · simp only [Bool.or_eq_true, Bool.or_eq_false_iff, Bool.and_eq_true, Bool.and_eq_false_iff, decide_eq_true_eq, decide_eq_false_iff_not, Bool.not_eq_true', Bool.not_eq_false'] at h1
        obtain ⟨hyn, hlt⟩ := h1
        have hltS : ((S y).getD []).length < most := by rw [es]; simp only [Option.getD_none, Option.getD_some, List.length_nil]; omega
        have hh := l01Has_ok p y
        have lrs := hMs.row (show p.length < n by omega)
        have lrs' := hMs'.row (show y < n by omega)
        have l1s := hMs.1
        have l1s' := hMs'.1
        refine ats_skip ?_
        (repeat refine ats_seq ?_); refine ats_block ?_
        (repeat refine ats_seq ?_); refine AT.ghost (st' := ⟨[(2, .l1 p), (3, .l1 c), (4, .l1 m), (5, .int most), (6, .ref 9 []), (7, .bptr 10 0), (8, .bptr 11 0), (15, .int p.length), (16, .int y)], [(9, .t2 L), (10, .bx [.l2 s, .l1 t]), (11, .bx [.l2 s', .l1 t'])]⟩) (ghost_can [] (by simp only [rnLs, rnL, rn, rns, sw, SlotsLe, St.get, slotGet, List.map_cons, List.map_nil, seval, AV.int.injEq, AV.bool.injEq, AV.l1.injEq, AV.l2.injEq, AV.l3.injEq, true_and, and_true]) (by simp only [sortH, insH, rnHs, rnH, rnT, rn, rns, sw, List.map_cons, List.map_nil, seval])) ?_
        (repeat refine ats_seq ?_); refine ats_pick (by first | exact fix0 hcx | exact fixN hcx rfl) mixed (by kernel_rfl) fun K hK => ?_; simp only [go_sem, seval]
        try simp only [hn, hn']
        (repeat refine And.intro (by first | omega | (intro hq; first | omega | (simp at hq <;> omega) | (simp_all <;> omega))) ?_)
        first | refine fcall_data (hh) rfl ?_ | refine YR_intro (acall_data (hh) rfl) ?_
        simp only [go_sem, seval]
        try simp only [hn, hn']
        (repeat refine And.intro (by first | omega | (intro hq; first | omega | (simp at hq <;> omega) | (simp_all <;> omega))) ?_)
        refine hK _ ?_; clear hK K
        generalize hB : ((!p.any fun z => decide (z = (y : Int))) && decide (c.getD p.length 0 = m.getD y 0) && decide (t.getD p.length 0 = t'.getD y 0) && decide ((s.getD p.length []).getD p.length 0 = (s'.getD y []).getD y 0)) = B1
        have hB1 : B1 = true ↔ hasI p y = false ∧ c.getD p.length 0 = m.getD y 0 ∧ t.getD p.length 0 = t'.getD y 0 ∧ e2 s p.length p.length = e2 s' y y := by
          rw [← hB]
          unfold hasI e2
          simp only [Bool.and_eq_true, decide_eq_true_eq, Bool.not_eq_true']
          exact ⟨fun h => ⟨h.1.1.1, h.1.1.2, h.1.2, h.2⟩, fun h => ⟨⟨⟨h.1, h.2.1⟩, h.2.2.1⟩, h.2.2.2⟩⟩
        (repeat refine ats_seq ?_); refine AT.ghost (st' := ⟨[(2, .l1 p), (3, .l1 c), (4, .l1 m), (5, .int most), (6, .ref 9 []), (7, .bptr 10 0), (8, .bptr 11 0), (15, .int p.length), (16, .int y), (17, .bool B1)], [(9, .t2 L), (10, .bx [.l2 s, .l1 t]), (11, .bx [.l2 s', .l1 t'])]⟩) (ghost_can [] (by simp only [rnLs, rnL, rn, rns, sw, SlotsLe, St.get, slotGet, List.map_cons, List.map_nil, seval, AV.int.injEq, AV.bool.injEq, AV.l1.injEq, AV.l2.injEq, AV.l3.injEq, true_and, and_true]) (by simp only [sortH, insH, rnHs, rnH, rnT, rn, rns, sw, List.map_cons, List.map_nil, seval])) ?_
        (repeat refine ats_seq ?_); refine ats_go (by first | exact fix0 hcx | exact fix1 hcx rfl | exact fixN hcx rfl) fun K hK => ?_; simp only [go_sem, seval]; (repeat refine And.intro (by first | omega | (intro hq; first | omega | (simp at hq <;> omega) | (simp_all <;> omega))) ?_); refine hK _ ?_; clear hK K
        (repeat refine ats_seq ?_); refine ats_loop (fun i : Nat => ⟨[(2, .l1 p), (3, .l1 c), (4, .l1 m), (5, .int most), (6, .ref 9 []), (7, .bptr 10 0), (8, .bptr 11 0), (15, .int p.length), (16, .int y), (17, .bool (B1 && fitB s s' p y i)), (18, .int i)], [(9, .t2 L), (10, .bx [.l2 s, .l1 t]), (11, .bx [.l2 s', .l1 t'])]⟩) (fun i => i ≤ p.length) (fun i => p.length - i) 0 (Nat.zero_le _) (by
          refine And.intro ?_ rfl; simp only [SlotsLe, St.get, slotGet, Nat.reduceEqDiff, ↓reduceIte, AV.int.injEq, AV.bool.injEq, AV.l1.injEq, AV.l2.injEq, AV.l3.injEq, true_and, and_true]
          first | exact ⟨(Bool.and_true B1).symm, rfl⟩ | exact (Bool.and_true B1).symm) (fun i hi => ?_)
        (repeat refine ats_seq ?_); refine ats_go (by first | exact fix0 hcx | exact fix1 hcx rfl | exact fixN hcx rfl) fun K hK => ?_; simp only [go_sem, seval]; (repeat refine And.intro (by first | omega | (intro hq; first | omega | (simp at hq <;> omega) | (simp_all <;> omega))) ?_); refine hK _ ?_; clear hK K
        (repeat refine ats_seq ?_); first | refine ats_ifn (p := _) rfl trivial (fun h2 => ?_) (fun h2 => ?_) | refine ats_ifp (p := _) rfl trivial (fun h2 => ?_) (fun h2 => ?_) | refine ats_cond rfl trivial (fun h2 => ?_) (fun h2 => ?_)
        · simp only [Bool.or_eq_true, Bool.or_eq_false_iff, Bool.and_eq_true, Bool.and_eq_false_iff, decide_eq_true_eq, decide_eq_false_iff_not, Bool.not_eq_true', Bool.not_eq_false'] at h2
          obtain ⟨h2i, h2B, h2f⟩ := h2
          have hpi := hq i (by omega)
          have lri := hMs.row (show i < n by omega)
          have lri' := hMs'.row (show (p.getD i 0).toNat < n by omega)
          have hfs := fitB_succ (s := s) (s' := s') (p := p) (y := y) (i := i)
          rw [h2f, Bool.true_and] at hfs
          refine ats_skip ?_
          (repeat refine ats_seq ?_); refine ats_block ?_
          (repeat refine ats_seq ?_); refine ats_pick (by first | exact fix0 hcx | exact fixN hcx rfl) mixed (by kernel_rfl) fun K hK => ?_; simp only [go_sem, seval]
          try simp only [hn, hn']
          (repeat refine And.intro (by first | omega | (intro hq; first | omega | (simp at hq <;> omega) | (simp_all <;> omega))) ?_)
          refine hK _ ?_; clear hK K
          (repeat refine ats_seq ?_); refine ats_go (by first | exact fix0 hcx | exact fix1 hcx rfl | exact fixN hcx rfl) fun K hK => ?_; simp only [go_sem, seval]; (repeat refine And.intro (by first | omega | (intro hq; first | omega | (simp at hq <;> omega) | (simp_all <;> omega))) ?_); refine hK _ ?_; clear hK K
          refine ⟨i + 1,  by omega, by omega, .inl ⟨by simp only [SlotsLe, St.get, slotGet, Nat.reduceEqDiff, ↓reduceIte, AV.int.injEq, AV.bool.injEq, AV.l1.injEq, AV.l2.injEq, AV.l3.injEq, true_and, and_true]; exact ⟨by rw [hfs, h2B, Bool.true_and], by omega⟩,  rfl⟩⟩
        · have hX : (B1 && fitB s s' p y i) = true ↔ OkX s t s' t' p y ∧ c.getD p.length 0 = m.getD y 0 := by
            constructor
            · intro h
              rw [Bool.and_eq_true] at h
              have e : i = p.length := by
                by_cases e : i = p.length
                · exact e
                · exfalso
                  rw [h.1, h.2] at h2
                  simp at h2
                  omega
              subst e
              obtain ⟨a1, a2, a3, a4⟩ := hB1.1 h.1
              exact ⟨⟨a1, a3, a4, fun k hk => fitB_iff.1 h.2 k hk⟩, a2⟩
            · rintro ⟨h, a2⟩
              rw [Bool.and_eq_true]
              exact ⟨hB1.2 ⟨h.no, a2, h.t, h.d⟩, fitB_iff.2 fun k hk => h.s k (by omega)⟩
          refine ats_exit (lq_x ?_)
          (repeat refine ats_seq ?_); refine AT.ghost (st' := ⟨[(2, .l1 p), (3, .l1 c), (4, .l1 m), (5, .int most), (6, .ref 9 []), (7, .bptr 10 0), (8, .bptr 11 0), (15, .int p.length), (16, .int y), (17, .bool (B1 && fitB s s' p y i))], [(9, .t2 L), (10, .bx [.l2 s, .l1 t]), (11, .bx [.l2 s', .l1 t'])]⟩) (ghost_can [] (by simp only [rnLs, rnL, rn, rns, sw, SlotsLe, St.get, slotGet, List.map_cons, List.map_nil, seval, AV.int.injEq, AV.bool.injEq, AV.l1.injEq, AV.l2.injEq, AV.l3.injEq, true_and, and_true]) (by simp only [sortH, insH, rnHs, rnH, rnT, rn, rns, sw, List.map_cons, List.map_nil, seval])) ?_
          (repeat refine ats_seq ?_); refine ats_go (by first | exact fix0 hcx | exact fix1 hcx rfl | exact fixN hcx rfl) fun K hK => ?_; simp only [go_sem, seval]; (repeat refine And.intro (by first | omega | (intro hq; first | omega | (simp at hq <;> omega) | (simp_all <;> omega))) ?_); refine hK _ ?_; clear hK K
          (repeat refine ats_seq ?_); first | refine ats_ifn (p := _) rfl trivial (fun h3 => ?_) (fun h3 => ?_) | refine ats_ifp (p := _) rfl trivial (fun h3 => ?_) (fun h3 => ?_) | refine ats_cond rfl trivial (fun h3 => ?_) (fun h3 => ?_)
          · have hno : ¬ (((S y).getD []).length < most ∧ bd (OkX s t s' t' p y) = true ∧ c.getD p.length 0 = m.getD y 0) := fun h => by
              have := hX.2 ⟨bd_iff.1 h.2.1, h.2.2⟩
              rw [this] at h3
              simp at h3
            have hSn := hSs y
            rw [if_neg hno, es] at hSn
            refine ats_exit (bq_x ?_)
            (repeat refine ats_seq ?_); refine ats_go (by first | exact fix0 hcx | exact fix1 hcx rfl | exact fixN hcx rfl) fun K hK => ?_; simp only [go_sem, seval]; (repeat refine And.intro (by first | omega | (intro hq; first | omega | (simp at hq <;> omega) | (simp_all <;> omega))) ?_); refine hK _ ?_; clear hK K
            refine ⟨y + 1,  by omega, by omega, .inl ⟨by simp only [SlotsLe, St.get, slotGet, Nat.reduceEqDiff, ↓reduceIte, AV.int.injEq, AV.bool.injEq, AV.l1.injEq, AV.l2.injEq, AV.l3.injEq, true_and, and_true]; exact ⟨by rw [hSn], by omega⟩,  by rw [hSn] <;> rfl⟩⟩
          · have hyes : OkX s t s' t' p y ∧ c.getD p.length 0 = m.getD y 0 := hX.1 (by
              cases hb : (B1 && fitB s s' p y i) with
              | true => rfl
              | false => rw [hb] at h3; simp at h3)
            have hSn := hSs y
            rw [if_pos ⟨hltS, bd_true hyes.1, hyes.2⟩] at hSn
            have hwc := l01Own_ok c (by omega)
            have hwm := l01Own_ok m (by omega)
            have hcs := hc.set (show p.length < n by omega)
            have hms := hm.set (show y < n by omega)
            have hrf := l12Refine_ok n s t s' t' (c.set p.length 60) (m.set y 60) hs hs' hn hn' hcs hms
            refine ats_skip ?_
            (repeat refine ats_seq ?_); refine ats_go (by first | exact fix0 hcx | exact fix1 hcx rfl | exact fixN hcx rfl) fun K hK => ?_; simp only [go_sem, seval]
            refine fcall_own rfl (hwc) rfl ?_; simp only [go_sem, seval]
            (repeat refine And.intro (by first | omega | (intro hq; first | omega | (simp at hq <;> omega) | (simp_all <;> omega))) ?_)
            refine fcall_own rfl (hwm) rfl ?_; simp only [go_sem, seval]
            (repeat refine And.intro (by first | omega | (intro hq; first | omega | (simp at hq <;> omega) | (simp_all <;> omega))) ?_)
            refine hK _ ?_; clear hK K
            (repeat refine ats_seq ?_); refine ats_go (by first | exact fix0 hcx | exact fix1 hcx rfl | exact fixN hcx rfl) fun K hK => ?_; simp only [go_sem, seval]; (repeat refine And.intro (by first | omega | (intro hq; first | omega | (simp at hq <;> omega) | (simp_all <;> omega))) ?_); refine hK _ ?_; clear hK K
            (repeat refine ats_seq ?_); refine ats_go (by first | exact fix0 hcx | exact fix1 hcx rfl | exact fixN hcx rfl) fun K hK => ?_; simp only [go_sem, seval]; (repeat refine And.intro (by first | omega | (intro hq; first | omega | (simp at hq <;> omega) | (simp_all <;> omega))) ?_); refine hK _ ?_; clear hK K
            (repeat refine ats_seq ?_); refine AT.ghost (ghost_frz [12, 13]) ?_; simp only [frzV, find, killA, killAs, qOf, rmT, killH, killT, List.map_cons, List.map_nil, List.filter_cons, List.filter_nil, List.contains_cons, List.contains_nil, Bool.or_false, Bool.or_true, Bool.false_and, Bool.not_true, Bool.not_false, Bool.false_eq_true, if_true, if_false, seval]
            (repeat refine ats_seq ?_); refine AT.ghost (st' := ⟨[(2, .l1 p), (3, .l1 c), (4, .l1 m), (5, .int most), (6, .ref 9 []), (7, .bptr 10 0), (8, .bptr 11 0), (15, .int p.length), (16, .int y), (19, .l1 (c.set p.length 60)), (20, .l1 (m.set y 60))], [(9, .t2 L), (10, .bx [.l2 s, .l1 t]), (11, .bx [.l2 s', .l1 t'])]⟩) (ghost_can [] (by simp only [rnLs, rnL, rn, rns, sw, SlotsLe, St.get, slotGet, List.map_cons, List.map_nil, seval, AV.int.injEq, AV.bool.injEq, AV.l1.injEq, AV.l2.injEq, AV.l3.injEq, true_and, and_true]) (by simp only [sortH, insH, rnHs, rnH, rnT, rn, rns, sw, List.map_cons, List.map_nil, seval])) ?_
            cases hr : refF n s t s' t' (2 * n + 2) 0 (c.set p.length 60) (m.set y 60) with
            | none =>
              rw [hr] at hrf hSn
              simp only [rfA] at hrf hSn
              rw [es] at hSn
              (repeat refine ats_seq ?_); refine ats_go (by first | exact fix0 hcx | exact fix1 hcx rfl | exact fixN hcx rfl) fun K hK => ?_; simp only [go_sem, seval]
              first | refine fcall_data (hrf) rfl ?_ | refine YR_intro (acall_data (hrf) rfl) ?_
              simp only [go_sem, seval]
              (repeat refine And.intro (by first | omega | (intro hq; first | omega | (simp at hq <;> omega) | (simp_all <;> omega))) ?_)
              refine hK _ ?_; clear hK K
              (repeat refine ats_seq ?_); refine ats_go (by first | exact fix0 hcx | exact fix1 hcx rfl | exact fixN hcx rfl) fun K hK => ?_; simp only [go_sem, seval]; (repeat refine And.intro (by first | omega | (intro hq; first | omega | (simp at hq <;> omega) | (simp_all <;> omega))) ?_); refine hK _ ?_; clear hK K
              (repeat refine ats_seq ?_); refine ats_no rfl trivial ?_
              refine ats_skip ?_
              (repeat refine ats_seq ?_); refine ats_go (by first | exact fix0 hcx | exact fix1 hcx rfl | exact fixN hcx rfl) fun K hK => ?_; simp only [go_sem, seval]; (repeat refine And.intro (by first | omega | (intro hq; first | omega | (simp at hq <;> omega) | (simp_all <;> omega))) ?_); refine hK _ ?_; clear hK K
              refine ⟨y + 1,  by omega, by omega, .inl ⟨by simp only [SlotsLe, St.get, slotGet, Nat.reduceEqDiff, ↓reduceIte, AV.int.injEq, AV.bool.injEq, AV.l1.injEq, AV.l2.injEq, AV.l3.injEq, true_and, and_true]; exact ⟨by rw [hSn], by omega⟩,  by rw [hSn] <;> rfl⟩⟩
            | some lr =>
              obtain ⟨l, r⟩ := lr
              obtain ⟨hcl, hcr⟩ := ref_col h16 _ _ _ _ _ _ hcs hms hr
              have ih := hih y l r (by omega) hcl hcr hltS
              rw [hr] at hrf hSn
              simp only [rfA] at hrf hSn
              rw [es] at ih hSn
              obtain ⟨s1, e1⟩ : ∃ s1, seekO n s t s' t' most d (p ++ [(y : Int)]) l r (some L) = s1 := ⟨_, rfl⟩
              rw [e1] at ih hSn
              have hwp := l01Own_ok p (by omega)
              (repeat refine ats_seq ?_); refine ats_go (by first | exact fix0 hcx | exact fix1 hcx rfl | exact fixN hcx rfl) fun K hK => ?_; simp only [go_sem, seval]
              first | refine fcall_data (hrf) rfl ?_ | refine YR_intro (acall_data (hrf) rfl) ?_
              simp only [go_sem, seval]
              (repeat refine And.intro (by first | omega | (intro hq; first | omega | (simp at hq <;> omega) | (simp_all <;> omega))) ?_)
              refine hK _ ?_; clear hK K
              (repeat refine ats_seq ?_); refine ats_go (by first | exact fix0 hcx | exact fix1 hcx rfl | exact fixN hcx rfl) fun K hK => ?_; simp only [go_sem, seval]; (repeat refine And.intro (by first | omega | (intro hq; first | omega | (simp at hq <;> omega) | (simp_all <;> omega))) ?_); refine hK _ ?_; clear hK K
              (repeat refine ats_seq ?_); refine ats_yes rfl trivial ?_
              (repeat refine ats_seq ?_); refine AT.ghost (st' := ⟨[(2, .l1 p), (3, .l1 c), (4, .l1 m), (5, .int most), (6, .ref 9 []), (7, .bptr 10 0), (8, .bptr 11 0), (15, .int p.length), (16, .int y), (21, .l1 l), (22, .l1 r)], [(9, .t2 L), (10, .bx [.l2 s, .l1 t]), (11, .bx [.l2 s', .l1 t'])]⟩) (ghost_can [] (by simp only [rnLs, rnL, rn, rns, sw, SlotsLe, St.get, slotGet, List.map_cons, List.map_nil, seval, AV.int.injEq, AV.bool.injEq, AV.l1.injEq, AV.l2.injEq, AV.l3.injEq, true_and, and_true]) (by simp only [sortH, insH, rnHs, rnH, rnT, rn, rns, sw, List.map_cons, List.map_nil, seval])) ?_
              obtain ⟨L', rfl⟩ : ∃ L', s1 = some L' := by
                obtain ⟨L', h⟩ := seekO_some (n := n) (s := s) (t := t) (s' := s') (t' := t') (most := most) d (p ++ [(y : Int)]) l r L
                exact ⟨L', by rw [← e1, h]⟩
              · simp only [TS, argS] at ih ⊢
                (repeat refine ats_seq ?_)
                refine ats_planM [3, 11] [2, 4, 7, 8, 9, 10] (.alt 0 (.alt 1 (.alt 3 (.alt 5 (.alt 6 (.alt 11 (.one 12 .fin) .stop) .stop) .stop) (.alt 5 (.alt 3 (.alt 6 (.alt 11 (.one 12 .fin) .stop) .stop) .stop) .stop)) (.alt 3 (.alt 1 (.alt 5 (.alt 6 (.alt 11 (.one 12 .fin) .stop) .stop) .stop) (.alt 5 (.alt 1 (.alt 6 (.alt 11 (.one 12 .fin) .stop) .stop) (.alt 6 (.one 1 (.alt 11 (.one 12 .fin) .stop)) .stop)) .stop)) (.alt 5 (.alt 1 (.alt 3 (.alt 6 (.alt 11 (.one 12 .fin) .stop) .stop) .stop) (.alt 3 (.alt 1 (.alt 6 (.alt 11 (.one 12 .fin) .stop) .stop) (.alt 6 (.one 1 (.alt 11 (.one 12 .fin) .stop)) .stop)) .stop)) .stop))) (.alt 1 (.alt 0 (.alt 3 (.alt 5 (.alt 6 (.alt 11 (.one 12 .fin) .stop) .stop) .stop) (.alt 5 (.alt 3 (.alt 6 (.alt 11 (.one 12 .fin) .stop) .stop) .stop) .stop)) (.alt 3 (.alt 0 (.alt 5 (.alt 6 (.alt 11 (.one 12 .fin) .stop) .stop) .stop) (.alt 5 (.alt 0 (.alt 6 (.alt 11 (.one 12 .fin) .stop) .stop) (.alt 6 (.one 0 (.alt 11 (.one 12 .fin) .stop)) .stop)) .stop)) (.alt 5 (.alt 0 (.alt 3 (.alt 6 (.alt 11 (.one 12 .fin) .stop) .stop) .stop) (.alt 3 (.alt 0 (.alt 6 (.alt 11 (.one 12 .fin) .stop) .stop) (.alt 6 (.one 0 (.alt 11 (.one 12 .fin) .stop)) .stop)) .stop)) .stop))) (.alt 3 (.alt 0 (.alt 1 (.alt 5 (.alt 6 (.alt 11 (.one 12 .fin) .stop) .stop) .stop) (.alt 5 (.alt 1 (.alt 6 (.alt 11 (.one 12 .fin) .stop) .stop) (.alt 6 (.one 1 (.alt 11 (.one 12 .fin) .stop)) .stop)) .stop)) (.alt 1 (.alt 0 (.alt 5 (.alt 6 (.alt 11 (.one 12 .fin) .stop) .stop) .stop) (.alt 5 (.alt 0 (.alt 6 (.alt 11 (.one 12 .fin) .stop) .stop) (.alt 6 (.one 0 (.alt 11 (.one 12 .fin) .stop)) .stop)) .stop)) (.alt 5 (.alt 0 (.alt 1 (.alt 6 (.alt 11 (.one 12 .fin) .stop) .stop) (.alt 6 (.one 1 (.alt 11 (.one 12 .fin) .stop)) .stop)) (.alt 1 (.alt 0 (.alt 6 (.alt 11 (.one 12 .fin) .stop) .stop) (.alt 6 (.one 0 (.alt 11 (.one 12 .fin) .stop)) .stop)) (.alt 6 (.one 0 (.one 1 (.alt 11 (.one 12 .fin) .stop))) .stop))) .stop))) (.alt 5 (.alt 0 (.alt 1 (.alt 3 (.alt 6 (.alt 11 (.one 12 .fin) .stop) .stop) .stop) (.alt 3 (.alt 1 (.alt 6 (.alt 11 (.one 12 .fin) .stop) .stop) (.alt 6 (.one 1 (.alt 11 (.one 12 .fin) .stop)) .stop)) .stop)) (.alt 1 (.alt 0 (.alt 3 (.alt 6 (.alt 11 (.one 12 .fin) .stop) .stop) .stop) (.alt 3 (.alt 0 (.alt 6 (.alt 11 (.one 12 .fin) .stop) .stop) (.alt 6 (.one 0 (.alt 11 (.one 12 .fin) .stop)) .stop)) .stop)) (.alt 3 (.alt 0 (.alt 1 (.alt 6 (.alt 11 (.one 12 .fin) .stop) .stop) (.alt 6 (.one 1 (.alt 11 (.one 12 .fin) .stop)) .stop)) (.alt 1 (.alt 0 (.alt 6 (.alt 11 (.one 12 .fin) .stop) .stop) (.alt 6 (.one 0 (.alt 11 (.one 12 .fin) .stop)) .stop)) (.alt 6 (.one 0 (.one 1 (.alt 11 (.one 12 .fin) .stop))) .stop))) .stop))) .stop)))) ⟨[(2, .l1 p), (3, .l1 c), (4, .l1 m), (5, .int most), (6, .ref 9 []), (7, .bptr 10 0), (8, .bptr 11 0), (15, .int p.length), (16, .int y)], [(9, .t2 L'), (10, .bx [.l2 s, .l1 t]), (11, .bx [.l2 s', .l1 t'])]⟩ hrd (by first | exact fix0 hcx | exact fixN hcx rfl) mixed (by kernel_rfl) (fun K hK => ?_) ?_
                · as_aux_lemma =>
                    simp only [go_sem, seval, Option.getD_some, and_true, true_and, and_self, List.contains_cons, List.contains_nil, Bool.or_false, Bool.or_true]
                    repeat' (first | exact hK _ (by refine And.intro ?_ rfl; simp only [SlotsLe, St.get, slotGet, Nat.reduceEqDiff, ↓reduceIte, AV.int.injEq, AV.bool.injEq, AV.l1.injEq, AV.l2.injEq, AV.l3.injEq, true_and, and_true]) | omega | refine And.intro ?_ ?_ | (refine fcall_own rfl (hwp) rfl ?_; simp only [go_sem, seval, Option.getD_some, and_true, true_and, and_self, List.contains_cons, List.contains_nil, Bool.or_false, Bool.or_true]) | ((refine fcall_zbox [12, 13] ih (by simp [frzAs, frzA, find]) (by simp only [killL, killA, killAs, qOf, rmT, killH, killT, List.map_cons, List.map_nil, List.filter_cons, List.filter_nil, List.contains_cons, List.contains_nil, Bool.or_false, Bool.or_true, Bool.false_and, Bool.not_true, Bool.not_false, Bool.false_eq_true, if_true, if_false, seval]; rfl) (by simp [Aw.ids]) (by simp [find]) (by simp [closedT, killT, killAs, killA, outQ, Aw.ids]) (by simp [killAs, killA, outQ, Aw.ids]) (by simp [Aw.ids]) ?_; simp only [Aw.ids, List.map_cons, List.map_nil, List.filter_cons, List.filter_nil, List.contains_cons, List.contains_nil, Bool.or_false, Bool.or_true, Bool.not_true, Bool.not_false, Nat.reduceBEq, Bool.false_eq_true, if_true, if_false, List.cons_append, List.nil_append, List.append_nil]; simp only [go_sem, seval, Option.getD_some, and_true, true_and, and_self, List.contains_cons, List.contains_nil, Bool.or_false, Bool.or_true])))
                (repeat refine ats_seq ?_); refine AT.ghost (st' := ⟨[(2, .l1 p), (3, .l1 c), (4, .l1 m), (5, .int most), (6, .ref 9 []), (7, .bptr 10 0), (8, .bptr 11 0), (15, .int p.length), (16, .int y)], [(9, .t2 L'), (10, .bx [.l2 s, .l1 t]), (11, .bx [.l2 s', .l1 t'])]⟩) (ghost_can [] (by simp only [rnLs, rnL, rn, rns, sw, SlotsLe, St.get, slotGet, List.map_cons, List.map_nil, seval, AV.int.injEq, AV.bool.injEq, AV.l1.injEq, AV.l2.injEq, AV.l3.injEq, true_and, and_true]) (by simp only [sortH, insH, rnHs, rnH, rnT, rn, rns, sw, List.map_cons, List.map_nil, seval])) ?_
                (repeat refine ats_seq ?_); refine ats_go (by first | exact fix0 hcx | exact fix1 hcx rfl | exact fixN hcx rfl) fun K hK => ?_; simp only [go_sem, seval]; (repeat refine And.intro (by first | omega | (intro hq; first | omega | (simp at hq <;> omega) | (simp_all <;> omega))) ?_); refine hK _ ?_; clear hK K
                refine ⟨y + 1,  by omega, by omega, .inl ⟨by simp only [SlotsLe, St.get, slotGet, Nat.reduceEqDiff, ↓reduceIte, AV.int.injEq, AV.bool.injEq, AV.l1.injEq, AV.l2.injEq, AV.l3.injEq, true_and, and_true]; exact ⟨by rw [hSn], by omega⟩,  by rw [hSn] <;> rfl⟩⟩
      · have hSn : S n = some L := by
          rw [← es]
          by_cases e : y = n
          · rw [e]
          · rw [show n = y + (n - y) by omega]
            refine hstop y (fun h => ?_) (n - y)
            rw [es] at h
            simp only [Option.getD_none, Option.getD_some, List.length_nil] at h
            simp at h1
            omega
        rw [hSn]
        simp only [TS, argS]
        refine ats_exit (lq_x ?_)
        (repeat refine ats_seq ?_); refine ats_go (by first | exact fix0 hcx | exact fix1 hcx rfl | exact fixN hcx rfl) fun K hK => ?_; simp only [go_sem, seval]; (repeat refine And.intro (by first | omega | (intro hq; first | omega | (simp at hq <;> omega) | (simp_all <;> omega))) ?_); refine hK _ ?_; clear hK K
        refine ats_ret ⟨⟨[(2, .l1 p), (3, .l1 c), (4, .l1 m), (5, .int most), (14, .ref 9 [])], [(9, .t2 L)]⟩, ghost_trans (ghost_drop [10, 11]) (ghost_can [] (by simp only [killL, killA, killAs, qOf, rmT, killH, killT, List.filter_cons, List.filter_nil, List.contains_cons, List.contains_nil, Bool.or_false, Bool.or_true, Bool.false_and, Bool.not_true, Bool.not_false, Bool.false_eq_true, if_true, if_false, rnLs, rnL, rn, rns, sw, SlotsLe, St.get, slotGet, List.map_cons, List.map_nil, seval, AV.int.injEq, AV.bool.injEq, AV.l1.injEq, AV.l2.injEq, AV.l3.injEq, true_and, and_true]) (by simp only [killL, killA, killAs, qOf, rmT, killH, killT, List.filter_cons, List.filter_nil, List.contains_cons, List.contains_nil, Bool.or_false, Bool.or_true, Bool.false_and, Bool.not_true, Bool.not_false, Bool.false_eq_true, if_true, if_false, sortH, insH, rnHs, rnH, rnT, rn, rns, sw, List.map_cons, List.map_nil, seval])), .inr rfl, (by first | rfl | exact ⟨trivial, rfl⟩), (by simp [St.get, slotGet, argSlots]), rfl⟩
theorem seek_step (n : Nat) (s : List (List Int)) (t : List Int) (s' : List (List Int)) (t' : List Int) (hs : Shape s t) (hs' : Shape s' t') (hn : t.length = n) (hn' : t'.length = n) (most : Nat) (hmo : most ≤ 5000) (d : Nat) (ihd : SeekOk n s t s' t' most d) : SeekOk n s t s' t' most (d + 1) := by
  intro p c m st
  by_cases h : st = none
  · exact seek_none n s t s' t' hs hs' hn hn' most hmo d ihd p c m st h
  · exact seek_some n s t s' t' hs hs' hn hn' most hmo d ihd p c m st h
theorem l12Seek_ok (n : Nat) (s : List (List Int)) (t : List Int) (s' : List (List Int)) (t' : List Int) (hs : Shape s t) (hs' : Shape s' t') (hn : t.length = n) (hn' : t'.length = n) (most : Nat) (hmo : most ≤ 5000) : ∀ d, SeekOk n s t s' t' most d
  | 0 => seek_base n s t s' t' hs hs' hn hn' most hmo
  | d + 1 => seek_step n s t s' t' hs hs' hn hn' most hmo d (l12Seek_ok n s t s' t' hs hs' hn hn' most hmo d)
end Go.Proofs.YtakhnoenhmpfpaaGreat
