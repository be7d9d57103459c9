import Derived.Test.YtaijdhkjemffhaaIb
set_option linter.unusedSimpArgs false
set_option linter.unusedVariables false
namespace Go.Proofs.Ytaijdhkjemffhaa
open Go Go.Aw Go.Pl
attribute [local go_sem] pl_fin pl_stop pl_one pl_alt PK_ap pickO List.getElem?_toArray List.getElem?_cons_zero List.getElem?_cons_succ
set_option maxRecDepth 100000 in
set_option maxHeartbeats 16000000 in
theorem bldD {cx : Cx} (hcx : cx.fix = 0) {Q : SQ} (o : List Int) (m : Int) (w : List (List (List Int))) (hc : CocOk o m w) (hck : chk o = true) (h3 : o.length ≤ 3) (L : List Int) (hLl : L.length = o.length * o.length) (hL : ∀ j, j < o.length * o.length → 0 ≤ L.getD j 0 ∧ L.getD j 0 ≤ m - 1) (g : List Int) (eg : gensL o = g) {M0 : List (List Int)} (gM0 : GridB w.length m M0) (hMe : allS o m w M0 (w.length - 1) = bS o m w L) : ATs Try.prog cx 291 [nth 14 Try.f41.body] (fun e s => (e = .normal ∧ Ghost cx 291 s ⟨[(2, .bptr 0 0), (6, .int w.length), (7, .int m), (10, .ref 1 [])], [(0, .bx [.l1 o, .int m, .l3 w]), (1, .t2 (bS o m w L))]⟩) ∨ (e ≠ .normal ∧ Q e s)) ⟨[(1, .l1 L), (2, .bptr 0 0), (6, .int w.length), (7, .int m), (8, .l1 g), (9, .l3 w), (10, .ref 1 []), (13, .ref 3 []), (14, .ref 4 []), (15, .ref 5 []), (26, .int 1)], [(0, .bx [.l1 o, .int m, .l3 w]), (1, .t2 (M0)), (3, .t1 (odL o)), (4, .t1 (fmL o)), (5, .t1 (stL o))]⟩ := by
  have hs := hc.1
  have n8 := hs.n8
  have m1 := hs.2.2.1
  have m2 := hs.2.2.2.1
  have hcb := hs.2.2.2.2.2
  have hG := l18Generators_ok o hs.1 hs.2.1 h3
  have lG : (gensL o).length = o.length := rowF_length ..
  have gG : ∀ k, k < o.length → (gensL o).getD k 0 = (own o k : Int) := fun k hk => rowF_get hk
  have en := hs.nE
  have hr := hs.1.1
  have hMod := fun n => l18Mod_ok n m m1 m2
  simp only [eg] at hG lG gG
  have hO := getD' hck
  have loS := hO.lo
  have lfS := hO.lf
  have lsS := hO.ls
  refine ats_code (by simp only [nth, Try.f41, flatC, List.cons_append, List.nil_append, List.getD_cons_zero, List.getD_cons_succ]; exact rfl) ?_
  (repeat refine ats_seq ?_); refine ats_loop (fun t : Nat => ⟨[(1, .l1 L), (2, .bptr 0 0), (6, .int w.length), (7, .int m), (8, .l1 g), (9, .l3 w), (10, .ref 1 []), (13, .ref 3 []), (14, .ref 4 []), (15, .ref 5 []), (26, .int ((t + 1 : Nat) : Int))], [(0, .bx [.l1 o, .int m, .l3 w]), (1, .t2 (allS o m w M0 t)), (3, .t1 (odL o)), (4, .t1 (fmL o)), (5, .t1 (stL o))]⟩) (fun t => t + 1 ≤ w.length) (fun t => w.length - t) 0 (by omega) (by
    refine And.intro ?_ rfl; simp only [SlotsLe, St.get, slotGet, Nat.reduceEqDiff, ↓reduceIte, AV.int.injEq, AV.bool.injEq, AV.l1.injEq, AV.l2.injEq, AV.l3.injEq, true_and, and_true]
    try rfl) (fun t ht => ?_)
  (repeat refine ats_seq ?_); refine ats_go (by first | exact fix0 hcx | exact fix1 hcx rfl) fun K hK => ?_; simp only [go_sem, seval]
  simp only [loS, en]
  (repeat refine And.intro (by first | omega | (intro hq; first | omega | (simp at hq <;> omega) | (simp_all <;> omega))) ?_)
  refine hK _ ?_; clear hK K
  (repeat refine ats_seq ?_); first | refine ats_ifn (p := _) rfl trivial (fun hlt => ?_) (fun hlt => ?_) | refine ats_ifp (p := _) rfl trivial (fun hlt => ?_) (fun hlt => ?_) | refine ats_cond rfl trivial (fun hlt => ?_) (fun hlt => ?_)
  · have htn : t + 1 < nE o := by omega
    obtain ⟨f1, f2⟩ := hO.fN htn
    obtain ⟨s1, s2⟩ := hO.sN htn
    obtain ⟨o1, o2⟩ := hO.od htn
    have gs := gG _ s2
    have hgs := (getOwn hck s2).1
    have grA := allS_gr (o := o) (w := w) m1 gM0 t
    have eS1 := fun h : fmN o (t + 1) = 0 => (show allS o m w M0 (t + 1) = allS o m w M0 t by rw [allS, if_pos h])
    have eS2 := fun h : ¬ fmN o (t + 1) = 0 => (show allS o m w M0 (t + 1) = (allS o m w M0 t).set (odN o (t + 1)) (rowF w.length (sV m w (allS o m w M0 t) (fmN o (t + 1)) (own o (stN o (t + 1))))) by rw [allS, if_neg h])
    obtain ⟨f, ef⟩ : ∃ f, fmN o (t + 1) = f := ⟨_, rfl⟩
    obtain ⟨s, es⟩ : ∃ s, stN o (t + 1) = s := ⟨_, rfl⟩
    obtain ⟨q, eq⟩ : ∃ q, odN o (t + 1) = q := ⟨_, rfl⟩
    obtain ⟨A, eA⟩ : ∃ A, allS o m w M0 t = A := ⟨_, rfl⟩
    simp only [ef, es, eq, eA] at f1 f2 s1 s2 o1 o2 gs hgs eS1 eS2 grA ⊢
    obtain ⟨h, eh⟩ : ∃ h, own o s = h := ⟨_, rfl⟩
    simp only [eh] at gs hgs eS2
    rw [en] at f2 o2 hgs
    have oo1 := loS
    have oo2 := lfS
    have oo3 := lsS
    rw [en] at oo1 oo2 oo3
    have tl : t + 1 < w.length := by omega
    have eo : g.length = o.length := lG
    refine ats_skip ?_
    (repeat refine ats_seq ?_); refine ats_block ?_
    (repeat refine ats_seq ?_); refine ats_pick (fix0 hcx) mixed (by kernel_rfl) fun K hK => ?_; simp only [go_sem, seval]
    simp only [← f1, ← s1, Int.toNat_natCast, gs]
    (repeat refine And.intro (by first | omega | (intro hq; first | omega | (simp at hq <;> omega) | (simp_all <;> omega))) ?_)
    refine hK _ ?_; clear hK K
    (repeat refine ats_seq ?_); refine ats_go (by first | exact fix0 hcx | exact fix1 hcx rfl) fun K hK => ?_; simp only [go_sem, seval]; (repeat refine And.intro (by first | omega | (intro hq; first | omega | (simp at hq <;> omega) | (simp_all <;> omega))) ?_); refine hK _ ?_; clear hK K
    (repeat refine ats_seq ?_); first | refine ats_ifn (p := _) rfl trivial (fun hz => ?_) (fun hz => ?_) | refine ats_ifp (p := _) rfl trivial (fun hz => ?_) (fun hz => ?_) | refine ats_cond rfl trivial (fun hz => ?_) (fun hz => ?_)
    · have e := eS1 (by omega)
      rw [← e]
      refine ats_exit (bq_x ?_)
      (repeat refine ats_seq ?_); refine ats_go (by first | exact fix0 hcx | exact fix1 hcx rfl) fun K hK => ?_; simp only [go_sem, seval]; (repeat refine And.intro (by first | omega | (intro hq; first | omega | (simp at hq <;> omega) | (simp_all <;> omega))) ?_); refine hK _ ?_; clear hK K
      refine ⟨t + 1,  by omega, by omega, .inl ⟨by simp only [SlotsLe, St.get, slotGet, Nat.reduceEqDiff, ↓reduceIte, AV.int.injEq, AV.bool.injEq, AV.l1.injEq, AV.l2.injEq, AV.l3.injEq, true_and, and_true]; (try omega),  rfl⟩⟩
    · have e := eS2 (by omega)
      obtain ⟨F, eF⟩ : ∃ F, sV m w A f h = F := ⟨_, rfl⟩
      have fv : ∀ z, F z = (e2 A f z - e3 w f z h + e2 A h z + e3 w z f h + e3 w f h z) % m := fun z => by rw [← eF]; rfl
      have sqA := grA.sq
      have hx0 := mixA_zero (f := F) sqA o2
      rw [eF, ← mixA_end] at e
      have lA := grA.1
      have hx1 : A = mixA w.length A q F 0 := hx0.symm
      obtain ⟨B, eB⟩ : ∃ B : Nat → List (List Int), B = mixA w.length A q F := ⟨_, rfl⟩
      rw [← eB] at hx1 e
      have lB : ∀ z, (B z).length = w.length := fun z => by rw [eB]; exact mixA_len sqA
      have rB : ∀ z x, x < w.length → ((B z).getD x []).length = w.length := fun z x hx => by rw [eB]; exact mixA_row sqA hx
      have dB : ∀ z x, z < w.length → e2 (B z) x z = e2 A x z := fun z x hz => by rw [eB]; exact mixA_read sqA o2 hz
      have sB : ∀ z, (B z).set q (((B z).getD q []).set z (F z)) = B (z + 1) := fun z => by rw [eB]; exact mixA_step sqA o2
      rw [hx1]
      refine ats_skip ?_
      (repeat refine ats_seq ?_); refine ats_go (by first | exact fix0 hcx | exact fix1 hcx rfl) fun K hK => ?_; simp only [go_sem, seval]
      simp only [← o1, Int.toNat_natCast, lB]
      (repeat refine And.intro (by first | omega | (intro hq; first | omega | (simp at hq <;> omega) | (simp_all <;> omega))) ?_)
      refine hK _ ?_; clear hK K
      (repeat refine ats_seq ?_); refine ats_go (by first | exact fix0 hcx | exact fix1 hcx rfl) fun K hK => ?_; simp only [go_sem, seval]; (repeat refine And.intro (by first | omega | (intro hq; first | omega | (simp at hq <;> omega) | (simp_all <;> omega))) ?_); refine hK _ ?_; clear hK K
      (repeat refine ats_seq ?_); refine ats_loop (fun z : Nat => ⟨[(1, .l1 L), (2, .bptr 0 0), (6, .int w.length), (7, .int m), (8, .l1 g), (9, .l3 w), (10, .ref 1 []), (13, .ref 3 []), (14, .ref 4 []), (15, .ref 5 []), (26, .int ((t + 1 : Nat) : Int)), (27, .int f), (28, .int h), (29, .ref 1 [q]), (30, .int z)], [(0, .bx [.l1 o, .int m, .l3 w]), (1, .t2 (B z)), (3, .t1 (odL o)), (4, .t1 (fmL o)), (5, .t1 (stL o))]⟩) (fun z => z ≤ w.length) (fun z => w.length - z) 0 (Nat.zero_le _) (by
        refine And.intro ?_ rfl; simp only [SlotsLe, St.get, slotGet, Nat.reduceEqDiff, ↓reduceIte, AV.int.injEq, AV.bool.injEq, AV.l1.injEq, AV.l2.injEq, AV.l3.injEq, true_and, and_true]
        try rfl) (fun z hz2 => ?_)
      (repeat refine ats_seq ?_); refine ats_go (by first | exact fix0 hcx | exact fix1 hcx rfl) fun K hK => ?_; simp only [go_sem, seval]; (repeat refine And.intro (by first | omega | (intro hq; first | omega | (simp at hq <;> omega) | (simp_all <;> omega))) ?_); refine hK _ ?_; clear hK K
      (repeat refine ats_seq ?_); first | refine ats_ifn (p := _) rfl trivial (fun hlz => ?_) (fun hlz => ?_) | refine ats_ifp (p := _) rfl trivial (fun hlz => ?_) (fun hlz => ?_) | refine ats_cond rfl trivial (fun hlz => ?_) (fun hlz => ?_)
      · have hzn : z < w.length := by omega
        have l0 := hcb.1
        have l1 := hcb.mat f2
        have l2 := hcb.mat hzn
        have r1 := hcb.row f2 hzn
        have r2 := hcb.row hzn f2
        have r3 := hcb.row f2 hgs
        have v1 := hcb.bd f2 hzn hgs
        have v2 := hcb.bd hzn f2 hgs
        have v3 := hcb.bd f2 hgs hzn
        have v4 := grA.bd f2 hzn
        have v5 := grA.bd hgs hzn
        have d1 := dB z f hzn
        have d2 := dB z h hzn
        have lBz := lB z
        have w1 := rB z f f2
        have w2 := rB z h hgs
        have w3 := rB z q o2
        have sBz := sB z
        have fz := fv z
        rw [← d1, ← d2] at fz
        rw [← d1] at v4
        rw [← d2] at v5
        obtain ⟨C, eC⟩ : ∃ C, B z = C := ⟨_, rfl⟩
        obtain ⟨v, ev⟩ : ∃ v, F z = v := ⟨_, rfl⟩
        rw [eC] at lBz w1 w2 w3 sBz fz v4 v5 ⊢
        rw [ev] at sBz fz
        have hMv := hMod (e2 C f z - e3 w f z h + e2 C h z + e3 w z f h + e3 w f h z)
        have bV := emod_bd m1 (e2 C f z - e3 w f z h + e2 C h z + e3 w z f h + e3 w f h z)
        rw [← fz] at hMv bV
        have mb : m - 1 ≤ 999 := by omega
        replace v1 := And.intro v1.1 (Int.le_trans v1.2 mb)
        replace v2 := And.intro v2.1 (Int.le_trans v2.2 mb)
        replace v3 := And.intro v3.1 (Int.le_trans v3.2 mb)
        replace v4 := And.intro v4.1 (Int.le_trans v4.2 mb)
        replace v5 := And.intro v5.1 (Int.le_trans v5.2 mb)
        replace bV := And.intro bV.1 (Int.le_trans bV.2 mb)
        simp only [e3, e2] at v1 v2 v3 v4 v5 hMv
        clear hO sB lB rB dB fz fv hMod gG hG hcb hs hc hL sqA grA gM0 hMe e hx0 hx1 d1 d2 eS1 eS2
        clear loS lfS lsS f1 s1 o1 ef es eq eA eF eC ev oo1 oo2 oo3 eo hz lA hLl h3 hck eg en gs eh s2 htn hlt hr mb lG
        refine ats_skip ?_
        (repeat refine ats_seq ?_); refine ats_block ?_
        (repeat refine ats_seq ?_)
        refine ats_plan [] (.one 0 (.one 1 (.one 2 (.one 3 (.one 4 (.one 5 (.one 6 (.one 7 (.one 8 (.one 9 (.one 10 (.one 11 (.one 12 (.one 13 (.one 14 (.one 15 (.one 16 (.one 17 (.one 18 (.one 19 (.one 20 (.one 21 (.one 22 (.one 23 (.one 24 (.one 25 (.one 26 (.one 27 (.one 28 (.one 29 (.one 30 (.one 31 (.one 32 (.one 33 (.one 34 (.one 35 (.one 36 (.one 37 (.one 38 (.one 39 (.one 40 (.one 41 (.one 42 (.one 43 (.one 44 (.one 45 (.one 46 (.one 47 (.one 48 (.one 49 (.one 50 (.one 51 (.one 52 (.alt 53 .fin .stop)))))))))))))))))))))))))))))))))))))))))))))))))))))) ⟨[(1, .l1 L), (2, .bptr 0 0), (6, .int w.length), (7, .int m), (8, .l1 g), (9, .l3 w), (10, .ref 1 []), (13, .ref 3 []), (14, .ref 4 []), (15, .ref 5 []), (26, .int ((t + 1 : Nat) : Int)), (27, .int f), (28, .int h), (29, .ref 1 [q]), (30, .int z)], [(0, .bx [.l1 o, .int m, .l3 w]), (1, .t2 (C.set q ((C.getD q []).set z v))), (3, .t1 (odL o)), (4, .t1 (fmL o)), (5, .t1 (stL o))]⟩ (fix0 hcx) mixed (by kernel_rfl) (fun K hK => ?_) ?_
        · simp only [go_sem, seval, Option.getD_some, and_true, true_and, and_self, List.contains_cons, List.contains_nil, Bool.or_false, Bool.or_true]
          repeat' (first | exact hK _ (by refine And.intro ?_ rfl; simp only [SlotsLe, St.get, slotGet, Nat.reduceEqDiff, ↓reduceIte, AV.int.injEq, AV.bool.injEq, AV.l1.injEq, AV.l2.injEq, AV.l3.injEq, true_and, and_true])  | with_reducible refine And.intro ?_ ?_ | omega | ((first | refine fcall_data (hMv) rfl ?_ | refine YR_intro (acall_data (hMv) rfl) ?_); simp only [go_sem, seval, Option.getD_some, and_true, true_and, and_self, List.contains_cons, List.contains_nil, Bool.or_false, Bool.or_true]))
        rw [sBz]
        (repeat refine ats_seq ?_); refine ats_go (by first | exact fix0 hcx | exact fix1 hcx rfl) fun K hK => ?_; simp only [go_sem, seval]; (repeat refine And.intro (by first | omega | (intro hq; first | omega | (simp at hq <;> omega) | (simp_all <;> omega))) ?_); refine hK _ ?_; clear hK K
        refine ⟨z + 1,  by omega, by omega, .inl ⟨by simp only [SlotsLe, St.get, slotGet, Nat.reduceEqDiff, ↓reduceIte, AV.int.injEq, AV.bool.injEq, AV.l1.injEq, AV.l2.injEq, AV.l3.injEq, true_and, and_true]; omega,  rfl⟩⟩
      · obtain rfl : z = w.length := by omega
        rw [← e]
        refine ats_exit (lq_x ?_)
        (repeat refine ats_seq ?_); refine ats_go (by first | exact fix0 hcx | exact fix1 hcx rfl) fun K hK => ?_; simp only [go_sem, seval]; (repeat refine And.intro (by first | omega | (intro hq; first | omega | (simp at hq <;> omega) | (simp_all <;> omega))) ?_); refine hK _ ?_; clear hK K
        refine ⟨t + 1,  by omega, by omega, .inl ⟨by simp only [SlotsLe, St.get, slotGet, Nat.reduceEqDiff, ↓reduceIte, AV.int.injEq, AV.bool.injEq, AV.l1.injEq, AV.l2.injEq, AV.l3.injEq, true_and, and_true]; (try omega),  rfl⟩⟩
  · obtain ⟨n, hn⟩ : ∃ n, w.length = n := ⟨_, rfl⟩
    obtain rfl : t = n - 1 := by omega
    refine ats_exit (lq_x ?_)
    rw [hn] at hMe
    rw [hMe]
    refine ats_nil ?_; refine Or.inl ⟨rfl, ghost_trans (ghost_drop [3, 4, 5]) (ghost_can [] (by simp only [killL, killA, killAs, qOf, rmT, killH, killT, List.filter_cons, List.filter_nil, List.contains_cons, List.contains_nil, Bool.or_false, Bool.or_true, Bool.false_and, Bool.not_true, Bool.not_false, Bool.false_eq_true, if_true, if_false, rnLs, rnL, rn, rns, sw, SlotsLe, St.get, slotGet, List.map_cons, List.map_nil, seval, AV.int.injEq, AV.bool.injEq, AV.l1.injEq, AV.l2.injEq, AV.l3.injEq, true_and, and_true]) (by simp only [killL, killA, killAs, qOf, rmT, killH, killT, List.filter_cons, List.filter_nil, List.contains_cons, List.contains_nil, Bool.or_false, Bool.or_true, Bool.false_and, Bool.not_true, Bool.not_false, Bool.false_eq_true, if_true, if_false, sortH, insH, rnHs, rnH, rnT, rn, rns, sw, List.map_cons, List.map_nil, seval]))⟩
end Go.Proofs.Ytaijdhkjemffhaa
