import Derived.Test.YtaijdhkjemffhaaIc
set_option linter.unusedSimpArgs false
set_option linter.unusedVariables false
namespace Go.Proofs.Ytaijdhkjemffhaa
open Go Go.Aw Go.Pl
set_option maxRecDepth 100000 in
set_option maxHeartbeats 16000000 in
theorem l18Build_ok (o : List Int) (m : Int) (w : List (List (List Int))) (hc : CocOk o m w) (hck : chk o = true) (h3 : o.length ≤ 3) (L : List Int) (hLl : L.length = o.length * o.length) (hL : ∀ j, j < o.length * o.length → 0 ≤ L.getD j 0 ∧ L.getD j 0 ≤ m - 1) :
    PureCall Try.prog 41 [.agg [.l1 o, .int m, .l3 w], .l1 L] (.tup [.l2 (bS o m w L), .bool (isBr o m w (bS o m w L))]) := by
  have hs := hc.1
  have n8 := hs.n8
  have m1 := hs.2.2.1
  have m2 := hs.2.2.2.1
  have hcb := hs.2.2.2.2.2
  have hG := l18Generators_ok o hs.1 hs.2.1 h3
  have lG : (gensL o).length = o.length := rowF_length ..
  have gG : ∀ k, k < o.length → (gensL o).getD k 0 = (own o k : Int) := fun k hk => rowF_get hk
  have en := hs.nE
  have hr := hs.1.1
  have hMod := fun n => l18Mod_ok n m m1 m2
  obtain ⟨g, eg⟩ : ∃ g, gensL o = g := ⟨_, rfl⟩
  simp only [eg] at hG lG gG
  have hO := getD' hck
  refine PureCall.intro (n := 291) (rs := [.tmp 4, .tmp 5]) Try.call41 Try.func41 rfl rfl rfl (by simp only [List.length_cons, List.length_nil]; omega) (fun cx hcx => ats_of ?_); simp only [argSlots, Nat.zero_add, Nat.reduceAdd]
  (repeat refine ats_seq ?_); refine ats_go (fix0 hcx) fun K hK => ?_; simp only [go_sem, seval]; (repeat refine And.intro (by first | omega | (intro hq; first | omega | (simp at hq <;> omega) | (simp_all <;> omega))) ?_); refine hK _ ?_; clear hK K
  (repeat refine ats_seq ?_); refine ats_pick (fix0 hcx) mixed (by kernel_rfl) fun K hK => ?_; simp only [go_sem, seval]
  (repeat refine And.intro (by first | omega | (intro hq; first | omega | (simp at hq <;> omega) | (simp_all <;> omega))) ?_)
  first | refine fcall_fresh rfl (hG) ?_ | refine YR_intro (acall_fresh rfl (hG)) ?_
  simp only [go_sem, seval]
  (repeat refine And.intro (by first | omega | (intro hq; first | omega | (simp at hq <;> omega) | (simp_all <;> omega))) ?_)
  refine hK _ ?_; clear hK K
  (repeat refine ats_seq ?_); refine ats_go (fix0 hcx) fun K hK => ?_; simp only [go_sem, seval]; (repeat refine And.intro (by first | omega | (intro hq; first | omega | (simp at hq <;> omega) | (simp_all <;> omega))) ?_); refine hK _ ?_; clear hK K
  (repeat refine ats_seq ?_); refine ats_go (fix0 hcx) fun K hK => ?_; simp only [go_sem, seval]; (repeat refine And.intro (by first | omega | (intro hq; first | omega | (simp at hq <;> omega) | (simp_all <;> omega))) ?_); refine hK _ ?_; clear hK K
  (repeat refine ats_seq ?_)
  refine ats_upto ⟨[(1, .l1 L), (2, .bptr 0 0), (6, .int w.length), (7, .int m), (8, .l1 g), (9, .l3 w), (10, .ref 1 [])], [(0, .bx [.l1 o, .int m, .l3 w]), (1, .t2 (matF w.length w.length fun _ _ => 0))]⟩ (ats_le (st' := ⟨[(1, .l1 L), (2, .bptr 0 0), (6, .int w.length), (7, .int m), (8, .l1 g), (9, .l3 w), (10, .ref 1 []), (11, .int 0)], [(0, .bx [.l1 o, .int m, .l3 w]), (1, .t2 [])]⟩) (by refine And.intro ?_ rfl; simp only [SlotsLe, St.get, slotGet, Nat.reduceEqDiff, ↓reduceIte, true_and, and_true]; try rfl) (bldA hcx o m w hc hck h3 L hLl hL g eg)) ?_
  (repeat refine ats_seq ?_); refine ats_go (fix0 hcx) fun K hK => ?_; simp only [go_sem, seval]; (repeat refine And.intro (by first | omega | (intro hq; first | omega | (simp at hq <;> omega) | (simp_all <;> omega))) ?_); refine hK _ ?_; clear hK K
  (repeat refine ats_seq ?_); refine ats_go (fix0 hcx) fun K hK => ?_; simp only [go_sem, seval]
  simp only [List.length_replicate]
  (repeat refine And.intro (by first | omega | (intro hq; first | omega | (simp at hq <;> omega) | (simp_all <;> omega))) ?_)
  refine hK _ ?_; clear hK K
  rw [bAll_zero en]
  (repeat refine ats_seq ?_); refine ats_go (fix0 hcx) fun K hK => ?_; simp only [go_sem, seval]; (repeat refine And.intro (by first | omega | (intro hq; first | omega | (simp at hq <;> omega) | (simp_all <;> omega))) ?_); refine hK _ ?_; clear hK K
  (repeat refine ats_seq ?_); refine ats_go (fix0 hcx) fun K hK => ?_; simp only [go_sem, seval]; (repeat refine And.intro (by first | omega | (intro hq; first | omega | (simp at hq <;> omega) | (simp_all <;> omega))) ?_); refine hK _ ?_; clear hK K
  (repeat refine ats_seq ?_); refine ats_go (fix0 hcx) fun K hK => ?_; simp only [go_sem, seval]; (repeat refine And.intro (by first | omega | (intro hq; first | omega | (simp at hq <;> omega) | (simp_all <;> omega))) ?_); refine hK _ ?_; clear hK K
  (repeat refine ats_seq ?_)
  refine ats_upto ⟨[(1, .l1 L), (2, .bptr 0 0), (6, .int w.length), (7, .int m), (8, .l1 g), (9, .l3 w), (10, .ref 1 []), (13, .ref 3 []), (14, .ref 4 []), (15, .ref 5 [])], [(0, .bx [.l1 o, .int m, .l3 w]), (1, .t2 (matF w.length w.length fun _ _ => 0)), (3, .t1 (odL o)), (4, .t1 (fmL o)), (5, .t1 (stL o))]⟩ (ats_le (st' := ⟨[(1, .l1 L), (2, .bptr 0 0), (6, .int w.length), (7, .int m), (8, .l1 g), (9, .l3 w), (10, .ref 1 []), (12, .ref 2 []), (13, .ref 3 []), (14, .ref 4 []), (15, .ref 5 []), (16, .int 0)], [(0, .bx [.l1 o, .int m, .l3 w]), (1, .t2 (matF w.length w.length fun _ _ => 0)), (2, .lv (knV (bAll o 0).kn)), (3, .t1 (bAll o 0).od), (4, .t1 (bAll o 0).fm), (5, .t1 (bAll o 0).st)]⟩) (by refine And.intro ?_ rfl; simp only [SlotsLe, St.get, slotGet, Nat.reduceEqDiff, ↓reduceIte, true_and, and_true]; try rfl) (bldB hcx o m w hc hck h3 L hLl hL g eg)) ?_
  (repeat refine ats_seq ?_); refine ats_go (fix0 hcx) fun K hK => ?_; simp only [go_sem, seval]; (repeat refine And.intro (by first | omega | (intro hq; first | omega | (simp at hq <;> omega) | (simp_all <;> omega))) ?_); refine hK _ ?_; clear hK K
  (repeat refine ats_seq ?_)
  have loS := hO.lo
  have lfS := hO.lf
  have lsS := hO.ls
  refine ats_upto ⟨[(1, .l1 L), (2, .bptr 0 0), (6, .int w.length), (7, .int m), (8, .l1 g), (9, .l3 w), (10, .ref 1 []), (13, .ref 3 []), (14, .ref 4 []), (15, .ref 5 [])], [(0, .bx [.l1 o, .int m, .l3 w]), (1, .t2 (matS o m w L o.length)), (3, .t1 (odL o)), (4, .t1 (fmL o)), (5, .t1 (stL o))]⟩ (ats_le (st' := ⟨[(1, .l1 L), (2, .bptr 0 0), (6, .int w.length), (7, .int m), (8, .l1 g), (9, .l3 w), (10, .ref 1 []), (13, .ref 3 []), (14, .ref 4 []), (15, .ref 5 []), (19, .int 0)], [(0, .bx [.l1 o, .int m, .l3 w]), (1, .t2 (matF w.length w.length fun _ _ => 0)), (3, .t1 (odL o)), (4, .t1 (fmL o)), (5, .t1 (stL o))]⟩) (by refine And.intro ?_ rfl; simp only [SlotsLe, St.get, slotGet, Nat.reduceEqDiff, ↓reduceIte, true_and, and_true]; try rfl) (bldC hcx o m w hc hck h3 L hLl hL g eg)) ?_
  (repeat refine ats_seq ?_); refine ats_go (fix0 hcx) fun K hK => ?_; simp only [go_sem, seval]; (repeat refine And.intro (by first | omega | (intro hq; first | omega | (simp at hq <;> omega) | (simp_all <;> omega))) ?_); refine hK _ ?_; clear hK K
  (repeat refine ats_seq ?_)
  obtain ⟨M0, eM0⟩ : ∃ M0, matS o m w L o.length = M0 := ⟨_, rfl⟩
  have gM0 : GridB w.length m M0 := by rw [← eM0]; exact matS_gr m1 en hck _ (Nat.le_refl _)
  have hMe : allS o m w M0 (w.length - 1) = bS o m w L := by rw [← eM0]; rfl
  rw [eM0]
  refine ats_upto ⟨[(2, .bptr 0 0), (6, .int w.length), (7, .int m), (10, .ref 1 [])], [(0, .bx [.l1 o, .int m, .l3 w]), (1, .t2 (bS o m w L))]⟩ (ats_le (st' := ⟨[(1, .l1 L), (2, .bptr 0 0), (6, .int w.length), (7, .int m), (8, .l1 g), (9, .l3 w), (10, .ref 1 []), (13, .ref 3 []), (14, .ref 4 []), (15, .ref 5 []), (26, .int 1)], [(0, .bx [.l1 o, .int m, .l3 w]), (1, .t2 (M0)), (3, .t1 (odL o)), (4, .t1 (fmL o)), (5, .t1 (stL o))]⟩) (by refine And.intro ?_ rfl; simp only [SlotsLe, St.get, slotGet, Nat.reduceEqDiff, ↓reduceIte, true_and, and_true]; try rfl) (bldD hcx o m w hc hck h3 L hLl hL g eg gM0 hMe)) ?_
  obtain ⟨b, eb⟩ : ∃ b, bS o m w L = b := ⟨_, rfl⟩
  have hN := l18Numbers_ok w.length m b (by omega) m1 m2
  have hib : isBr o m w b = bd (BraidS o m w b ∧ bfF o m w b = none) := rfl
  rw [eb, hib]
  (repeat refine ats_seq ?_); refine AT.ghost (ghost_frz [1]) ?_; simp only [frzV, find, killA, killAs, qOf, rmT, killH, killT, List.map_cons, List.map_nil, List.filter_cons, List.filter_nil, List.contains_cons, List.contains_nil, Bool.or_false, Bool.or_true, Bool.false_and, Bool.not_true, Bool.not_false, Bool.false_eq_true, if_true, if_false, seval]
  by_cases hpb : PairB w.length m b
  · have hF := l18Fault_ok o m w b hs hpb.1
    rw [bd_true hpb] at hN
    cases hbf : bfF o m w b with
    | none =>
      rw [hbf] at hF
      have hF' : PureCall Try.prog 66 [.agg [.l1 o, .int m, .l3 w], .l2 b] .nil := hF
      rw [bd_true ⟨⟨hc, hpb⟩, rfl⟩]
      (repeat refine ats_seq ?_); refine ats_go (fix0 hcx) fun K hK => ?_; simp only [go_sem, seval]
      first | refine fcall_data (hN) rfl ?_ | refine YR_intro (acall_data (hN) rfl) ?_
      simp only [go_sem, seval]
      (repeat refine And.intro (by first | omega | (intro hq; first | omega | (simp at hq <;> omega) | (simp_all <;> omega))) ?_)
      first | refine fcall_data (hF') rfl ?_ | refine YR_intro (acall_data (hF') rfl) ?_
      simp only [go_sem, seval]
      (repeat refine And.intro (by first | omega | (intro hq; first | omega | (simp at hq <;> omega) | (simp_all <;> omega))) ?_)
      refine hK _ ?_; clear hK K
      exact ats_ret (fin2 trivial trivial rfl)
    | some l =>
      rw [hbf] at hF
      have l4 := bfF_len hbf
      have hF' : PureCall Try.prog 66 [.agg [.l1 o, .int m, .l3 w], .l2 b] (.l1 l) := hF
      rw [bd_false (fun h => by cases h.2)]
      (repeat refine ats_seq ?_); refine ats_go (fix0 hcx) fun K hK => ?_; simp only [go_sem, seval]
      first | refine fcall_data (hN) rfl ?_ | refine YR_intro (acall_data (hN) rfl) ?_
      simp only [go_sem, seval]
      (repeat refine And.intro (by first | omega | (intro hq; first | omega | (simp at hq <;> omega) | (simp_all <;> omega))) ?_)
      first | refine fcall_data (hF') rfl ?_ | refine YR_intro (acall_data (hF') rfl) ?_
      simp only [go_sem, seval]
      simp only [l4]
      simp only [go_sem, seval]
      (repeat refine And.intro (by first | omega | (intro hq; first | omega | (simp at hq <;> omega) | (simp_all <;> omega))) ?_)
      refine hK _ ?_; clear hK K
      exact ats_ret (fin2 trivial trivial rfl)
  · rw [bd_false hpb] at hN
    rw [bd_false (fun h => hpb h.1.2)]
    (repeat refine ats_seq ?_); refine ats_go (fix0 hcx) fun K hK => ?_; simp only [go_sem, seval]
    first | refine fcall_data (hN) rfl ?_ | refine YR_intro (acall_data (hN) rfl) ?_
    simp only [go_sem, seval]
    (repeat refine And.intro (by first | omega | (intro hq; first | omega | (simp at hq <;> omega) | (simp_all <;> omega))) ?_)
    refine YR_intro (v := .nil) (by first | trivial | (intro h; cases h)) ?_
    simp only [go_sem, seval]
    (repeat refine And.intro (by first | omega | (intro hq; first | omega | (simp at hq <;> omega) | (simp_all <;> omega))) ?_)
    refine hK _ ?_; clear hK K
    exact ats_ret (fin2 trivial trivial rfl)
end Go.Proofs.Ytaijdhkjemffhaa
