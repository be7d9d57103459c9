import Derived.Test.YtaijdhkjemffhaaHx
set_option linter.unusedSimpArgs false
set_option linter.unusedVariables false
namespace Go.Proofs.Ytaijdhkjemffhaa
open Go Go.Aw Go.Pl
attribute [local go_sem] pl_fin pl_stop pl_one pl_alt PK_ap pickO List.getElem?_toArray List.getElem?_cons_zero List.getElem?_cons_succ
def fbT (o : List Int) (M : Nat) (w : List (List (List Int))) : Option (List (List Int)) → List (Nat × Tree)
  | none => [(0, .bx [.nil, .int 0, .nil, .nil])]
  | some b => [(0, .bx [.l1 o, .int M, .l3 w, .ref 20 []]), (20, .t2 b)]
theorem fbT_mem {o : List Int} {M : Nat} {w : List (List (List Int))} : ∀ z, 0 ∈ Aw.ids (fbT o M w z)
  | none => by simp [fbT, Aw.ids]
  | some b => by simp [fbT, Aw.ids]
theorem visF_ok (o : List Int) (M : Nat) (w : List (List (List Int))) (b : List (List Int)) : OwnCall Try.prog 29 [.agg [.l1 o, .int M, .l3 w, .ref 20 []], .bptr 0 0] [(0, .bx [.nil, .int 0, .nil, .nil]), (20, .t2 b)] [(0, .bx [.l1 o, .int M, .l3 w, .ref 20 []]), (20, .t2 b)] (.bool true) [0] := by
  refine OwnCall.intro (n := 5) (rs := [.tmp 3]) 2 [1] (X := [0]) Try.call29 Try.func29 rfl rfl rfl (by simp only [List.length_cons, List.length_nil]; omega) (by simp [Aw.ids, rootsA, rootsAs, argSlots, slotGet]) (fun cx hcx => AT.weakG (ats_of ?_)); simp only [argSlots, Nat.zero_add, Nat.reduceAdd]
  (repeat refine ats_seq ?_); refine ats_go (by first | exact fix0 hcx | exact fix1 hcx rfl | exact fixN hcx rfl) fun K hK => ?_; simp only [go_sem, seval]; (repeat refine And.intro (by first | omega | (intro hq; first | omega | (simp at hq <;> omega) | (simp_all <;> omega))) ?_); refine hK _ ?_; clear hK K
  (repeat refine ats_seq ?_); refine ats_go (by first | exact fix0 hcx | exact fix1 hcx rfl | exact fixN hcx rfl) fun K hK => ?_; simp only [go_sem, seval]; (repeat refine And.intro (by first | omega | (intro hq; first | omega | (simp at hq <;> omega) | (simp_all <;> omega))) ?_); refine hK _ ?_; clear hK K
  (repeat refine ats_seq ?_); refine ats_go (by first | exact fix0 hcx | exact fix1 hcx rfl | exact fixN hcx rfl) fun K hK => ?_; simp only [go_sem, seval]; (repeat refine And.intro (by first | omega | (intro hq; first | omega | (simp at hq <;> omega) | (simp_all <;> omega))) ?_); refine hK _ ?_; clear hK K
  refine ats_ret ⟨⟨[(1, .bptr 0 0), (3, .bool true)], [(0, .bx [.l1 o, .int M, .l3 w, .ref 20 []]), (20, .t2 b)]⟩, ghost_trans (ghost_drop [21]) (ghost_can [] (by simp only [killL, killA, killAs, qOf, rmT, killH, killT, List.filter_cons, List.filter_nil, List.contains_cons, List.contains_nil, Bool.or_false, Bool.or_true, Bool.false_and, Bool.not_true, Bool.not_false, Bool.false_eq_true, if_true, if_false, rnLs, rnL, rn, rns, sw, SlotsLe, St.get, slotGet, List.map_cons, List.map_nil, seval, AV.int.injEq, AV.bool.injEq, AV.l1.injEq, AV.l2.injEq, AV.l3.injEq, true_and, and_true]) (by simp only [killL, killA, killAs, qOf, rmT, killH, killT, List.filter_cons, List.filter_nil, List.contains_cons, List.contains_nil, Bool.or_false, Bool.or_true, Bool.false_and, Bool.not_true, Bool.not_false, Bool.false_eq_true, if_true, if_false, sortH, insH, rnHs, rnH, rnT, rn, rns, sw, List.map_cons, List.map_nil, seval])), .inr rfl, (by first | rfl | exact ⟨trivial, rfl⟩ | (simp only [resL, resA, go_sem, seval]; done)), (by simp [St.get, slotGet, argSlots]), rfl⟩
set_option maxRecDepth 100000 in
set_option maxHeartbeats 8000000 in
theorem eachF_ok (o : List Int) (M : Nat) (w : List (List (List Int))) (hc : CocOk o M w) (hl : o.length ≤ 1048576) :
    OwnCall Try.prog 24 [.agg [.l1 o, .int M, .l3 w], .fn 29 [.bptr 0 0]] [(0, .bx [.nil, .int 0, .nil, .nil])] (if manyB o M = true then [(0, .bx [.nil, .int 0, .nil, .nil])] else fbT o M w (first (M ^ (o.length * o.length)) fun c => pOk o M w (cdL M (o.length * o.length) c))) (.bool (!manyB o M)) [0] := by
  have hs := hc.1
  have n8 := hs.n8
  have m1 := hs.2.2.1
  have m2 := hs.2.2.2.1
  have hG := ownGenerators_ok o hs.1 hs.2.1 hl
  have lG : (gensL o).length = o.length := rowF_length ..
  have gG : ∀ k, k < o.length → (gensL o).getD k 0 = (own o k : Int) := fun k hk => rowF_get hk
  obtain ⟨g, eg⟩ : ∃ g, gensL o = g := ⟨_, rfl⟩
  simp only [eg] at hG lG gG
  obtain ⟨pw, epw⟩ : ∃ pw : Nat → Nat, pw = fun j => M ^ j := ⟨_, rfl⟩
  have p0 : pw 0 = 1 := by rw [epw]; rfl
  have ps : ∀ j, pw (j + 1) = pw j * M := fun j => by rw [epw]; exact Nat.pow_succ ..
  have psI : ∀ j, ((pw j : Nat) : Int) * (M : Int) = ((pw (j + 1) : Nat) : Int) := fun j => by rw [ps]; push_cast; rfl
  have pm : ∀ j, pw j ≤ pw (j + 1) := fun j => by rw [ps]; exact Nat.le_mul_of_pos_right _ (by omega)
  have pm2 : ∀ i j, i ≤ j → pw i ≤ pw j := fun i j h => by
    induction j with
    | zero => rw [show i = 0 by omega]; exact Nat.le_refl _
    | succ j ih =>
      by_cases e : i = j + 1
      · rw [e]; exact Nat.le_refl _
      · exact Nat.le_trans (ih (by omega)) (pm j)
  have p4 : ∀ j, pw (j + 1) ≤ pw j * 1000 := fun j => by rw [ps]; exact Nat.mul_le_mul_left _ (by omega)
  have emany : manyB o M = (decide (3 < o.length) || decide (20000 < pw (o.length * o.length))) := by unfold manyB; rw [epw, Int.toNat_natCast]
  rw [emany]
  by_cases h3 : 3 < o.length
  · simp only [h3, decide_true, Bool.true_or, Bool.not_true, if_true]
    refine OwnCall.intro (n := 105) (rs := [.tmp 4]) 2 [0, 1] (X := [0]) Try.call24 Try.func24 rfl rfl rfl (by simp only [List.length_cons, List.length_nil]; omega) (by simp [Aw.ids, rootsA, rootsAs, argSlots, slotGet]) (fun cx hcx => AT.weakG (ats_of ?_)); simp only [argSlots, Nat.zero_add, Nat.reduceAdd]
    (repeat refine ats_seq ?_); refine ats_go (by first | exact fix0 hcx | exact fix1 hcx rfl | exact fixN hcx rfl) fun K hK => ?_; simp only [go_sem, seval]; (repeat refine And.intro (by first | omega | (intro hq; first | omega | (simp at hq <;> omega) | (simp_all <;> omega))) ?_); refine hK _ ?_; clear hK K
    (repeat refine ats_seq ?_); refine ats_go (by first | exact fix0 hcx | exact fix1 hcx rfl | exact fixN hcx rfl) fun K hK => ?_; simp only [go_sem, seval]
    (repeat refine And.intro (by first | omega | (intro hq; first | omega | (simp at hq <;> omega) | (simp_all <;> omega))) ?_)
    first | refine fcall_fresh rfl (hG) ?_ | refine YR_intro (acall_fresh rfl (hG)) ?_
    simp only [go_sem, seval]
    (repeat refine And.intro (by first | omega | (intro hq; first | omega | (simp at hq <;> omega) | (simp_all <;> omega))) ?_)
    refine hK _ ?_; clear hK K
    (repeat refine ats_seq ?_); refine ats_go (by first | exact fix0 hcx | exact fix1 hcx rfl | exact fixN hcx rfl) fun K hK => ?_; simp only [go_sem, seval]
    simp only [lG]
    (repeat refine And.intro (by first | omega | (intro hq; first | omega | (simp at hq <;> omega) | (simp_all <;> omega))) ?_)
    refine hK _ ?_; clear hK K
    (repeat refine ats_seq ?_); refine ats_go (by first | exact fix0 hcx | exact fix1 hcx rfl | exact fixN hcx rfl) fun K hK => ?_; simp only [go_sem, seval]; (repeat refine And.intro (by first | omega | (intro hq; first | omega | (simp at hq <;> omega) | (simp_all <;> omega))) ?_); refine hK _ ?_; clear hK K
    (repeat refine ats_seq ?_); first | refine ats_ifn (p := _) rfl trivial (fun h => ?_) (fun h => ?_) | refine ats_ifp (p := _) rfl trivial (fun h => ?_) (fun h => ?_) | refine ats_cond rfl trivial (fun h => ?_) (fun h => ?_)
    · (repeat refine ats_seq ?_); refine ats_go (by first | exact fix0 hcx | exact fix1 hcx rfl | exact fixN hcx rfl) fun K hK => ?_; simp only [go_sem, seval]; (repeat refine And.intro (by first | omega | (intro hq; first | omega | (simp at hq <;> omega) | (simp_all <;> omega))) ?_); refine hK _ ?_; clear hK K
      refine ats_ret ⟨⟨[(0, .agg [.l1 o, .int M, .l3 w]), (1, .fn 29 [.bptr 0 0]), (4, .bool false)], [(0, .bx [.nil, .int 0, .nil, .nil])]⟩, ghost_trans (ghost_drop [1, 2, 3]) (ghost_can [] (by simp only [killL, killA, killAs, qOf, rmT, killH, killT, List.filter_cons, List.filter_nil, List.contains_cons, List.contains_nil, Bool.or_false, Bool.or_true, Bool.false_and, Bool.not_true, Bool.not_false, Bool.false_eq_true, if_true, if_false, rnLs, rnL, rn, rns, sw, SlotsLe, St.get, slotGet, List.map_cons, List.map_nil, seval, AV.int.injEq, AV.bool.injEq, AV.l1.injEq, AV.l2.injEq, AV.l3.injEq, true_and, and_true]) (by simp only [killL, killA, killAs, qOf, rmT, killH, killT, List.filter_cons, List.filter_nil, List.contains_cons, List.contains_nil, Bool.or_false, Bool.or_true, Bool.false_and, Bool.not_true, Bool.not_false, Bool.false_eq_true, if_true, if_false, sortH, insH, rnHs, rnH, rnT, rn, rns, sw, List.map_cons, List.map_nil, seval])), .inr rfl, (by first | rfl | exact ⟨trivial, rfl⟩ | (simp only [resL, resA, go_sem, seval]; done)), (by simp [St.get, slotGet, argSlots]), rfl⟩
    · omega
  · obtain ⟨r, er⟩ : ∃ r, o.length = r := ⟨_, rfl⟩
    have rr : r * r ≤ 9 := by have := Nat.mul_le_mul (show r ≤ 3 by omega) (show r ≤ 3 by omega); omega
    obtain ⟨d, ed⟩ : ∃ d, r * r = d := ⟨_, rfl⟩
    have edI : (r : Int) * (r : Int) = (d : Int) := by rw [← ed]; push_cast; rfl
    rw [er] at lG
    simp only [er, ed] at rr ⊢
    rw [er] at h3
    by_cases hm : 20000 < pw d
    · simp only [hm, decide_true, Bool.or_true, Bool.not_true, if_true]
      refine OwnCall.intro (n := 105) (rs := [.tmp 4]) 2 [0, 1] (X := [0]) Try.call24 Try.func24 rfl rfl rfl (by simp only [List.length_cons, List.length_nil]; omega) (by simp [Aw.ids, rootsA, rootsAs, argSlots, slotGet]) (fun cx hcx => AT.weakG (ats_of ?_)); simp only [argSlots, Nat.zero_add, Nat.reduceAdd]
      (repeat refine ats_seq ?_); refine ats_go (by first | exact fix0 hcx | exact fix1 hcx rfl | exact fixN hcx rfl) fun K hK => ?_; simp only [go_sem, seval]; (repeat refine And.intro (by first | omega | (intro hq; first | omega | (simp at hq <;> omega) | (simp_all <;> omega))) ?_); refine hK _ ?_; clear hK K
      (repeat refine ats_seq ?_); refine ats_go (by first | exact fix0 hcx | exact fix1 hcx rfl | exact fixN hcx rfl) fun K hK => ?_; simp only [go_sem, seval]
      (repeat refine And.intro (by first | omega | (intro hq; first | omega | (simp at hq <;> omega) | (simp_all <;> omega))) ?_)
      first | refine fcall_fresh rfl (hG) ?_ | refine YR_intro (acall_fresh rfl (hG)) ?_
      simp only [go_sem, seval]
      (repeat refine And.intro (by first | omega | (intro hq; first | omega | (simp at hq <;> omega) | (simp_all <;> omega))) ?_)
      refine hK _ ?_; clear hK K
      (repeat refine ats_seq ?_); refine ats_go (by first | exact fix0 hcx | exact fix1 hcx rfl | exact fixN hcx rfl) fun K hK => ?_; simp only [go_sem, seval]
      simp only [lG]
      (repeat refine And.intro (by first | omega | (intro hq; first | omega | (simp at hq <;> omega) | (simp_all <;> omega))) ?_)
      refine hK _ ?_; clear hK K
      (repeat refine ats_seq ?_); refine ats_go (by first | exact fix0 hcx | exact fix1 hcx rfl | exact fixN hcx rfl) fun K hK => ?_; simp only [go_sem, seval]; (repeat refine And.intro (by first | omega | (intro hq; first | omega | (simp at hq <;> omega) | (simp_all <;> omega))) ?_); refine hK _ ?_; clear hK K
      (repeat refine ats_seq ?_); first | refine ats_ifn (p := _) rfl trivial (fun h => ?_) (fun h => ?_) | refine ats_ifp (p := _) rfl trivial (fun h => ?_) (fun h => ?_) | refine ats_cond rfl trivial (fun h => ?_) (fun h => ?_)
      · omega
      · refine ats_skip ?_
        (repeat refine ats_seq ?_); refine ats_go (by first | exact fix0 hcx | exact fix1 hcx rfl | exact fixN hcx rfl) fun K hK => ?_; simp only [go_sem, seval]
        simp only [edI]
        (repeat refine And.intro (by first | omega | (intro hq; first | omega | (simp at hq <;> omega) | (simp_all <;> omega))) ?_)
        refine hK _ ?_; clear hK K
        (repeat refine ats_seq ?_); refine ats_loop (fun j : Nat => ⟨[(0, .agg [.l1 o, .int M, .l3 w]), (1, .fn 29 [.bptr 0 0]), (2, .bptr 1 0), (7, .int (pw j)), (22, .int d), (23, .int j)], [(0, .bx [.nil, .int 0, .nil, .nil]), (1, .bx [.l1 o, .int M, .l3 w]), (2, .bx [.l1 g]), (3, .bx [.int r])]⟩) (fun j => j ≤ d ∧ pw j ≤ 20000) (fun j => d - j) 0 ⟨Nat.zero_le _, by omega⟩ (by
          rw [p0]
          refine And.intro ?_ rfl; simp only [SlotsLe, St.get, slotGet, Nat.reduceEqDiff, ↓reduceIte, AV.int.injEq, AV.bool.injEq, AV.l1.injEq, AV.l2.injEq, AV.l3.injEq, true_and, and_true]
          try first | exact ⟨rfl, rfl⟩ | rfl) (fun j hj => ?_)
        obtain ⟨hj, pj⟩ := hj
        have pj4 := p4 j
        (repeat refine ats_seq ?_); refine ats_go (by first | exact fix0 hcx | exact fix1 hcx rfl | exact fixN hcx rfl) fun K hK => ?_; simp only [go_sem, seval]; (repeat refine And.intro (by first | omega | (intro hq; first | omega | (simp at hq <;> omega) | (simp_all <;> omega))) ?_); refine hK _ ?_; clear hK K
        (repeat refine ats_seq ?_); first | refine ats_ifn (p := _) rfl trivial (fun h1 => ?_) (fun h1 => ?_) | refine ats_ifp (p := _) rfl trivial (fun h1 => ?_) (fun h1 => ?_) | refine ats_cond rfl trivial (fun h1 => ?_) (fun h1 => ?_)
        · have pj1 := pm2 (j + 1) d (by omega)
          refine ats_skip ?_
          (repeat refine ats_seq ?_); refine ats_block ?_
          (repeat refine ats_seq ?_); refine ats_go (by first | exact fix0 hcx | exact fix1 hcx rfl | exact fixN hcx rfl) fun K hK => ?_; simp only [go_sem, seval]
          simp only [psI]
          (repeat refine And.intro (by first | omega | (intro hq; first | omega | (simp at hq <;> omega) | (simp_all <;> omega))) ?_)
          refine hK _ ?_; clear hK K
          (repeat refine ats_seq ?_); refine ats_go (by first | exact fix0 hcx | exact fix1 hcx rfl | exact fixN hcx rfl) fun K hK => ?_; simp only [go_sem, seval]; (repeat refine And.intro (by first | omega | (intro hq; first | omega | (simp at hq <;> omega) | (simp_all <;> omega))) ?_); refine hK _ ?_; clear hK K
          (repeat refine ats_seq ?_); first | refine ats_ifn (p := _) rfl trivial (fun h2 => ?_) (fun h2 => ?_) | refine ats_ifp (p := _) rfl trivial (fun h2 => ?_) (fun h2 => ?_) | refine ats_cond rfl trivial (fun h2 => ?_) (fun h2 => ?_)
          · (repeat refine ats_seq ?_); refine ats_go (by first | exact fix0 hcx | exact fix1 hcx rfl | exact fixN hcx rfl) fun K hK => ?_; simp only [go_sem, seval]; (repeat refine And.intro (by first | omega | (intro hq; first | omega | (simp at hq <;> omega) | (simp_all <;> omega))) ?_); refine hK _ ?_; clear hK K
            refine ats_ret ⟨⟨[(0, .agg [.l1 o, .int M, .l3 w]), (1, .fn 29 [.bptr 0 0]), (4, .bool false)], [(0, .bx [.nil, .int 0, .nil, .nil])]⟩, ghost_trans (ghost_drop [1, 2, 3]) (ghost_can [] (by simp only [killL, killA, killAs, qOf, rmT, killH, killT, List.filter_cons, List.filter_nil, List.contains_cons, List.contains_nil, Bool.or_false, Bool.or_true, Bool.false_and, Bool.not_true, Bool.not_false, Bool.false_eq_true, if_true, if_false, rnLs, rnL, rn, rns, sw, SlotsLe, St.get, slotGet, List.map_cons, List.map_nil, seval, AV.int.injEq, AV.bool.injEq, AV.l1.injEq, AV.l2.injEq, AV.l3.injEq, true_and, and_true]) (by simp only [killL, killA, killAs, qOf, rmT, killH, killT, List.filter_cons, List.filter_nil, List.contains_cons, List.contains_nil, Bool.or_false, Bool.or_true, Bool.false_and, Bool.not_true, Bool.not_false, Bool.false_eq_true, if_true, if_false, sortH, insH, rnHs, rnH, rnT, rn, rns, sw, List.map_cons, List.map_nil, seval])), .inr rfl, (by first | rfl | exact ⟨trivial, rfl⟩ | (simp only [resL, resA, go_sem, seval]; done)), (by simp [St.get, slotGet, argSlots]), rfl⟩
          · refine ats_skip ?_
            (repeat refine ats_seq ?_); refine ats_go (by first | exact fix0 hcx | exact fix1 hcx rfl | exact fixN hcx rfl) fun K hK => ?_; simp only [go_sem, seval]; (repeat refine And.intro (by first | omega | (intro hq; first | omega | (simp at hq <;> omega) | (simp_all <;> omega))) ?_); refine hK _ ?_; clear hK K
            refine ⟨j + 1,  ⟨by omega, by omega⟩, by omega, .inl ⟨by simp only [SlotsLe, St.get, slotGet, Nat.reduceEqDiff, ↓reduceIte, AV.int.injEq, AV.bool.injEq, AV.l1.injEq, AV.l2.injEq, AV.l3.injEq, true_and, and_true]; (try omega),  rfl⟩⟩
        · obtain rfl : j = d := by omega
          omega
    · simp only [h3, hm, decide_false, Bool.or_false, Bool.not_false, Bool.false_eq_true, if_false]
      have hk := chk_ok hs.1 hs.2.1 (show o.length ≤ 3 by omega)
      have M0 : 0 < M := by omega
      have hr0 : 0 < r := by rw [← er]; exact hs.1.1
      have hq : (o.length = r) := er
      have eM : M ^ d = pw d := by rw [epw]
      rw [eM]
      obtain ⟨T1, eT1⟩ : ∃ T1, fbT o M w (first (pw d) fun c => pOk o M w (cdL M d c)) = T1 := ⟨_, rfl⟩
      have hT0 : 0 ∈ Aw.ids T1 := by rw [← eT1]; exact fbT_mem _
      rw [eT1]
      have hno0 : ∀ c, c < 0 → pOk o M w (cdL M d c) = none := fun c h => absurd h (Nat.not_lt_zero c)
      refine OwnCall.introD (n := 105) (rs := [.tmp 4]) 2 [0, 1] (X := [0]) Try.call24 Try.func24 rfl rfl rfl (by simp only [List.length_cons, List.length_nil]; omega) (by intro i hi; simp only [List.mem_singleton] at hi; subst hi; exact ⟨hT0, 1, by simp, by decide, by simp [rootsA, rootsAs, argSlots, slotGet]⟩) (fun cx hcx hrd => ?_)
      have hcxA := hcx
      simp only [argSlots, Nat.zero_add, Nat.reduceAdd]
      refine atd_take [_, _, _, _, _] ⟨[(0, .agg [.l1 o, .int M, .l3 w]), (1, .fn 29 [.bptr 0 0]), (2, .bptr 1 0), (5, .bptr 2 0), (6, .bptr 3 0), (7, .int (pw d))], [(0, .bx [.nil, .int 0, .nil, .nil]), (1, .bx [.l1 o, .int M, .l3 w]), (2, .bx [.l1 g]), (3, .bx [.int r])]⟩ (fun cx hf => ?_) ?_
      · replace hcx := hf.trans hcx
        (repeat refine ats_seq ?_); refine ats_go (by first | exact fix0 hcx | exact fix1 hcx rfl | exact fixN hcx rfl) fun K hK => ?_; simp only [go_sem, seval]; (repeat refine And.intro (by first | omega | (intro hq; first | omega | (simp at hq <;> omega) | (simp_all <;> omega))) ?_); refine hK _ ?_; clear hK K
        (repeat refine ats_seq ?_); refine ats_go (by first | exact fix0 hcx | exact fix1 hcx rfl | exact fixN hcx rfl) fun K hK => ?_; simp only [go_sem, seval]
        (repeat refine And.intro (by first | omega | (intro hq; first | omega | (simp at hq <;> omega) | (simp_all <;> omega))) ?_)
        first | refine fcall_fresh rfl (hG) ?_ | refine YR_intro (acall_fresh rfl (hG)) ?_
        simp only [go_sem, seval]
        (repeat refine And.intro (by first | omega | (intro hq; first | omega | (simp at hq <;> omega) | (simp_all <;> omega))) ?_)
        refine hK _ ?_; clear hK K
        (repeat refine ats_seq ?_); refine ats_go (by first | exact fix0 hcx | exact fix1 hcx rfl | exact fixN hcx rfl) fun K hK => ?_; simp only [go_sem, seval]
        simp only [lG]
        (repeat refine And.intro (by first | omega | (intro hq; first | omega | (simp at hq <;> omega) | (simp_all <;> omega))) ?_)
        refine hK _ ?_; clear hK K
        (repeat refine ats_seq ?_); refine ats_go (by first | exact fix0 hcx | exact fix1 hcx rfl | exact fixN hcx rfl) fun K hK => ?_; simp only [go_sem, seval]; (repeat refine And.intro (by first | omega | (intro hq; first | omega | (simp at hq <;> omega) | (simp_all <;> omega))) ?_); refine hK _ ?_; clear hK K
        (repeat refine ats_seq ?_); first | refine ats_ifn (p := _) rfl trivial (fun h => ?_) (fun h => ?_) | refine ats_ifp (p := _) rfl trivial (fun h => ?_) (fun h => ?_) | refine ats_cond rfl trivial (fun h => ?_) (fun h => ?_)
        · omega
        · refine ats_skip ?_
          (repeat refine ats_seq ?_); refine ats_go (by first | exact fix0 hcx | exact fix1 hcx rfl | exact fixN hcx rfl) fun K hK => ?_; simp only [go_sem, seval]
          simp only [edI]
          (repeat refine And.intro (by first | omega | (intro hq; first | omega | (simp at hq <;> omega) | (simp_all <;> omega))) ?_)
          refine hK _ ?_; clear hK K
          (repeat refine ats_seq ?_); refine ats_loop (fun j : Nat => ⟨[(0, .agg [.l1 o, .int M, .l3 w]), (1, .fn 29 [.bptr 0 0]), (2, .bptr 1 0), (5, .bptr 2 0), (6, .bptr 3 0), (7, .int (pw j)), (22, .int d), (23, .int j)], [(0, .bx [.nil, .int 0, .nil, .nil]), (1, .bx [.l1 o, .int M, .l3 w]), (2, .bx [.l1 g]), (3, .bx [.int r])]⟩) (fun j => j ≤ d) (fun j => d - j) 0 (Nat.zero_le _) (by
            rw [p0]
            refine And.intro ?_ rfl; simp only [SlotsLe, St.get, slotGet, Nat.reduceEqDiff, ↓reduceIte, AV.int.injEq, AV.bool.injEq, AV.l1.injEq, AV.l2.injEq, AV.l3.injEq, true_and, and_true]
            try first | exact ⟨rfl, rfl⟩ | rfl) (fun j hj => ?_)
          have pj := pm2 j d hj
          have pj4 := p4 j
          (repeat refine ats_seq ?_); refine ats_go (by first | exact fix0 hcx | exact fix1 hcx rfl | exact fixN hcx rfl) fun K hK => ?_; simp only [go_sem, seval]; (repeat refine And.intro (by first | omega | (intro hq; first | omega | (simp at hq <;> omega) | (simp_all <;> omega))) ?_); refine hK _ ?_; clear hK K
          (repeat refine ats_seq ?_); first | refine ats_ifn (p := _) rfl trivial (fun h1 => ?_) (fun h1 => ?_) | refine ats_ifp (p := _) rfl trivial (fun h1 => ?_) (fun h1 => ?_) | refine ats_cond rfl trivial (fun h1 => ?_) (fun h1 => ?_)
          · have pj1 := pm2 (j + 1) d (by omega)
            refine ats_skip ?_
            (repeat refine ats_seq ?_); refine ats_block ?_
            (repeat refine ats_seq ?_); refine ats_go (by first | exact fix0 hcx | exact fix1 hcx rfl | exact fixN hcx rfl) fun K hK => ?_; simp only [go_sem, seval]
            simp only [psI]
            (repeat refine And.intro (by first | omega | (intro hq; first | omega | (simp at hq <;> omega) | (simp_all <;> omega))) ?_)
            refine hK _ ?_; clear hK K
            (repeat refine ats_seq ?_); refine ats_go (by first | exact fix0 hcx | exact fix1 hcx rfl | exact fixN hcx rfl) fun K hK => ?_; simp only [go_sem, seval]; (repeat refine And.intro (by first | omega | (intro hq; first | omega | (simp at hq <;> omega) | (simp_all <;> omega))) ?_); refine hK _ ?_; clear hK K
            (repeat refine ats_seq ?_); first | refine ats_ifn (p := _) rfl trivial (fun h2 => ?_) (fun h2 => ?_) | refine ats_ifp (p := _) rfl trivial (fun h2 => ?_) (fun h2 => ?_) | refine ats_cond rfl trivial (fun h2 => ?_) (fun h2 => ?_)
            · omega
            · refine ats_skip ?_
              (repeat refine ats_seq ?_); refine ats_go (by first | exact fix0 hcx | exact fix1 hcx rfl | exact fixN hcx rfl) fun K hK => ?_; simp only [go_sem, seval]; (repeat refine And.intro (by first | omega | (intro hq; first | omega | (simp at hq <;> omega) | (simp_all <;> omega))) ?_); refine hK _ ?_; clear hK K
              refine ⟨j + 1,  by omega, by omega, .inl ⟨by simp only [SlotsLe, St.get, slotGet, Nat.reduceEqDiff, ↓reduceIte, AV.int.injEq, AV.bool.injEq, AV.l1.injEq, AV.l2.injEq, AV.l3.injEq, true_and, and_true]; (try omega),  rfl⟩⟩
          · obtain rfl : j = d := by omega
            refine ats_exit (lq_x ?_)
            refine ats_nil ?_; refine Or.inl ⟨rfl, ghost_trans (ghost_drop []) (ghost_can [] (by simp only [killL, killA, killAs, qOf, rmT, killH, killT, List.filter_cons, List.filter_nil, List.contains_cons, List.contains_nil, Bool.or_false, Bool.or_true, Bool.false_and, Bool.not_true, Bool.not_false, Bool.false_eq_true, if_true, if_false, rnLs, rnL, rn, rns, sw, SlotsLe, St.get, slotGet, List.map_cons, List.map_nil, seval, AV.int.injEq, AV.bool.injEq, AV.l1.injEq, AV.l2.injEq, AV.l3.injEq, true_and, and_true]) (by simp only [killL, killA, killAs, qOf, rmT, killH, killT, List.filter_cons, List.filter_nil, List.contains_cons, List.contains_nil, Bool.or_false, Bool.or_true, Bool.false_and, Bool.not_true, Bool.not_false, Bool.false_eq_true, if_true, if_false, sortH, insH, rnHs, rnH, rnT, rn, rns, sw, List.map_cons, List.map_nil, seval]))⟩
      · refine atds_of ?_
        (repeat refine atds_seq ?_)
        refine atds_cutG ⟨[(0, .agg [.l1 o, .int M, .l3 w]), (1, .fn 29 [.bptr 0 0]), (2, .bptr 1 0), (5, .bptr 2 0), (6, .bptr 3 0), (32, .int (pw d)), (33, .int 0)], [(0, .bx [.nil, .int 0, .nil, .nil]), (1, .bx [.l1 o, .int M, .l3 w]), (2, .bx [.l1 g]), (3, .bx [.int r])]⟩ (fun cx hf => ?_) ?_
        · replace hcx := hf.trans hcx
          (repeat refine ats_seq ?_); refine ats_go (by first | exact fix0 hcx | exact fix1 hcx rfl | exact fixN hcx rfl) fun K hK => ?_; simp only [go_sem, seval]; (repeat refine And.intro (by first | omega | (intro hq; first | omega | (simp at hq <;> omega) | (simp_all <;> omega))) ?_); refine hK _ ?_; clear hK K
          refine ats_nil ?_; refine Or.inl ⟨rfl, ghost_trans (ghost_drop []) (ghost_can [] (by simp only [killL, killA, killAs, qOf, rmT, killH, killT, List.filter_cons, List.filter_nil, List.contains_cons, List.contains_nil, Bool.or_false, Bool.or_true, Bool.false_and, Bool.not_true, Bool.not_false, Bool.false_eq_true, if_true, if_false, rnLs, rnL, rn, rns, sw, SlotsLe, St.get, slotGet, List.map_cons, List.map_nil, seval, AV.int.injEq, AV.bool.injEq, AV.l1.injEq, AV.l2.injEq, AV.l3.injEq, true_and, and_true]) (by simp only [killL, killA, killAs, qOf, rmT, killH, killT, List.filter_cons, List.filter_nil, List.contains_cons, List.contains_nil, Bool.or_false, Bool.or_true, Bool.false_and, Bool.not_true, Bool.not_false, Bool.false_eq_true, if_true, if_false, sortH, insH, rnHs, rnH, rnT, rn, rns, sw, List.map_cons, List.map_nil, seval]))⟩
        refine atds_loop (fun c : Nat => ⟨[(0, .agg [.l1 o, .int M, .l3 w]), (1, .fn 29 [.bptr 0 0]), (2, .bptr 1 0), (5, .bptr 2 0), (6, .bptr 3 0), (32, .int (pw d)), (33, .int c)], [(0, .bx [.nil, .int 0, .nil, .nil]), (1, .bx [.l1 o, .int M, .l3 w]), (2, .bx [.l1 g]), (3, .bx [.int r])]⟩) (fun c => c ≤ pw d ∧ ∀ j, j < c → pOk o M w (cdL M d j) = none) (fun c => pw d - c) 0 ⟨Nat.zero_le _, hno0⟩ (by
          refine And.intro ?_ rfl; simp only [SlotsLe, St.get, slotGet, Nat.reduceEqDiff, ↓reduceIte, AV.int.injEq, AV.bool.injEq, AV.l1.injEq, AV.l2.injEq, AV.l3.injEq, true_and, and_true]
          try rfl) (fun c hc' => ?_)
        obtain ⟨hc', hpre⟩ := hc'
        by_cases hlt : c < pw d
        · have e0 : rowF d (dgF M d 0 c) = List.replicate d 0 := by
            rw [repl_rowF]
            refine rowF_congr fun y hy => ?_
            unfold dgF
            rw [if_neg (by omega)]
          have ec : c / M ^ 0 = c := by rw [Nat.pow_zero, Nat.div_one]
          have ef : fnB o (cdL M d c) d 0 = true := rfl
          have hba := Backward5_ok (rowF d (dgF M d 0 c))
          refine atd_take [_, _] ⟨[(0, .agg [.l1 o, .int M, .l3 w]), (1, .fn 29 [.bptr 0 0]), (2, .bptr 1 0), (5, .bptr 2 0), (6, .bptr 3 0), (32, .int (pw d)), (33, .int c)], [(0, .bx [.nil, .int 0, .nil, .nil]), (1, .bx [.l1 o, .int M, .l3 w]), (2, .bx [.l1 g]), (3, .bx [.int r])]⟩ (fun cx hf => ?_) ?_
          · replace hcx := hf.trans hcx
            (repeat refine ats_seq ?_); refine ats_go (by first | exact fix0 hcx | exact fix1 hcx rfl | exact fixN hcx rfl) fun K hK => ?_; simp only [go_sem, seval]; (repeat refine And.intro (by first | omega | (intro hq; first | omega | (simp at hq <;> omega) | (simp_all <;> omega))) ?_); refine hK _ ?_; clear hK K
            (repeat refine ats_seq ?_); first | refine ats_ifn (p := _) rfl trivial (fun h1 => ?_) (fun h1 => ?_) | refine ats_ifp (p := _) rfl trivial (fun h1 => ?_) (fun h1 => ?_) | refine ats_cond rfl trivial (fun h1 => ?_) (fun h1 => ?_)
            · refine ats_skip ?_
              refine ats_nil ?_; refine Or.inl ⟨rfl, ghost_trans (ghost_drop []) (ghost_can [] (by simp only [killL, killA, killAs, qOf, rmT, killH, killT, List.filter_cons, List.filter_nil, List.contains_cons, List.contains_nil, Bool.or_false, Bool.or_true, Bool.false_and, Bool.not_true, Bool.not_false, Bool.false_eq_true, if_true, if_false, rnLs, rnL, rn, rns, sw, SlotsLe, St.get, slotGet, List.map_cons, List.map_nil, seval, AV.int.injEq, AV.bool.injEq, AV.l1.injEq, AV.l2.injEq, AV.l3.injEq, true_and, and_true]) (by simp only [killL, killA, killAs, qOf, rmT, killH, killT, List.filter_cons, List.filter_nil, List.contains_cons, List.contains_nil, Bool.or_false, Bool.or_true, Bool.false_and, Bool.not_true, Bool.not_false, Bool.false_eq_true, if_true, if_false, sortH, insH, rnHs, rnH, rnT, rn, rns, sw, List.map_cons, List.map_nil, seval]))⟩
            · omega
          refine atds_of ?_
          refine atds_seq ?_
          refine atds_block ?_
          refine atds_of ?_
          (repeat refine atds_seq ?_)
          refine atds_cutG ⟨[(0, .agg [.l1 o, .int M, .l3 w]), (1, .fn 29 [.bptr 0 0]), (2, .bptr 1 0), (5, .bptr 2 0), (6, .bptr 3 0), (8, .bptr 4 0), (32, .int (pw d)), (33, .int c)], [(0, .bx [.nil, .int 0, .nil, .nil]), (1, .bx [.l1 o, .int M, .l3 w]), (2, .bx [.l1 g]), (3, .bx [.int r]), (4, .bx [.int (c / M ^ 0 : Nat)])]⟩ (fun cx hf => ?_) ?_
          · replace hcx := hf.trans hcx
            rw [ec]
            (repeat refine ats_seq ?_); refine ats_go (by first | exact fix0 hcx | exact fix1 hcx rfl | exact fixN hcx rfl) fun K hK => ?_; simp only [go_sem, seval]; (repeat refine And.intro (by first | omega | (intro hq; first | omega | (simp at hq <;> omega) | (simp_all <;> omega))) ?_); refine hK _ ?_; clear hK K
            refine ats_nil ?_; refine Or.inl ⟨rfl, ghost_trans (ghost_drop []) (ghost_can [] (by simp only [killL, killA, killAs, qOf, rmT, killH, killT, List.filter_cons, List.filter_nil, List.contains_cons, List.contains_nil, Bool.or_false, Bool.or_true, Bool.false_and, Bool.not_true, Bool.not_false, Bool.false_eq_true, if_true, if_false, rnLs, rnL, rn, rns, sw, SlotsLe, St.get, slotGet, List.map_cons, List.map_nil, seval, AV.int.injEq, AV.bool.injEq, AV.l1.injEq, AV.l2.injEq, AV.l3.injEq, true_and, and_true]) (by simp only [killL, killA, killAs, qOf, rmT, killH, killT, List.filter_cons, List.filter_nil, List.contains_cons, List.contains_nil, Bool.or_false, Bool.or_true, Bool.false_and, Bool.not_true, Bool.not_false, Bool.false_eq_true, if_true, if_false, sortH, insH, rnHs, rnH, rnT, rn, rns, sw, List.map_cons, List.map_nil, seval]))⟩
          (repeat refine atds_seq ?_)
          refine atds_cutG ⟨[(0, .agg [.l1 o, .int M, .l3 w]), (1, .fn 29 [.bptr 0 0]), (2, .bptr 1 0), (5, .bptr 2 0), (6, .bptr 3 0), (8, .bptr 4 0), (9, .bptr 6 0), (10, .bptr 7 0), (32, .int (pw d)), (33, .int c)], [(0, .bx [.nil, .int 0, .nil, .nil]), (1, .bx [.l1 o, .int M, .l3 w]), (2, .bx [.l1 g]), (3, .bx [.int r]), (4, .bx [.int (c / M ^ 0 : Nat)]), (5, .t1 (rowF d (dgF M d 0 c))), (6, .bx [.ref 5 []]), (7, .bx [.bool (fnB o (cdL M d c) d 0)])]⟩ (fun cx hf => ?_) ?_
          · replace hcx := hf.trans hcx
            rw [e0, ef]
            (repeat refine ats_seq ?_); refine ats_go (by first | exact fix0 hcx | exact fix1 hcx rfl | exact fixN hcx rfl) fun K hK => ?_; simp only [go_sem, seval]
            simp only [edI, Int.toNat_natCast]
            (repeat refine And.intro (by first | omega | (intro hq; first | omega | (simp at hq <;> omega) | (simp_all <;> omega))) ?_)
            refine hK _ ?_; clear hK K
            refine ats_nil ?_; refine Or.inl ⟨rfl, ghost_trans (ghost_drop []) (ghost_can [] (by simp only [killL, killA, killAs, qOf, rmT, killH, killT, List.filter_cons, List.filter_nil, List.contains_cons, List.contains_nil, Bool.or_false, Bool.or_true, Bool.false_and, Bool.not_true, Bool.not_false, Bool.false_eq_true, if_true, if_false, rnLs, rnL, rn, rns, sw, SlotsLe, St.get, slotGet, List.map_cons, List.map_nil, seval, AV.int.injEq, AV.bool.injEq, AV.l1.injEq, AV.l2.injEq, AV.l3.injEq, true_and, and_true]) (by simp only [killL, killA, killAs, qOf, rmT, killH, killT, List.filter_cons, List.filter_nil, List.contains_cons, List.contains_nil, Bool.or_false, Bool.or_true, Bool.false_and, Bool.not_true, Bool.not_false, Bool.false_eq_true, if_true, if_false, sortH, insH, rnHs, rnH, rnT, rn, rns, sw, List.map_cons, List.map_nil, seval]))⟩
          (repeat refine atds_seq ?_)
          refine atds_cutG ⟨[(0, .agg [.l1 o, .int M, .l3 w]), (1, .fn 29 [.bptr 0 0]), (2, .bptr 1 0), (5, .bptr 2 0), (6, .bptr 3 0), (8, .bptr 4 0), (9, .bptr 6 0), (10, .bptr 7 0), (32, .int (pw d)), (33, .int c), (41, .fn 76 [.bptr 8 0])], [(0, .bx [.nil, .int 0, .nil, .nil]), (1, .bx [.l1 o, .int M, .l3 w]), (2, .bx [.l1 g]), (3, .bx [.int r]), (4, .bx [.int (c / M ^ 0 : Nat)]), (5, .t1 (rowF d (dgF M d 0 c))), (6, .bx [.ref 5 []]), (7, .bx [.bool (fnB o (cdL M d c) d 0)]), (8, .bx [.ref 5 []])]⟩ (fun cx hf => ?_) ?_
          · replace hcx := hf.trans hcx
            (repeat refine ats_seq ?_); refine ats_go (by first | exact fix0 hcx | exact fix1 hcx rfl | exact fixN hcx rfl) fun K hK => ?_; simp only [go_sem, seval]
            refine fcall_box (hba) (by simp [Aw.ids]) (by simp [find]) (by simp [closedT, killT, killAs, killA, outQ, Aw.ids]) (by simp [killAs, killA, outQ, Aw.ids]) (by simp [Aw.ids]) ?_; simp only [Aw.ids, List.map_cons, List.map_nil, List.filter_cons, List.filter_nil, List.contains_cons, List.contains_nil, Bool.or_false, Bool.or_true, Bool.not_true, Bool.not_false, Nat.reduceBEq, Bool.false_eq_true, if_true, if_false, List.cons_append, List.nil_append]; simp only [go_sem, seval]
            refine hK _ ?_; clear hK K
            refine ats_nil ?_; refine Or.inl ⟨rfl, ghost_trans (ghost_drop []) (ghost_can [] (by simp only [killL, killA, killAs, qOf, rmT, killH, killT, List.filter_cons, List.filter_nil, List.contains_cons, List.contains_nil, Bool.or_false, Bool.or_true, Bool.false_and, Bool.not_true, Bool.not_false, Bool.false_eq_true, if_true, if_false, rnLs, rnL, rn, rns, sw, SlotsLe, St.get, slotGet, List.map_cons, List.map_nil, seval, AV.int.injEq, AV.bool.injEq, AV.l1.injEq, AV.l2.injEq, AV.l3.injEq, true_and, and_true]) (by simp only [killL, killA, killAs, qOf, rmT, killH, killT, List.filter_cons, List.filter_nil, List.contains_cons, List.contains_nil, Bool.or_false, Bool.or_true, Bool.false_and, Bool.not_true, Bool.not_false, Bool.false_eq_true, if_true, if_false, sortH, insH, rnHs, rnH, rnT, rn, rns, sw, List.map_cons, List.map_nil, seval]))⟩
          refine atds_block ?_
          refine ATD.back (fB := 76) backIt_ok Try.call76 hrd (gs := 41) (p0 := 42) (p1 := 43) d (fun x => [(0, .bx [.nil, .int 0, .nil, .nil]), (1, .bx [.l1 o, .int M, .l3 w]), (2, .bx [.l1 g]), (3, .bx [.int r]), (4, .bx [.int (c / M ^ x : Nat)]), (5, .t1 (rowF d (dgF M d x c))), (6, .bx [.ref 5 []]), (7, .bx [.bool (fnB o (cdL M d c) d x)]), (8, .bx [.ref 5 []])]) (fun x => (rowF d (dgF M d x c)).getD (d - 1 - x) 0) (fun j => [0, 1, 2, 5, 6, 8, 9, 10, 32, 33, 41].contains j) (by unfold maxLen; omega) rfl rfl rfl (by decide) (by decide) (by decide) (capOk rfl) (elOkA (fun x => rowF_length ..) rfl (fun x => rfl) (fun x => rfl)) (fun x hx c2 hf2 => ?_) ?_
          · have hcx := hf2
            refine ats_of ?_
            (repeat refine ats_seq ?_); refine ats_go (by first | exact fix0 hcx | exact fix1 hcx rfl | exact fixN hcx rfl) fun K hK => ?_; simp only [go_sem, seval]; (repeat refine And.intro (by first | omega | (intro hq; first | omega | (simp at hq <;> omega) | (simp_all <;> omega))) ?_); refine hK _ ?_; clear hK K
            refine ⟨rfl, fun cx hf => ?_⟩
            have hcx := hf
            refine AT.weakG (ats_of ?_)
            have lr : (rowF d (dgF M d x c)).length = d := rowF_length ..
            have em : (((c / M ^ x : Nat) : Int)).tmod (M : Int) = ((c / M ^ x % M : Nat) : Int) := rfl
            have ed' : (((c / M ^ x : Nat) : Int)).tdiv (M : Int) = ((c / M ^ x / M : Nat) : Int) := rfl
            have q1 := Nat.div_le_self c (M ^ x)
            have q2 := Nat.mod_lt (c / M ^ x) M0
            have q3 := Nat.div_le_self (c / M ^ x) M
            obtain ⟨Q, eQ⟩ : ∃ Q : Nat, c / M ^ x = Q := ⟨_, rfl⟩
            have sx : (rowF d (dgF M d x c)).set (d - 1 - x) ((Q % M : Nat) : Int) = rowF d (dgF M d (x + 1) c) := by
              rw [← eQ, rowF_set]
              refine rowF_congr fun y hy => ?_
              unfold dgF dgt
              by_cases e : y = d - 1 - x
              · rw [if_pos e, if_pos (by omega), show d - 1 - y = x by omega]
              · rw [if_neg e]
                by_cases h : d ≤ y + x
                · rw [if_pos h, if_pos (by omega)]
                · rw [if_neg h, if_neg (by omega)]
            have nx : Q / M = c / M ^ (x + 1) := by rw [← eQ, Nat.div_div_eq_div_mul, Nat.pow_succ]
            rw [eQ] at em ed' q1 q2 q3 ⊢
            have m1 : -9223372036854775808 ≤ ((Q : Nat) : Int).tmod (M : Int) := by rw [em]; omega
            have m2 : ((Q : Nat) : Int).tmod (M : Int) ≤ 9223372036854775807 := by rw [em]; omega
            have q4 := Int.natCast_nonneg (Q / M)
            have d1 : -9223372036854775808 ≤ ((Q : Nat) : Int).tdiv (M : Int) := by rw [ed']; omega
            have d2 : ((Q : Nat) : Int).tdiv (M : Int) ≤ 9223372036854775807 := by rw [ed']; omega
            rw [← em] at sx
            (repeat refine ats_seq ?_); refine ats_block ?_
            (repeat refine ats_seq ?_)
            refine ats_plan [] (.one 0 (.one 1 (.one 2 (.one 3 (.one 4 (.one 5 (.one 6 (.alt 7 .fin .stop)))))))) ⟨[(0, .agg [.l1 o, .int M, .l3 w]), (1, .fn 29 [.bptr 0 0]), (2, .bptr 1 0), (5, .bptr 2 0), (6, .bptr 3 0), (8, .bptr 4 0), (9, .bptr 6 0), (10, .bptr 7 0), (32, .int (pw d)), (33, .int c), (41, .fn 76 [.bptr 8 0]), (11, .int (d - 1 - x : Nat))], [(0, .bx [.nil, .int 0, .nil, .nil]), (1, .bx [.l1 o, .int M, .l3 w]), (2, .bx [.l1 g]), (3, .bx [.int r]), (4, .bx [.int Q]), (5, .t1 ((rowF d (dgF M d x c)).set (d - 1 - x) (Int.tmod (Q : Int) (M : Int)))), (6, .bx [.ref 5 []]), (7, .bx [.bool (fnB o (cdL M d c) d x)]), (8, .bx [.ref 5 []])]⟩ (by first | exact fix0 hcx | exact fixN hcx rfl) mixed (by kernel_rfl) (fun K hK => ?_) ?_
            · simp only [go_sem, seval, Option.getD_some, and_true, true_and, and_self, List.contains_cons, List.contains_nil, Bool.or_false, Bool.or_true]
              repeat' (first | exact hK _ (by refine And.intro ?_ rfl; simp only [SlotsLe, St.get, slotGet, Nat.reduceEqDiff, ↓reduceIte, AV.int.injEq, AV.bool.injEq, AV.l1.injEq, AV.l2.injEq, AV.l3.injEq, true_and, and_true])  | with_reducible refine And.intro ?_ ?_ | omega | ((exact m1)) | ((exact m2)))
            rw [sx]
            (repeat refine ats_seq ?_); refine ats_go (by first | exact fix0 hcx | exact fix1 hcx rfl | exact fixN hcx rfl) fun K hK => ?_; simp only [go_sem, seval]
            (repeat refine And.intro (by first | omega | (with_reducible exact d1) | (with_reducible exact d2)) ?_)
            refine hK _ ?_
            rw [ed', nx]
            clear hK K
            have lv : (rowF d (dgF M d (x + 1) c)).getD (d - 1 - x) 0 = (cdL M d c).getD (d - 1 - x) 0 := by
              unfold cdL
              rw [rowF_get (by omega), rowF_get (by omega)]
              unfold dgF
              rw [if_pos (by omega)]
            have lr1 : (rowF d (dgF M d (x + 1) c)).length = d := rowF_length ..
            have r0 : 0 < r := hr0
            have i1 : (d - 1 - x) / r < r := Nat.div_lt_of_lt_mul (by omega)
            have i2 := Nat.mod_lt (d - 1 - x) r0
            have g1 := gG _ (by rw [er]; exact i1)
            have g2 := gG _ (by rw [er]; exact i2)
            have c1 : (((d - 1 - x : Nat) : Int)).tdiv (r : Int) = (((d - 1 - x) / r : Nat) : Int) := rfl
            have c2 : (((d - 1 - x : Nat) : Int)).tmod (r : Int) = (((d - 1 - x) % r : Nat) : Int) := rfl
            have ff : fnB o (cdL M d c) d (x + 1) = (fnB o (cdL M d c) d x && (decide ((cdL M d c).getD (d - 1 - x) 0 = 0) || !decide (((own o ((d - 1 - x) / r) : Nat) : Int) = 0) && !decide (((own o ((d - 1 - x) % r) : Nat) : Int) = 0))) := by
              show (_ && _) = _
              rw [er]
            obtain ⟨A, eA⟩ : ∃ A, (d - 1 - x) / r = A := ⟨_, rfl⟩
            obtain ⟨B, eB⟩ : ∃ B, (d - 1 - x) % r = B := ⟨_, rfl⟩
            rw [eA] at i1 g1 c1 ff
            rw [eB] at i2 g2 c2 ff
            rw [ff]
            (repeat refine ats_seq ?_)
            refine ats_plan [] (.one 0 (.one 1 (.one 2 (.one 3 (.one 4 (.one 5 (.one 6 (.one 7 (.one 8 (.one 9 (.one 10 (.one 11 (.one 12 (.one 13 (.one 14 (.one 15 (.one 16 (.one 17 (.one 18 (.one 19 (.one 20 (.one 21 (.one 22 (.one 23 (.one 24 (.one 25 (.alt 26 .fin .stop))))))))))))))))))))))))))) ⟨[(0, .agg [.l1 o, .int M, .l3 w]), (1, .fn 29 [.bptr 0 0]), (2, .bptr 1 0), (5, .bptr 2 0), (6, .bptr 3 0), (8, .bptr 4 0), (9, .bptr 6 0), (10, .bptr 7 0), (32, .int (pw d)), (33, .int c), (41, .fn 76 [.bptr 8 0]), (11, .int (d - 1 - x : Nat))], [(0, .bx [.nil, .int 0, .nil, .nil]), (1, .bx [.l1 o, .int M, .l3 w]), (2, .bx [.l1 g]), (3, .bx [.int r]), (4, .bx [.int (c / M ^ (x + 1) : Nat)]), (5, .t1 (rowF d (dgF M d (x + 1) c))), (6, .bx [.ref 5 []]), (7, .bx [.bool (fnB o (cdL M d c) d x && or (decide ((cdL M d c).getD (d - 1 - x) 0 = 0)) (!decide (((own o A : Nat) : Int) = 0) && !decide (((own o B : Nat) : Int) = 0)))]), (8, .bx [.ref 5 []])]⟩ (by first | exact fix0 hcx | exact fixN hcx rfl) mixed (by kernel_rfl) (fun K hK => ?_) ?_
            · simp only [go_sem, seval, Option.getD_some, and_true, true_and, and_self, List.contains_cons, List.contains_nil, Bool.or_false, Bool.or_true]
              repeat' (first | exact hK _ (by refine And.intro ?_ rfl; simp only [SlotsLe, St.get, slotGet, Nat.reduceEqDiff, ↓reduceIte, AV.int.injEq, AV.bool.injEq, AV.l1.injEq, AV.l2.injEq, AV.l3.injEq, true_and, and_true])  | with_reducible refine And.intro ?_ ?_ | omega | ((simp only [c1, c2, g1, g2, lv, lr1, Int.toNat_natCast])) | ((intro _; omega)) | ((intro h1; refine ⟨h1, fun h2 => ?_⟩; simp only [h1, h2, Bool.not_false, Bool.and_true, Bool.true_and])))
            refine ats_nil (bq_n (ats_nil ?_))
            refine ⟨_, ghost_refl, rfl, ?_, rfl⟩
            show SlotsLe _ [(0, .agg [.l1 o, .int M, .l3 w]), (1, .fn 29 [.bptr 0 0]), (2, .bptr 1 0), (5, .bptr 2 0), (6, .bptr 3 0), (8, .bptr 4 0), (9, .bptr 6 0), (10, .bptr 7 0), (32, .int (pw d)), (33, .int c), (41, .fn 76 [.bptr 8 0])]
            simp only [SlotsLe, St.get, slotGet, Nat.reduceEqDiff, ↓reduceIte, AV.int.injEq, AV.bool.injEq, AV.l1.injEq, AV.l2.injEq, AV.l3.injEq, true_and, and_true]
          · have eL : rowF d (dgF M d d c) = cdL M d c := by
              unfold cdL
              refine rowF_congr fun y hy => ?_
              unfold dgF
              rw [if_pos (by omega)]
            have lL : (cdL M d c).length = o.length * o.length := by rw [er, ed]; exact rowF_length ..
            have bL : ∀ j, j < o.length * o.length → 0 ≤ (cdL M d c).getD j 0 ∧ (cdL M d c).getD j 0 ≤ (M : Int) - 1 := fun j hj => by
              rw [er, ed] at hj
              unfold cdL
              rw [rowF_get hj]
              unfold dgt
              have := Nat.mod_lt (c / M ^ (d - 1 - j)) M0
              omega
            have hfn := fnB_fine (o := o) (L := cdL M d c)
            rw [er, ed] at hfn
            have hB := pure_of_own (byLeading_ok o M w hs hk (by omega) (cdL M d c) lL bL) (d := .agg [.l1 o, .int M, .l3 w, .l2 (bLd o M w (cdL M d c))]) rfl
            have hpk1 := fun h => pOk_pos (o := o) (m := M) (w := w) (L := cdL M d c) h
            have hpk2 := fun h => pOk_neg (o := o) (m := M) (w := w) (L := cdL M d c) h
            have hP := isPairing_ok w.length M (bLd o M w (cdL M d c)) (by omega) m1 m2
            have hib : isBr o M w (bLd o M w (cdL M d c)) = bd (BraidS o M w (bLd o M w (cdL M d c)) ∧ bfF o M w (bLd o M w (cdL M d c)) = none) := rfl
            have hnx : pOk o M w (cdL M d c) = none → ∀ j, j < c + 1 → pOk o M w (cdL M d j) = none := fun h j hj => by
              rcases Nat.lt_succ_iff_lt_or_eq.1 hj with h2 | rfl
              · exact hpre j h2
              · exact h
            have hfd : ∀ b, pOk o M w (cdL M d c) = some b → first (pw d) (fun c => pOk o M w (cdL M d c)) = some b := fun b hb => first_some hlt hpre hb
            have hBo := byLeading_ok o M w hs hk (by omega) (cdL M d c) lL bL
            obtain ⟨L, eLL⟩ : ∃ L, cdL M d c = L := ⟨_, rfl⟩
            obtain ⟨b, eb⟩ : ∃ b, bLd o M w L = b := ⟨_, rfl⟩
            rw [eL]
            simp only [eLL, eb] at hfn hB hBo hpk1 hpk2 hP hib hnx hfd ⊢
            refine atds_last fun cx hf => ?_
            replace hcx := hf.trans hcxA
            refine ats_of ?_
            cases hF : fnB o L d d with
            | false =>
              have hno : pOk o M w L = none := by
                refine hpk2 fun h => ?_
                have := hfn.2 h.1
                rw [hF] at this
                cases this
              skip
              (repeat refine ats_seq ?_); refine ats_go (by first | exact fix0 hcx | exact fix1 hcx rfl | exact fixN hcx rfl) fun K hK => ?_; simp only [go_sem, seval]; (repeat refine And.intro (by first | omega | (intro hq; first | omega | (simp at hq <;> omega) | (simp_all <;> omega))) ?_); refine hK _ ?_; clear hK K
              (repeat refine ats_seq ?_); refine ats_yes rfl trivial ?_
              refine ats_exit (thn_x (bq_x (show ATDs _ _ _ _ _ _ from ?_)))
              refine atds_last fun cx hf => ?_
              replace hcx := hf.trans hcxA
              refine ats_of ?_
              (repeat refine ats_seq ?_); refine ats_go (by first | exact fix0 hcx | exact fix1 hcx rfl | exact fixN hcx rfl) fun K hK => ?_; simp only [go_sem, seval]; (repeat refine And.intro (by first | omega | (intro hq; first | omega | (simp at hq <;> omega) | (simp_all <;> omega))) ?_); refine hK _ ?_; clear hK K
              refine ⟨c + 1, ⟨by omega, hnx hno⟩, by omega, .inr ⟨[4, 5, 6, 7, 8], by simp only [killL, List.map_cons, List.map_nil, killA, killAs, qOf, rmT, killH, killT, List.filter_cons, List.filter_nil, List.contains_cons, List.contains_nil, SlotsLe, St.get, slotGet, Nat.reduceEqDiff, Nat.reduceBEq, Bool.or_false, Bool.or_true, Bool.false_and, Bool.not_true, Bool.not_false, Bool.false_eq_true, ↓reduceIte, if_true, if_false, AV.int.injEq, AV.bool.injEq, AV.l1.injEq, AV.l2.injEq, AV.l3.injEq, true_and, and_true]; (try omega), by simp only [killL, List.map_cons, List.map_nil, killA, killAs, qOf, rmT, killH, killT, List.filter_cons, List.filter_nil, List.contains_cons, List.contains_nil, SlotsLe, St.get, slotGet, Nat.reduceEqDiff, Nat.reduceBEq, Bool.or_false, Bool.or_true, Bool.false_and, Bool.not_true, Bool.not_false, Bool.false_eq_true, ↓reduceIte, if_true, if_false, AV.int.injEq, AV.bool.injEq, AV.l1.injEq, AV.l2.injEq, AV.l3.injEq, true_and, and_true]; (try rfl)⟩⟩
            | true =>
              have hfi := hfn.1 hF
              by_cases hacc : isBr o M w b = true
              · have hyes := hpk1 ⟨hfi, hacc⟩
                have hfs := hfd b hyes
                rw [hfs] at eT1
                rw [hib] at hacc
                obtain ⟨⟨_, hpb⟩, hbf⟩ := bd_iff.1 hacc
                rw [bd_true hpb] at hP
                have hFt := bfault_ok o M w b hs hpb.1
                rw [hbf] at hFt
                have hFt' : PureCall Try.prog 53 [.agg [.l1 o, .int M, .l3 w, .l2 b]] .nil := hFt
                have hV := visF_ok o M w b
                rw [← eT1]
                (repeat refine ats_seq ?_); refine ats_go (by first | exact fix0 hcx | exact fix1 hcx rfl | exact fixN hcx rfl) fun K hK => ?_; simp only [go_sem, seval]; (repeat refine And.intro (by first | omega | (intro hq; first | omega | (simp at hq <;> omega) | (simp_all <;> omega))) ?_); refine hK _ ?_; clear hK K
                (repeat refine ats_seq ?_); refine ats_no rfl trivial ?_
                refine ats_skip ?_
                (repeat refine ats_seq ?_); refine ats_go (by first | exact fix0 hcx | exact fix1 hcx rfl | exact fixN hcx rfl) fun K hK => ?_; simp only [go_sem, seval]
                (repeat refine And.intro (by first | omega | (intro hq; first | omega | (simp at hq <;> omega) | (simp_all <;> omega))) ?_)
                refine fcall_zbox [5] (hBo) (by simp [frzAs, frzA, find]) (by simp only [killL, killA, killAs, qOf, rmT, killH, killT, List.map_cons, List.map_nil, List.filter_cons, List.filter_nil, List.contains_cons, List.contains_nil, Bool.or_false, Bool.or_true, Bool.false_and, Bool.not_true, Bool.not_false, Bool.false_eq_true, if_true, if_false, seval]; rfl) (by simp [Aw.ids]) (by simp [find]) (by simp [closedT, killT, killAs, killA, outQ, Aw.ids]) (by simp [killAs, killA, outQ, Aw.ids]) (by simp [Aw.ids]) ?_; simp only [Aw.ids, List.map_cons, List.map_nil, List.filter_cons, List.filter_nil, List.contains_cons, List.contains_nil, Bool.or_false, Bool.or_true, Bool.not_true, Bool.not_false, Nat.reduceBEq, Bool.false_eq_true, if_true, if_false, List.cons_append, List.nil_append, List.append_nil]; simp only [go_sem, seval]
                (repeat refine And.intro (by first | omega | (intro hq; first | omega | (simp at hq <;> omega) | (simp_all <;> omega))) ?_)
                refine hK _ ?_; clear hK K
                (repeat refine ats_seq ?_); refine ats_goU (by first | exact fix0 hcx | exact fix1 hcx rfl | exact fixN hcx rfl) fun K hK => ?_; simp only [go_sem, seval, u_nil, u_cons, UK_ap, ung_eq, gOk_none, gOk_some, List.getElem?_toArray, List.getElem?_cons_zero, List.getElem?_cons_succ, true_and, and_true]
                first | refine fcall_free rfl rfl (hP) ?_ | refine YR_intro (acall_free rfl rfl (hP)) ?_
                simp only [go_sem, seval]
                simp only [go_sem, seval, u_nil, u_cons, UK_ap, ung_eq, gOk_none, gOk_some, List.getElem?_toArray, List.getElem?_cons_zero, List.getElem?_cons_succ, true_and, and_true]
                first | refine fcall_free rfl rfl (hFt') ?_ | refine YR_intro (acall_free rfl rfl (hFt')) ?_
                simp only [go_sem, seval]
                simp only [go_sem, seval, u_nil, u_cons, UK_ap, ung_eq, gOk_none, gOk_some, List.getElem?_toArray, List.getElem?_cons_zero, List.getElem?_cons_succ, true_and, and_true]
                refine fcall_box (hV) (by simp [Aw.ids]) (by simp [find]) (by simp [closedT, killT, killAs, killA, outQ, Aw.ids]) (by simp [killAs, killA, outQ, Aw.ids]) (by simp [Aw.ids]) ?_; simp only [Aw.ids, List.map_cons, List.map_nil, List.filter_cons, List.filter_nil, List.contains_cons, List.contains_nil, Bool.or_false, Bool.or_true, Bool.not_true, Bool.not_false, Nat.reduceBEq, Bool.false_eq_true, if_true, if_false, List.cons_append, List.nil_append]; simp only [go_sem, seval]
                simp only [go_sem, seval, u_nil, u_cons, UK_ap, ung_eq, gOk_none, gOk_some, List.getElem?_toArray, List.getElem?_cons_zero, List.getElem?_cons_succ, true_and, and_true]
                (repeat refine And.intro (by first | omega | (intro hq; first | omega | (simp at hq <;> omega) | (simp_all <;> omega))) ?_)
                refine hK _ ?_; clear hK K
                (repeat refine ats_seq ?_); refine ats_yes rfl trivial ?_
                refine ats_exit (thn_x (bq_o (by decide) (thn_x (lq_x (show ATDs _ _ _ _ _ _ from ?_)))))
                (repeat refine atds_seq ?_)
                refine atds_cutG ⟨[(0, .agg [.l1 o, .int M, .l3 w]), (1, .fn 29 [.bptr 0 0]), (4, .bool true)], [(0, .bx [.l1 o, .int M, .l3 w, .ref 20 []]), (20, .t2 b)]⟩ (fun cx hf => ?_) ?_
                · replace hcx := hf.trans hcxA
                  (repeat refine ats_seq ?_); refine ats_go (by first | exact fix0 hcx | exact fix1 hcx rfl | exact fixN hcx rfl) fun K hK => ?_; simp only [go_sem, seval]; (repeat refine And.intro (by first | omega | (intro hq; first | omega | (simp at hq <;> omega) | (simp_all <;> omega))) ?_); refine hK _ ?_; clear hK K
                  refine ats_nil ?_; refine Or.inl ⟨rfl, ghost_trans (ghost_drop [1, 2, 3, 4, 6, 7, 8, 21, 22]) (ghost_can [] (by simp only [killL, killA, killAs, qOf, rmT, killH, killT, List.filter_cons, List.filter_nil, List.contains_cons, List.contains_nil, Bool.or_false, Bool.or_true, Bool.false_and, Bool.not_true, Bool.not_false, Bool.false_eq_true, if_true, if_false, rnLs, rnL, rn, rns, sw, SlotsLe, St.get, slotGet, List.map_cons, List.map_nil, seval, AV.int.injEq, AV.bool.injEq, AV.l1.injEq, AV.l2.injEq, AV.l3.injEq, true_and, and_true]) (by simp only [killL, killA, killAs, qOf, rmT, killH, killT, List.filter_cons, List.filter_nil, List.contains_cons, List.contains_nil, Bool.or_false, Bool.or_true, Bool.false_and, Bool.not_true, Bool.not_false, Bool.false_eq_true, if_true, if_false, sortH, insH, rnHs, rnH, rnT, rn, rns, sw, List.map_cons, List.map_nil, seval]))⟩
                refine atds_last fun cx hf => ?_
                refine ats_of (ats_ret ?_)
                refine ⟨.inr rfl, (by first | rfl | exact ⟨trivial, rfl⟩), (by simp [St.get, slotGet, argSlots]), rfl⟩
              · have hno := hpk2 fun h => hacc h.2
                (repeat refine ats_seq ?_); refine ats_go (by first | exact fix0 hcx | exact fix1 hcx rfl | exact fixN hcx rfl) fun K hK => ?_; simp only [go_sem, seval]; (repeat refine And.intro (by first | omega | (intro hq; first | omega | (simp at hq <;> omega) | (simp_all <;> omega))) ?_); refine hK _ ?_; clear hK K
                (repeat refine ats_seq ?_); refine ats_no rfl trivial ?_
                refine ats_skip ?_
                (repeat refine ats_seq ?_); refine ats_go (by first | exact fix0 hcx | exact fix1 hcx rfl | exact fixN hcx rfl) fun K hK => ?_; simp only [go_sem, seval]
                (repeat refine And.intro (by first | omega | (intro hq; first | omega | (simp at hq <;> omega) | (simp_all <;> omega))) ?_)
                refine fcall_gone [5] (hB) (by simp [frzAs, frzA, find]) rfl ?_; simp only [go_sem, seval]
                (repeat refine And.intro (by first | omega | (intro hq; first | omega | (simp at hq <;> omega) | (simp_all <;> omega))) ?_)
                refine hK _ ?_; clear hK K
                by_cases hpb : PairB w.length M b
                · rw [bd_true hpb] at hP
                  have hFt := bfault_ok o M w b hs hpb.1
                  cases hbf : bfF o M w b with
                  | none => exact absurd (by rw [hib]; exact bd_true ⟨⟨hc, hpb⟩, hbf⟩) hacc
                  | some l =>
                    rw [hbf] at hFt
                    have l4 := bfF_len hbf
                    have hFt' : PureCall Try.prog 53 [.agg [.l1 o, .int M, .l3 w, .l2 b]] (.l1 l) := hFt
                    (repeat refine ats_seq ?_); refine ats_go (by first | exact fix0 hcx | exact fix1 hcx rfl | exact fixN hcx rfl) fun K hK => ?_; simp only [go_sem, seval]
                    first | refine fcall_data (hP) rfl ?_ | refine YR_intro (acall_data (hP) rfl) ?_
                    simp only [go_sem, seval]
                    (repeat refine And.intro (by first | omega | (intro hq; first | omega | (simp at hq <;> omega) | (simp_all <;> omega))) ?_)
                    first | refine fcall_data (hFt') rfl ?_ | refine YR_intro (acall_data (hFt') rfl) ?_
                    simp only [go_sem, seval]
                    (repeat refine And.intro (by first | omega | (intro hq; first | omega | (simp at hq <;> omega) | (simp_all <;> omega))) ?_)
                    refine YR_intro (v := .bool false) (by first | trivial | (intro h; cases h)) ?_
                    simp only [go_sem, seval]
                    (repeat refine And.intro (by first | omega | (intro hq; first | omega | (simp at hq <;> omega) | (simp_all <;> omega))) ?_)
                    refine hK _ ?_; clear hK K
                    (repeat refine ats_seq ?_); refine ats_no rfl trivial ?_
                    refine ats_skip ?_
                    refine ats_nil (show ATDs _ _ _ _ _ _ from ?_)
                    refine atds_last fun cx hf => ?_
                    replace hcx := hf.trans hcxA
                    refine ats_of ?_
                    (repeat refine ats_seq ?_); refine ats_go (by first | exact fix0 hcx | exact fix1 hcx rfl | exact fixN hcx rfl) fun K hK => ?_; simp only [go_sem, seval]; (repeat refine And.intro (by first | omega | (intro hq; first | omega | (simp at hq <;> omega) | (simp_all <;> omega))) ?_); refine hK _ ?_; clear hK K
                    refine ⟨c + 1, ⟨by omega, hnx hno⟩, by omega, .inr ⟨[4, 6, 7, 8, 9], by simp only [killL, List.map_cons, List.map_nil, killA, killAs, qOf, rmT, killH, killT, List.filter_cons, List.filter_nil, List.contains_cons, List.contains_nil, SlotsLe, St.get, slotGet, Nat.reduceEqDiff, Nat.reduceBEq, Bool.or_false, Bool.or_true, Bool.false_and, Bool.not_true, Bool.not_false, Bool.false_eq_true, ↓reduceIte, if_true, if_false, AV.int.injEq, AV.bool.injEq, AV.l1.injEq, AV.l2.injEq, AV.l3.injEq, true_and, and_true]; (try omega), by simp only [killL, List.map_cons, List.map_nil, killA, killAs, qOf, rmT, killH, killT, List.filter_cons, List.filter_nil, List.contains_cons, List.contains_nil, SlotsLe, St.get, slotGet, Nat.reduceEqDiff, Nat.reduceBEq, Bool.or_false, Bool.or_true, Bool.false_and, Bool.not_true, Bool.not_false, Bool.false_eq_true, ↓reduceIte, if_true, if_false, AV.int.injEq, AV.bool.injEq, AV.l1.injEq, AV.l2.injEq, AV.l3.injEq, true_and, and_true]; (try rfl)⟩⟩
                · rw [bd_false hpb] at hP
                  (repeat refine ats_seq ?_); refine ats_go (by first | exact fix0 hcx | exact fix1 hcx rfl | exact fixN hcx rfl) fun K hK => ?_; simp only [go_sem, seval]
                  first | refine fcall_data (hP) rfl ?_ | refine YR_intro (acall_data (hP) rfl) ?_
                  simp only [go_sem, seval]
                  (repeat refine And.intro (by first | omega | (intro hq; first | omega | (simp at hq <;> omega) | (simp_all <;> omega))) ?_)
                  refine YR_intro (v := .nil) (by first | trivial | (intro h; cases h)) ?_
                  simp only [go_sem, seval]
                  (repeat refine And.intro (by first | omega | (intro hq; first | omega | (simp at hq <;> omega) | (simp_all <;> omega))) ?_)
                  refine YR_intro (v := .bool false) (by first | trivial | (intro h; cases h)) ?_
                  simp only [go_sem, seval]
                  (repeat refine And.intro (by first | omega | (intro hq; first | omega | (simp at hq <;> omega) | (simp_all <;> omega))) ?_)
                  refine hK _ ?_; clear hK K
                  (repeat refine ats_seq ?_); refine ats_no rfl trivial ?_
                  refine ats_skip ?_
                  refine ats_nil (show ATDs _ _ _ _ _ _ from ?_)
                  refine atds_last fun cx hf => ?_
                  replace hcx := hf.trans hcxA
                  refine ats_of ?_
                  (repeat refine ats_seq ?_); refine ats_go (by first | exact fix0 hcx | exact fix1 hcx rfl | exact fixN hcx rfl) fun K hK => ?_; simp only [go_sem, seval]; (repeat refine And.intro (by first | omega | (intro hq; first | omega | (simp at hq <;> omega) | (simp_all <;> omega))) ?_); refine hK _ ?_; clear hK K
                  refine ⟨c + 1, ⟨by omega, hnx hno⟩, by omega, .inr ⟨[4, 6, 7, 8, 9], by simp only [killL, List.map_cons, List.map_nil, killA, killAs, qOf, rmT, killH, killT, List.filter_cons, List.filter_nil, List.contains_cons, List.contains_nil, SlotsLe, St.get, slotGet, Nat.reduceEqDiff, Nat.reduceBEq, Bool.or_false, Bool.or_true, Bool.false_and, Bool.not_true, Bool.not_false, Bool.false_eq_true, ↓reduceIte, if_true, if_false, AV.int.injEq, AV.bool.injEq, AV.l1.injEq, AV.l2.injEq, AV.l3.injEq, true_and, and_true]; (try omega), by simp only [killL, List.map_cons, List.map_nil, killA, killAs, qOf, rmT, killH, killT, List.filter_cons, List.filter_nil, List.contains_cons, List.contains_nil, SlotsLe, St.get, slotGet, Nat.reduceEqDiff, Nat.reduceBEq, Bool.or_false, Bool.or_true, Bool.false_and, Bool.not_true, Bool.not_false, Bool.false_eq_true, ↓reduceIte, if_true, if_false, AV.int.injEq, AV.bool.injEq, AV.l1.injEq, AV.l2.injEq, AV.l3.injEq, true_and, and_true]; (try rfl)⟩⟩
        · obtain rfl : c = pw d := by omega
          rw [first_none hpre] at eT1
          rw [← eT1]
          refine atds_last fun cx hf => ?_
          replace hcx := hf.trans hcx
          refine ats_of ?_
          (repeat refine ats_seq ?_); refine ats_go (by first | exact fix0 hcx | exact fix1 hcx rfl | exact fixN hcx rfl) fun K hK => ?_; simp only [go_sem, seval]; (repeat refine And.intro (by first | omega | (intro hq; first | omega | (simp at hq <;> omega) | (simp_all <;> omega))) ?_); refine hK _ ?_; clear hK K
          (repeat refine ats_seq ?_); first | refine ats_ifn (p := _) rfl trivial (fun h1 => ?_) (fun h1 => ?_) | refine ats_ifp (p := _) rfl trivial (fun h1 => ?_) (fun h1 => ?_) | refine ats_cond rfl trivial (fun h1 => ?_) (fun h1 => ?_)
          · omega
          · refine ats_exit ?_
            refine lq_x ?_
            (repeat refine atds_seq ?_)
            refine atds_cutG ⟨[(0, .agg [.l1 o, .int M, .l3 w]), (1, .fn 29 [.bptr 0 0]), (4, .bool true)], [(0, .bx [.nil, .int 0, .nil, .nil])]⟩ (fun cx hf => ?_) ?_
            · replace hcx := hf.trans hcxA
              (repeat refine ats_seq ?_); refine ats_go (by first | exact fix0 hcx | exact fix1 hcx rfl | exact fixN hcx rfl) fun K hK => ?_; simp only [go_sem, seval]; (repeat refine And.intro (by first | omega | (intro hq; first | omega | (simp at hq <;> omega) | (simp_all <;> omega))) ?_); refine hK _ ?_; clear hK K
              refine ats_nil ?_; refine Or.inl ⟨rfl, ghost_trans (ghost_drop [1, 2, 3]) (ghost_can [] (by simp only [killL, killA, killAs, qOf, rmT, killH, killT, List.filter_cons, List.filter_nil, List.contains_cons, List.contains_nil, Bool.or_false, Bool.or_true, Bool.false_and, Bool.not_true, Bool.not_false, Bool.false_eq_true, if_true, if_false, rnLs, rnL, rn, rns, sw, SlotsLe, St.get, slotGet, List.map_cons, List.map_nil, seval, AV.int.injEq, AV.bool.injEq, AV.l1.injEq, AV.l2.injEq, AV.l3.injEq, true_and, and_true]) (by simp only [killL, killA, killAs, qOf, rmT, killH, killT, List.filter_cons, List.filter_nil, List.contains_cons, List.contains_nil, Bool.or_false, Bool.or_true, Bool.false_and, Bool.not_true, Bool.not_false, Bool.false_eq_true, if_true, if_false, sortH, insH, rnHs, rnH, rnT, rn, rns, sw, List.map_cons, List.map_nil, seval]))⟩
            refine atds_last fun cx hf => ?_
            refine ats_of (ats_ret ?_)
            refine ⟨.inr rfl, (by first | rfl | exact ⟨trivial, rfl⟩), (by simp [St.get, slotGet, argSlots]), rfl⟩
end Go.Proofs.Ytaijdhkjemffhaa
