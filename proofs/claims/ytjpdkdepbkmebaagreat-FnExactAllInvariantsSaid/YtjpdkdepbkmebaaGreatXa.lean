import Derived.Test.YtjpdkdepbkmebaaGreatPlKa
import Derived.Test.YtjpdkdepbkmebaaGreatLib7
import Derived.Test.YtjpdkdepbkmebaaGreatEd
import Derived.Test.YtjpdkdepbkmebaaGreatFz1
set_option linter.unusedSimpArgs false
set_option linter.unusedVariables false
namespace Go.Proofs.YtjpdkdepbkmebaaGreat
open Go Go.Aw Go.Pl
def argI (st : Option (List (List (List Int)))) : AV := match st with
 | none => .nil
 | some _ => .ref 5 []
def TI (st : Option (List (List (List Int)))) : List (Nat × Tree) := match st with
 | none => []
 | some L => [(5, .r3 L)]
theorem nnC (n : Nat) : (n : Int) * (n : Int) = ((n * n : Nat) : Int) := by push_cast; rfl
set_option maxRecDepth 20000 in
set_option maxHeartbeats 16000000 in
theorem try_ok (s : List (List Int)) (t : List Int) (hs : Shape s t) (b : Nat) (hb3 : b ≤ 3) : ∀ d v st L, v.length + d = t.length * t.length → 1 ≤ v.length → (st.getD []).length + (extV (tF t) (b + 1) d v).length ≤ 1099511627776 →
  OwnCall Tryz.prog 18 [.agg [.l2 s, .l1 t], .ref 0 [], .int v.length, .int b, argI st] ((0, .tq (mxF t.length v) L) :: TI st) ((0, .tq (mxF t.length v) L) :: TI (runK s t (extV (tF t) (b + 1) d v) st)) (argI (runK s t (extV (tF t) (b + 1) d v) st)) [0] := by
 have h16 := hs.2.1
 have hn1 := hs.1
 have nn : t.length * t.length ≤ 256 := by
  have : t.length * t.length ≤ 16 * 16 := Nat.mul_le_mul (by omega) (by omega)
  omega
 intro d
 induction d using Nat.strongRecOn with
 | _ d IH =>
 intro v st L hd h1 hl
 obtain ⟨x, hx, hno, hend, hext⟩ := extV_skip (t := tF t) (B := b + 1) d v
 have hno' : ∀ y, y < x → t.getD ((v.length + y) / t.length) 0 ≠ t.getD ((v.length + y) % t.length) 0 := fun y hy => by
  have h := hno y hy
  rw [fr_tF (by omega) (by omega)] at h
  exact of_decide_eq_false h
 have hend' : x = d ∨ t.getD ((v.length + x) / t.length) 0 = t.getD ((v.length + x) % t.length) 0 := by
  by_cases hc : x = d
  ·exact .inl hc
  ·rcases hend with h | h
   ·exact .inl h
   ·rw [fr_tF (by omega) (by omega)] at h
    exact .inr (of_decide_eq_true h)
 rw [hext] at hl ⊢
 rw [← mxF_rep0 (n := t.length) (v := v) x]
 obtain ⟨u, hu⟩ : ∃ u, u = v ++ List.replicate x 0 := ⟨_, rfl⟩
 have lu : u.length = v.length + x := by rw [hu, List.length_append, List.length_replicate]
 obtain ⟨e, he⟩ : ∃ e, e = d - x := ⟨_, rfl⟩
 rw [← hu, ← he] at hl ⊢
 obtain ⟨M, hM⟩ : ∃ M, M = mxF t.length u := ⟨_, rfl⟩
 have lM : M.length = t.length := by rw [hM]; exact matF_length ..
 have rM : ∀ i, i < t.length → (M.getD i []).length = t.length := fun i hi => by
  rw [hM]
  unfold mxF
  rw [matF_get hi, rowF_length]
 have hIs := l14Is_ok s t M hs
 cases e with
 | zero =>
  have hp : v.length + x = t.length * t.length := by omega
  show OwnCall _ _ _ _ ((0, .tq (mxF t.length u) L) :: TI (visK s t u st)) (argI (visK s t u st)) _
  rw [← hM]
  rcases st with _ | Q
  ·simp only [TI, argI]
   refine OwnCall.intro (n := 85) (rs := [.tmp 10]) 2 [1] (X := [0]) Tryz.call18 Tryz.func18 rfl rfl rfl (by simp only [List.length_cons, List.length_nil]; omega) (by simp [Aw.ids, rootsA, rootsAs, argSlots, slotGet]) (fun cx hcx => AT.weakG (ats_of ?_)); simp only [argSlots, Nat.zero_add, Nat.reduceAdd]
   refine gBN ?_
   refine gBN ?_
   (repeat refine ats_seq ?_); refine ats_loop (fun y : Nat => ⟨[(1, .ref 0 []), (2, .int ((v.length + y : Nat) : Int)), (3, .int b), (4, .nil), (5, .bptr 1 0), (11, .int t.length)], [(0, .tq M L), (1, .bx [.l2 s, .l1 t])]⟩) (fun y => y ≤ x) (fun y => x - y) 0 (Nat.zero_le _) (by
    refine And.intro ?_ rfl; simp only [leS, Nat.reduceEqDiff, ↓reduceIte, true_and, and_true]
    all_goals first | exact ⟨rfl, rfl⟩ | rfl) (fun y hy => ?_)
   obtain ⟨p, ep⟩ : ∃ p, p = v.length + y := ⟨_, rfl⟩
   rw [← ep]
   obtain ⟨q, eq⟩ : ∃ q, q = p / t.length := ⟨_, rfl⟩
   obtain ⟨r, er⟩ : ∃ r, r = p % t.length := ⟨_, rfl⟩
   have hq : Int.tdiv (p : Int) (t.length : Int) = (q : Int) := by rw [eq]; rfl
   have hr : Int.tmod (p : Int) (t.length : Int) = (r : Int) := by rw [er]; rfl
   have pd : p < t.length * t.length → q < t.length := fun h => by rw [eq]; exact pl_div h
   have pm : p < t.length * t.length → r < t.length := fun h => by rw [er]; exact pl_mod h
   (repeat refine ats_seq ?_); refine ats_pick (by first | exact fix0 hcx | exact fixN hcx rfl) mixed (by kernel_rfl) fun K hK => ?_; simp only [go_sem, seval, hq, hr, nnC, Int.toNat_natCast, Int.ofNat_lt]
   (repeat refine And.intro (by first | omega | (intro hq; have hq2 := of_decide_eq_true hq; have h3 := pd hq2; have h4 := pm hq2; omega)) ?_)
   refine hK _ ?_; clear hK K
   refine gI (fun hqq => ?_) fun hqq => ?_
   ·have hyx : y < x := by
     simp only [Bool.and_eq_true, decide_eq_true_eq, Bool.not_eq_true', decide_eq_false_iff_not] at hqq
     rcases hend' with h | h
     ·omega
     ·by_cases hc : y = x
      ·rw [← hc, ← ep, ← eq, ← er] at h
       exact absurd h hqq.2
      ·omega
    refine ats_skip ?_
    (repeat refine ats_seq ?_); refine ats_block ?_
    refine gBN ?_
    refine ⟨y + 1,  by omega, by omega, .inl ⟨by simp only [leS, Nat.reduceEqDiff, ↓reduceIte, true_and, and_true]; omega,  rfl⟩⟩
   ·obtain rfl : y = x := by
     by_cases hc : y = x
     ·exact hc
     ·have h := hno' y (by omega)
      rw [← ep, ← eq, ← er] at h
      exfalso
      rw [decide_eq_true (show p < t.length * t.length by omega), decide_eq_false h] at hqq
      cases hqq
    refine ats_exit (lq_x ?_)
    (repeat refine ats_seq ?_); refine ats_go (by first | exact fix0 hcx | exact fix1 hcx rfl | exact fixN hcx rfl) fun K hK => ?_; simp only [go_sem, seval, nnC, Int.ofNat_inj]
    (repeat refine aI (hb := ?_))
    refine hK _ ?_; clear hK K
    refine gI (fun h2 => ?_) fun h2 => ?_
    ·cases hbd : bd (InvP s t M) with
     | true =>
      rw [hbd] at hIs
      have hInv : InvP s t M := by
       by_cases hc : InvP s t M
       ·exact hc
       ·rw [bd_false hc] at hbd; cases hbd
      have hw := l01Own2_ok t.length h16 M hInv.1
      have ev : visK s t u none = some ([M]) := by
       unfold visK
       rw [← hM, if_pos hbd]
       rfl
      rw [ev]
      simp only [TI, argI]
      refine gCN fun K hK => ?_
      (repeat refine aI (hb := ?_))
      first | refine fcall_free rfl rfl (hIs) ?_ | refine YR_intro (acall_free rfl rfl (hIs)) ?_
      simp only [go_sem, seval]
      (repeat refine aI (hb := ?_))
      refine hK _ ?_; clear hK K
      refine gI (fun hc2 => ?_) fun hc2 => ?_
      ·refine gCN fun K hK => ?_
       (repeat refine aI (hb := ?_))
       first | refine fcall_fresh rfl (hw) ?_ | refine YR_intro (acall_fresh rfl (hw)) ?_
       simp only [go_sem, seval]
       (repeat refine aI (hb := ?_))
       refine hK _ ?_; clear hK K
       refine gBN ?_
       refine ats_ret ⟨⟨[(1, .ref 0 []), (10, .ref 5 [])], [(0, .tq M L), (5, .r3 ([M]))]⟩, ghost_trans (ghost_drop [1]) (ghost_can [(2, 5)] (by simp only [killL, killA, killAs, qOf, rmT, killH, killT, List.filter_cons, List.filter_nil, List.contains_cons, List.contains_nil, Bool.or_false, Bool.or_true, Bool.false_and, Bool.not_true, Bool.not_false, Bool.false_eq_true, if_true, if_false, rnLs, rnL, rn, rns, sw, SlotsLe, St.get, slotGet, List.map_cons, List.map_nil, seval, AV.int.injEq, AV.bool.injEq, AV.l1.injEq, AV.l2.injEq, AV.l3.injEq, true_and, and_true]) (by simp only [killL, killA, killAs, qOf, rmT, killH, killT, List.filter_cons, List.filter_nil, List.contains_cons, List.contains_nil, Bool.or_false, Bool.or_true, Bool.false_and, Bool.not_true, Bool.not_false, Bool.false_eq_true, if_true, if_false, sortH, insH, rnHs, rnH, rnT, rn, rns, sw, List.map_cons, List.map_nil, seval])), .inr rfl, (by first | rfl | exact ⟨trivial, rfl⟩ | (simp only [resL, resA, go_sem, seval]; done)), (by simp [St.get, slotGet, argSlots]), rfl⟩
      ·simp at hc2
     | false =>
      rw [hbd] at hIs
      have ev : visK s t u none = none := by
       unfold visK
       rw [← hM, if_neg (by rw [hbd]; decide)]
      rw [ev]
      simp only [TI, argI]
      refine gCN fun K hK => ?_
      (repeat refine aI (hb := ?_))
      first | refine fcall_free rfl rfl (hIs) ?_ | refine YR_intro (acall_free rfl rfl (hIs)) ?_
      simp only [go_sem, seval]
      (repeat refine aI (hb := ?_))
      refine hK _ ?_; clear hK K
      refine gI (fun hc2 => ?_) fun hc2 => ?_
      ·simp at hc2
      ·refine ats_skip ?_
       refine gBN ?_
       refine ats_ret ⟨⟨[(1, .ref 0 []), (10, .nil)], [(0, .tq M L)]⟩, ghost_trans (ghost_drop [1]) (ghost_can [] (by simp only [killL, killA, killAs, qOf, rmT, killH, killT, List.filter_cons, List.filter_nil, List.contains_cons, List.contains_nil, Bool.or_false, Bool.or_true, Bool.false_and, Bool.not_true, Bool.not_false, Bool.false_eq_true, if_true, if_false, rnLs, rnL, rn, rns, sw, SlotsLe, St.get, slotGet, List.map_cons, List.map_nil, seval, AV.int.injEq, AV.bool.injEq, AV.l1.injEq, AV.l2.injEq, AV.l3.injEq, true_and, and_true]) (by simp only [killL, killA, killAs, qOf, rmT, killH, killT, List.filter_cons, List.filter_nil, List.contains_cons, List.contains_nil, Bool.or_false, Bool.or_true, Bool.false_and, Bool.not_true, Bool.not_false, Bool.false_eq_true, if_true, if_false, sortH, insH, rnHs, rnH, rnT, rn, rns, sw, List.map_cons, List.map_nil, seval])), .inr rfl, (by first | rfl | exact ⟨trivial, rfl⟩ | (simp only [resL, resA, go_sem, seval]; done)), (by simp [St.get, slotGet, argSlots]), rfl⟩
    ·exact absurd hp (by omega)
  ·simp only [TI, argI]
   rw [Option.getD_some] at hl
   have hl' : Q.length + 1 ≤ 1099511627776 := hl
   refine OwnCall.intro (n := 85) (rs := [.tmp 10]) 2 [1] (X := [0]) Tryz.call18 Tryz.func18 rfl rfl rfl (by simp only [List.length_cons, List.length_nil]; omega) (by simp [Aw.ids, rootsA, rootsAs, argSlots, slotGet]) (fun cx hcx => AT.weakG (ats_of ?_)); simp only [argSlots, Nat.zero_add, Nat.reduceAdd]
   refine gBN ?_
   refine gBN ?_
   (repeat refine ats_seq ?_); refine ats_loop (fun y : Nat => ⟨[(1, .ref 0 []), (2, .int ((v.length + y : Nat) : Int)), (3, .int b), (4, .ref 5 []), (5, .bptr 6 0), (11, .int t.length)], [(0, .tq M L), (5, .r3 Q), (6, .bx [.l2 s, .l1 t])]⟩) (fun y => y ≤ x) (fun y => x - y) 0 (Nat.zero_le _) (by
    refine And.intro ?_ rfl; simp only [leS, Nat.reduceEqDiff, ↓reduceIte, true_and, and_true]
    all_goals first | exact ⟨rfl, rfl⟩ | rfl) (fun y hy => ?_)
   obtain ⟨p, ep⟩ : ∃ p, p = v.length + y := ⟨_, rfl⟩
   rw [← ep]
   obtain ⟨q, eq⟩ : ∃ q, q = p / t.length := ⟨_, rfl⟩
   obtain ⟨r, er⟩ : ∃ r, r = p % t.length := ⟨_, rfl⟩
   have hq : Int.tdiv (p : Int) (t.length : Int) = (q : Int) := by rw [eq]; rfl
   have hr : Int.tmod (p : Int) (t.length : Int) = (r : Int) := by rw [er]; rfl
   have pd : p < t.length * t.length → q < t.length := fun h => by rw [eq]; exact pl_div h
   have pm : p < t.length * t.length → r < t.length := fun h => by rw [er]; exact pl_mod h
   (repeat refine ats_seq ?_); refine ats_pick (by first | exact fix0 hcx | exact fixN hcx rfl) mixed (by kernel_rfl) fun K hK => ?_; simp only [go_sem, seval, hq, hr, nnC, Int.toNat_natCast, Int.ofNat_lt]
   (repeat refine And.intro (by first | omega | (intro hq; have hq2 := of_decide_eq_true hq; have h3 := pd hq2; have h4 := pm hq2; omega)) ?_)
   refine hK _ ?_; clear hK K
   refine gI (fun hqq => ?_) fun hqq => ?_
   ·have hyx : y < x := by
     simp only [Bool.and_eq_true, decide_eq_true_eq, Bool.not_eq_true', decide_eq_false_iff_not] at hqq
     rcases hend' with h | h
     ·omega
     ·by_cases hc : y = x
      ·rw [← hc, ← ep, ← eq, ← er] at h
       exact absurd h hqq.2
      ·omega
    refine ats_skip ?_
    (repeat refine ats_seq ?_); refine ats_block ?_
    refine gBN ?_
    refine ⟨y + 1,  by omega, by omega, .inl ⟨by simp only [leS, Nat.reduceEqDiff, ↓reduceIte, true_and, and_true]; omega,  rfl⟩⟩
   ·obtain rfl : y = x := by
     by_cases hc : y = x
     ·exact hc
     ·have h := hno' y (by omega)
      rw [← ep, ← eq, ← er] at h
      exfalso
      rw [decide_eq_true (show p < t.length * t.length by omega), decide_eq_false h] at hqq
      cases hqq
    refine ats_exit (lq_x ?_)
    (repeat refine ats_seq ?_); refine ats_go (by first | exact fix0 hcx | exact fix1 hcx rfl | exact fixN hcx rfl) fun K hK => ?_; simp only [go_sem, seval, nnC, Int.ofNat_inj]
    (repeat refine aI (hb := ?_))
    refine hK _ ?_; clear hK K
    refine gI (fun h2 => ?_) fun h2 => ?_
    ·cases hbd : bd (InvP s t M) with
     | true =>
      rw [hbd] at hIs
      have hInv : InvP s t M := by
       by_cases hc : InvP s t M
       ·exact hc
       ·rw [bd_false hc] at hbd; cases hbd
      have hw := l01Own2_ok t.length h16 M hInv.1
      have ev : visK s t u (some Q) = some (Q ++ [M]) := by
       unfold visK
       rw [← hM, if_pos hbd]
       rfl
      rw [ev]
      simp only [TI, argI]
      refine gCN fun K hK => ?_
      (repeat refine aI (hb := ?_))
      first | refine fcall_free rfl rfl (hIs) ?_ | refine YR_intro (acall_free rfl rfl (hIs)) ?_
      simp only [go_sem, seval]
      (repeat refine aI (hb := ?_))
      refine hK _ ?_; clear hK K
      refine gI (fun hc2 => ?_) fun hc2 => ?_
      ·refine gCN fun K hK => ?_
       (repeat refine aI (hb := ?_))
       first | refine fcall_fresh rfl (hw) ?_ | refine YR_intro (acall_fresh rfl (hw)) ?_
       simp only [go_sem, seval]
       (repeat refine aI (hb := ?_))
       refine hK _ ?_; clear hK K
       refine gBN ?_
       refine ats_ret ⟨⟨[(1, .ref 0 []), (10, .ref 5 [])], [(0, .tq M L), (5, .r3 (Q ++ [M]))]⟩, ghost_trans (ghost_drop [6]) (ghost_can [] (by simp only [killL, killA, killAs, qOf, rmT, killH, killT, List.filter_cons, List.filter_nil, List.contains_cons, List.contains_nil, Bool.or_false, Bool.or_true, Bool.false_and, Bool.not_true, Bool.not_false, Bool.false_eq_true, if_true, if_false, rnLs, rnL, rn, rns, sw, SlotsLe, St.get, slotGet, List.map_cons, List.map_nil, seval, AV.int.injEq, AV.bool.injEq, AV.l1.injEq, AV.l2.injEq, AV.l3.injEq, true_and, and_true]) (by simp only [killL, killA, killAs, qOf, rmT, killH, killT, List.filter_cons, List.filter_nil, List.contains_cons, List.contains_nil, Bool.or_false, Bool.or_true, Bool.false_and, Bool.not_true, Bool.not_false, Bool.false_eq_true, if_true, if_false, sortH, insH, rnHs, rnH, rnT, rn, rns, sw, List.map_cons, List.map_nil, seval])), .inr rfl, (by first | rfl | exact ⟨trivial, rfl⟩ | (simp only [resL, resA, go_sem, seval]; done)), (by simp [St.get, slotGet, argSlots]), rfl⟩
      ·simp at hc2
     | false =>
      rw [hbd] at hIs
      have ev : visK s t u (some Q) = some Q := by
       unfold visK
       rw [← hM, if_neg (by rw [hbd]; decide)]
      rw [ev]
      simp only [TI, argI]
      refine gCN fun K hK => ?_
      (repeat refine aI (hb := ?_))
      first | refine fcall_free rfl rfl (hIs) ?_ | refine YR_intro (acall_free rfl rfl (hIs)) ?_
      simp only [go_sem, seval]
      (repeat refine aI (hb := ?_))
      refine hK _ ?_; clear hK K
      refine gI (fun hc2 => ?_) fun hc2 => ?_
      ·simp at hc2
      ·refine ats_skip ?_
       refine gBN ?_
       refine ats_ret ⟨⟨[(1, .ref 0 []), (10, .ref 5 [])], [(0, .tq M L), (5, .r3 Q)]⟩, ghost_trans (ghost_drop [6]) (ghost_can [] (by simp only [killL, killA, killAs, qOf, rmT, killH, killT, List.filter_cons, List.filter_nil, List.contains_cons, List.contains_nil, Bool.or_false, Bool.or_true, Bool.false_and, Bool.not_true, Bool.not_false, Bool.false_eq_true, if_true, if_false, rnLs, rnL, rn, rns, sw, SlotsLe, St.get, slotGet, List.map_cons, List.map_nil, seval, AV.int.injEq, AV.bool.injEq, AV.l1.injEq, AV.l2.injEq, AV.l3.injEq, true_and, and_true]) (by simp only [killL, killA, killAs, qOf, rmT, killH, killT, List.filter_cons, List.filter_nil, List.contains_cons, List.contains_nil, Bool.or_false, Bool.or_true, Bool.false_and, Bool.not_true, Bool.not_false, Bool.false_eq_true, if_true, if_false, sortH, insH, rnHs, rnH, rnT, rn, rns, sw, List.map_cons, List.map_nil, seval])), .inr rfl, (by first | rfl | exact ⟨trivial, rfl⟩ | (simp only [resL, resA, go_sem, seval]; done)), (by simp [St.get, slotGet, argSlots]), rfl⟩
    ·exact absurd hp (by omega)
 | succ e =>
  have hx' : x < d := by omega
  have hfr : fr (tF t) u.length = true := by
   rw [lu]
   rcases hend with h | h
   ·omega
   ·exact h
  have hs1 : extV (tF t) (b + 1) (e + 1) u = (List.range (b + 1)).flatMap fun (a : Nat) => extV (tF t) (b + 1) e (u ++ [(a : Int)]) := by rw [extV, hfr, if_pos rfl]
  rw [hs1] at hl
  rw [hs1, ← hM]
  obtain ⟨S, hS⟩ : ∃ S : Nat → Option (List (List (List Int))), S = fun z => runK s t ((List.range z).flatMap fun (a : Nat) => extV (tF t) (b + 1) e (u ++ [(a : Int)])) st := ⟨_, rfl⟩
  have hS0 : S 0 = st := by rw [hS]; rfl
  have hSs : ∀ z, S (z + 1) = runK s t (extV (tF t) (b + 1) e (u ++ [(z : Int)])) (S z) := fun z => by
   rw [hS]
   show runK _ _ _ _ = runK _ _ _ (runK _ _ _ _)
   rw [← runK_app, List.range_succ, List.flatMap_append]
   simp
  have hSe : runK s t ((List.range (b + 1)).flatMap fun (a : Nat) => extV (tF t) (b + 1) e (u ++ [(a : Int)])) st = S (b + 1) := by rw [hS]
  have hSl : ∀ z, z ≤ b → ((S z).getD []).length + (extV (tF t) (b + 1) e (u ++ [(z : Int)])).length ≤ 1099511627776 := fun z hz => by
   have h2 := runK_len (s := s) (t := t) (us := (List.range z).flatMap fun (a : Nat) => extV (tF t) (b + 1) e (u ++ [(a : Int)])) (st := st)
   have h3 : ((List.range (z + 1)).flatMap fun (a : Nat) => extV (tF t) (b + 1) e (u ++ [(a : Int)])).length ≤ ((List.range (b + 1)).flatMap fun (a : Nat) => extV (tF t) (b + 1) e (u ++ [(a : Int)])).length := by
    have e9 : List.range (b + 1) = List.range (z + 1) ++ (List.range (b - z)).map (fun y => z + 1 + y) := by
     rw [← List.range_add]
     congr 1
     omega
    rw [e9, List.flatMap_append, List.length_append]
    omega
   rw [List.range_succ, List.flatMap_append, List.length_append] at h3
   simp only [List.flatMap_cons, List.flatMap_nil, List.append_nil] at h3
   rw [hS]
   show ((runK _ _ _ _).getD []).length + _ ≤ _
   omega
  rw [hSe]
  obtain ⟨Mx, hMx⟩ : ∃ Mx : Nat → List (List Int), Mx = fun a => mxF t.length (u ++ [((a - 1 : Nat) : Int)]) := ⟨_, rfl⟩
  have hM0 : Mx 0 = M := by
   rw [hMx, hM]
   exact mxF_snoc0
  have hMs : ∀ a, Mx (a + 1) = mxF t.length (u ++ [(a : Int)]) := fun a => by rw [hMx]; rfl
  have lMx : ∀ a, (Mx a).length = t.length := fun a => by rw [hMx]; exact matF_length ..
  have rMx : ∀ a i, i < t.length → ((Mx a).getD i []).length = t.length := fun a i hi => by
   rw [hMx]
   show ((mxF _ _).getD i []).length = _
   unfold mxF
   rw [matF_get hi, rowF_length]
  obtain ⟨p, ep⟩ : ∃ p, p = v.length + x := ⟨_, rfl⟩
  have hpn : p < t.length * t.length := by omega
  have hup : u.length = p := by rw [lu, ep]
  obtain ⟨q, eq⟩ : ∃ q, q = p / t.length := ⟨_, rfl⟩
  obtain ⟨r, er⟩ : ∃ r, r = p % t.length := ⟨_, rfl⟩
  have hq : Int.tdiv (p : Int) (t.length : Int) = (q : Int) := by rw [eq]; rfl
  have hr : Int.tmod (p : Int) (t.length : Int) = (r : Int) := by rw [er]; rfl
  have pd : q < t.length := by rw [eq]; exact pl_div hpn
  have pm : r < t.length := by rw [er]; exact pl_mod hpn
  have hset : ∀ a c : Nat, (Mx a).set q (((Mx a).getD q []).set r (c : Int)) = mxF t.length (u ++ [(c : Int)]) := fun a c => by
   rw [hMx, eq, er, ← hup]
   exact mxF_set (by omega)
  have hrow : ∀ a, ((Mx a).getD q []).length = t.length := fun a => rMx a q pd
  have hih : ∀ z (xv : Value), z ≤ b → OwnCall Tryz.prog 18 [.agg [.l2 s, .l1 t], .ref 0 [], .int ((p : Int) + 1), .int b, argI (S z)] ((0, .tq (Mx (z + 1)) ((q, xv) :: L)) :: TI (S z)) ((0, .tq (Mx (z + 1)) ((q, xv) :: L)) :: TI (S (z + 1))) (argI (S (z + 1))) [0] := fun z xv hz => by
   have h := IH e (by omega) (u ++ [(z : Int)]) (S z) ((q, xv) :: L) (by rw [List.length_append, List.length_cons, List.length_nil]; omega) (by rw [List.length_append]; omega) (hSl z hz)
   rw [← hSs, ← hMs] at h
   have e1 : (((u ++ [(z : Int)]).length : Nat) : Int) = (p : Int) + 1 := by rw [List.length_append, hup]; rfl
   rwa [e1] at h
  obtain ⟨s0, es0⟩ : ∃ s0, S 0 = s0 := ⟨_, rfl⟩
  rw [hS0] at es0
  have hSmo : ∀ z, ∀ L, S z = some L → ∃ L', S (z + 1) = some L' := fun z L h => by
   rw [hSs, h]
   exact runK_some _ _
  have hSo : ∀ L0, S 0 = some L0 → ∀ z, ∃ L, S z = some L := fun L0 h z => by
   induction z with
   | zero => exact ⟨L0, h⟩
   | succ z ih => obtain ⟨L, hL⟩ := ih; exact hSmo z L hL
  clear hs1 hSe
  rcases st with _ | Q
  ·simp only [TI, argI]
   refine OwnCall.intro (n := 85) (rs := [.tmp 10]) 2 [1] (X := [0]) Tryz.call18 Tryz.func18 rfl rfl rfl (by simp only [List.length_cons, List.length_nil]; omega) (by simp [Aw.ids, rootsA, rootsAs, argSlots, slotGet]) (fun cx hcx => AT.weakG (ats_of ?_)); simp only [argSlots, Nat.zero_add, Nat.reduceAdd]
   refine gBN ?_
   refine gBN ?_
   (repeat refine ats_seq ?_); refine ats_loop (fun y : Nat => ⟨[(1, .ref 0 []), (2, .int ((v.length + y : Nat) : Int)), (3, .int b), (4, .nil), (5, .bptr 1 0), (11, .int t.length)], [(0, .tq M L), (1, .bx [.l2 s, .l1 t])]⟩) (fun y => y ≤ x) (fun y => x - y) 0 (Nat.zero_le _) (by
    refine And.intro ?_ rfl; simp only [leS, Nat.reduceEqDiff, ↓reduceIte, true_and, and_true]
    all_goals first | exact ⟨rfl, rfl⟩ | rfl) (fun y hy => ?_)
   obtain ⟨p1, ep1⟩ : ∃ p1, p1 = v.length + y := ⟨_, rfl⟩
   rw [← ep1]
   obtain ⟨q1, eq1⟩ : ∃ q1, q1 = p1 / t.length := ⟨_, rfl⟩
   obtain ⟨r1, er1⟩ : ∃ r1, r1 = p1 % t.length := ⟨_, rfl⟩
   have hq1 : Int.tdiv (p1 : Int) (t.length : Int) = (q1 : Int) := by rw [eq1]; rfl
   have hr1 : Int.tmod (p1 : Int) (t.length : Int) = (r1 : Int) := by rw [er1]; rfl
   have pd1 : p1 < t.length * t.length → q1 < t.length := fun h => by rw [eq1]; exact pl_div h
   have pm1 : p1 < t.length * t.length → r1 < t.length := fun h => by rw [er1]; exact pl_mod h
   (repeat refine ats_seq ?_); refine ats_pick (by first | exact fix0 hcx | exact fixN hcx rfl) mixed (by kernel_rfl) fun K hK => ?_; simp only [go_sem, seval, hq1, hr1, nnC, Int.toNat_natCast, Int.ofNat_lt]
   (repeat refine And.intro (by first | omega | (intro hq1; have hq2 := of_decide_eq_true hq1; have h3 := pd1 hq2; have h4 := pm1 hq2; omega)) ?_)
   refine hK _ ?_; clear hK K
   refine gI (fun hqq => ?_) fun hqq => ?_
   ·have hyx : y < x := by
     simp only [Bool.and_eq_true, decide_eq_true_eq, Bool.not_eq_true', decide_eq_false_iff_not] at hqq
     rcases hend' with h | h
     ·omega
     ·by_cases hc : y = x
      ·rw [← hc, ← ep1, ← eq1, ← er1] at h
       exact absurd h hqq.2
      ·omega
    refine ats_skip ?_
    (repeat refine ats_seq ?_); refine ats_block ?_
    refine gBN ?_
    refine ⟨y + 1,  by omega, by omega, .inl ⟨by simp only [leS, Nat.reduceEqDiff, ↓reduceIte, true_and, and_true]; omega,  rfl⟩⟩
   ·obtain rfl : y = x := by
     by_cases hc : y = x
     ·exact hc
     ·have h := hno' y (by omega)
      rw [← ep1, ← eq1, ← er1] at h
      exfalso
      rw [decide_eq_true (show p1 < t.length * t.length by omega), decide_eq_false h] at hqq
      cases hqq
    refine ats_exit (lq_x ?_)
    (repeat refine ats_seq ?_); refine ats_go (by first | exact fix0 hcx | exact fix1 hcx rfl | exact fixN hcx rfl) fun K hK => ?_; simp only [go_sem, seval, nnC, Int.ofNat_inj]
    (repeat refine aI (hb := ?_))
    refine hK _ ?_; clear hK K
    obtain rfl : p = p1 := by omega
    refine gI (fun h2 => ?_) fun h2 => ?_
    ·exact absurd h2 (by omega)
    ·refine ats_skip ?_
     (repeat refine ats_seq ?_); refine ats_go (by first | exact fix0 hcx | exact fix1 hcx rfl | exact fixN hcx rfl) fun K hK => ?_; simp only [go_sem, seval, hq, Int.toNat_natCast, lM]
     (repeat refine aI (hb := ?_))
     refine hK _ ?_; clear hK K
     refine gBN ?_
     (repeat refine ats_seq ?_); refine ats_pin 0 12 (q) rfl rfl fun xv => ?_; simp only [putT, Nat.reduceEqDiff, if_true, if_false, ↓reduceIte]
     (repeat refine ats_seq ?_); refine ats_loop (fun z : Nat => ⟨[(1, .ref 0 []), (2, .int p), (3, .int b), (4, argI (S z)), (5, .bptr 1 0), (11, .int t.length), (12, .val xv), (13, .int z)], [(0, .tq (Mx z) ((q, xv) :: L)), (1, .bx [.l2 s, .l1 t])] ++ TI (S z)⟩) (fun z => z ≤ b + 1) (fun z => b + 1 - z) 0 (Nat.zero_le _) (by
      rw [hM0, hS0]
      refine And.intro ?_ rfl; simp only [leS, Nat.reduceEqDiff, ↓reduceIte, true_and, and_true]
      all_goals first | exact ⟨rfl, rfl⟩ | rfl) (fun z hz => ?_)
     obtain ⟨sx, es⟩ : ∃ sx, S z = sx := ⟨_, rfl⟩
     rw [es]
     refine gBN ?_
     refine gI (fun h4 => ?_) fun h4 => ?_
     ·have ih := hih z xv (by omega)
      rw [es] at ih
      obtain ⟨s', es'⟩ : ∃ s', S (z + 1) = s' := ⟨_, rfl⟩
      rw [es'] at ih
      have hmo := hSmo z
      rw [es, es'] at hmo
      refine ats_skip ?_
      (repeat refine ats_seq ?_); refine ats_block ?_
      rcases sx with _ | L1 <;> rcases s' with _ | L2
      ·simp only [TI, argI] at ih ⊢
       (repeat refine ats_seq ?_); refine AT.ghost (ghost_vr 0 12 (q) rfl (List.mem_cons_self ..) rfl) ?_
       (repeat refine ats_seq ?_); refine ats_go (by first | exact fix0 hcx | exact fix1 hcx rfl | exact fixN hcx rfl) fun K hK => ?_; simp only [go_sem, seval, hr, Int.toNat_natCast, hrow]
       (repeat refine aI (hb := ?_))
       refine hK _ ?_; clear hK K
       rw [hset, ← hMs]
       (repeat refine ats_seq ?_); refine AT.ghost (ghost_rv 0 12 (q) rfl (List.mem_cons_self ..) rfl) ?_
       (repeat refine ats_seq ?_); refine AT.ghost (st' := ⟨[(1, .ref 0 []), (2, .int p), (3, .int b), (4, .nil), (5, .bptr 1 0), (11, .int t.length), (12, .val xv), (13, .int z)], [(0, .tq (Mx (z + 1)) ((q, xv) :: L)), (1, .bx [.l2 s, .l1 t])]⟩) (ghost_can [] (by simp only [rnLs, rnL, rn, rns, sw, SlotsLe, St.get, slotGet, List.map_cons, List.map_nil, seval, AV.int.injEq, AV.bool.injEq, AV.l1.injEq, AV.l2.injEq, AV.l3.injEq, true_and, and_true]) (by simp only [sortH, insH, rnHs, rnH, rnT, rn, rns, sw, List.map_cons, List.map_nil, seval])) ?_
       refine gCN fun K hK => ?_
       (repeat refine aI (hb := ?_))
       refine fcall_box (ih) (by simp [Aw.ids]) (by simp [find]) (by simp [closedT, killT, killAs, killA, outQ, Aw.ids]) (by simp [killAs, killA, outQ, Aw.ids]) (by simp [Aw.ids]) ?_; simp only [Aw.ids, List.map_cons, List.map_nil, List.filter_cons, List.filter_nil, List.contains_cons, List.contains_nil, Bool.or_false, Bool.or_true, Bool.not_true, Bool.not_false, Nat.reduceBEq, Bool.false_eq_true, if_true, if_false, List.cons_append, List.nil_append]; simp only [go_sem, seval]
       (repeat refine aI (hb := ?_))
       refine hK _ ?_; clear hK K
       (repeat refine ats_seq ?_); refine AT.ghost (st' := ⟨[(1, .ref 0 []), (2, .int p), (3, .int b), (4, .nil), (5, .bptr 1 0), (11, .int t.length), (12, .val xv), (13, .int z)], [(0, .tq (Mx (z + 1)) ((q, xv) :: L)), (1, .bx [.l2 s, .l1 t])]⟩) (ghost_trans (ghost_drop []) (ghost_can [] (by simp only [killL, killA, killAs, qOf, rmT, killH, killT, List.filter_cons, List.filter_nil, List.contains_cons, List.contains_nil, Bool.or_false, Bool.or_true, Bool.false_and, Bool.not_true, Bool.not_false, Bool.false_eq_true, if_true, if_false, rnLs, rnL, rn, rns, sw, SlotsLe, St.get, slotGet, List.map_cons, List.map_nil, seval, AV.int.injEq, AV.bool.injEq, AV.l1.injEq, AV.l2.injEq, AV.l3.injEq, true_and, and_true]) (by simp only [killL, killA, killAs, qOf, rmT, killH, killT, List.filter_cons, List.filter_nil, List.contains_cons, List.contains_nil, Bool.or_false, Bool.or_true, Bool.false_and, Bool.not_true, Bool.not_false, Bool.false_eq_true, if_true, if_false, sortH, insH, rnHs, rnH, rnT, rn, rns, sw, List.map_cons, List.map_nil, seval]))) ?_
       refine gBN ?_
       refine ⟨z + 1,  by omega, by omega, .inl ⟨by simp only [leS, Nat.reduceEqDiff, ↓reduceIte, true_and, and_true]; exact ⟨by rw [es'], by omega⟩,  by rw [es']; rfl⟩⟩
      ·simp only [TI, argI] at ih ⊢
       (repeat refine ats_seq ?_); refine AT.ghost (ghost_vr 0 12 (q) rfl (List.mem_cons_self ..) rfl) ?_
       (repeat refine ats_seq ?_); refine ats_go (by first | exact fix0 hcx | exact fix1 hcx rfl | exact fixN hcx rfl) fun K hK => ?_; simp only [go_sem, seval, hr, Int.toNat_natCast, hrow]
       (repeat refine aI (hb := ?_))
       refine hK _ ?_; clear hK K
       rw [hset, ← hMs]
       (repeat refine ats_seq ?_); refine AT.ghost (ghost_rv 0 12 (q) rfl (List.mem_cons_self ..) rfl) ?_
       (repeat refine ats_seq ?_); refine AT.ghost (st' := ⟨[(1, .ref 0 []), (2, .int p), (3, .int b), (4, .nil), (5, .bptr 1 0), (11, .int t.length), (12, .val xv), (13, .int z)], [(0, .tq (Mx (z + 1)) ((q, xv) :: L)), (1, .bx [.l2 s, .l1 t])]⟩) (ghost_can [] (by simp only [rnLs, rnL, rn, rns, sw, SlotsLe, St.get, slotGet, List.map_cons, List.map_nil, seval, AV.int.injEq, AV.bool.injEq, AV.l1.injEq, AV.l2.injEq, AV.l3.injEq, true_and, and_true]) (by simp only [sortH, insH, rnHs, rnH, rnT, rn, rns, sw, List.map_cons, List.map_nil, seval])) ?_
       refine gCN fun K hK => ?_
       (repeat refine aI (hb := ?_))
       refine fcall_box (ih) (by simp [Aw.ids]) (by simp [find]) (by simp [closedT, killT, killAs, killA, outQ, Aw.ids]) (by simp [killAs, killA, outQ, Aw.ids]) (by simp [Aw.ids]) ?_; simp only [Aw.ids, List.map_cons, List.map_nil, List.filter_cons, List.filter_nil, List.contains_cons, List.contains_nil, Bool.or_false, Bool.or_true, Bool.not_true, Bool.not_false, Nat.reduceBEq, Bool.false_eq_true, if_true, if_false, List.cons_append, List.nil_append]; simp only [go_sem, seval]
       (repeat refine aI (hb := ?_))
       refine hK _ ?_; clear hK K
       (repeat refine ats_seq ?_); refine AT.ghost (st' := ⟨[(1, .ref 0 []), (2, .int p), (3, .int b), (4, .ref 5 []), (5, .bptr 1 0), (11, .int t.length), (12, .val xv), (13, .int z)], [(0, .tq (Mx (z + 1)) ((q, xv) :: L)), (1, .bx [.l2 s, .l1 t]), (5, .r3 L2)]⟩) (ghost_trans (ghost_drop []) (ghost_can [] (by simp only [killL, killA, killAs, qOf, rmT, killH, killT, List.filter_cons, List.filter_nil, List.contains_cons, List.contains_nil, Bool.or_false, Bool.or_true, Bool.false_and, Bool.not_true, Bool.not_false, Bool.false_eq_true, if_true, if_false, rnLs, rnL, rn, rns, sw, SlotsLe, St.get, slotGet, List.map_cons, List.map_nil, seval, AV.int.injEq, AV.bool.injEq, AV.l1.injEq, AV.l2.injEq, AV.l3.injEq, true_and, and_true]) (by simp only [killL, killA, killAs, qOf, rmT, killH, killT, List.filter_cons, List.filter_nil, List.contains_cons, List.contains_nil, Bool.or_false, Bool.or_true, Bool.false_and, Bool.not_true, Bool.not_false, Bool.false_eq_true, if_true, if_false, sortH, insH, rnHs, rnH, rnT, rn, rns, sw, List.map_cons, List.map_nil, seval]))) ?_
       refine gBN ?_
       refine ⟨z + 1,  by omega, by omega, .inl ⟨by simp only [leS, Nat.reduceEqDiff, ↓reduceIte, true_and, and_true]; exact ⟨by rw [es'], by omega⟩,  by rw [es']; rfl⟩⟩
      ·obtain ⟨L', h⟩ := hmo L1 rfl
       cases h
      ·simp only [TI, argI] at ih ⊢
       (repeat refine ats_seq ?_); refine AT.ghost (ghost_vr 0 12 (q) rfl (List.mem_cons_self ..) rfl) ?_
       (repeat refine ats_seq ?_); refine ats_go (by first | exact fix0 hcx | exact fix1 hcx rfl | exact fixN hcx rfl) fun K hK => ?_; simp only [go_sem, seval, hr, Int.toNat_natCast, hrow]
       (repeat refine aI (hb := ?_))
       refine hK _ ?_; clear hK K
       rw [hset, ← hMs]
       (repeat refine ats_seq ?_); refine AT.ghost (ghost_rv 0 12 (q) rfl (List.mem_cons_self ..) rfl) ?_
       (repeat refine ats_seq ?_); refine AT.ghost (st' := ⟨[(1, .ref 0 []), (2, .int p), (3, .int b), (4, .ref 5 []), (5, .bptr 1 0), (11, .int t.length), (12, .val xv), (13, .int z)], [(0, .tq (Mx (z + 1)) ((q, xv) :: L)), (1, .bx [.l2 s, .l1 t]), (5, .r3 L1)]⟩) (ghost_can [] (by simp only [rnLs, rnL, rn, rns, sw, SlotsLe, St.get, slotGet, List.map_cons, List.map_nil, seval, AV.int.injEq, AV.bool.injEq, AV.l1.injEq, AV.l2.injEq, AV.l3.injEq, true_and, and_true]) (by simp only [sortH, insH, rnHs, rnH, rnT, rn, rns, sw, List.map_cons, List.map_nil, seval])) ?_
       refine gCN fun K hK => ?_
       (repeat refine aI (hb := ?_))
       refine fcall_box (ih) (by simp [Aw.ids]) (by simp [find]) (by simp [closedT, killT, killAs, killA, outQ, Aw.ids]) (by simp [killAs, killA, outQ, Aw.ids]) (by simp [Aw.ids]) ?_; simp only [Aw.ids, List.map_cons, List.map_nil, List.filter_cons, List.filter_nil, List.contains_cons, List.contains_nil, Bool.or_false, Bool.or_true, Bool.not_true, Bool.not_false, Nat.reduceBEq, Bool.false_eq_true, if_true, if_false, List.cons_append, List.nil_append]; simp only [go_sem, seval]
       (repeat refine aI (hb := ?_))
       refine hK _ ?_; clear hK K
       (repeat refine ats_seq ?_); refine AT.ghost (st' := ⟨[(1, .ref 0 []), (2, .int p), (3, .int b), (4, .ref 5 []), (5, .bptr 1 0), (11, .int t.length), (12, .val xv), (13, .int z)], [(0, .tq (Mx (z + 1)) ((q, xv) :: L)), (1, .bx [.l2 s, .l1 t]), (5, .r3 L2)]⟩) (ghost_trans (ghost_drop []) (ghost_can [] (by simp only [killL, killA, killAs, qOf, rmT, killH, killT, List.filter_cons, List.filter_nil, List.contains_cons, List.contains_nil, Bool.or_false, Bool.or_true, Bool.false_and, Bool.not_true, Bool.not_false, Bool.false_eq_true, if_true, if_false, rnLs, rnL, rn, rns, sw, SlotsLe, St.get, slotGet, List.map_cons, List.map_nil, seval, AV.int.injEq, AV.bool.injEq, AV.l1.injEq, AV.l2.injEq, AV.l3.injEq, true_and, and_true]) (by simp only [killL, killA, killAs, qOf, rmT, killH, killT, List.filter_cons, List.filter_nil, List.contains_cons, List.contains_nil, Bool.or_false, Bool.or_true, Bool.false_and, Bool.not_true, Bool.not_false, Bool.false_eq_true, if_true, if_false, sortH, insH, rnHs, rnH, rnT, rn, rns, sw, List.map_cons, List.map_nil, seval]))) ?_
       refine gBN ?_
       refine ⟨z + 1,  by omega, by omega, .inl ⟨by simp only [leS, Nat.reduceEqDiff, ↓reduceIte, true_and, and_true]; exact ⟨by rw [es'], by omega⟩,  by rw [es']; rfl⟩⟩
     ·obtain rfl : z = b + 1 := by omega
      rw [es]
      refine ats_exit (lq_x ?_)
      have hset0 : (Mx (b + 1)).set q (((Mx (b + 1)).getD q []).set r 0) = M := by
       have h := hset (b + 1) 0
       rw [hM, ← mxF_snoc0]
       exact h
      rcases sx with _ | L1
      ·simp only [TI, argI]
       (repeat refine ats_seq ?_); refine AT.ghost (ghost_vr 0 12 (q) rfl (List.mem_cons_self ..) rfl) ?_
       (repeat refine ats_seq ?_); refine ats_go (by first | exact fix0 hcx | exact fix1 hcx rfl | exact fixN hcx rfl) fun K hK => ?_; simp only [go_sem, seval, hr, Int.toNat_natCast, hrow]
       (repeat refine aI (hb := ?_))
       refine hK _ ?_; clear hK K
       rw [hset0]
       (repeat refine ats_seq ?_); refine AT.ghost (ghost_unpin 0 rfl) ?_; simp only [putT, Nat.reduceEqDiff, if_true, if_false, ↓reduceIte]
       refine gBN ?_
       refine ats_ret ⟨⟨[(1, .ref 0 []), (10, .nil)], [(0, .tq M L)]⟩, ghost_trans (ghost_drop [1]) (ghost_can [] (by simp only [killL, killA, killAs, qOf, rmT, killH, killT, List.filter_cons, List.filter_nil, List.contains_cons, List.contains_nil, Bool.or_false, Bool.or_true, Bool.false_and, Bool.not_true, Bool.not_false, Bool.false_eq_true, if_true, if_false, rnLs, rnL, rn, rns, sw, SlotsLe, St.get, slotGet, List.map_cons, List.map_nil, seval, AV.int.injEq, AV.bool.injEq, AV.l1.injEq, AV.l2.injEq, AV.l3.injEq, true_and, and_true]) (by simp only [killL, killA, killAs, qOf, rmT, killH, killT, List.filter_cons, List.filter_nil, List.contains_cons, List.contains_nil, Bool.or_false, Bool.or_true, Bool.false_and, Bool.not_true, Bool.not_false, Bool.false_eq_true, if_true, if_false, sortH, insH, rnHs, rnH, rnT, rn, rns, sw, List.map_cons, List.map_nil, seval])), .inr rfl, (by first | rfl | exact ⟨trivial, rfl⟩ | (simp only [resL, resA, go_sem, seval]; done)), (by simp [St.get, slotGet, argSlots]), rfl⟩
      ·simp only [TI, argI]
       (repeat refine ats_seq ?_); refine AT.ghost (ghost_vr 0 12 (q) rfl (List.mem_cons_self ..) rfl) ?_
       (repeat refine ats_seq ?_); refine ats_go (by first | exact fix0 hcx | exact fix1 hcx rfl | exact fixN hcx rfl) fun K hK => ?_; simp only [go_sem, seval, hr, Int.toNat_natCast, hrow]
       (repeat refine aI (hb := ?_))
       refine hK _ ?_; clear hK K
       rw [hset0]
       (repeat refine ats_seq ?_); refine AT.ghost (ghost_unpin 0 rfl) ?_; simp only [putT, Nat.reduceEqDiff, if_true, if_false, ↓reduceIte]
       refine gBN ?_
       refine ats_ret ⟨⟨[(1, .ref 0 []), (10, .ref 5 [])], [(0, .tq M L), (5, .r3 L1)]⟩, ghost_trans (ghost_drop [1]) (ghost_can [] (by simp only [killL, killA, killAs, qOf, rmT, killH, killT, List.filter_cons, List.filter_nil, List.contains_cons, List.contains_nil, Bool.or_false, Bool.or_true, Bool.false_and, Bool.not_true, Bool.not_false, Bool.false_eq_true, if_true, if_false, rnLs, rnL, rn, rns, sw, SlotsLe, St.get, slotGet, List.map_cons, List.map_nil, seval, AV.int.injEq, AV.bool.injEq, AV.l1.injEq, AV.l2.injEq, AV.l3.injEq, true_and, and_true]) (by simp only [killL, killA, killAs, qOf, rmT, killH, killT, List.filter_cons, List.filter_nil, List.contains_cons, List.contains_nil, Bool.or_false, Bool.or_true, Bool.false_and, Bool.not_true, Bool.not_false, Bool.false_eq_true, if_true, if_false, sortH, insH, rnHs, rnH, rnT, rn, rns, sw, List.map_cons, List.map_nil, seval])), .inr rfl, (by first | rfl | exact ⟨trivial, rfl⟩ | (simp only [resL, resA, go_sem, seval]; done)), (by simp [St.get, slotGet, argSlots]), rfl⟩
  ·simp only [TI, argI]
   refine OwnCall.intro (n := 85) (rs := [.tmp 10]) 2 [1] (X := [0]) Tryz.call18 Tryz.func18 rfl rfl rfl (by simp only [List.length_cons, List.length_nil]; omega) (by simp [Aw.ids, rootsA, rootsAs, argSlots, slotGet]) (fun cx hcx => AT.weakG (ats_of ?_)); simp only [argSlots, Nat.zero_add, Nat.reduceAdd]
   refine gBN ?_
   refine gBN ?_
   (repeat refine ats_seq ?_); refine ats_loop (fun y : Nat => ⟨[(1, .ref 0 []), (2, .int ((v.length + y : Nat) : Int)), (3, .int b), (4, .ref 5 []), (5, .bptr 6 0), (11, .int t.length)], [(0, .tq M L), (5, .r3 Q), (6, .bx [.l2 s, .l1 t])]⟩) (fun y => y ≤ x) (fun y => x - y) 0 (Nat.zero_le _) (by
    refine And.intro ?_ rfl; simp only [leS, Nat.reduceEqDiff, ↓reduceIte, true_and, and_true]
    all_goals first | exact ⟨rfl, rfl⟩ | rfl) (fun y hy => ?_)
   obtain ⟨p1, ep1⟩ : ∃ p1, p1 = v.length + y := ⟨_, rfl⟩
   rw [← ep1]
   obtain ⟨q1, eq1⟩ : ∃ q1, q1 = p1 / t.length := ⟨_, rfl⟩
   obtain ⟨r1, er1⟩ : ∃ r1, r1 = p1 % t.length := ⟨_, rfl⟩
   have hq1 : Int.tdiv (p1 : Int) (t.length : Int) = (q1 : Int) := by rw [eq1]; rfl
   have hr1 : Int.tmod (p1 : Int) (t.length : Int) = (r1 : Int) := by rw [er1]; rfl
   have pd1 : p1 < t.length * t.length → q1 < t.length := fun h => by rw [eq1]; exact pl_div h
   have pm1 : p1 < t.length * t.length → r1 < t.length := fun h => by rw [er1]; exact pl_mod h
   (repeat refine ats_seq ?_); refine ats_pick (by first | exact fix0 hcx | exact fixN hcx rfl) mixed (by kernel_rfl) fun K hK => ?_; simp only [go_sem, seval, hq1, hr1, nnC, Int.toNat_natCast, Int.ofNat_lt]
   (repeat refine And.intro (by first | omega | (intro hq1; have hq2 := of_decide_eq_true hq1; have h3 := pd1 hq2; have h4 := pm1 hq2; omega)) ?_)
   refine hK _ ?_; clear hK K
   refine gI (fun hqq => ?_) fun hqq => ?_
   ·have hyx : y < x := by
     simp only [Bool.and_eq_true, decide_eq_true_eq, Bool.not_eq_true', decide_eq_false_iff_not] at hqq
     rcases hend' with h | h
     ·omega
     ·by_cases hc : y = x
      ·rw [← hc, ← ep1, ← eq1, ← er1] at h
       exact absurd h hqq.2
      ·omega
    refine ats_skip ?_
    (repeat refine ats_seq ?_); refine ats_block ?_
    refine gBN ?_
    refine ⟨y + 1,  by omega, by omega, .inl ⟨by simp only [leS, Nat.reduceEqDiff, ↓reduceIte, true_and, and_true]; omega,  rfl⟩⟩
   ·obtain rfl : y = x := by
     by_cases hc : y = x
     ·exact hc
     ·have h := hno' y (by omega)
      rw [← ep1, ← eq1, ← er1] at h
      exfalso
      rw [decide_eq_true (show p1 < t.length * t.length by omega), decide_eq_false h] at hqq
      cases hqq
    refine ats_exit (lq_x ?_)
    (repeat refine ats_seq ?_); refine ats_go (by first | exact fix0 hcx | exact fix1 hcx rfl | exact fixN hcx rfl) fun K hK => ?_; simp only [go_sem, seval, nnC, Int.ofNat_inj]
    (repeat refine aI (hb := ?_))
    refine hK _ ?_; clear hK K
    obtain rfl : p = p1 := by omega
    refine gI (fun h2 => ?_) fun h2 => ?_
    ·exact absurd h2 (by omega)
    ·refine ats_skip ?_
     (repeat refine ats_seq ?_); refine ats_go (by first | exact fix0 hcx | exact fix1 hcx rfl | exact fixN hcx rfl) fun K hK => ?_; simp only [go_sem, seval, hq, Int.toNat_natCast, lM]
     (repeat refine aI (hb := ?_))
     refine hK _ ?_; clear hK K
     refine gBN ?_
     (repeat refine ats_seq ?_); refine ats_pin 0 12 (q) rfl rfl fun xv => ?_; simp only [putT, Nat.reduceEqDiff, if_true, if_false, ↓reduceIte]
     (repeat refine ats_seq ?_); refine ats_loop (fun z : Nat => ⟨[(1, .ref 0 []), (2, .int p), (3, .int b), (4, argI (S z)), (5, .bptr 6 0), (11, .int t.length), (12, .val xv), (13, .int z)], [(0, .tq (Mx z) ((q, xv) :: L))] ++ TI (S z) ++ [(6, .bx [.l2 s, .l1 t])]⟩) (fun z => z ≤ b + 1) (fun z => b + 1 - z) 0 (Nat.zero_le _) (by
      rw [hM0, hS0]
      refine And.intro ?_ rfl; simp only [leS, Nat.reduceEqDiff, ↓reduceIte, true_and, and_true]
      all_goals first | exact ⟨rfl, rfl⟩ | rfl) (fun z hz => ?_)
     obtain ⟨sx, es⟩ : ∃ sx, S z = sx := ⟨_, rfl⟩
     rw [es]
     refine gBN ?_
     refine gI (fun h4 => ?_) fun h4 => ?_
     ·have ih := hih z xv (by omega)
      rw [es] at ih
      obtain ⟨s', es'⟩ : ∃ s', S (z + 1) = s' := ⟨_, rfl⟩
      rw [es'] at ih
      have hmo := hSmo z
      rw [es, es'] at hmo
      refine ats_skip ?_
      (repeat refine ats_seq ?_); refine ats_block ?_
      obtain ⟨L1, rfl⟩ : ∃ L, sx = some L := by
       obtain ⟨L, hL⟩ := hSo Q hS0 z
       exact ⟨L, by rw [← es, hL]⟩
      obtain ⟨L2, rfl⟩ : ∃ L', s' = some L' := hmo L1 rfl
      simp only [TI, argI] at ih ⊢
      (repeat refine ats_seq ?_); refine AT.ghost (ghost_vr 0 12 (q) rfl (List.mem_cons_self ..) rfl) ?_
      (repeat refine ats_seq ?_); refine ats_go (by first | exact fix0 hcx | exact fix1 hcx rfl | exact fixN hcx rfl) fun K hK => ?_; simp only [go_sem, seval, hr, Int.toNat_natCast, hrow]
      (repeat refine aI (hb := ?_))
      refine hK _ ?_; clear hK K
      rw [hset, ← hMs]
      (repeat refine ats_seq ?_); refine AT.ghost (ghost_rv 0 12 (q) rfl (List.mem_cons_self ..) rfl) ?_
      (repeat refine ats_seq ?_); refine AT.ghost (st' := ⟨[(1, .ref 0 []), (2, .int p), (3, .int b), (4, .ref 5 []), (5, .bptr 6 0), (11, .int t.length), (12, .val xv), (13, .int z)], [(0, .tq (Mx (z + 1)) ((q, xv) :: L)), (5, .r3 L1), (6, .bx [.l2 s, .l1 t])]⟩) (ghost_can [] (by simp only [rnLs, rnL, rn, rns, sw, SlotsLe, St.get, slotGet, List.map_cons, List.map_nil, seval, AV.int.injEq, AV.bool.injEq, AV.l1.injEq, AV.l2.injEq, AV.l3.injEq, true_and, and_true]) (by simp only [sortH, insH, rnHs, rnH, rnT, rn, rns, sw, List.map_cons, List.map_nil, seval])) ?_
      refine gCN fun K hK => ?_
      (repeat refine aI (hb := ?_))
      refine fcall_box (ih) (by simp [Aw.ids]) (by simp [find]) (by simp [closedT, killT, killAs, killA, outQ, Aw.ids]) (by simp [killAs, killA, outQ, Aw.ids]) (by simp [Aw.ids]) ?_; simp only [Aw.ids, List.map_cons, List.map_nil, List.filter_cons, List.filter_nil, List.contains_cons, List.contains_nil, Bool.or_false, Bool.or_true, Bool.not_true, Bool.not_false, Nat.reduceBEq, Bool.false_eq_true, if_true, if_false, List.cons_append, List.nil_append]; simp only [go_sem, seval]
      (repeat refine aI (hb := ?_))
      refine hK _ ?_; clear hK K
      (repeat refine ats_seq ?_); refine AT.ghost (st' := ⟨[(1, .ref 0 []), (2, .int p), (3, .int b), (4, .ref 5 []), (5, .bptr 6 0), (11, .int t.length), (12, .val xv), (13, .int z)], [(0, .tq (Mx (z + 1)) ((q, xv) :: L)), (5, .r3 L2), (6, .bx [.l2 s, .l1 t])]⟩) (ghost_trans (ghost_drop []) (ghost_can [] (by simp only [killL, killA, killAs, qOf, rmT, killH, killT, List.filter_cons, List.filter_nil, List.contains_cons, List.contains_nil, Bool.or_false, Bool.or_true, Bool.false_and, Bool.not_true, Bool.not_false, Bool.false_eq_true, if_true, if_false, rnLs, rnL, rn, rns, sw, SlotsLe, St.get, slotGet, List.map_cons, List.map_nil, seval, AV.int.injEq, AV.bool.injEq, AV.l1.injEq, AV.l2.injEq, AV.l3.injEq, true_and, and_true]) (by simp only [killL, killA, killAs, qOf, rmT, killH, killT, List.filter_cons, List.filter_nil, List.contains_cons, List.contains_nil, Bool.or_false, Bool.or_true, Bool.false_and, Bool.not_true, Bool.not_false, Bool.false_eq_true, if_true, if_false, sortH, insH, rnHs, rnH, rnT, rn, rns, sw, List.map_cons, List.map_nil, seval]))) ?_
      refine gBN ?_
      refine ⟨z + 1,  by omega, by omega, .inl ⟨by simp only [leS, Nat.reduceEqDiff, ↓reduceIte, true_and, and_true]; exact ⟨by rw [es'], by omega⟩,  by rw [es']; rfl⟩⟩
     ·obtain rfl : z = b + 1 := by omega
      rw [es]
      refine ats_exit (lq_x ?_)
      have hset0 : (Mx (b + 1)).set q (((Mx (b + 1)).getD q []).set r 0) = M := by
       have h := hset (b + 1) 0
       rw [hM, ← mxF_snoc0]
       exact h
      obtain ⟨L1, rfl⟩ : ∃ L, sx = some L := by
       obtain ⟨L, hL⟩ := hSo Q hS0 (b + 1)
       exact ⟨L, by rw [← es, hL]⟩
      simp only [TI, argI]
      (repeat refine ats_seq ?_); refine AT.ghost (ghost_vr 0 12 (q) rfl (List.mem_cons_self ..) rfl) ?_
      (repeat refine ats_seq ?_); refine ats_go (by first | exact fix0 hcx | exact fix1 hcx rfl | exact fixN hcx rfl) fun K hK => ?_; simp only [go_sem, seval, hr, Int.toNat_natCast, hrow]
      (repeat refine aI (hb := ?_))
      refine hK _ ?_; clear hK K
      rw [hset0]
      (repeat refine ats_seq ?_); refine AT.ghost (ghost_unpin 0 rfl) ?_; simp only [putT, Nat.reduceEqDiff, if_true, if_false, ↓reduceIte]
      refine gBN ?_
      refine ats_ret ⟨⟨[(1, .ref 0 []), (10, .ref 5 [])], [(0, .tq M L), (5, .r3 L1)]⟩, ghost_trans (ghost_drop [6]) (ghost_can [] (by simp only [killL, killA, killAs, qOf, rmT, killH, killT, List.filter_cons, List.filter_nil, List.contains_cons, List.contains_nil, Bool.or_false, Bool.or_true, Bool.false_and, Bool.not_true, Bool.not_false, Bool.false_eq_true, if_true, if_false, rnLs, rnL, rn, rns, sw, SlotsLe, St.get, slotGet, List.map_cons, List.map_nil, seval, AV.int.injEq, AV.bool.injEq, AV.l1.injEq, AV.l2.injEq, AV.l3.injEq, true_and, and_true]) (by simp only [killL, killA, killAs, qOf, rmT, killH, killT, List.filter_cons, List.filter_nil, List.contains_cons, List.contains_nil, Bool.or_false, Bool.or_true, Bool.false_and, Bool.not_true, Bool.not_false, Bool.false_eq_true, if_true, if_false, sortH, insH, rnHs, rnH, rnT, rn, rns, sw, List.map_cons, List.map_nil, seval])), .inr rfl, (by first | rfl | exact ⟨trivial, rfl⟩ | (simp only [resL, resA, go_sem, seval]; done)), (by simp [St.get, slotGet, argSlots]), rfl⟩
end Go.Proofs.YtjpdkdepbkmebaaGreat
