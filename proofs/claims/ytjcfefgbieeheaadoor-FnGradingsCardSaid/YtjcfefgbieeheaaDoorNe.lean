import Derived.Test.YtjcfefgbieeheaaDoorNz1
import Derived.Test.YtjcfefgbieeheaaDoorOz1
import Derived.Test.YtjcfefgbieeheaaDoorQd3
import Derived.Test.YtjcfefgbieeheaaDoorMq
set_option linter.unusedSimpArgs false
set_option linter.unusedVariables false
namespace Go.Proofs.YtjcfefgbieeheaaDoor
open Go Go.Aw Go.Pl
theorem freshM2 {P : Program} {f : FuncId} {ds : List AV} {u : Option (List (List Int))} {c : Int} (h : FreshCall P f ds (.tup [optM u, .int c])) : FreshCall P f ds (.tup [.l2 (u.getD []), .int c]) := by
 cases u with
 | none => exact fresh_le h (avLe_tup (avsLe_cons avLe_nil2 (avsLe_rfl _)))
 | some u => exact h
theorem most9_ok {n : Nat} {R : Nat → Nat → Prop} (h : EqR n R) (hn : n ≤ 16) : PureCall Tryd.prog 15 [.l1 (clsL n R)] (.int (cnt R n : Nat)) := by
 have cl : (clsL n R).length = n := clsL_len
 refine PureCall.intro (n := 23) (rs := [.tmp 2]) Tryd.call15 Tryd.func15 rfl rfl rfl (by simp only [List.length_cons, List.length_nil]; omega) (fun cx hcx => ats_of ?_); simp only [argSlots, Nat.zero_add, Nat.reduceAdd]
 refine gB ?_
 refine gB ?_
 refine gB ?_
 (repeat refine ats_seq ?_); refine ats_loop (fun j : Nat => ⟨[(0, .l1 (clsL n R)), (3, .int (cnt R j : Nat)), (4, .int j)], []⟩) (fun j => j ≤ n) (fun j => n - j) 0 (Nat.zero_le _) (by
  refine And.intro ?_ rfl; simp only [leS, Nat.reduceEqDiff, ↓reduceIte, true_and, and_true]
  first | done | rfl | exact ⟨rfl, rfl⟩) (fun j hj => ?_)
 refine gB ?_
 refine gI (fun hl => ?_) fun hl => ?_
 ·have hjn : j < n := by omega
  have cj := clsL_get (R := R) hjn
  have hmx := h.num_max hjn
  have nle := num_le (R := R) (j := j)
  have cle := cnt_le (R := R) (m := j)
  refine ats_skip ?_
  (repeat refine ats_seq ?_); refine ats_block ?_
  refine gC fun K hK => ?_
  simp only [cj]
  (repeat refine aI (hb := ?_))
  refine hK _ ?_; clear hK K
  refine gI (fun h1 => ?_) fun h1 => ?_
  ·refine gC fun K hK => ?_
   simp only [cj]
   (repeat refine aI (hb := ?_))
   refine hK _ ?_; clear hK K
   refine gB ?_
   refine ⟨j + 1,  by omega, by omega, .inl ⟨by simp only [leS, Nat.reduceEqDiff, ↓reduceIte, true_and, and_true]; omega,  rfl⟩⟩
  ·refine ats_skip ?_
   refine gB ?_
   refine ⟨j + 1,  by omega, by omega, .inl ⟨by simp only [leS, Nat.reduceEqDiff, ↓reduceIte, true_and, and_true]; omega,  rfl⟩⟩
 ·obtain rfl : j = n := by omega
  refine ats_exit (lq_x ?_)
  refine gB ?_
  refine ats_ret (finI rfl ?_)
  rfl
set_option maxRecDepth 100000 in
theorem fnGradings_ok (c : List Int) (hb : ByteOk c) : PureCall Tryd.prog 3 [.lv (bsV c)] (.bool true) := by
 have hbig := big_ok c
 by_cases h4 : 4096 < c.length
 ·rw [decide_eq_true h4] at hbig
  refine PureCall.introR (n := 297) (rs := [.tmp 2]) Tryd.call3 Tryd.func3 rfl rfl rfl (by simp only [List.length_cons, List.length_nil]; omega) (fun cx hcx hrd => ats_of ?_); simp only [argSlots, Nat.zero_add, Nat.reduceAdd]
  refine gB ?_
  refine gC fun K hK => ?_
  refine fcall_data (hbig) (by first | rfl | simp only [areData, Aw.isData, areData_bsV, Bool.and_true]) ?_; simp only [go_sem, seval]
  refine hK _ ?_; clear hK K
  (repeat refine ats_seq ?_); refine ats_yes rfl trivial ?_
  refine gB ?_
  refine ats_ret (finB rfl ?_)
  rfl
 have hc : CodeOk c := ⟨by omega, hb⟩
 rw [decide_eq_false h4] at hbig
 obtain ⟨t, lt, hD⟩ := DrawGradingGroup_ok c hc
 have k1 := freshM2 (implGr_ok t)
 have k2 := freshM2 (specGr_ok t)
 have k3 := freshLq (implCmp_ok t)
 have k4 := freshLq (specCmp_ok t)
 obtain ⟨G, eG⟩ : ∃ G, (grR t).1.getD [] = G := ⟨_, rfl⟩
 obtain ⟨gc, egc⟩ : ∃ gc, (grR t).2 = gc := ⟨_, rfl⟩
 obtain ⟨C, eC⟩ : ∃ C, (cmR t).1.getD [] = C := ⟨_, rfl⟩
 have ecc : (cmR t).2 = gc := by
  rw [← egc]
  unfold cmR grR
  cases isRing t <;> rfl
 have s9 := same9_ok G G
 have li := likeInts_ok C C
 rw [decide_eq_true rfl] at s9 li
 rw [eG, egc] at k1 k2
 rw [eC, ecc] at k3 k4
 refine PureCall.introR (n := 297) (rs := [.tmp 2]) Tryd.call3 Tryd.func3 rfl rfl rfl (by simp only [List.length_cons, List.length_nil]; omega) (fun cx hcx hrd => ats_of ?_); simp only [argSlots, Nat.zero_add, Nat.reduceAdd]
 refine gB ?_
 refine gC fun K hK => ?_
 refine fcall_data (hbig) (by first | rfl | simp only [areData, Aw.isData, areData_bsV, Bool.and_true]) ?_; simp only [go_sem, seval]
 refine hK _ ?_; clear hK K
 (repeat refine ats_seq ?_); refine ats_no rfl trivial ?_
 refine ats_skip ?_
 refine gC fun K hK => ?_
 refine fcall_data (hD) (by first | rfl | simp only [areData, Aw.isData, areData_bsV, Bool.and_true]) ?_; simp only [go_sem, seval]
 refine hK _ ?_; clear hK K
 (repeat refine ats_seq ?_); refine AT.ghost (st' := ⟨[(0, .lv (bsV c)), (2, .bool false), (3, .bptr 5 0)], [(5, .bx [.l3 t])]⟩) (ghost_trans (ghost_drop []) (ghost_can [(0, 5)] (by simp only [killL, killA, killAs, killAs_bsV, qOf, rmT, killH, killT, List.filter_cons, List.filter_nil, List.contains_cons, List.contains_nil, Bool.or_false, Bool.or_true, Bool.false_and, Bool.not_true, Bool.not_false, Bool.false_eq_true, if_true, if_false, rnLs, rnL, rn, rns, rns_bsV, sw, SlotsLe, St.get, slotGet, List.map_cons, List.map_nil, seval, AV.int.injEq, AV.bool.injEq, AV.l1.injEq, AV.l2.injEq, AV.l3.injEq, true_and, and_true]) (by simp only [killL, killA, killAs, killAs_bsV, qOf, rmT, killH, killT, List.filter_cons, List.filter_nil, List.contains_cons, List.contains_nil, Bool.or_false, Bool.or_true, Bool.false_and, Bool.not_true, Bool.not_false, Bool.false_eq_true, if_true, if_false, sortH, insH, rnHs, rnH, rnT, rn, rns, rns_bsV, sw, List.map_cons, List.map_nil, seval]))) ?_
 refine gC fun K hK => ?_
 first | refine fcall_fresh rfl (k1) ?_ | refine YR_intro (acall_fresh rfl (k1)) ?_
 simp only [go_sem, seval]
 refine hK _ ?_; clear hK K
 refine gC fun K hK => ?_
 first | refine fcall_fresh rfl (k2) ?_ | refine YR_intro (acall_fresh rfl (k2)) ?_
 simp only [go_sem, seval]
 refine hK _ ?_; clear hK K
 refine gC fun K hK => ?_
 first | refine YR_intro (fun _ => acall_free rfl rfl (s9)) ?_ | refine YR_intro (acall_free rfl rfl (s9)) ?_
 simp only [go_sem, seval]
 refine hK _ ?_; clear hK K
 refine gI (fun h1 => ?_) fun h1 => ?_
 ·simp at h1
 refine ats_skip ?_
 refine gC fun K hK => ?_
 first | refine fcall_fresh rfl (k3) ?_ | refine YR_intro (acall_fresh rfl (k3)) ?_
 simp only [go_sem, seval]
 refine hK _ ?_; clear hK K
 refine gC fun K hK => ?_
 first | refine fcall_fresh rfl (k4) ?_ | refine YR_intro (acall_fresh rfl (k4)) ?_
 simp only [go_sem, seval]
 refine hK _ ?_; clear hK K
 refine gC fun K hK => ?_
 first | refine YR_intro (fun _ => acall_free rfl rfl (li)) ?_ | refine YR_intro (acall_free rfl rfl (li)) ?_
 simp only [go_sem, seval]
 refine hK _ ?_; clear hK K
 refine gI (fun h2 => ?_) fun h2 => ?_
 ·simp at h2
 refine ats_skip ?_
 (repeat refine ats_seq ?_); refine AT.ghost (st' := ⟨[(2, .bool false), (3, .bptr 5 0), (4, .l2 G), (5, .int gc), (8, .l1 C)], [(5, .bx [.l3 t])]⟩) (ghost_can [] (by simp only [rnLs, rnL, rn, rns, rns_bsV, sw, SlotsLe, St.get, slotGet, List.map_cons, List.map_nil, seval, AV.int.injEq, AV.bool.injEq, AV.l1.injEq, AV.l2.injEq, AV.l3.injEq, true_and, and_true]) (by simp only [sortH, insH, rnHs, rnH, rnT, rn, rns, rns_bsV, sw, List.map_cons, List.map_nil, seval])) ?_
 cases hr : isRing t with
 | false =>
  have e1 : grR t = (none, 1) := by unfold grR; rw [hr]; rfl
  have e2 : cmR t = (none, 1) := by unfold cmR; rw [hr]; rfl
  rw [e1] at eG egc
  rw [e2] at eC
  have eG : [] = G := eG
  have egc : (1 : Int) = gc := egc
  have eC : [] = C := eC
  subst eG egc eC
  refine gB ?_
  (repeat refine ats_seq ?_); refine ats_yes rfl trivial ?_
  refine gB ?_
  refine ats_ret (finB rfl ?_)
  rfl
 | true =>
  have h := isRing_P hr
  have hcu := h.cube
  have h16 := hcu.2.1
  have h1n := hcu.1
  have hA := adj_clos h
  have hE := co_eqv h hA
  have e1 : grR t = (some (ggM t), 0) := by unfold grR; rw [hr]; rfl
  have e2 : cmR t = (some (clsL t.length (CoR t (adj t))), 0) := by unfold cmR; rw [hr]; rfl
  have eAd : adR t = (((adj t : Nat) : Int), 0) := by unfold adR; rw [hr]; rfl
  have hAl := hA.lt
  have hsc : scA t (adj t : Nat) = 0 := by
   unfold scA
   rw [hr, if_pos rfl, if_pos]
   constructor <;> omega
  have e4 : coR t (adj t : Nat) = (some (clsL t.length (CoR t (adj t))), 0) := by
   unfold coR
   rw [if_pos hsc, Int.toNat_natCast, bd_true hA]; rfl
  have a1 := implAd_ok t
  have c1 := freshLq (implCoS_ok t (adj t : Nat))
  have m9 := most9_ok hE h16
  rw [e1] at eG egc
  rw [e2] at eC
  rw [eAd] at a1
  rw [e4] at c1
  have eG : ggM t = G := eG
  have egc : (0 : Int) = gc := egc
  have eC : clsL t.length (CoR t (adj t)) = C := eC
  subst egc
  have c1 : FreshCall Tryd.prog 14 [.agg [.l3 t], .int (adj t : Nat)] (.tup [.l1 C, .int 0]) := by rw [← eC]; exact c1
  have lC : C.length = t.length := by rw [← eC, clsL_len]
  obtain ⟨N, hN⟩ : ∃ N : Nat → Nat, num (CoR t (adj t)) = N := ⟨_, rfl⟩
  obtain ⟨m, hm⟩ : ∃ m, ncG t = m := ⟨_, rfl⟩
  have gCk : ∀ k, k < t.length → C.getD k 0 = (N k : Nat) := fun k hk => by rw [← eC, clsL_get hk, hN]
  have lG : G.length = m := by rw [← eG]; unfold ggM; rw [matF_length, hm]
  have rG : ∀ a, a < m → G.getD a [] = rowF m (gg t a) := fun a ha => by rw [← eG]; unfold ggM; rw [hm, matF_get ha]
  have lGr : ∀ a, a < m → (G.getD a []).length = m := fun a ha => by rw [rG a ha, rowF_length]
  have gG : ∀ a, a < m → ∀ b, b < m → (G.getD a []).getD b 0 = gg t a b := fun a ha b hb => by rw [rG a ha, rowF_get hb]
  have Nlt : ∀ k, k < t.length → N k < m := fun k hk => by rw [← hN, ← hm]; exact hE.num_lt hk
  have m9 : PureCall Tryd.prog 15 [.l1 C] (.int (m : Nat)) := by
   rw [eC] at m9
   have : cnt (CoR t (adj t)) t.length = m := hm
   rw [this] at m9
   exact m9
  have mle : m ≤ t.length := by rw [← hm]; exact cnt_le
  have goc : ∀ i, i < t.length → ∀ j, j < t.length → ∀ k, k < t.length → 0 < e3 t i j k → gg t (N i) (N j) = (N k : Nat) := fun i hi j hj k hk ho => by
   have := gg_oc h hi hj hk ho
   rw [hN] at this
   exact this
  have hz : ∀ i, i < t.length → (N i = 0 ↔ (adj t).testBit i = true) := fun i hi => by rw [← hN]; exact num_zero_iff h hi
  refine gB ?_
  (repeat refine ats_seq ?_); refine ats_no rfl trivial ?_
  refine ats_skip ?_
  refine gC fun K hK => ?_
  first | refine fcall_data (a1) rfl ?_ | refine YR_intro (acall_data (a1) rfl) ?_
  simp only [go_sem, seval]
  refine hK _ ?_; clear hK K
  refine gC fun K hK => ?_
  first | refine fcall_fresh rfl (c1) ?_ | refine YR_intro (acall_fresh rfl (c1)) ?_
  simp only [go_sem, seval]
  refine hK _ ?_; clear hK K
  refine gC fun K hK => ?_
  first | refine YR_intro (fun _ => acall_free rfl rfl (li)) ?_ | refine YR_intro (acall_free rfl rfl (li)) ?_
  simp only [go_sem, seval]
  first | refine YR_intro (fun _ => acall_free rfl rfl (m9)) ?_ | refine YR_intro (acall_free rfl rfl (m9)) ?_
  simp only [go_sem, seval]
  simp only [lG]
  (repeat refine aI (hb := ?_))
  refine hK _ ?_; clear hK K
  refine gI (fun h3 => ?_) fun h3 => ?_
  ·simp at h3
  refine ats_skip ?_
  refine gB ?_
  (repeat refine ats_seq ?_); refine AT.ghost (st' := ⟨[(2, .bool false), (3, .bptr 5 0), (4, .l2 G), (8, .l1 C), (12, .int (adj t : Nat)), (16, .int t.length)], [(5, .bx [.l3 t])]⟩) (ghost_can [] (by simp only [rnLs, rnL, rn, rns, rns_bsV, sw, SlotsLe, St.get, slotGet, List.map_cons, List.map_nil, seval, AV.int.injEq, AV.bool.injEq, AV.l1.injEq, AV.l2.injEq, AV.l3.injEq, true_and, and_true]) (by simp only [sortH, insH, rnHs, rnH, rnT, rn, rns, rns_bsV, sw, List.map_cons, List.map_nil, seval])) ?_
  refine gB ?_
  (repeat refine ats_seq ?_); refine ats_loop (fun i : Nat => ⟨[(2, .bool false), (3, .bptr 5 0), (4, .l2 G), (8, .l1 C), (12, .int (adj t : Nat)), (16, .int t.length), (17, .int i)], [(5, .bx [.l3 t])]⟩) (fun i => i ≤ t.length) (fun i => t.length - i) 0 (Nat.zero_le _) (by
   refine And.intro ?_ rfl; simp only [leS, Nat.reduceEqDiff, ↓reduceIte, true_and, and_true]
   first | done | rfl) (fun i hi => ?_)
  refine gB ?_
  refine gI (fun hl => ?_) fun hl => ?_
  ·have hin : i < t.length := by omega
   have gi := gCk i hin
   have eb : andI (shrI (adj t : Nat) ((i : Int) % 18446744073709551616)) 1 = if (adj t).testBit i then 1 else 0 := by
    rw [show (i : Int) % 18446744073709551616 = (i : Int) by omega]
    exact bit_get (by have := full_in h16 hAl; omega) (by omega)
   have hzi := hz i hin
   have rl := (hcu.2.2 i hin).1
   have Ni := Nlt i hin
   have gNi := lGr _ Ni
   refine ats_skip ?_
   (repeat refine ats_seq ?_); refine ats_block ?_
   refine gC fun K hK => ?_
   rw [gi, eb]
   (repeat refine aI (hb := ?_))
   refine hK _ ?_; clear hK K
   refine gI (fun h7 => ?_) fun h7 => ?_
   ·exfalso
    cases hbit : (adj t).testBit i with
    | true =>
     rw [hbit] at h7 hzi
     have := hzi.2 rfl
     simp [this] at h7
    | false =>
     rw [hbit] at h7 hzi
     have : N i ≠ 0 := fun e => Bool.false_ne_true (hzi.1 e)
     simp [this] at h7
   ·clear h7
    refine ats_skip ?_
    refine gB ?_
    (repeat refine ats_seq ?_); refine ats_loop (fun j : Nat => ⟨[(2, .bool false), (3, .bptr 5 0), (4, .l2 G), (8, .l1 C), (12, .int (adj t : Nat)), (16, .int t.length), (17, .int i), (18, .int j)], [(5, .bx [.l3 t])]⟩) (fun j => j ≤ t.length) (fun j => t.length - j) 0 (Nat.zero_le _) (by
     refine And.intro ?_ rfl; simp only [leS, Nat.reduceEqDiff, ↓reduceIte, true_and, and_true]
     first | done | rfl) (fun j hj => ?_)
    refine gB ?_
    refine gI (fun hl2 => ?_) fun hl2 => ?_
    ·have hjn : j < t.length := by omega
     have gj := gCk j hjn
     have Nj := Nlt j hjn
     have rl2 : ((t.getD i []).getD j []).length = t.length := ((hcu.2.2 i hin).2 j hjn).1
     have gg1 := gG _ Ni _ Nj
     refine ats_skip ?_
     (repeat refine ats_seq ?_); refine ats_block ?_
     refine gB ?_
     (repeat refine ats_seq ?_); refine ats_loop (fun k : Nat => ⟨[(2, .bool false), (3, .bptr 5 0), (4, .l2 G), (8, .l1 C), (12, .int (adj t : Nat)), (16, .int t.length), (17, .int i), (18, .int j), (19, .int k)], [(5, .bx [.l3 t])]⟩) (fun k => k ≤ t.length) (fun k => t.length - k) 0 (Nat.zero_le _) (by
      refine And.intro ?_ rfl; simp only [leS, Nat.reduceEqDiff, ↓reduceIte, true_and, and_true]
      first | done | rfl) (fun k hk => ?_)
     refine gB ?_
     refine gI (fun hl3 => ?_) fun hl3 => ?_
     ·have hkn : k < t.length := by omega
      have gk1 := gCk k hkn
      have ho := goc i hin j hjn k hkn
      refine ats_skip ?_
      (repeat refine ats_seq ?_); refine ats_block ?_
      (repeat refine ats_seq ?_); refine ats_pick (fix0 hcx) mixed (by kernel_rfl) fun K hK => ?_; simp only [go_sem, seval]
      simp only [gi, gj, gk1, gg1, Int.toNat_natCast]
      (repeat refine aI (hb := ?_))
      refine hK _ ?_; clear hK K
      refine gI (fun h8 => ?_) fun h8 => ?_
      ·exfalso
       have ho : 0 < ((t.getD i []).getD j []).getD k 0 → gg t (N i) (N j) = (N k : Nat) := ho
       generalize ((t.getD i []).getD j []).getD k 0 = x at h8 ho
       by_cases hp : 0 < x
       ·have := ho hp
        simp [this] at h8
       ·simp [hp] at h8
      ·clear h8
       refine ats_skip ?_
       refine gB ?_
       refine ⟨k + 1,  by omega, by omega, .inl ⟨by simp only [leS, Nat.reduceEqDiff, ↓reduceIte, true_and, and_true]; omega,  rfl⟩⟩
     ·refine ats_exit (lq_x ?_)
      refine gB ?_
      refine ⟨j + 1,  by omega, by omega, .inl ⟨by simp only [leS, Nat.reduceEqDiff, ↓reduceIte, true_and, and_true]; omega,  rfl⟩⟩
    ·refine ats_exit (lq_x ?_)
     refine gB ?_
     refine ⟨i + 1,  by omega, by omega, .inl ⟨by simp only [leS, Nat.reduceEqDiff, ↓reduceIte, true_and, and_true]; omega,  rfl⟩⟩
  ·refine ats_exit (lq_x ?_)
   refine gB ?_
   (repeat refine ats_seq ?_); refine ats_loop (fun a : Nat => ⟨[(2, .bool false), (3, .bptr 5 0), (4, .l2 G), (8, .l1 C), (16, .int t.length), (20, .int a)], [(5, .bx [.l3 t])]⟩) (fun a => a ≤ m) (fun a => m - a) 0 (Nat.zero_le _) (by
    refine And.intro ?_ rfl; simp only [leS, Nat.reduceEqDiff, ↓reduceIte, true_and, and_true]
    first | done | rfl) (fun a ha => ?_)
   refine gB ?_
   refine gI (fun hl2 => ?_) fun hl2 => ?_
   ·have ham : a < m := by omega
    have u1 := gG 0 (by omega) a ham
    have u2 := gG a ham 0 (by omega)
    have hun := gg_unit h (show a < ncG t by omega)
    rw [hun.1] at u1
    rw [hun.2] at u2
    have r0 := lGr 0 (by omega)
    have ra := lGr a ham
    have hI := hasInt_ok (G.getD a []) 0
    have hm0 : (0 : Int) ∈ G.getD a [] := by
     obtain ⟨b, hb1, hb2⟩ := gg_inv h (show a < ncG t by omega)
     have := gG a ham b (by omega)
     rw [hb2] at this
     have hlb : b < (G.getD a []).length := by omega
     rw [List.getD_eq_getElem?_getD, List.getElem?_eq_getElem hlb] at this
     rw [← this]
     exact List.getElem_mem _
    rw [decide_eq_true hm0] at hI
    refine ats_skip ?_
    (repeat refine ats_seq ?_); refine ats_block ?_
    refine gC fun K hK => ?_
    simp only [u1, u2, Int.toNat_natCast]
    (repeat refine aI (hb := ?_))
    first | refine YR_intro (fun _ => acall_data (hI) rfl) ?_ | refine YR_intro (acall_data (hI) rfl) ?_
    simp only [go_sem, seval]
    (repeat refine aI (hb := ?_))
    refine hK _ ?_; clear hK K
    refine gI (fun h9 => ?_) fun h9 => ?_
    ·simp at h9
    refine ats_skip ?_
    refine gB ?_
    (repeat refine ats_seq ?_); refine ats_loop (fun b : Nat => ⟨[(2, .bool false), (3, .bptr 5 0), (4, .l2 G), (8, .l1 C), (16, .int t.length), (20, .int a), (21, .int b)], [(5, .bx [.l3 t])]⟩) (fun b => b ≤ m) (fun b => m - b) 0 (Nat.zero_le _) (by
     refine And.intro ?_ rfl; simp only [leS, Nat.reduceEqDiff, ↓reduceIte, true_and, and_true]
     first | done | rfl) (fun b hb => ?_)
    refine gB ?_
    refine gI (fun hl3 => ?_) fun hl3 => ?_
    ·have hbm : b < m := by omega
     obtain ⟨p, hp1, hp2⟩ := gg_lt h (show a < ncG t by omega) (show b < ncG t by omega)
     have gp := gG a ham b hbm
     rw [hp2] at gp
     have rb := lGr b hbm
     have rp := lGr p (by omega)
     refine ats_skip ?_
     (repeat refine ats_seq ?_); refine ats_block ?_
     refine gB ?_
     (repeat refine ats_seq ?_); refine ats_loop (fun e : Nat => ⟨[(2, .bool false), (3, .bptr 5 0), (4, .l2 G), (8, .l1 C), (16, .int t.length), (20, .int a), (21, .int b), (22, .int e)], [(5, .bx [.l3 t])]⟩) (fun e => e ≤ m) (fun e => m - e) 0 (Nat.zero_le _) (by
      refine And.intro ?_ rfl; simp only [leS, Nat.reduceEqDiff, ↓reduceIte, true_and, and_true]
      first | done | rfl) (fun e he => ?_)
     refine gB ?_
     refine gI (fun hl4 => ?_) fun hl4 => ?_
     ·have hem : e < m := by omega
      obtain ⟨q, hq1, hq2⟩ := gg_lt h (show b < ncG t by omega) (show e < ncG t by omega)
      have gq := gG b hbm e hem
      rw [hq2] at gq
      have ga1 := gG p (by omega) e hem
      have ga2 := gG a ham q (by omega)
      have has := gg_assoc h (show a < ncG t by omega) (show b < ncG t by omega) (show e < ncG t by omega)
      rw [hp2, hq2, Int.toNat_natCast, Int.toNat_natCast] at has
      rw [has] at ga1
      refine ats_skip ?_
      (repeat refine ats_seq ?_); refine ats_block ?_
      (repeat refine ats_seq ?_); refine ats_pick (fix0 hcx) mixed (by kernel_rfl) fun K hK => ?_; simp only [go_sem, seval]
      simp only [gp, gq, ga1, ga2, Int.toNat_natCast]
      (repeat refine aI (hb := ?_))
      refine hK _ ?_; clear hK K
      refine gI (fun h10 => ?_) fun h10 => ?_
      ·simp at h10
      refine ats_skip ?_
      refine gB ?_
      refine ⟨e + 1,  by omega, by omega, .inl ⟨by simp only [leS, Nat.reduceEqDiff, ↓reduceIte, true_and, and_true]; omega,  rfl⟩⟩
     ·refine ats_exit (lq_x ?_)
      refine gB ?_
      refine ⟨b + 1,  by omega, by omega, .inl ⟨by simp only [leS, Nat.reduceEqDiff, ↓reduceIte, true_and, and_true]; omega,  rfl⟩⟩
    ·refine ats_exit (lq_x ?_)
     refine gB ?_
     refine ⟨a + 1,  by omega, by omega, .inl ⟨by simp only [leS, Nat.reduceEqDiff, ↓reduceIte, true_and, and_true]; omega,  rfl⟩⟩
   ·refine ats_exit (lq_x ?_)
    have k5 := implId_ok t
    cases hbd : bd (DimP t (dnL t)) with
    | false =>
     have e5 : idR t = (none, 4) := by unfold idR; rw [hr, hbd]; rfl
     rw [e5] at k5
     have k5 : FreshCall Tryd.prog 17 [.agg [.l3 t]] (.tup [.nil, .int 4]) := k5
     refine gC fun K hK => ?_
     first | refine fcall_fresh rfl (k5) ?_ | refine YR_intro (acall_fresh rfl (k5)) ?_
     simp only [go_sem, seval]
     refine hK _ ?_; clear hK K
     refine gB ?_
     (repeat refine ats_seq ?_); refine ats_yes rfl trivial ?_
     refine gB ?_
     refine ats_ret (finB rfl ?_)
     rfl
    | true =>
     have e5 : idR t = (some (dnL t), 0) := by unfold idR; rw [hr, hbd]; rfl
     rw [e5] at k5
     have hDP := bd_iff.1 hbd
     have hLb := dnL_bd h
     obtain ⟨L, eL⟩ : ∃ L, dnL t = L := ⟨_, rfl⟩
     rw [eL] at hDP hLb
     have k5 : FreshCall Tryd.prog 17 [.agg [.l3 t]] (.tup [.l1 L, .int 0]) := by rw [← eL]; exact k5
     have hDF : DimF t (fun k => L.getD k 0) := ⟨hDP.1, hDP.2⟩
     have lL := hLb.1
     have sq0 := fun (a : Nat) (ha : a < m) => sqC_eq h hDF (show a < ncG t by omega)
     refine gC fun K hK => ?_
     first | refine fcall_fresh rfl (k5) ?_ | refine YR_intro (acall_fresh rfl (k5)) ?_
     simp only [go_sem, seval]
     refine hK _ ?_; clear hK K
     refine gB ?_
     (repeat refine ats_seq ?_); refine ats_no rfl trivial ?_
     refine ats_skip ?_
     refine gB ?_
     have ez : List.replicate m (0 : Int) = rowF m fun a => sqC t (fun k => L.getD k 0) a 0 := by
      have : (fun a => sqC t (fun k => L.getD k 0) a 0) = fun _ => 0 := rfl
      rw [this]
      simp only [rowF, List.map_const', List.length_range]
     simp only [lG]
     rw [ez]
     refine gB ?_
     (repeat refine ats_seq ?_); refine ats_loop (fun i : Nat => ⟨[(2, .bool false), (8, .l1 C), (16, .int t.length), (23, .l1 L), (25, .ref 6 []), (26, .int i)], [(5, .bx [.l3 t]), (6, .t1 (rowF m fun a => sqC t (fun k => L.getD k 0) a i))]⟩) (fun i => i ≤ t.length) (fun i => t.length - i) 0 (Nat.zero_le _) (by
      refine And.intro ?_ rfl; simp only [leS, Nat.reduceEqDiff, ↓reduceIte, true_and, and_true]
      first | done | rfl) (fun i hi => ?_)
     refine gB ?_
     refine gI (fun hl3 => ?_) fun hl3 => ?_
     ·have hin : i < t.length := by omega
      have gi := gCk i hin
      have Ni := Nlt i hin
      have pb : 0 ≤ L.getD i 0 * L.getD i 0 ∧ L.getD i 0 * L.getD i 0 ≤ 288230376151711744 := prod_bd hLb hin hin
      have sb : 0 ≤ sqC t (fun k => L.getD k 0) (N i) i ∧ sqC t (fun k => L.getD k 0) (N i) i ≤ i * 288230376151711744 := by
       unfold sqC
       refine sumTo_le fun x hx => ?_
       have := prod_bd hLb (show x < t.length by omega) (show x < t.length by omega)
       split <;> omega
      have gs : (rowF m fun a => sqC t (fun k => L.getD k 0) a i).getD (N i) 0 = sqC t (fun k => L.getD k 0) (N i) i := rowF_get Ni
      have ls : (rowF m fun a => sqC t (fun k => L.getD k 0) a i).length = m := rowF_length _ _
      have es : (rowF m fun a => sqC t (fun k => L.getD k 0) a i).set (N i) (sqC t (fun k => L.getD k 0) (N i) i + L.getD i 0 * L.getD i 0) = rowF m fun a => sqC t (fun k => L.getD k 0) a (i + 1) := by
       rw [rowF_set]
       refine rowF_congr fun a _ => ?_
       have e1 : sqC t (fun k => L.getD k 0) a (i + 1) = sqC t (fun k => L.getD k 0) a i + if num (CoR t (adj t)) i = a then L.getD i 0 * L.getD i 0 else 0 := rfl
       rw [e1, hN]
       by_cases e : a = N i
       ·subst e; rw [if_pos rfl, if_pos rfl]
       ·rw [if_neg e, if_neg (fun h => e h.symm)]; omega
      refine ats_skip ?_
      (repeat refine ats_seq ?_); refine ats_block ?_
      (repeat refine ats_seq ?_); refine ats_pick (fix0 hcx) mixed (by kernel_rfl) fun K hK => ?_; simp only [go_sem, seval]
      simp only [gi, gs, es, Int.toNat_natCast]
      clear goc hz gG lGr rG gCk Nlt sq0 es
      (repeat refine aI (hb := ?_))
      refine hK _ ?_; clear hK K
      refine gB ?_
      refine ⟨i + 1,  by omega, by omega, .inl ⟨by simp only [leS, Nat.reduceEqDiff, ↓reduceIte, true_and, and_true]; omega,  rfl⟩⟩
     ·obtain rfl : i = t.length := by omega
      refine ats_exit (lq_x ?_)
      refine gB ?_
      have ls : (rowF m fun a => sqC t (fun k => L.getD k 0) a t.length).length = m := rowF_length _ _
      (repeat refine ats_seq ?_); refine ats_loop (fun a : Nat => ⟨[(2, .bool false), (25, .ref 6 []), (27, .int a)], [(5, .bx [.l3 t]), (6, .t1 (rowF m fun a => sqC t (fun k => L.getD k 0) a t.length))]⟩) (fun a => a ≤ m) (fun a => m - a) 0 (Nat.zero_le _) (by
       refine And.intro ?_ rfl; simp only [leS, Nat.reduceEqDiff, ↓reduceIte, true_and, and_true]
       first | done | rfl) (fun a ha => ?_)
      refine gB ?_
      refine gI (fun hl4 => ?_) fun hl4 => ?_
      ·have ham : a < m := by omega
       have g1 : (rowF m fun a => sqC t (fun k => L.getD k 0) a t.length).getD a 0 = sqC t (fun k => L.getD k 0) 0 t.length := by rw [rowF_get ham, sq0 a ham]
       have g2 : (rowF m fun a => sqC t (fun k => L.getD k 0) a t.length).getD 0 0 = sqC t (fun k => L.getD k 0) 0 t.length := rowF_get (by omega)
       refine ats_skip ?_
       (repeat refine ats_seq ?_); refine ats_block ?_
       (repeat refine ats_seq ?_); refine ats_pick (fix0 hcx) mixed (by kernel_rfl) fun K hK => ?_; simp only [go_sem, seval]
       simp only [g1, g2, Int.toNat_natCast]
       (repeat refine aI (hb := ?_))
       refine hK _ ?_; clear hK K
       refine gI (fun h11 => ?_) fun h11 => ?_
       ·simp at h11
       refine ats_skip ?_
       refine gB ?_
       refine ⟨a + 1,  by omega, by omega, .inl ⟨by simp only [leS, Nat.reduceEqDiff, ↓reduceIte, true_and, and_true]; omega,  rfl⟩⟩
      ·refine ats_exit (lq_x ?_)
       refine gB ?_
       refine ats_ret (finB rfl ?_)
       rfl
end Go.Proofs.YtjcfefgbieeheaaDoor
