import Derived.Test.YthhjcdnfflcikaaGreatVx2
set_option linter.unusedSimpArgs false
set_option linter.unusedVariables false
namespace Go.Proofs.YthhjcdnfflcikaaGreat
open Go Go.Aw Go.Pl
theorem redF_ok (x : List Int) (k : Nat) (h : k < x.length) : PureCall Tryz.prog 33 [.l1 x, .cptr [.int (k : Int)] 0] (.bool (decide (x.getD k 0 ≠ 0))) := by
 refine PureCall.intro (n := 9) (rs := [.tmp 3]) Tryz.call33 Tryz.func33 rfl rfl rfl (by simp only [List.length_cons, List.length_nil]; omega) (fun cx hcx => ats_of ?_); simp only [argSlots, Nat.zero_add, Nat.reduceAdd]
 refine gB ?_
 refine gC fun K hK => ?_
 (repeat refine aI (hb := ?_))
 refine hK _ ?_; clear hK K
 refine ats_ret (finB rfl ?_)
 simp
theorem idxV_ok (xs : List (List Int)) (f : Nat) (caps : List AV) (p : List Int → Bool) (hd : areData caps = true) (hf : ∀ i, i < xs.length → PureCall Tryz.prog f (.l1 (xs.getD i []) :: caps) (.bool (p (xs.getD i [])))) (j : Nat) (hj : j ≤ xs.length) (h0 : ∀ i, i < j → p (xs.getD i []) = false) (h1 : j < xs.length → p (xs.getD j []) = true) : PureCall Tryz.prog 32 [.l2 xs, .fn f caps] (.int (if j < xs.length then (j : Int) else -1)) := by
 refine PureCall.intro (n := 19) (rs := [.tmp 4]) Tryz.call32 Tryz.func32 rfl rfl rfl (by simp only [List.length_cons, List.length_nil]; omega) (fun cx hcx => ats_of ?_); simp only [argSlots, Nat.zero_add, Nat.reduceAdd]
 refine gA ?_
 refine ats_know 0 fun hw => ?_; simp only [St.get, slotGet, Nat.reduceEqDiff, ↓reduceIte, if_true, fact, facts] at hw
 have hlen := hw.1
 refine gA ?_
 (repeat refine ats_seq ?_); refine ats_loop (fun k : Nat => ⟨[(0, .l2 xs), (1, .fn f caps), (7, .int xs.length), (8, .int k)], []⟩) (fun k => k ≤ j) (fun k => j - k) 0 (Nat.zero_le _) (by refine And.intro ?_ rfl; simp only [leS, Nat.reduceEqDiff, ↓reduceIte, true_and, and_true]; repeat' (first | rfl | with_reducible refine And.intro ?_ ?_ | omega)) (fun k hk => ?_)
 refine gA ?_
 refine gI (fun h2 => ?_) fun h2 => ?_
 ·have hf1 := hf k (by omega)
  by_cases e : k = j
  ·subst e
   rw [h1 (by omega)] at hf1
   refine ats_skip ?_
   (repeat refine ats_seq ?_); refine ats_block ?_
   refine gA ?_
   refine gC fun K hK => ?_
   (repeat refine aI (hb := ?_))
   refine fcall_data hf1 (by simp only [areData, Aw.isData, hd, Bool.and_true]) ?_
   simp only [go_sem, seval]
   refine hK _ ?_; clear hK K
   (repeat refine ats_seq ?_); refine ats_yes rfl trivial ?_
   refine gA ?_
   refine ats_ret (finI rfl ?_)
   rw [if_pos (by omega)]
  ·rw [h0 k (by omega)] at hf1
   refine ats_skip ?_
   (repeat refine ats_seq ?_); refine ats_block ?_
   refine gA ?_
   refine gC fun K hK => ?_
   (repeat refine aI (hb := ?_))
   refine fcall_data hf1 (by simp only [areData, Aw.isData, hd, Bool.and_true]) ?_
   simp only [go_sem, seval]
   refine hK _ ?_; clear hK K
   (repeat refine ats_seq ?_); refine ats_no rfl trivial ?_
   refine ats_skip ?_
   refine gB ?_
   refine ⟨k + 1,  by omega, by omega, .inl ⟨by simp only [leS, Nat.reduceEqDiff, ↓reduceIte, true_and, and_true]; omega,  rfl⟩⟩
 ·refine ats_exit (lq_x ?_)
  refine gA ?_
  refine ats_ret (finI rfl ?_)
  rw [if_neg (by omega)]
end Go.Proofs.YthhjcdnfflcikaaGreat
namespace Go.Proofs.YthhjcdnfflcikaaGreat
open Go Go.Aw Go.Pl
attribute [local go_sem] pl_fin pl_stop pl_one pl_alt PK_ap pickO List.getElem?_toArray List.getElem?_cons_zero List.getElem?_cons_succ
set_option maxHeartbeats 16000000 in
theorem reduceF_ok (n : Nat) (A : List (List Int)) (hA : RowsP n A) (hn1 : 1 ≤ n) (hn : n ≤ 1000) (hm : A.length ≤ 1000) (hm1 : 1 ≤ A.length) : ∃ det : Int, PureCall Tryz.prog 17 [.l2 A] (.tup [.l2 (basL n A), .int det]) := by
 have hC : ∀ i, i < A.length → FreshCall Tryz.prog 31 [.l1 (A.getD i [])] (.l1 (A.getD i [])) := fun i hi => by
  have h := hA (A.getD i []) (by simp [List.getD, hi])
  exact clone_ok _ (by omega) (by omega)
 have hlA : ∀ i, i < A.length → (A.getD i []).length = n := fun i hi => (hA (A.getD i []) (by simp [List.getD, hi])).1
 have ent := rowsP_ent hA
 have eA := rowsP_mat hA
 unfold basL rkL
 generalize e2 A = G0 at *
 obtain ⟨m, em⟩ : ∃ m, A.length = m := ⟨_, rfl⟩
 rw [em] at ent eA hm hm1 hC hlA ⊢
 obtain ⟨pvn, hPn⟩ := gj_P ent n (Nat.le_refl _)
 have hdn := hPn.dm
 have tk : ((matF m n (gj m G0 n).1).take (gj m G0 n).2).drop 0 = matF (gj m G0 n).2 n (gj m G0 n).1 := by rw [matF_take hdn]; rfl
 -- the determinant, told along
 obtain ⟨dt, hdt0, hdtS⟩ : ∃ dt : Nat → Int, dt 0 = 1 ∧ ∀ k, dt (k + 1) = (if fndF (gj m G0 k).1 k (m - (gj m G0 k).2) (gj m G0 k).2 < m then (if fndF (gj m G0 k).1 k (m - (gj m G0 k).2) (gj m G0 k).2 = (gj m G0 k).2 then dt k else (0 - dt k) % 55441) * (gj m G0 k).1 (fndF (gj m G0 k).1 k (m - (gj m G0 k).2) (gj m G0 k).2) k % 55441 else 0) :=
  ⟨fun k => Nat.rec 1 (fun k d => (if fndF (gj m G0 k).1 k (m - (gj m G0 k).2) (gj m G0 k).2 < m then (if fndF (gj m G0 k).1 k (m - (gj m G0 k).2) (gj m G0 k).2 = (gj m G0 k).2 then d else (0 - d) % 55441) * (gj m G0 k).1 (fndF (gj m G0 k).1 k (m - (gj m G0 k).2) (gj m G0 k).2) k % 55441 else 0)) k, rfl, fun _ => rfl⟩
 have hdtP : ∀ k, InP (dt k) := fun k => by
  cases k with
  | zero => rw [hdt0]; exact ⟨by omega, by omega⟩
  | succ k =>
   rw [hdtS]
   split
   ·exact inP_md _
   ·exact ⟨by omega, by omega⟩
 refine ⟨dt n, ?_⟩
 refine PureCall.intro (n := 165) (rs := [.tmp 2, .tmp 3]) Tryz.call17 Tryz.func17 rfl rfl rfl (by simp only [List.length_cons, List.length_nil]; omega) (fun cx hcx => ats_of ?_); simp only [argSlots, Nat.zero_add, Nat.reduceAdd]
 refine gB ?_
 refine gB ?_
 refine gB ?_
 (repeat refine ats_seq ?_); refine ats_loop (fun i : Nat => ⟨[(4, .ref 0 []), (5, .int 1), (19, .l2 A), (20, .int m), (21, .int i)], [(0, .t2 (A.take i))]⟩) (fun i => i ≤ m) (fun i => m - i) 0 (Nat.zero_le _) (by refine And.intro ?_ rfl; simp only [leS, Nat.reduceEqDiff, ↓reduceIte, true_and, and_true]; repeat' (first | rfl | with_reducible refine And.intro ?_ ?_ | omega)) (fun i hi => ?_)
 have lt : (A.take i).length = i := by rw [List.length_take]; omega
 refine gB ?_
 refine gI (fun hc2 => ?_) fun hc2 => ?_
 ·have hi' : i < m := by omega
  have hCi := hC i hi'
  have hli := hlA i hi'
  have st := take_snoc (xs := A) (d := []) (k := i) (by omega)
  refine ats_skip ?_
  (repeat refine ats_seq ?_); refine ats_block ?_
  refine gB ?_
  refine gC fun K hK => ?_
  refine fcall_own rfl (hCi) rfl ?_; simp only [go_sem, seval]
  (repeat refine aI (hb := ?_))
  refine hK _ ?_; clear hK K
  refine gB ?_
  refine ⟨i + 1,  by omega, by omega, .inl ⟨by simp only [leS, Nat.reduceEqDiff, ↓reduceIte, true_and, and_true]; omega,  by rw [st]⟩⟩
 ·obtain rfl : i = m := by omega
  rw [List.take_of_length_le (by omega), eA]
  clear hC hlA
  refine ats_exit (lq_x ?_)
  refine gB ?_
  refine gB ?_
  (repeat refine ats_seq ?_); refine AT.ghost (st' := ⟨[(4, .ref 0 []), (5, .int 1), (8, .int 0), (9, .bptr 1 0)], [(0, .t2 (matF i n G0)), (1, .bx [.int 0])]⟩) (ghost_can [] (by simp only [rnLs, rnL, rn, rns, sw, SlotsLe, St.get, slotGet, List.map_cons, List.map_nil, seval, AV.int.injEq, AV.bool.injEq, AV.l1.injEq, AV.l2.injEq, AV.l3.injEq, true_and, and_true]) (by simp only [sortH, insH, rnHs, rnH, rnT, rn, rns, sw, List.map_cons, List.map_nil, seval])) ?_
  (repeat refine ats_seq ?_)
  refine ats_loop (fun k : Nat => ⟨[(4, .ref 0 []), (5, .int (dt k)), (8, .int ((gj i G0 k).2 : Nat)), (9, .bptr 1 0)], [(0, .t2 (matF i n (gj i G0 k).1)), (1, .bx [.int k])]⟩) (fun k => k ≤ n) (fun k => n - k) 0 (Nat.zero_le _) ⟨by
   rw [hdt0]
   simp only [SlotsLe, St.get, slotGet, Nat.reduceEqDiff, ↓reduceIte, true_and, and_true]
   first | rfl | exact ⟨rfl, rfl⟩ | trivial, rfl⟩ (fun k hk => ?_)
  obtain ⟨pv, hP⟩ := gj_P ent k hk
  have hstep : gj i G0 (k + 1) = gjS i (gj i G0 k) k := rfl
  have hds := hdtS k
  have hdP := hdtP k
  obtain ⟨s, es⟩ : ∃ s, gj i G0 k = s := ⟨_, rfl⟩
  rw [es] at hP hstep hds ⊢
  obtain ⟨G, d⟩ := s
  have hdm : d ≤ i := hP.dm
  have hE : ∀ x, x < i → ∀ c, c < n → InP (G x c) := hP.ent
  have lM := matF_length i n G
  have r0 : (matF i n G).getD 0 [] = rowF n (G 0) := matF_get (by omega)
  have l0 := rowF_length n (G 0)
  have mpos : ((0 : Int) < (i : Int)) = True := eq_true (by omega)
  try dsimp only at hds ⊢
  (repeat refine ats_seq ?_); refine ats_pick (fix0 hcx) mixed (by kernel_rfl) fun K hK => ?_; simp only [go_sem, seval, lM, r0, l0, mpos, decide_true, Bool.true_and]
  (repeat refine aI (hb := ?_))
  refine hK _ ?_; clear hK K
  refine gI (fun hk2 => ?_) fun hk2 => ?_
  ·have hkn : k < n := by omega
   obtain ⟨f1, f2, f3, f4⟩ := fndF_fact G k (i - d) d
   have hgs : gjS i (G, d) k = if fndF G k (i - d) d < i then (elimF G d k (fndF G k (i - d) d), d + 1) else (G, d) := rfl
   rw [hgs] at hstep
   generalize fndF G k (i - d) d = F at *
   have ldr : ((matF i n G).drop d).length = i - d := by rw [List.length_drop, lM]
   have gdr : ∀ x, x < i - d → ((matF i n G).drop d).getD x [] = rowF n (G (d + x)) := fun x hx => by
    have e1 : ((matF i n G).drop d).getD x [] = (matF i n G).getD (d + x) [] := by
     rw [List.getD_eq_getElem?_getD, List.getD_eq_getElem?_getD, List.getElem?_drop]
    rw [e1, matF_get (by omega)]
   have hIx := idxV_ok ((matF i n G).drop d) 33 [.cptr [.int (k : Int)] 0] (fun x => decide (x.getD k 0 ≠ 0)) rfl (fun x hx => by
    rw [ldr] at hx
    rw [gdr x hx]
    exact redF_ok _ k (by rw [rowF_length]; exact hkn)) (F - d) (by rw [ldr]; omega) (fun x hx => by
    rw [gdr x (by omega), rowF_get hkn]
    rw [f3 (d + x) (by omega) (by omega)]
    rfl) (fun hx => by
    rw [ldr] at hx
    rw [gdr _ hx, rowF_get hkn, show d + (F - d) = F by omega]
    exact decide_eq_true (f4 (by omega)))
   rw [ldr] at hIx
   have tkd : ((matF i n G).take i).drop d = (matF i n G).drop d := by rw [List.take_of_length_le (by omega)]
   refine ats_skip ?_
   (repeat refine ats_seq ?_); refine ats_block ?_
   rw [← tkd] at hIx
   (repeat refine ats_seq ?_); refine ats_go (fix0 hcx) fun K hK => ?_; simp only [go_sem, seval, lM]
   (repeat refine aI (hb := ?_))
   first | refine fcall_free rfl rfl (hIx) ?_ | refine YR_intro (acall_free rfl rfl (hIx)) ?_
   simp only [go_sem, seval]
   refine hK _ ?_; clear hK K
   have dP := hE
   by_cases hF : F < i
   ·rw [if_pos (by omega)]
    rw [if_pos hF] at hstep hds
    have dF : ((F - d : Nat) : Int) = (F : Int) - d := by omega
    refine gB ?_
    refine gI (fun hc5 => ?_) fun hc5 => ?_
    ·omega
    ·refine ats_skip ?_
     obtain ⟨G1, eG1⟩ : ∃ G1, swF G d F = G1 := ⟨_, rfl⟩
     have rd : (matF i n G).getD d [] = rowF n (G d) := matF_get (by omega)
     have rF : (matF i n G).getD F [] = rowF n (G F) := matF_get hF
     refine gB ?_
     (repeat refine ats_seq ?_)
     refine ats_upto ⟨[(4, .ref 0 []), (5, .int (if F = d then dt k else (0 - dt k) % 55441)), (8, .int d), (9, .bptr 1 0)], [(0, .t2 (matF i n G1)), (1, .bx [.int k])]⟩ ?_ ?_
     ·refine gI (fun hc6 => ?_) fun hc6 => ?_
      ·have hne : F ≠ d := by omega
       have hne1 : (F = d) = False := eq_false hne
       have hne2 : (d = F) = False := eq_false (fun e => hne e.symm)
       have eDF : (d : Int) + ((F - d : Nat) : Int) = (F : Int) := by omega
       have sw1 : ((matF i n G).set d (rowF n (G F))).set F (rowF n (G d)) = matF i n G1 := by
        rw [matF_srow, matF_srow, ← eG1]
        refine matF_congr fun x _ c _ => ?_
        unfold swF
        by_cases e1 : x = d
        ·rw [if_pos e1, if_neg (by omega), if_pos e1]
        ·rw [if_neg e1]
         by_cases e2 : x = F
         ·rw [if_pos e2, if_pos e2, if_neg e1]
         ·rw [if_neg e2, if_neg e2, if_neg e1]
       unfold InP at hdP
       have hMd := modV_ok (0 - dt k) (by omega) (by omega)
       rw [if_neg hne]
       (repeat refine ats_seq ?_); refine AT.ghost (ghost_mx 0 d F 2 3 rfl (by rw [lM]; omega) (by rw [lM]; exact hF) (fun e => hne e.symm) rfl rfl (by decide)) ?_; simp only [find, killL, killA, killAs, qOf, rmT, killH, killT, putT, List.map_cons, List.map_nil, List.filter_cons, List.filter_nil, List.contains_cons, List.contains_nil, List.isEmpty_nil, List.isEmpty_cons, Bool.or_false, Bool.or_true, Bool.false_and, Bool.true_and, Bool.and_false, Bool.and_true, Bool.not_true, Bool.not_false, Bool.false_eq_true, if_true, if_false, seval]
       rw [rd, rF]
       (repeat refine ats_seq ?_)
       refine ats_plan [] (.one 0 (.one 1 (.one 6 (.one 7 (.one 8 (.one 9 (.one 10 (.one 11 (.one 12 (.one 13 (.one 14 (.one 15 (.one 16 (.alt 2 (.alt 3 (.alt 4 (.alt 5 (.alt 17 (.one 18 (.alt 19 .fin .stop)) .stop) (.alt 17 (.one 5 (.one 18 (.alt 19 .fin .stop))) .stop)) (.alt 17 (.one 4 (.one 5 (.one 18 (.alt 19 .fin .stop)))) .stop)) (.alt 4 (.alt 3 (.alt 5 (.alt 17 (.one 18 (.alt 19 .fin .stop)) .stop) (.alt 17 (.one 5 (.one 18 (.alt 19 .fin .stop))) .stop)) (.alt 17 (.one 3 (.one 5 (.one 18 (.alt 19 .fin .stop)))) .stop)) (.alt 17 (.one 3 (.one 4 (.one 5 (.one 18 (.alt 19 .fin .stop))))) .stop))) (.alt 3 (.alt 2 (.alt 4 (.alt 5 (.alt 17 (.one 18 (.alt 19 .fin .stop)) .stop) (.alt 17 (.one 5 (.one 18 (.alt 19 .fin .stop))) .stop)) (.alt 17 (.one 4 (.one 5 (.one 18 (.alt 19 .fin .stop)))) .stop)) (.alt 4 (.alt 2 (.alt 5 (.alt 17 (.one 18 (.alt 19 .fin .stop)) .stop) (.alt 17 (.one 5 (.one 18 (.alt 19 .fin .stop))) .stop)) (.alt 5 (.alt 2 (.alt 17 (.one 18 (.alt 19 .fin .stop)) .stop) (.alt 17 (.one 2 (.one 18 (.alt 19 .fin .stop))) .stop)) (.alt 17 (.one 2 (.one 5 (.one 18 (.alt 19 .fin .stop)))) .stop))) (.alt 17 (.one 2 (.one 4 (.one 5 (.one 18 (.alt 19 .fin .stop))))) .stop))) (.alt 4 (.alt 2 (.alt 3 (.alt 5 (.alt 17 (.one 18 (.alt 19 .fin .stop)) .stop) (.alt 17 (.one 5 (.one 18 (.alt 19 .fin .stop))) .stop)) (.alt 17 (.one 3 (.one 5 (.one 18 (.alt 19 .fin .stop)))) .stop)) (.alt 3 (.alt 2 (.alt 5 (.alt 17 (.one 18 (.alt 19 .fin .stop)) .stop) (.alt 17 (.one 5 (.one 18 (.alt 19 .fin .stop))) .stop)) (.alt 5 (.alt 2 (.alt 17 (.one 18 (.alt 19 .fin .stop)) .stop) (.alt 17 (.one 2 (.one 18 (.alt 19 .fin .stop))) .stop)) (.alt 17 (.one 2 (.one 5 (.one 18 (.alt 19 .fin .stop)))) .stop))) (.alt 17 (.one 2 (.one 3 (.one 5 (.one 18 (.alt 19 .fin .stop))))) .stop))) (.alt 17 (.one 2 (.one 3 (.one 4 (.one 5 (.one 18 (.alt 19 .fin .stop)))))) .stop))))))))))))))))) ⟨[(4, .ref 0 []), (5, .int (dt k)), (8, .int d), (9, .bptr 1 0)], [(2, .t1 (rowF n (G d))), (3, .t1 (rowF n (G F))), (0, .mx (matF i n G) d F (.ref 3 []) (.ref 2 [])), (1, .bx [.int k])]⟩ (fix0 hcx) mixed (by kernel_rfl) (fun K hK => ?_) ?_
       ·simp only [go_sem, seval, Option.getD_some, and_true, true_and, and_self, List.contains_cons, List.contains_nil, Bool.or_false, Bool.or_true]
        repeat' (first | exact hK _ (by refine And.intro ?_ rfl; simp only [leS, Nat.reduceEqDiff, ↓reduceIte, true_and, and_true])  | with_reducible refine And.intro ?_ ?_ | omega | ((simp only [lM, eDF, Int.toNat_natCast, hne1, hne2, if_true, if_false])) | (rfl) | ((simp only [true_or, or_true, hne1, hne2, if_true, if_false])))
       (repeat refine ats_seq ?_); refine AT.ghost (ghost_xm 0 d F 3 2 rfl rfl rfl (by decide) (fun e => hne e.symm)) ?_; simp only [find, killL, killA, killAs, qOf, rmT, killH, killT, putT, List.map_cons, List.map_nil, List.filter_cons, List.filter_nil, List.contains_cons, List.contains_nil, List.isEmpty_nil, List.isEmpty_cons, Bool.or_false, Bool.or_true, Bool.false_and, Bool.true_and, Bool.and_false, Bool.and_true, Bool.not_true, Bool.not_false, Bool.false_eq_true, if_true, if_false, seval]
       rw [sw1]
       refine gC fun K hK => ?_
       (repeat refine aI (hb := ?_))
       first | refine fcall_data (hMd) rfl ?_ | refine YR_intro (acall_data (hMd) rfl) ?_
       simp only [go_sem, seval]
       refine hK _ ?_; clear hK K
       refine ats_nil ?_; refine Or.inl ⟨rfl, ghost_trans (ghost_drop []) (ghost_can [] (by simp only [killL, killA, killAs, qOf, rmT, killH, killT, List.filter_cons, List.filter_nil, List.contains_cons, List.contains_nil, Bool.or_false, Bool.or_true, Bool.false_and, Bool.not_true, Bool.not_false, Bool.false_eq_true, if_true, if_false, rnLs, rnL, rn, rns, sw, SlotsLe, St.get, slotGet, List.map_cons, List.map_nil, seval, AV.int.injEq, AV.bool.injEq, AV.l1.injEq, AV.l2.injEq, AV.l3.injEq, true_and, and_true]) (by simp only [killL, killA, killAs, qOf, rmT, killH, killT, List.filter_cons, List.filter_nil, List.contains_cons, List.contains_nil, Bool.or_false, Bool.or_true, Bool.false_and, Bool.not_true, Bool.not_false, Bool.false_eq_true, if_true, if_false, sortH, insH, rnHs, rnH, rnT, rn, rns, sw, List.map_cons, List.map_nil, seval]))⟩
      ·have he : F = d := by omega
       have sw2 : matF i n G1 = matF i n G := by
        rw [← eG1]
        refine matF_congr fun x _ c _ => ?_
        unfold swF
        rw [he]
        split
        ·rename_i e; rw [e]
        ·rfl
       rw [if_pos he, sw2]
       refine ats_skip ?_
       refine ats_nil ?_; refine Or.inl ⟨rfl, ghost_trans (ghost_drop []) (ghost_can [] (by simp only [killL, killA, killAs, qOf, rmT, killH, killT, List.filter_cons, List.filter_nil, List.contains_cons, List.contains_nil, Bool.or_false, Bool.or_true, Bool.false_and, Bool.not_true, Bool.not_false, Bool.false_eq_true, if_true, if_false, rnLs, rnL, rn, rns, sw, SlotsLe, St.get, slotGet, List.map_cons, List.map_nil, seval, AV.int.injEq, AV.bool.injEq, AV.l1.injEq, AV.l2.injEq, AV.l3.injEq, true_and, and_true]) (by simp only [killL, killA, killAs, qOf, rmT, killH, killT, List.filter_cons, List.filter_nil, List.contains_cons, List.contains_nil, Bool.or_false, Bool.or_true, Bool.false_and, Bool.not_true, Bool.not_false, Bool.false_eq_true, if_true, if_false, sortH, insH, rnHs, rnH, rnT, rn, rns, sw, List.map_cons, List.map_nil, seval]))⟩
     have hlz := f4 (by omega)
     have hle := hE F hF k hkn
     have E1 : ∀ x, x < i → ∀ c, c < n → InP (G1 x c) := fun x hx c hc => by
      rw [← eG1]
      unfold swF
      split
      ·exact hE F hF c hc
      ·split
       ·exact hE d (by omega) c hc
       ·exact hE x hx c hc
     have g1d : ∀ c, G1 d c = G F c := fun c => by rw [← eG1]; unfold swF; rw [if_pos rfl]
     have hD : InP (if F = d then dt k else (0 - dt k) % 55441) := by
      split
      ·exact hdP
      ·exact inP_md _
     obtain ⟨D, eD⟩ : ∃ D, (if F = d then dt k else (0 - dt k) % 55441) = D := ⟨_, rfl⟩
     obtain ⟨le, el⟩ : ∃ le, G F k = le := ⟨_, rfl⟩
     obtain ⟨v, ev⟩ : ∃ v, inv le = v := ⟨_, rfl⟩
     have hdv := divide_ok 1 le ⟨by omega, by omega⟩ (by rw [← el]; exact hle)
     have vP : InP v := by rw [← ev, ← el]; exact inv_InP hle
     rw [ev, Int.one_mul, md_InP vP] at hdv
     have hst : elimF G d k F = rdF (smF G1 d v) d k := by unfold elimF; rw [el, ev, eG1]
     rw [hst] at hstep
     rw [el] at hle hds
     rw [eD] at hD hds ⊢
     have dml := mulP hD hle
     have e3 : (D * le).tmod 55441 = D * le % 55441 := tmP dml.1
     have b3 : 0 ≤ D * le % 55441 ∧ D * le % 55441 < 55441 := ⟨Int.emod_nonneg _ (by omega), Int.emod_lt_of_pos _ (by omega)⟩
     have lM1 := matF_length i n G1
     have rd1 : (matF i n G1).getD d [] = rowF n (G1 d) := matF_get (by omega)
     have ld1 := rowF_length n (G1 d)
     have ek1 : (rowF n (G1 d)).getD k 0 = le := by rw [rowF_get hkn, g1d, el]
     clear eG1 hIx tkd gdr ldr rd rF f3 f4
     (repeat refine ats_seq ?_); refine ats_pick (fix0 hcx) mixed (by kernel_rfl) fun K hK => ?_; simp only [go_sem, seval, lM1, rd1, ek1, ld1]
     (repeat refine aI (hb := ?_))
     refine hK _ ?_; clear hK K
     (repeat refine ats_seq ?_); refine ats_go (fix0 hcx) fun K hK => ?_; simp only [go_sem, seval, e3]
     (repeat refine aI (hb := ?_))
     refine hK _ ?_; clear hK K
     rw [← hds]
     refine gC fun K hK => ?_
     first | refine fcall_data (hdv) rfl ?_ | refine YR_intro (acall_data (hdv) rfl) ?_
     simp only [go_sem, seval]
     refine hK _ ?_; clear hK K
     (repeat refine ats_seq ?_); refine ats_go (fix0 hcx) fun K hK => ?_; simp only [go_sem, seval, lM1, rd1, ld1]
     (repeat refine aI (hb := ?_))
     refine hK _ ?_; clear hK K
     have hs0 : matF i n G1 = matF i n (fun x y => if x = d ∧ y < 0 then G1 d y * v % 55441 else G1 x y) := matF_congr fun x _ c _ => by rw [if_neg (by omega)]
     rw [hs0]
     (repeat refine ats_seq ?_); refine ats_loop (fun c : Nat => ⟨[(4, .ref 0 []), (5, .int (dt (k + 1))), (8, .int d), (9, .bptr 1 0), (12, .int v), (91, .int n), (92, .int c)], [(0, .t2 (matF i n (fun x y => if x = d ∧ y < c then G1 d y * v % 55441 else G1 x y))), (1, .bx [.int k])]⟩) (fun c => c ≤ n) (fun c => n - c) 0 (Nat.zero_le _) (by refine And.intro ?_ rfl; simp only [leS, Nat.reduceEqDiff, ↓reduceIte, true_and, and_true]; repeat' (first | rfl | with_reducible refine And.intro ?_ ?_ | omega)) (fun c hc => ?_)
     refine gB ?_
     refine gI (fun hc8 => ?_) fun hc8 => ?_
     ·have hcn : c < n := by omega
      obtain ⟨X, eX⟩ : ∃ X : Nat → Nat → Int, (fun x y => if x = d ∧ y < c then G1 d y * v % 55441 else G1 x y) = X := ⟨_, rfl⟩
      rw [eX]
      have lX := matF_length i n X
      have rX : (matF i n X).getD d [] = rowF n (X d) := matF_get (by omega)
      have lX2 := rowF_length n (X d)
      have gX : (rowF n (X d)).getD c 0 = G1 d c := by
       rw [rowF_get hcn, ← eX]
       exact if_neg (by omega)
      have iX := E1 d (by omega) c hcn
      have mX := mulP iX vP
      unfold InP at iX
      have e5 : (G1 d c * v).tmod 55441 = G1 d c * v % 55441 := tmP mX.1
      have b5 : 0 ≤ G1 d c * v % 55441 ∧ G1 d c * v % 55441 < 55441 := ⟨Int.emod_nonneg _ (by omega), Int.emod_lt_of_pos _ (by omega)⟩
      have sX : (matF i n X).set d ((rowF n (X d)).set c (G1 d c * v % 55441)) = matF i n (fun x y => if x = d ∧ y < c + 1 then G1 d y * v % 55441 else G1 x y) := by
       rw [rowF_set, matF_srow]
       refine matF_congr fun x _ y _ => ?_
       by_cases e1 : x = d
       ·rw [if_pos e1]
        by_cases e2 : y = c
        ·rw [if_pos e2, if_pos ⟨e1, by omega⟩, e2]
        ·rw [if_neg e2, ← eX]
         dsimp only
         rw [e1]
         by_cases e4 : y < c
         ·rw [if_pos ⟨rfl, e4⟩, if_pos ⟨rfl, by omega⟩]
         ·rw [if_neg (fun h => e4 h.2), if_neg (fun h => by have := h.2; omega)]
       ·rw [if_neg e1, ← eX]
        dsimp only
        rw [if_neg (fun h => e1 h.1), if_neg (fun h => e1 h.1)]
      refine ats_skip ?_
      (repeat refine ats_seq ?_); refine ats_block ?_
      refine gB ?_
      (repeat refine ats_seq ?_); refine ats_pick (fix0 hcx) mixed (by kernel_rfl) fun K hK => ?_; simp only [go_sem, seval, lX, rX, lX2, gX, e5, sX]
      (repeat refine aI (hb := ?_))
      refine hK _ ?_; clear hK K
      refine gB ?_
      refine ⟨c + 1,  by omega, by omega, .inl ⟨by simp only [leS, Nat.reduceEqDiff, ↓reduceIte, true_and, and_true]; omega,  rfl⟩⟩
     ·obtain rfl : c = n := by omega
      obtain ⟨G2, eG2⟩ : ∃ G2, smF G1 d v = G2 := ⟨_, rfl⟩
      have hs1 : matF i c (fun x y => if x = d ∧ y < c then G1 d y * v % 55441 else G1 x y) = matF i c (fun x => if x < 0 then rdF G2 d k x else G2 x) := matF_congr fun x _ y hy => by
       rw [if_neg (Nat.not_lt_zero x), ← eG2]
       unfold smF
       by_cases e : x = d
       ·rw [if_pos ⟨e, hy⟩, if_pos e]
       ·rw [if_neg (fun h => e h.1), if_neg e]
      have E2 : ∀ x, x < i → ∀ y, y < c → InP (G2 x y) := fun x hx y hy => by
       rw [← eG2]; unfold smF
       split
       ·exact inP_md _
       ·exact E1 x hx y hy
      rw [eG2] at hstep
      have lM2 := matF_length i c (fun x => if x < 0 then rdF G2 d k x else G2 x)
      clear hs0 E1 g1d
      rw [hs1]
      refine ats_exit (lq_x ?_)
      (repeat refine ats_seq ?_); refine ats_go (fix0 hcx) fun K hK => ?_; simp only [go_sem, seval, lM2]
      (repeat refine aI (hb := ?_))
      refine hK _ ?_; clear hK K
      (repeat refine ats_seq ?_); refine ats_loop (fun x : Nat => ⟨[(4, .ref 0 []), (5, .int (dt (k + 1))), (8, .int d), (9, .bptr 1 0), (112, .ref 0 []), (113, .int i), (114, .int x)], [(0, .t2 (matF i c (fun z => if z < x then rdF G2 d k z else G2 z))), (1, .bx [.int k])]⟩) (fun x => x ≤ i) (fun x => i - x) 0 (Nat.zero_le _) (by refine And.intro ?_ rfl; simp only [leS, Nat.reduceEqDiff, ↓reduceIte, true_and, and_true]; repeat' (first | rfl | with_reducible refine And.intro ?_ ?_ | omega)) (fun x hx => ?_)
      refine gB ?_
      refine gI (fun hx2 => ?_) fun hx2 => ?_
      ·have hxi : x < i := by omega
       obtain ⟨X, eX⟩ : ∃ X : Nat → Nat → Int, (fun z => if z < x then rdF G2 d k z else G2 z) = X := ⟨_, rfl⟩
       have Xx : X x = G2 x := by rw [← eX]; exact if_neg (Nat.lt_irrefl x)
       have Xd : X d = G2 d := by
        rw [← eX]
        dsimp only
        split
        ·funext y; unfold rdF; rw [if_pos rfl]
        ·rfl
       have nx : ∀ Y : Nat → Nat → Int, (∀ y, y < c → Y x y = rdF G2 d k x y) → (∀ z, z ≠ x → Y z = X z) → matF i c Y = matF i c (fun z => if z < x + 1 then rdF G2 d k z else G2 z) := fun Y h1 h2 => by
        refine matF_congr fun z _ y hy => ?_
        by_cases e1 : z = x
        ·rw [e1, if_pos (by omega)]
         exact h1 y hy
        ·rw [h2 z e1, ← eX]
         dsimp only
         by_cases e2 : z < x
         ·rw [if_pos e2, if_pos (by omega)]
         ·rw [if_neg e2, if_neg (by omega)]
       rw [eX]
       have lX := matF_length i c X
       have rX : (matF i c X).getD x [] = rowF c (G2 x) := by rw [matF_get hxi, Xx]
       have lX2 := rowF_length c (G2 x)
       have gX : (rowF c (G2 x)).getD k 0 = G2 x k := rowF_get hkn
       have iX := E2 x hxi k hkn
       unfold InP at iX
       refine ats_skip ?_
       (repeat refine ats_seq ?_); refine ats_block ?_
       (repeat refine ats_seq ?_); refine ats_go (fix0 hcx) fun K hK => ?_; simp only [go_sem, seval, lX]
       (repeat refine aI (hb := ?_))
       refine hK _ ?_; clear hK K
       by_cases hxd : x = d
       ·have hxd' : ((x : Int) = (d : Int)) = True := eq_true (by omega)
        have hn := nx X (fun y _ => by rw [Xx, hxd]; unfold rdF; rw [if_pos rfl]) (fun z _ => rfl)
        (repeat refine ats_seq ?_); refine ats_go (fix0 hcx) fun K hK => ?_; simp only [go_sem, seval, lX, hxd', decide_true, Bool.not_true, Bool.true_or]
        (repeat refine aI (hb := ?_))
        refine hK _ ?_; clear hK K
        refine gI (fun hc11 => ?_) fun hc11 => ?_
        ·refine ats_exit (bq_x ?_)
         refine gB ?_
         refine ⟨x + 1,  by omega, by omega, .inl ⟨by simp only [leS, Nat.reduceEqDiff, ↓reduceIte, true_and, and_true]; omega,  by rw [hn]⟩⟩
        ·first | exact absurd trivial hc11 | simp at hc11
       ·have hxd' : ((x : Int) = (d : Int)) = False := eq_false (by omega)
        (repeat refine ats_seq ?_); refine ats_go (fix0 hcx) fun K hK => ?_; simp only [go_sem, seval, lX, rX, lX2, gX, hxd', decide_false, Bool.not_false, Bool.false_or]
        (repeat refine aI (hb := ?_))
        refine hK _ ?_; clear hK K
        by_cases hz : G2 x k = 0
        ·have hn := nx X (fun y hy => by
          rw [Xx]; unfold rdF; rw [if_neg hxd, hz, Int.zero_mul, Int.sub_zero]
          have := E2 x hxi y hy
          exact (Int.emod_eq_of_lt this.1 (by have := this.2; omega)).symm) (fun z _ => rfl)
         refine gI (fun hc11 => ?_) fun hc11 => ?_
         ·refine ats_exit (bq_x ?_)
          refine gB ?_
          refine ⟨x + 1,  by omega, by omega, .inl ⟨by simp only [leS, Nat.reduceEqDiff, ↓reduceIte, true_and, and_true]; omega,  by rw [hn]⟩⟩
         ·exact absurd hz (by simpa using hc11)
        ·refine gI (fun hc11 => ?_) fun hc11 => ?_
         ·exact absurd hc11 hz
         ·refine ats_skip ?_
          (repeat refine ats_seq ?_); refine ats_go (fix0 hcx) fun K hK => ?_; simp only [go_sem, seval, lX, rX, lX2, gX]
          (repeat refine aI (hb := ?_))
          refine hK _ ?_; clear hK K
          (repeat refine ats_seq ?_); refine ats_go (fix0 hcx) fun K hK => ?_; simp only [go_sem, seval, lX, rX, lX2]
          (repeat refine aI (hb := ?_))
          refine hK _ ?_; clear hK K
          have hs2 : matF i c X = matF i c (fun z y => if z = x ∧ y < 0 then rdF G2 d k x y else X z y) := matF_congr fun z _ y _ => by rw [if_neg (by omega)]
          rw [hs2]
          obtain ⟨fc, efc⟩ : ∃ fc, G2 x k = fc := ⟨_, rfl⟩
          rw [efc] at iX ⊢
          (repeat refine ats_seq ?_); refine ats_loop (fun y : Nat => ⟨[(4, .ref 0 []), (5, .int (dt (k + 1))), (8, .int d), (9, .bptr 1 0), (15, .ref 0 [x]), (16, .int fc), (112, .ref 0 []), (113, .int i), (114, .int x), (134, .int c), (135, .int y)], [(0, .t2 (matF i c (fun z w => if z = x ∧ w < y then rdF G2 d k x w else X z w))), (1, .bx [.int k])]⟩) (fun y => y ≤ c) (fun y => c - y) 0 (Nat.zero_le _) (by refine And.intro ?_ rfl; simp only [leS, Nat.reduceEqDiff, ↓reduceIte, true_and, and_true]; repeat' (first | rfl | with_reducible refine And.intro ?_ ?_ | omega)) (fun y hy => ?_)
          refine gB ?_
          refine gI (fun hy2 => ?_) fun hy2 => ?_
          ·have hyc : y < c := by omega
           obtain ⟨Y, eY⟩ : ∃ Y : Nat → Nat → Int, (fun z w => if z = x ∧ w < y then rdF G2 d k x w else X z w) = Y := ⟨_, rfl⟩
           rw [eY]
           have lY := matF_length i c Y
           have rY : (matF i c Y).getD x [] = rowF c (Y x) := matF_get hxi
           have rD : (matF i c Y).getD d [] = rowF c (Y d) := matF_get (by omega)
           have lY1 := rowF_length c (Y x)
           have lY2 := rowF_length c (Y d)
           have gY : (rowF c (Y x)).getD y 0 = G2 x y := by
            rw [rowF_get hyc, ← eY]
            dsimp only
            rw [if_neg (by omega), Xx]
           have gD : (rowF c (Y d)).getD y 0 = G2 d y := by
            rw [rowF_get hyc, ← eY]
            dsimp only
            rw [if_neg (fun h => hxd h.1.symm), Xd]
           have i1 := E2 x hxi y hyc
           have i2 := E2 d (by omega) y hyc
           have mm := mulP (show InP fc from iX) i2
           unfold InP at i1
           have hM := modV_ok (G2 x y - fc * G2 d y) (by omega) (by omega)
           have sY : (matF i c Y).set x ((rowF c (Y x)).set y ((G2 x y - fc * G2 d y) % 55441)) = matF i c (fun z w => if z = x ∧ w < y + 1 then rdF G2 d k x w else X z w) := by
            rw [rowF_set, matF_srow]
            refine matF_congr fun z _ w _ => ?_
            by_cases e1 : z = x
            ·rw [if_pos e1]
             by_cases e2 : w = y
             ·rw [if_pos e2, if_pos ⟨e1, by omega⟩, e2]
              unfold rdF
              rw [if_neg hxd, efc]
             ·rw [if_neg e2, ← eY]
              dsimp only
              rw [e1]
              by_cases e4 : w < y
              ·rw [if_pos ⟨rfl, e4⟩, if_pos ⟨rfl, by omega⟩]
              ·rw [if_neg (fun h => e4 h.2), if_neg (fun h => by have := h.2; omega)]
            ·rw [if_neg e1, ← eY]
             dsimp only
             rw [if_neg (fun h => e1 h.1), if_neg (fun h => e1 h.1)]
           refine ats_skip ?_
           (repeat refine ats_seq ?_); refine ats_block ?_
           refine gB ?_
           (repeat refine ats_seq ?_); refine ats_pick (fix0 hcx) mixed (by kernel_rfl) fun K hK => ?_; simp only [go_sem, seval, lY, rY, rD, lY1, lY2, gY, gD]
           (repeat refine aI (hb := ?_))
           first | refine fcall_data (hM) rfl ?_ | refine YR_intro (acall_data (hM) rfl) ?_
           simp only [go_sem, seval]
           simp only [go_sem, seval, lY, rY, rD, lY1, lY2, gY, gD, sY]
           (repeat refine aI (hb := ?_))
           refine hK _ ?_; clear hK K
           refine gB ?_
           refine ⟨y + 1,  by omega, by omega, .inl ⟨by simp only [leS, Nat.reduceEqDiff, ↓reduceIte, true_and, and_true]; omega,  rfl⟩⟩
          ·obtain rfl : y = c := by omega
           have hn := nx (fun z w => if z = x ∧ w < y then rdF G2 d k x w else X z w) (fun w hw => by rw [if_pos ⟨rfl, hw⟩]) (fun z hz => by funext w; rw [if_neg (fun h => hz h.1)])
           rw [hn]
           refine ats_exit (lq_x ?_)
           refine gB ?_
           refine ⟨x + 1,  by omega, by omega, .inl ⟨by simp only [leS, Nat.reduceEqDiff, ↓reduceIte, true_and, and_true]; omega,  rfl⟩⟩
      ·obtain rfl : x = i := by omega
       have hs3 : matF x c (fun z => if z < x then rdF G2 d k z else G2 z) = matF x c (rdF G2 d k) := matF_congr fun z hz y _ => by rw [if_pos hz]
       rw [hs3]
       refine ats_exit (lq_x ?_)
       refine gB ?_
       refine gB ?_
       refine gB ?_
       (repeat refine ats_seq ?_); refine AT.ghost (st' := ⟨[(4, .ref 0 []), (5, .int (dt (k + 1))), (8, .int ((d : Int) + 1)), (9, .bptr 1 0)], [(0, .t2 (matF x c (rdF G2 d k))), (1, .bx [.int k])]⟩) (ghost_trans (ghost_drop [1]) (ghost_can [(2, 1)] (by simp only [killL, killA, killAs, qOf, rmT, killH, killT, List.filter_cons, List.filter_nil, List.contains_cons, List.contains_nil, Bool.or_false, Bool.or_true, Bool.false_and, Bool.not_true, Bool.not_false, Bool.false_eq_true, if_true, if_false, rnLs, rnL, rn, rns, sw, SlotsLe, St.get, slotGet, List.map_cons, List.map_nil, seval, AV.int.injEq, AV.bool.injEq, AV.l1.injEq, AV.l2.injEq, AV.l3.injEq, true_and, and_true]) (by simp only [killL, killA, killAs, qOf, rmT, killH, killT, List.filter_cons, List.filter_nil, List.contains_cons, List.contains_nil, Bool.or_false, Bool.or_true, Bool.false_and, Bool.not_true, Bool.not_false, Bool.false_eq_true, if_true, if_false, sortH, insH, rnHs, rnH, rnT, rn, rns, sw, List.map_cons, List.map_nil, seval]))) ?_
       refine gB ?_
       refine ⟨k + 1,  by omega, by omega, .inl ⟨by simp only [leS, Nat.reduceEqDiff, ↓reduceIte, true_and, and_true]; (rw [hstep]; first | rfl | omega | simp),  by rw [hstep]; rfl⟩⟩
   ·rw [if_neg hF] at hstep hds
    rw [if_neg (by omega)]
    refine gB ?_
    refine gI (fun hc5 => ?_) fun hc5 => ?_
    ·refine gB ?_
     refine ats_exit (bq_x ?_)
     refine gB ?_
     refine gB ?_
     (repeat refine ats_seq ?_); refine AT.ghost (st' := ⟨[(4, .ref 0 []), (5, .int 0), (8, .int d), (9, .bptr 1 0)], [(0, .t2 (matF i n G)), (1, .bx [.int k])]⟩) (ghost_trans (ghost_drop [1]) (ghost_can [(2, 1)] (by simp only [killL, killA, killAs, qOf, rmT, killH, killT, List.filter_cons, List.filter_nil, List.contains_cons, List.contains_nil, Bool.or_false, Bool.or_true, Bool.false_and, Bool.not_true, Bool.not_false, Bool.false_eq_true, if_true, if_false, rnLs, rnL, rn, rns, sw, SlotsLe, St.get, slotGet, List.map_cons, List.map_nil, seval, AV.int.injEq, AV.bool.injEq, AV.l1.injEq, AV.l2.injEq, AV.l3.injEq, true_and, and_true]) (by simp only [killL, killA, killAs, qOf, rmT, killH, killT, List.filter_cons, List.filter_nil, List.contains_cons, List.contains_nil, Bool.or_false, Bool.or_true, Bool.false_and, Bool.not_true, Bool.not_false, Bool.false_eq_true, if_true, if_false, sortH, insH, rnHs, rnH, rnT, rn, rns, sw, List.map_cons, List.map_nil, seval]))) ?_
     refine gB ?_
     refine ⟨k + 1,  by omega, by omega, .inl ⟨by simp only [leS, Nat.reduceEqDiff, ↓reduceIte, true_and, and_true]; (rw [hstep, hds]; first | rfl | omega),  by rw [hstep]; rfl⟩⟩
    ·first | omega | exact absurd trivial hc5
  ·obtain rfl : k = n := by omega
   rw [es] at tk ⊢
   refine ats_exit (lq_x ?_)
   (repeat refine ats_seq ?_); refine ats_go (fix0 hcx) fun K hK => ?_; simp only [go_sem, seval, lM]
   (repeat refine aI (hb := ?_))
   refine hK _ ?_; clear hK K
   refine ats_ret (fin2 trivial trivial ?_)
   exact congrArg (fun z => some (AV.tup [AV.l2 z, AV.int (dt k)])) tk
end Go.Proofs.YthhjcdnfflcikaaGreat
