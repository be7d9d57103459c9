import Derived.Test.YtlngnhbochmcoaaCz1
set_option linter.unusedSimpArgs false
set_option linter.unusedVariables false
namespace Go.Proofs.Ytlngnhbochmcoaa
open Go Go.Aw Go.Pl
attribute [local go_sem] zO_ List.getElem?_toArray List.getElem?_cons_zero List.getElem?_cons_succ Option.getD_some and_true true_and and_self
set_option maxRecDepth 100000 in
set_option maxHeartbeats 8000000 in
theorem YG_ (n : Nat) (n1 : 1 ≤ n) (h16 : n ≤ 16) (ms : List (List (List Int))) (l1 : 1 ≤ ms.length) (l16 : ms.length ≤ 16) (hms : ∀ i, i < ms.length → MatP n (ms.getD i [])) (vs : List Int) (lv : vs.length = ms.length) (hv : ∀ i, i < ms.length → InP (vs.getD i 0)) :
  ∃ K : List (List Int), K.length = n - (hcR n ms vs ms.length).length ∧ PureCall Try.prog 31 [.l3 ms, .l1 vs] (.l2 K) := by
 have hent : ∀ l, l < ms.length → ∀ a, a < n → ∀ b, b < n → InP (e2 (ms.getD l []) a b) := fun l hl a ha b hb => (hms l hl).inP ha hb
 have hR := fun i (hi : i ≤ ms.length) => zD_ (n := n) (ms := ms) (vs := vs) i fun l hl => hent l (by omega)
 have hrk := aZ2 (vs := vs) (i := ms.length) (n := n) hent
 have h0 := (hms 0 (by omega)).1
 have hU := Qv_ n h16
 obtain ⟨R, eR⟩ : ∃ R : Nat → List (List Int), R = hcR n ms vs := ⟨_, rfl⟩
 have hs : ∀ i, R (i + 1) = YU_ n (R i ++ ltM n (ms.getD i []) (vs.getD i 0)) := fun i => by rw [eR]; rfl
 have hR0 : R 0 = [] := by rw [eR]; rfl
 rw [← eR] at hR hrk ⊢
 clear eR
 have hKe : ∃ K : List (List Int), K.length = n - (R ms.length).length ∧ (1 ≤ (R ms.length).length → PureCall Try.prog 54 [.l2 (R ms.length)] (.l2 K)) ∧ ((R ms.length).length = 0 → K = ao2 n) := by
  by_cases c : 1 ≤ (R ms.length).length
  ·obtain ⟨K, k1, k2⟩ := VO_ n (R ms.length) (hR _ (Nat.le_refl _)).1 c (by have := (hR _ (Nat.le_refl _)).2; omega) n1 (by omega)
   exact ⟨K, by rw [k1, hrk], fun _ => k2, fun h => by omega⟩
  ·exact ⟨ao2 n, by unfold ao2; rw [List.length_map, List.length_range]; omega, fun h => by omega, fun _ => rfl⟩
 obtain ⟨K, lK, hK1, hK2⟩ := hKe
 refine ⟨K, lK, ?_⟩
 refine PureCall.introR (n := 36) (rs := [.tmp 4]) Try.call31 Try.func31 rfl rfl rfl (by simp only [List.length_cons, List.length_nil]; omega) (fun cx hcx hrd => yY_ ?_); refine gE ?_
 refine gB ?_
 refine gB ?_
 (repeat refine xa_ ?_); refine AT.ghost (z1_ 0 rfl) ?_; simp only [find, x2_, xp_, xA_, qOf, rmT, xt_, x4_, x8_, List.map_cons, List.map_nil, List.filter_cons, List.filter_nil, List.contains_cons, List.contains_nil, List.isEmpty_nil, List.isEmpty_cons, Bool.or_false, Bool.or_true, Bool.false_and, Bool.true_and, Bool.and_false, Bool.and_true, Bool.not_true, Bool.not_false, Bool.false_eq_true, if_true, if_false, seval]
 refine gB ?_
 (repeat refine xa_ ?_); refine AT.ghost (st' := ⟨[(0, .l3 ms), (1, .l1 vs), (5, .ref 1 []), (6, .int 0)], [(1, .r2 [])]⟩) (xS_ [] [(0, 1)]) ?_
 have t0 : Tree.r2 [] = .r2 (R 0) := by rw [hR0]
 rw [t0]
 (repeat refine xa_ ?_); refine gLp (fun i : Nat => ⟨[(0, .l3 ms), (1, .l1 vs), (5, .ref 1 []), (6, .int i)], [(1, .r2 (R i))]⟩) ms.length fun i hi => ?_
 have lR := (hR i hi).2
 refine gB ?_
 refine gI (fun h2 => ?_) fun h2 => ?_
 ·have hi' : i < ms.length := by omega
  have hm := hms i hi'
  have hL := Ro_ n h16 (ms.getD i []) hm (vs.getD i 0) (hv i hi')
  have lL : (ltM n (ms.getD i []) (vs.getD i 0)).length = n := xx_ ..
  have hA := zU_ (hR i hi).1 (wt_ (hent i hi') (vs.getD i 0))
  have hB := U7_ n (R i ++ ltM n (ms.getD i []) (vs.getD i 0)) hA (by omega) (by rw [List.length_append]; omega) (by rw [List.length_append]; omega)
  rw [← hs i] at hB
  obtain ⟨L, eL⟩ : ∃ L, ltM n (ms.getD i []) (vs.getD i 0) = L := ⟨_, rfl⟩
  rw [eL] at hL hB lL
  refine xb_ ?_
  refine gO ?_
  (repeat refine xa_ ?_)
  obtain ⟨mk, emk⟩ : ∃ mk : List (Nat × AV) → List (Nat × Tree) → St, mk = fun s h => ⟨[(0, .l3 ms), (1, .l1 vs), (6, .int i)] ++ s, h ++ []⟩ := ⟨_, rfl⟩
  obtain ⟨z0, ez0⟩ := gZ (⟨[(0, .l3 ms), (1, .l1 vs), (6, .int i), (14, .ref 1 []), (15, .l3 ms), (16, .int i), (19, .l1 vs), (20, .int i)], [(1, .r2 (R i))]⟩ : St)
  obtain ⟨z1, ez1⟩ := gZ (mk [(14, .ref 1 []), (17, AV.eptr (.l3 ms) i), (19, .l1 vs), (20, .int i)] [(1, .r2 (R i))])
  obtain ⟨z2, ez2⟩ := gZ (mk [(14, .ref 1 []), (15, .l3 ms), (16, .int i), (21, AV.eptr (.l1 vs) i)] [(1, .r2 (R i))])
  obtain ⟨z3, ez3⟩ := gZ (mk [(14, .ref 1 []), (18, .l2 (ms.getD i [])), (19, .l1 vs), (20, .int i)] [(1, .r2 (R i))])
  obtain ⟨z4, ez4⟩ := gZ (mk [(14, .ref 1 []), (17, AV.eptr (.l3 ms) i), (21, AV.eptr (.l1 vs) i)] [(1, .r2 (R i))])
  obtain ⟨z5, ez5⟩ := gZ (mk [(14, .ref 1 []), (15, .l3 ms), (16, .int i), (22, .int (vs.getD i 0))] [(1, .r2 (R i))])
  obtain ⟨z6, ez6⟩ := gZ (mk [(14, .ref 1 []), (18, .l2 (ms.getD i [])), (21, AV.eptr (.l1 vs) i)] [(1, .r2 (R i))])
  obtain ⟨z7, ez7⟩ := gZ (mk [(14, .ref 1 []), (17, AV.eptr (.l3 ms) i), (22, .int (vs.getD i 0))] [(1, .r2 (R i))])
  obtain ⟨z8, ez8⟩ := gZ (mk [(14, .ref 1 []), (18, .l2 (ms.getD i [])), (22, .int (vs.getD i 0))] [(1, .r2 (R i))])
  obtain ⟨z9, ez9⟩ := gZ (mk [(14, .ref 1 []), (23, .l2 L)] [(1, .r2 (R i))])
  obtain ⟨z10, ez10⟩ := gZ (mk [(24, .ref 1 [])] [(1, .r2 (R i ++ L))])
  obtain ⟨z11, ez11⟩ := gZ (mk [(25, .ref 0 [])] [(0, .r2 (R (i + 1)))])
  obtain ⟨z12, ez12⟩ := gZ (⟨[(0, .l3 ms), (1, .l1 vs), (5, .ref 0 []), (6, .int i)], [(0, .r2 (R (i + 1)))]⟩ : St)
  refine zu_ [10, 11] [0, 1, 2, 5, 6] [[0, 1, 2, 5, 6], [0, 1, 2, 3, 5, 6], [0, 1, 2, 5, 6, 7], [0, 1, 2, 3, 4, 5, 6], [0, 1, 2, 3, 5, 6, 7], [0, 1, 2, 5, 6, 7, 8], [0, 1, 2, 3, 4, 5, 6, 7], [0, 1, 2, 3, 5, 6, 7, 8], [0, 1, 2, 3, 4, 5, 6, 7, 8], [0, 1, 2, 3, 4, 5, 6, 7, 8, 9], [0, 1, 2, 3, 4, 5, 6, 7, 8, 9, 10], [0, 1, 2, 3, 4, 5, 6, 7, 8, 9, 10, 11], [0, 1, 2, 3, 4, 5, 6, 7, 8, 9, 10, 11, 12]] [(0, 3, 1), (0, 7, 2), (1, 4, 3), (1, 7, 4), (2, 3, 4), (2, 8, 5), (3, 7, 6), (4, 4, 6), (4, 8, 7), (5, 3, 7), (6, 8, 8), (7, 4, 8), (8, 9, 9), (9, 10, 10), (10, 11, 11), (11, 12, 12)] [z0, z1, z2, z3, z4, z5, z6, z7, z8, z9, z10, z11, z12] hrd (by first | exact xZ_ hcx | exact yQ_ hcx rfl | exact zE_ hcx rfl) mixed (by kernel_rfl) ?_ ?_ ?_
  ·show zz_ _ _ _ _ _ _ (fun s => yp_ _ _ s z0)
   rw [ez0]; simp only [go_sem, seval]; repeat' (first | (refine zA_ ?_ rfl; (focus ((repeat' (first | exact True.intro | refine And.intro rfl ?_)); done))) | with_reducible refine And.intro ?_ ?_ | omega)
  ·refine ⟨dtr ez0 ez1 ?_, dtr ez0 ez2 ?_, dtr ez1 ez3 ?_, dtr ez1 ez4 ?_, dtr ez2 ez4 ?_, dtr ez2 ez5 ?_, dtr ez3 ez6 ?_, dtr ez4 ez6 ?_, dtr ez4 ez7 ?_, dtr ez5 ez7 ?_, dtr ez6 ez8 ?_, dtr ez7 ez8 ?_, dtr ez8 ez9 ?_, dtr ez9 ez10 ?_, dtr ez10 ez11 ?_, dtr ez11 ez12 ?_, trivial⟩
   all_goals simp only [emk, List.cons_append, List.nil_append, List.append_nil, go_sem, seval]
   all_goals repeat' (first | (refine zA_ ?_ rfl; (focus ((repeat' (first | exact True.intro | refine And.intro rfl ?_)); done))) | with_reducible refine And.intro ?_ ?_ | omega | ((first | refine x3_ rfl (hL) ?_ | refine xe_ (xP_ rfl (hL)) ?_); simp only [go_sem, seval]) | (refine wU_ (hB) (by simp [Aw.ids]) (by simp [find]) (by simp [z2_, x4_, xA_, xp_, Wq_, Aw.ids]) (by simp [xA_, xp_, Wq_, Aw.ids]) (by simp [Aw.ids]) ?_; simp only [Aw.ids, List.map_cons, List.map_nil, List.filter_cons, List.filter_nil, List.contains_cons, List.contains_nil, Bool.or_false, Bool.or_true, Bool.not_true, Bool.not_false, Nat.reduceBEq, Bool.false_eq_true, if_true, if_false, List.cons_append, List.nil_append]; simp only [go_sem, seval]))
  show ATs _ _ _ _ _ z12
  rw [ez12]
  clear emk ez0 ez1 ez2 ez3 ez4 ez5 ez6 ez7 ez8 ez9 ez10 ez11 ez12
  (repeat refine xa_ ?_); refine AT.ghost (st' := ⟨[(0, .l3 ms), (1, .l1 vs), (5, .ref 1 []), (6, .int i)], [(1, .r2 (R (i + 1)))]⟩) (xS_ [] [(0, 1)]) ?_
  refine gB ?_
  refine ⟨i + 1,  by omega, by omega, .inl ⟨gH,  rfl⟩⟩
 ·obtain rfl : i = ms.length := by omega
  refine xf_ (ye_ ?_)
  refine gB ?_
  by_cases c : (R ms.length).length = 0
  ·rw [← hK2 c] at hU
   refine gI (fun h3 => ?_) fun h3 => ?_
   ·(repeat refine xa_ ?_); refine xr_ (xZ_ hcx) fun K hK => ?_; simp only [go_sem, seval, h0]
    refine gU ?_
    first | refine xi_ (hU) rfl ?_ | refine xe_ (xg_ (hU) rfl) ?_
    refine gV ?_
    refine hK _ ?_; clear hK K
    exact xd_ (TT_ rfl ⟨rfl, trivial⟩ rfl)
   ·exact absurd (by omega) h3
  ·have hK3 := hK1 (by omega)
   refine gI (fun h3 => ?_) fun h3 => ?_
   ·exact absurd (by omega) c
   ·refine xb_ ?_
    (repeat refine xa_ ?_); refine AT.ghost (zl_ [1]) ?_; simp only [W4_, W3_, Y2_, Ua_, yR_, Option.getD_some, Option.getD_none, find, xp_, xA_, qOf, rmT, xt_, x4_, List.map_cons, List.map_nil, List.filter_cons, List.filter_nil, List.contains_cons, List.contains_nil, Bool.or_false, Bool.or_true, Bool.false_and, Bool.not_true, Bool.not_false, Bool.false_eq_true, if_true, if_false, seval]
    refine gC fun K hK => ?_
    first | refine xi_ (hK3) rfl ?_ | refine xe_ (xg_ (hK3) rfl) ?_
    refine gV ?_
    refine hK _ ?_; clear hK K
    exact xd_ (TT_ rfl ⟨rfl, trivial⟩ rfl)
end Go.Proofs.Ytlngnhbochmcoaa
