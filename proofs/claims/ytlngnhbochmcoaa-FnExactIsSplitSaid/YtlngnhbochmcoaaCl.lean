import Derived.Test.YtlngnhbochmcoaaCz3
import Derived.Test.YtlngnhbochmcoaaFd
set_option linter.unusedSimpArgs false
set_option linter.unusedVariables false
namespace Go.Proofs.Ytlngnhbochmcoaa
open Go Go.Aw Go.Pl
attribute [local go_sem] zO_ List.getElem?_toArray List.getElem?_cons_zero List.getElem?_cons_succ Option.getD_some and_true true_and and_self
def GrC (P : Program) (f : FuncId) (t : List (List (List Int))) (Vs : List (List Int)) (x : List Int) (T : Tree) (L : List (List Int)) : Prop :=
 OwnCall P f [.agg [.l3 t], .l2 Vs, .l1 x, .ref 6 []] [(6, T)] [(6, .r2 L)] (.ref 6 []) []
theorem ac1 (t : List (List (List Int))) (hC : Cube t) (Vs : List (List Int)) (x : List Int) (hx : x.length = t.length) (L0 : List (List Int)) (hb : L0.length ≤ 1000000) : GrC Try.prog 19 t Vs x (.r2 L0) (L0 ++ grL t Vs 0 x) := by
 have h := as1 t hC x
 have n16 := hC.2.1
 unfold GrC
 show OwnCall _ _ _ _ [(6, .r2 (L0 ++ if bd (ListP t x ∧ wX_ t x) = true then [x] else []))] _ _
 cases hq : bd (ListP t x ∧ wX_ t x) with
 | true =>
  rw [hq] at h
  rw [if_pos rfl]
  refine OwnCall.intro (n := 62) (rs := [.tmp 8]) 3 [] (X := []) Try.call19 Try.func19 rfl rfl rfl (by simp only [List.length_cons, List.length_nil]; omega) (by simp [Aw.ids, y9_, zk_, xD_, xh_]) (fun cx hcx => AT.weakG (yY_ ?_)); refine gE ?_
  refine gBN ?_
  (repeat refine xa_ ?_); refine xr_ (by first | exact xZ_ hcx | exact yQ_ hcx rfl | exact zE_ hcx rfl) fun K hK => ?_; simp only [go_sem, seval, hx]
  refine gU ?_
  refine hK _ ?_; clear hK K
  refine gBN ?_
  refine gI (fun h1 => ?_) fun h1 => ?_
  ·refine gCN fun K hK => ?_
   first | refine xi_ (h) rfl ?_ | refine xe_ (xg_ (h) rfl) ?_
   refine gV ?_
   refine hK _ ?_; clear hK K
   refine gR ?_
   refine gCN fun K hK => ?_
   refine gU ?_
   refine hK _ ?_; clear hK K
   refine gBN ?_
   refine xd_ ⟨⟨[(8, .ref 6 [])], [(6, .r2 (L0 ++ [x]))]⟩, xS_ [7, 8] [], .inr rfl, (by first | rfl | exact ⟨trivial, rfl⟩ | (simp only [wg_, V8_, go_sem, seval]; done)), (by simp [St.get, xh_, xD_]), rfl⟩
  ·exact absurd (by first | trivial | rfl | omega) h1
 | false =>
  rw [hq] at h
  rw [if_neg (by decide), List.append_nil]
  refine OwnCall.intro (n := 62) (rs := [.tmp 8]) 3 [] (X := []) Try.call19 Try.func19 rfl rfl rfl (by simp only [List.length_cons, List.length_nil]; omega) (by simp [Aw.ids, y9_, zk_, xD_, xh_]) (fun cx hcx => AT.weakG (yY_ ?_)); refine gE ?_
  refine gBN ?_
  (repeat refine xa_ ?_); refine xr_ (by first | exact xZ_ hcx | exact yQ_ hcx rfl | exact zE_ hcx rfl) fun K hK => ?_; simp only [go_sem, seval, hx]
  refine gU ?_
  refine hK _ ?_; clear hK K
  refine gBN ?_
  refine gI (fun h1 => ?_) fun h1 => ?_
  ·refine gCN fun K hK => ?_
   first | refine xi_ (h) rfl ?_ | refine xe_ (xg_ (h) rfl) ?_
   refine gV ?_
   refine hK _ ?_; clear hK K
   refine gQ ?_
   refine xb_ ?_
   refine gBN ?_
   refine xd_ ⟨⟨[(8, .ref 6 [])], [(6, .r2 L0)]⟩, xS_ [7] [], .inr rfl, (by first | rfl | exact ⟨trivial, rfl⟩ | (simp only [wg_, V8_, go_sem, seval]; done)), (by simp [St.get, xh_, xD_]), rfl⟩
  ·exact absurd (by first | trivial | rfl | omega) h1
set_option maxRecDepth 100000 in
set_option maxHeartbeats 16000000 in
theorem ac2 (t : List (List (List Int))) (hC : Cube t) (Vs : List (List Int)) (lVs : Vs.length = t.length) (hVs : ∀ i, i < t.length → (Vs.getD i []).length ≤ 55441 ∧ ∀ b, b < (Vs.getD i []).length → InP ((Vs.getD i []).getD b 0)) (x : List Int) (hx : x.length < t.length) (hxp : ∀ i, i < x.length → InP (x.getD i 0)) (L0 : List (List Int)) (m : Nat)
  (hrec : ∀ (y : List Int) (L : List (List Int)), y.length = x.length + 1 → (∀ i, i < y.length → InP (y.getD i 0)) → L.length + (grL t Vs m y).length ≤ 1000000 → GrC Try.prog 19 t Vs y (.r2 L) (L ++ grL t Vs m y))
  (hb : (L0).length + (grL t Vs (m + 1) x).length ≤ 1000000) : GrC Try.prog 19 t Vs x (.r2 L0) (L0 ++ grL t Vs (m + 1) x) := by
 have n16 := hC.2.1
 obtain ⟨n, en⟩ : ∃ n, t.length = n := ⟨_, rfl⟩
 obtain ⟨k, ek⟩ : ∃ k, x.length = k := ⟨_, rfl⟩
 obtain ⟨hV1, hV2⟩ := hVs x.length hx
 have gA := ab2 t Vs m x
 have gS := fun b => Rm_ (t := t) (Vs := Vs) (m := m) (x := x) (b := b)
 have gL := aw7 t Vs m x
 have g0 : gpL t Vs m x 0 = [] := rfl
 obtain ⟨V, eV⟩ : ∃ V, Vs.getD x.length [] = V := ⟨_, rfl⟩
 rw [eV] at hV1 hV2 gA gS
 have eVk : Vs.getD k [] = V := by rw [← ek]; exact eV
 obtain ⟨gp, egp⟩ : ∃ gp, gpL t Vs m x = gp := ⟨_, rfl⟩
 rw [egp] at gA gS gL g0
 rw [← gA] at gL hb ⊢
 obtain ⟨ag, eag⟩ : ∃ ag : Nat → List (List Int), ag = fun b => (L0) ++ gp b := ⟨_, rfl⟩
 have a0 : ag 0 = L0 := by rw [eag]; show (L0) ++ gp 0 = _; rw [g0, List.append_nil]
 have aS : ∀ b, b < V.length → ag (b + 1) = ag b ++ if cmB t (x ++ [V.getD b 0]) = true then grL t Vs m (x ++ [V.getD b 0]) else [] := fun b hb => by
  rw [eag]
  show (L0) ++ gp (b + 1) = (L0) ++ gp b ++ _
  rw [gS b hb, List.append_assoc]
 have aL : ∀ b, (ag b).length ≤ (ag V.length).length := fun b => by
  rw [eag]
  show ((L0) ++ gp b).length ≤ ((L0) ++ gp V.length).length
  rw [List.length_append, List.length_append]
  have := gL b
  omega
 have aE : (L0) ++ gp V.length = ag V.length := by rw [eag]
 have aB : (ag V.length).length ≤ 1000000 := by rw [← aE, List.length_append]; exact hb
 rw [aE]
 clear aE eag gS gL g0 gA hb
 unfold GrC
 refine OwnCall.introR (n := 62) (rs := [.tmp 8]) 3 [] (X := []) Try.call19 Try.func19 rfl rfl rfl (by simp only [List.length_cons, List.length_nil]; omega) (by simp [Aw.ids, y9_, zk_, xD_, xh_]) (fun cx hcx hrd => AT.weakG (yY_ ?_)); refine gE ?_
 refine gBN ?_
 skip
 (repeat refine xa_ ?_); refine xr_ (by first | exact xZ_ hcx | exact yQ_ hcx rfl | exact zE_ hcx rfl) fun K hK => ?_; simp only [go_sem, seval, ek]
 refine gU ?_
 refine hK _ ?_; clear hK K
 refine gBN ?_
 refine gI (fun h1 => ?_) fun h1 => ?_
 ·exact absurd h1 (by omega)
 refine xb_ ?_
 refine gBN ?_
 have t0 : Tree.r2 L0 = .r2 (ag 0) := by rw [a0]
 rw [t0]
 (repeat refine xa_ ?_); refine gLp (fun b : Nat => ⟨[(1, .l2 Vs), (2, .l1 x), (3, .ref 6 []), (4, .bptr 7 0), (9, .int k), (10, .int b)], [(6, .r2 (ag b)), (7, .bx [.l3 t])]⟩) V.length fun b hb => ?_
 have lg := aL b
 (repeat refine xa_ ?_); refine xr_ (by first | exact xZ_ hcx | exact yQ_ hcx rfl | exact zE_ hcx rfl) fun K hK => ?_; simp only [go_sem, seval, eVk, lVs]
 refine gU ?_
 refine hK _ ?_; clear hK K
 refine gI (fun h2 => ?_) fun h2 => ?_
 ·have hb2 : b < V.length := by omega
  obtain ⟨v0, v1⟩ := hV2 b hb2
  have gSb := aS b hb2
  have lg1 := aL (b + 1)
  obtain ⟨v, ev⟩ : ∃ v, V.getD b 0 = v := ⟨_, rfl⟩
  rw [ev] at v0 v1 gSb
  have hOw := wP_ x (by omega)
  have ly : (x ++ [v]).length = k + 1 := by rw [List.length_append, ek]; rfl
  have py : ∀ i, i < k + 1 → InP ((x ++ [v]).getD i 0) := fun i hi => by
   by_cases c : i < x.length
   ·rw [zV_ c]; exact hxp i c
   ·rw [show i = x.length by omega, w0_]; exact ⟨v0, v1⟩
  obtain ⟨y, ey⟩ : ∃ y, x ++ [v] = y := ⟨_, rfl⟩
  rw [ey] at ly py gSb
  have lt : (t.take (k + 1)).length = k + 1 := by rw [List.length_take]; omega
  obtain ⟨K, lK, hCm⟩ := YG_ n (by omega) (by omega) (t.take (k + 1)) (by omega) (by omega) (fun i hi => by
   rw [List.getD_eq_getElem?_getD, List.getElem?_take, if_pos (by omega), ← List.getD_eq_getElem?_getD, ← en]
   exact Tg_ hC (by omega)) y (by omega) (fun i hi => py i (by omega))
  rw [lt] at lK
  have ecm : cmB t y = decide (0 < K.length) := by
   unfold cmB
   rw [ly, en, lK]
   exact decide_eq_decide.2 (by omega)
  rw [ecm] at gSb
  have e1 : (k : Int) + 1 = ((k + 1 : Nat) : Int) := by omega
  refine xb_ ?_
  refine gO ?_
  (repeat refine xa_ ?_)
  obtain ⟨mk, emk⟩ : ∃ mk : List (Nat × AV) → List (Nat × Tree) → St, mk = fun s h => ⟨[(1, .l2 Vs), (2, .l1 x), (3, .ref 6 []), (4, .bptr 7 0), (9, .int k), (10, .int b)] ++ s, h ++ [(6, .r2 (ag b)), (7, .bx [.l3 t])]⟩ := ⟨_, rfl⟩
  obtain ⟨z0, ez0⟩ := gZ (⟨[(1, .l2 Vs), (2, .l1 x), (3, .ref 6 []), (4, .bptr 7 0), (9, .int k), (10, .int b), (36, .l1 x), (38, .l2 Vs), (39, .int k), (42, .int b)], [(6, .r2 (ag b)), (7, .bx [.l3 t])]⟩ : St)
  obtain ⟨z1, ez1⟩ := gZ (⟨[(1, .l2 Vs), (2, .l1 x), (3, .ref 6 []), (4, .bptr 7 0), (9, .int k), (10, .int b), (37, .ref 8 []), (38, .l2 Vs), (39, .int k), (42, .int b)], [(6, .r2 (ag b)), (7, .bx [.l3 t]), (8, .t1 x)]⟩ : St)
  obtain ⟨z2, ez2⟩ := gZ (mk [(36, .l1 x), (40, AV.eptr (.l2 Vs) k), (42, .int b)] [])
  obtain ⟨z3, ez3⟩ := gZ (⟨[(1, .l2 Vs), (2, .l1 x), (3, .ref 6 []), (4, .bptr 7 0), (9, .int k), (10, .int b), (37, .ref 8 []), (40, AV.eptr (.l2 Vs) k), (42, .int b)], [(6, .r2 (ag b)), (7, .bx [.l3 t]), (8, .t1 x)]⟩ : St)
  obtain ⟨z4, ez4⟩ := gZ (mk [(36, .l1 x), (41, .l1 V), (42, .int b)] [])
  obtain ⟨z5, ez5⟩ := gZ (⟨[(1, .l2 Vs), (2, .l1 x), (3, .ref 6 []), (4, .bptr 7 0), (9, .int k), (10, .int b), (37, .ref 8 []), (41, .l1 V), (42, .int b)], [(6, .r2 (ag b)), (7, .bx [.l3 t]), (8, .t1 x)]⟩ : St)
  obtain ⟨z6, ez6⟩ := gZ (mk [(36, .l1 x), (43, AV.eptr (.l1 V) b)] [])
  obtain ⟨z7, ez7⟩ := gZ (⟨[(1, .l2 Vs), (2, .l1 x), (3, .ref 6 []), (4, .bptr 7 0), (9, .int k), (10, .int b), (37, .ref 8 []), (43, AV.eptr (.l1 V) b)], [(6, .r2 (ag b)), (7, .bx [.l3 t]), (8, .t1 x)]⟩ : St)
  obtain ⟨z8, ez8⟩ := gZ (mk [(36, .l1 x), (44, .int v)] [])
  obtain ⟨z9, ez9⟩ := gZ (⟨[(1, .l2 Vs), (2, .l1 x), (3, .ref 6 []), (4, .bptr 7 0), (9, .int k), (10, .int b), (37, .ref 8 []), (44, .int v)], [(6, .r2 (ag b)), (7, .bx [.l3 t]), (8, .t1 x)]⟩ : St)
  obtain ⟨z10, ez10⟩ := gZ (⟨[(1, .l2 Vs), (2, .l1 x), (3, .ref 6 []), (4, .bptr 7 0), (9, .int k), (10, .int b), (36, .l1 x), (45, .ref 8 [])], [(6, .r2 (ag b)), (7, .bx [.l3 t]), (8, .t1 [v])]⟩ : St)
  obtain ⟨z11, ez11⟩ := gZ (⟨[(1, .l2 Vs), (2, .l1 x), (3, .ref 6 []), (4, .bptr 7 0), (9, .int k), (10, .int b), (37, .ref 8 []), (45, .ref 9 [])], [(6, .r2 (ag b)), (7, .bx [.l3 t]), (8, .t1 x), (9, .t1 [v])]⟩ : St)
  obtain ⟨z12, ez12⟩ := gZ (⟨[(1, .l2 Vs), (2, .l1 x), (3, .ref 6 []), (4, .bptr 7 0), (9, .int k), (10, .int b), (46, .ref 8 [])], [(6, .r2 (ag b)), (7, .bx [.l3 t]), (8, .t1 (x ++ [v])), (9, .t1 [v])]⟩ : St)
  obtain ⟨z13, ez13⟩ := gZ (⟨[(1, .l2 Vs), (2, .l1 x), (3, .ref 6 []), (4, .bptr 7 0), (9, .int k), (10, .int b), (11, .ref 8 [])], [(6, .r2 (ag b)), (7, .bx [.l3 t]), (8, .t1 (x ++ [v])), (9, .t1 [v])]⟩ : St)
  refine zu_ [1, 9, 10] [0, 2, 3, 6] [[0, 2, 3, 6], [0, 1, 2, 3, 6], [0, 2, 3, 4, 6], [0, 1, 2, 3, 4, 6], [0, 2, 3, 4, 5, 6], [0, 1, 2, 3, 4, 5, 6], [0, 2, 3, 4, 5, 6, 7], [0, 1, 2, 3, 4, 5, 6, 7], [0, 2, 3, 4, 5, 6, 7, 8], [0, 1, 2, 3, 4, 5, 6, 7, 8], [0, 2, 3, 4, 5, 6, 7, 8, 9], [0, 1, 2, 3, 4, 5, 6, 7, 8, 9], [0, 1, 2, 3, 4, 5, 6, 7, 8, 9, 10], [0, 1, 2, 3, 4, 5, 6, 7, 8, 9, 10, 11]] [(0, 1, 1), (0, 4, 2), (1, 4, 3), (2, 1, 3), (2, 5, 4), (3, 5, 5), (4, 1, 5), (4, 7, 6), (5, 7, 7), (6, 1, 7), (6, 8, 8), (7, 8, 9), (8, 1, 9), (8, 9, 10), (9, 9, 11), (10, 1, 11), (11, 10, 12), (12, 11, 13)] [z0, z1, z2, z3, z4, z5, z6, z7, z8, z9, z10, z11, z12, z13] hrd (by first | exact xZ_ hcx | exact yQ_ hcx rfl | exact zE_ hcx rfl) mixed (by kernel_rfl) ?_ ?_ ?_
  ·show zz_ _ _ _ _ _ _ (fun s => yp_ _ _ s z0)
   rw [ez0]; simp only [go_sem, seval]; repeat' (first | (refine zA_ ?_ rfl; (focus ((repeat' (first | exact True.intro | refine And.intro rfl ?_)); done))) | with_reducible refine And.intro ?_ ?_ | omega)
  ·refine ⟨dtr ez0 ez1 ?_, dtr ez0 ez2 ?_, dtr ez1 ez3 ?_, dtr ez2 ez3 ?_, dtr ez2 ez4 ?_, dtr ez3 ez5 ?_, dtr ez4 ez5 ?_, dtr ez4 ez6 ?_, dtr ez5 ez7 ?_, dtr ez6 ez7 ?_, dtr ez6 ez8 ?_, dtr ez7 ez9 ?_, dtr ez8 ez9 ?_, dtr ez8 ez10 ?_, dtr ez9 ez11 ?_, dtr ez10 ez11 ?_, dtr ez11 ez12 ?_, dtr ez12 ez13 ?_, trivial⟩
   all_goals simp only [emk, List.cons_append, List.nil_append, List.append_nil, go_sem, seval]
   all_goals repeat' (first | (refine zA_ ?_ rfl; (focus ((repeat' (first | exact True.intro | refine And.intro rfl ?_)); done))) | (refine wS_ [(8, 9)] ?_ ?_; (focus (simp only [go_sem, seval, AV.int.injEq, AV.bool.injEq, AV.l1.injEq, AV.l2.injEq, AV.l3.injEq]; done)); (focus (simp only [go_sem, seval]; done))) | with_reducible refine And.intro ?_ ?_ | omega | (refine xK_ rfl (hOw) rfl ?_; simp only [go_sem, seval]) | ((simp only [eVk])) | ((simp only [ev])))
  show ATs _ _ _ _ _ z13
  rw [ez13]
  clear emk ez0 ez1 ez2 ez3 ez4 ez5 ez6 ez7 ez8 ez9 ez10 ez11 ez12 ez13
  (repeat refine xa_ ?_); refine AT.ghost (st' := ⟨[(1, .l2 Vs), (2, .l1 x), (3, .ref 6 []), (4, .bptr 7 0), (9, .int k), (10, .int b), (11, .ref 8 [])], [(6, .r2 (ag b)), (7, .bx [.l3 t]), (8, .t1 (x ++ [v]))]⟩) (xS_ [9] []) ?_
  rw [ey]
  (repeat refine xa_ ?_); refine AT.ghost (zl_ [8]) ?_; simp only [W4_, W3_, Y2_, Ua_, yR_, Option.getD_some, Option.getD_none, find, xp_, xA_, qOf, rmT, xt_, x4_, List.map_cons, List.map_nil, List.filter_cons, List.filter_nil, List.contains_cons, List.contains_nil, Bool.or_false, Bool.or_true, Bool.false_and, Bool.not_true, Bool.not_false, Bool.false_eq_true, if_true, if_false, seval]
  (repeat refine xa_ ?_); refine xr_ (by first | exact xZ_ hcx | exact yQ_ hcx rfl | exact zE_ hcx rfl) fun K hK => ?_; simp only [go_sem, seval, ly, List.drop_zero]
  refine gU ?_
  first | refine xi_ (hCm) rfl ?_ | refine xe_ (xg_ (hCm) rfl) ?_
  refine gV ?_
  refine hK _ ?_; clear hK K
  by_cases hq : 0 < K.length
  ·rw [if_pos (decide_eq_true hq)] at gSb
   have hr := hrec y (ag b) (by omega) (fun i hi => py i (by omega)) (by
    have := congrArg List.length gSb
    rw [List.length_append] at this
    omega)
   unfold GrC at hr
   rw [← gSb] at hr
   refine gI (fun h3 => ?_) fun h3 => ?_
   ·refine gCN fun K hK => ?_
    refine wU_ (hr) (by simp [Aw.ids]) (by simp [find]) (by simp [z2_, x4_, xA_, xp_, Wq_, Aw.ids]) (by simp [xA_, xp_, Wq_, Aw.ids]) (by simp [Aw.ids]) ?_; simp only [Aw.ids, List.map_cons, List.map_nil, List.filter_cons, List.filter_nil, List.contains_cons, List.contains_nil, Bool.or_false, Bool.or_true, Bool.not_true, Bool.not_false, Nat.reduceBEq, Bool.false_eq_true, if_true, if_false, List.cons_append, List.nil_append]; simp only [go_sem, seval]
    refine hK _ ?_; clear hK K
    refine gBN ?_
    refine ⟨b + 1,  by omega, by omega, .inl ⟨gH,  rfl⟩⟩
   ·exact absurd (by omega) h3
  ·rw [if_neg (by rw [decide_eq_false hq]; decide), List.append_nil] at gSb
   refine gI (fun h3 => ?_) fun h3 => ?_
   ·exact absurd h3 (by omega)
   ·refine xb_ ?_
    refine gBN ?_
    refine ⟨b + 1,  by omega, by omega, .inl ⟨gH,  by rw [gSb]⟩⟩
 ·obtain rfl : b = V.length := by omega
  refine xf_ (ye_ ?_)
  refine gBN ?_
  refine xd_ ⟨⟨[(8, .ref 6 [])], [(6, .r2 (ag V.length))]⟩, xS_ [7] [], .inr rfl, (by first | rfl | exact ⟨trivial, rfl⟩ | (simp only [wg_, V8_, go_sem, seval]; done)), (by simp [St.get, xh_, xD_]), rfl⟩
set_option maxRecDepth 100000 in
set_option maxHeartbeats 16000000 in
theorem ac3 (t : List (List (List Int))) (hC : Cube t) (Vs : List (List Int)) (lVs : Vs.length = t.length) (hVs : ∀ i, i < t.length → (Vs.getD i []).length ≤ 55441 ∧ ∀ b, b < (Vs.getD i []).length → InP ((Vs.getD i []).getD b 0)) (x : List Int) (hx : x.length < t.length) (hxp : ∀ i, i < x.length → InP (x.getD i 0))  (m : Nat)
  (hrec : ∀ (y : List Int) (L : List (List Int)), y.length = x.length + 1 → (∀ i, i < y.length → InP (y.getD i 0)) → L.length + (grL t Vs m y).length ≤ 1000000 → GrC Try.prog 19 t Vs y (.r2 L) (L ++ grL t Vs m y))
  (hb : (([] : List (List Int))).length + (grL t Vs (m + 1) x).length ≤ 1000000) : GrC Try.prog 19 t Vs x (.t2 []) (([] : List (List Int)) ++ grL t Vs (m + 1) x) := by
 have n16 := hC.2.1
 obtain ⟨n, en⟩ : ∃ n, t.length = n := ⟨_, rfl⟩
 obtain ⟨k, ek⟩ : ∃ k, x.length = k := ⟨_, rfl⟩
 obtain ⟨hV1, hV2⟩ := hVs x.length hx
 have gA := ab2 t Vs m x
 have gS := fun b => Rm_ (t := t) (Vs := Vs) (m := m) (x := x) (b := b)
 have gL := aw7 t Vs m x
 have g0 : gpL t Vs m x 0 = [] := rfl
 obtain ⟨V, eV⟩ : ∃ V, Vs.getD x.length [] = V := ⟨_, rfl⟩
 rw [eV] at hV1 hV2 gA gS
 have eVk : Vs.getD k [] = V := by rw [← ek]; exact eV
 obtain ⟨gp, egp⟩ : ∃ gp, gpL t Vs m x = gp := ⟨_, rfl⟩
 rw [egp] at gA gS gL g0
 rw [← gA] at gL hb ⊢
 obtain ⟨ag, eag⟩ : ∃ ag : Nat → List (List Int), ag = fun b => (([] : List (List Int))) ++ gp b := ⟨_, rfl⟩
 have a0 : ag 0 = ([] : List (List Int)) := by rw [eag]; show (([] : List (List Int))) ++ gp 0 = _; rw [g0, List.append_nil]
 have aS : ∀ b, b < V.length → ag (b + 1) = ag b ++ if cmB t (x ++ [V.getD b 0]) = true then grL t Vs m (x ++ [V.getD b 0]) else [] := fun b hb => by
  rw [eag]
  show (([] : List (List Int))) ++ gp (b + 1) = (([] : List (List Int))) ++ gp b ++ _
  rw [gS b hb, List.append_assoc]
 have aL : ∀ b, (ag b).length ≤ (ag V.length).length := fun b => by
  rw [eag]
  show ((([] : List (List Int))) ++ gp b).length ≤ ((([] : List (List Int))) ++ gp V.length).length
  rw [List.length_append, List.length_append]
  have := gL b
  omega
 have aE : (([] : List (List Int))) ++ gp V.length = ag V.length := by rw [eag]
 have aB : (ag V.length).length ≤ 1000000 := by rw [← aE, List.length_append]; exact hb
 rw [aE]
 clear aE eag gS gL g0 gA hb
 unfold GrC
 refine OwnCall.introR (n := 62) (rs := [.tmp 8]) 3 [] (X := []) Try.call19 Try.func19 rfl rfl rfl (by simp only [List.length_cons, List.length_nil]; omega) (by simp [Aw.ids, y9_, zk_, xD_, xh_]) (fun cx hcx hrd => AT.weakG (yY_ ?_)); refine gE ?_
 refine gBN ?_
 (repeat refine xa_ ?_); refine AT.ghost (z1_ 6 rfl) ?_; simp only [find, x2_, xp_, xA_, qOf, rmT, xt_, x4_, x8_, List.map_cons, List.map_nil, List.filter_cons, List.filter_nil, List.contains_cons, List.contains_nil, List.isEmpty_nil, List.isEmpty_cons, Bool.or_false, Bool.or_true, Bool.false_and, Bool.true_and, Bool.and_false, Bool.and_true, Bool.not_true, Bool.not_false, Bool.false_eq_true, if_true, if_false, seval]
 (repeat refine xa_ ?_); refine xr_ (by first | exact xZ_ hcx | exact yQ_ hcx rfl | exact zE_ hcx rfl) fun K hK => ?_; simp only [go_sem, seval, ek]
 refine gU ?_
 refine hK _ ?_; clear hK K
 refine gBN ?_
 refine gI (fun h1 => ?_) fun h1 => ?_
 ·exact absurd h1 (by omega)
 refine xb_ ?_
 refine gBN ?_
 have t0 : Tree.r2 ([] : List (List Int)) = .r2 (ag 0) := by rw [a0]
 rw [t0]
 (repeat refine xa_ ?_); refine gLp (fun b : Nat => ⟨[(1, .l2 Vs), (2, .l1 x), (3, .ref 6 []), (4, .bptr 7 0), (9, .int k), (10, .int b)], [(6, .r2 (ag b)), (7, .bx [.l3 t])]⟩) V.length fun b hb => ?_
 have lg := aL b
 (repeat refine xa_ ?_); refine xr_ (by first | exact xZ_ hcx | exact yQ_ hcx rfl | exact zE_ hcx rfl) fun K hK => ?_; simp only [go_sem, seval, eVk, lVs]
 refine gU ?_
 refine hK _ ?_; clear hK K
 refine gI (fun h2 => ?_) fun h2 => ?_
 ·have hb2 : b < V.length := by omega
  obtain ⟨v0, v1⟩ := hV2 b hb2
  have gSb := aS b hb2
  have lg1 := aL (b + 1)
  obtain ⟨v, ev⟩ : ∃ v, V.getD b 0 = v := ⟨_, rfl⟩
  rw [ev] at v0 v1 gSb
  have hOw := wP_ x (by omega)
  have ly : (x ++ [v]).length = k + 1 := by rw [List.length_append, ek]; rfl
  have py : ∀ i, i < k + 1 → InP ((x ++ [v]).getD i 0) := fun i hi => by
   by_cases c : i < x.length
   ·rw [zV_ c]; exact hxp i c
   ·rw [show i = x.length by omega, w0_]; exact ⟨v0, v1⟩
  obtain ⟨y, ey⟩ : ∃ y, x ++ [v] = y := ⟨_, rfl⟩
  rw [ey] at ly py gSb
  have lt : (t.take (k + 1)).length = k + 1 := by rw [List.length_take]; omega
  obtain ⟨K, lK, hCm⟩ := YG_ n (by omega) (by omega) (t.take (k + 1)) (by omega) (by omega) (fun i hi => by
   rw [List.getD_eq_getElem?_getD, List.getElem?_take, if_pos (by omega), ← List.getD_eq_getElem?_getD, ← en]
   exact Tg_ hC (by omega)) y (by omega) (fun i hi => py i (by omega))
  rw [lt] at lK
  have ecm : cmB t y = decide (0 < K.length) := by
   unfold cmB
   rw [ly, en, lK]
   exact decide_eq_decide.2 (by omega)
  rw [ecm] at gSb
  have e1 : (k : Int) + 1 = ((k + 1 : Nat) : Int) := by omega
  refine xb_ ?_
  refine gO ?_
  (repeat refine xa_ ?_)
  obtain ⟨mk, emk⟩ : ∃ mk : List (Nat × AV) → List (Nat × Tree) → St, mk = fun s h => ⟨[(1, .l2 Vs), (2, .l1 x), (3, .ref 6 []), (4, .bptr 7 0), (9, .int k), (10, .int b)] ++ s, h ++ [(6, .r2 (ag b)), (7, .bx [.l3 t])]⟩ := ⟨_, rfl⟩
  obtain ⟨z0, ez0⟩ := gZ (⟨[(1, .l2 Vs), (2, .l1 x), (3, .ref 6 []), (4, .bptr 7 0), (9, .int k), (10, .int b), (36, .l1 x), (38, .l2 Vs), (39, .int k), (42, .int b)], [(6, .r2 (ag b)), (7, .bx [.l3 t])]⟩ : St)
  obtain ⟨z1, ez1⟩ := gZ (⟨[(1, .l2 Vs), (2, .l1 x), (3, .ref 6 []), (4, .bptr 7 0), (9, .int k), (10, .int b), (37, .ref 8 []), (38, .l2 Vs), (39, .int k), (42, .int b)], [(6, .r2 (ag b)), (7, .bx [.l3 t]), (8, .t1 x)]⟩ : St)
  obtain ⟨z2, ez2⟩ := gZ (mk [(36, .l1 x), (40, AV.eptr (.l2 Vs) k), (42, .int b)] [])
  obtain ⟨z3, ez3⟩ := gZ (⟨[(1, .l2 Vs), (2, .l1 x), (3, .ref 6 []), (4, .bptr 7 0), (9, .int k), (10, .int b), (37, .ref 8 []), (40, AV.eptr (.l2 Vs) k), (42, .int b)], [(6, .r2 (ag b)), (7, .bx [.l3 t]), (8, .t1 x)]⟩ : St)
  obtain ⟨z4, ez4⟩ := gZ (mk [(36, .l1 x), (41, .l1 V), (42, .int b)] [])
  obtain ⟨z5, ez5⟩ := gZ (⟨[(1, .l2 Vs), (2, .l1 x), (3, .ref 6 []), (4, .bptr 7 0), (9, .int k), (10, .int b), (37, .ref 8 []), (41, .l1 V), (42, .int b)], [(6, .r2 (ag b)), (7, .bx [.l3 t]), (8, .t1 x)]⟩ : St)
  obtain ⟨z6, ez6⟩ := gZ (mk [(36, .l1 x), (43, AV.eptr (.l1 V) b)] [])
  obtain ⟨z7, ez7⟩ := gZ (⟨[(1, .l2 Vs), (2, .l1 x), (3, .ref 6 []), (4, .bptr 7 0), (9, .int k), (10, .int b), (37, .ref 8 []), (43, AV.eptr (.l1 V) b)], [(6, .r2 (ag b)), (7, .bx [.l3 t]), (8, .t1 x)]⟩ : St)
  obtain ⟨z8, ez8⟩ := gZ (mk [(36, .l1 x), (44, .int v)] [])
  obtain ⟨z9, ez9⟩ := gZ (⟨[(1, .l2 Vs), (2, .l1 x), (3, .ref 6 []), (4, .bptr 7 0), (9, .int k), (10, .int b), (37, .ref 8 []), (44, .int v)], [(6, .r2 (ag b)), (7, .bx [.l3 t]), (8, .t1 x)]⟩ : St)
  obtain ⟨z10, ez10⟩ := gZ (⟨[(1, .l2 Vs), (2, .l1 x), (3, .ref 6 []), (4, .bptr 7 0), (9, .int k), (10, .int b), (36, .l1 x), (45, .ref 8 [])], [(6, .r2 (ag b)), (7, .bx [.l3 t]), (8, .t1 [v])]⟩ : St)
  obtain ⟨z11, ez11⟩ := gZ (⟨[(1, .l2 Vs), (2, .l1 x), (3, .ref 6 []), (4, .bptr 7 0), (9, .int k), (10, .int b), (37, .ref 8 []), (45, .ref 9 [])], [(6, .r2 (ag b)), (7, .bx [.l3 t]), (8, .t1 x), (9, .t1 [v])]⟩ : St)
  obtain ⟨z12, ez12⟩ := gZ (⟨[(1, .l2 Vs), (2, .l1 x), (3, .ref 6 []), (4, .bptr 7 0), (9, .int k), (10, .int b), (46, .ref 8 [])], [(6, .r2 (ag b)), (7, .bx [.l3 t]), (8, .t1 (x ++ [v])), (9, .t1 [v])]⟩ : St)
  obtain ⟨z13, ez13⟩ := gZ (⟨[(1, .l2 Vs), (2, .l1 x), (3, .ref 6 []), (4, .bptr 7 0), (9, .int k), (10, .int b), (11, .ref 8 [])], [(6, .r2 (ag b)), (7, .bx [.l3 t]), (8, .t1 (x ++ [v])), (9, .t1 [v])]⟩ : St)
  refine zu_ [1, 9, 10] [0, 2, 3, 6] [[0, 2, 3, 6], [0, 1, 2, 3, 6], [0, 2, 3, 4, 6], [0, 1, 2, 3, 4, 6], [0, 2, 3, 4, 5, 6], [0, 1, 2, 3, 4, 5, 6], [0, 2, 3, 4, 5, 6, 7], [0, 1, 2, 3, 4, 5, 6, 7], [0, 2, 3, 4, 5, 6, 7, 8], [0, 1, 2, 3, 4, 5, 6, 7, 8], [0, 2, 3, 4, 5, 6, 7, 8, 9], [0, 1, 2, 3, 4, 5, 6, 7, 8, 9], [0, 1, 2, 3, 4, 5, 6, 7, 8, 9, 10], [0, 1, 2, 3, 4, 5, 6, 7, 8, 9, 10, 11]] [(0, 1, 1), (0, 4, 2), (1, 4, 3), (2, 1, 3), (2, 5, 4), (3, 5, 5), (4, 1, 5), (4, 7, 6), (5, 7, 7), (6, 1, 7), (6, 8, 8), (7, 8, 9), (8, 1, 9), (8, 9, 10), (9, 9, 11), (10, 1, 11), (11, 10, 12), (12, 11, 13)] [z0, z1, z2, z3, z4, z5, z6, z7, z8, z9, z10, z11, z12, z13] hrd (by first | exact xZ_ hcx | exact yQ_ hcx rfl | exact zE_ hcx rfl) mixed (by kernel_rfl) ?_ ?_ ?_
  ·show zz_ _ _ _ _ _ _ (fun s => yp_ _ _ s z0)
   rw [ez0]; simp only [go_sem, seval]; repeat' (first | (refine zA_ ?_ rfl; (focus ((repeat' (first | exact True.intro | refine And.intro rfl ?_)); done))) | with_reducible refine And.intro ?_ ?_ | omega)
  ·refine ⟨dtr ez0 ez1 ?_, dtr ez0 ez2 ?_, dtr ez1 ez3 ?_, dtr ez2 ez3 ?_, dtr ez2 ez4 ?_, dtr ez3 ez5 ?_, dtr ez4 ez5 ?_, dtr ez4 ez6 ?_, dtr ez5 ez7 ?_, dtr ez6 ez7 ?_, dtr ez6 ez8 ?_, dtr ez7 ez9 ?_, dtr ez8 ez9 ?_, dtr ez8 ez10 ?_, dtr ez9 ez11 ?_, dtr ez10 ez11 ?_, dtr ez11 ez12 ?_, dtr ez12 ez13 ?_, trivial⟩
   all_goals simp only [emk, List.cons_append, List.nil_append, List.append_nil, go_sem, seval]
   all_goals repeat' (first | (refine zA_ ?_ rfl; (focus ((repeat' (first | exact True.intro | refine And.intro rfl ?_)); done))) | (refine wS_ [(8, 9)] ?_ ?_; (focus (simp only [go_sem, seval, AV.int.injEq, AV.bool.injEq, AV.l1.injEq, AV.l2.injEq, AV.l3.injEq]; done)); (focus (simp only [go_sem, seval]; done))) | with_reducible refine And.intro ?_ ?_ | omega | (refine xK_ rfl (hOw) rfl ?_; simp only [go_sem, seval]) | ((simp only [eVk])) | ((simp only [ev])))
  show ATs _ _ _ _ _ z13
  rw [ez13]
  clear emk ez0 ez1 ez2 ez3 ez4 ez5 ez6 ez7 ez8 ez9 ez10 ez11 ez12 ez13
  (repeat refine xa_ ?_); refine AT.ghost (st' := ⟨[(1, .l2 Vs), (2, .l1 x), (3, .ref 6 []), (4, .bptr 7 0), (9, .int k), (10, .int b), (11, .ref 8 [])], [(6, .r2 (ag b)), (7, .bx [.l3 t]), (8, .t1 (x ++ [v]))]⟩) (xS_ [9] []) ?_
  rw [ey]
  (repeat refine xa_ ?_); refine AT.ghost (zl_ [8]) ?_; simp only [W4_, W3_, Y2_, Ua_, yR_, Option.getD_some, Option.getD_none, find, xp_, xA_, qOf, rmT, xt_, x4_, List.map_cons, List.map_nil, List.filter_cons, List.filter_nil, List.contains_cons, List.contains_nil, Bool.or_false, Bool.or_true, Bool.false_and, Bool.not_true, Bool.not_false, Bool.false_eq_true, if_true, if_false, seval]
  (repeat refine xa_ ?_); refine xr_ (by first | exact xZ_ hcx | exact yQ_ hcx rfl | exact zE_ hcx rfl) fun K hK => ?_; simp only [go_sem, seval, ly, List.drop_zero]
  refine gU ?_
  first | refine xi_ (hCm) rfl ?_ | refine xe_ (xg_ (hCm) rfl) ?_
  refine gV ?_
  refine hK _ ?_; clear hK K
  by_cases hq : 0 < K.length
  ·rw [if_pos (decide_eq_true hq)] at gSb
   have hr := hrec y (ag b) (by omega) (fun i hi => py i (by omega)) (by
    have := congrArg List.length gSb
    rw [List.length_append] at this
    omega)
   unfold GrC at hr
   rw [← gSb] at hr
   refine gI (fun h3 => ?_) fun h3 => ?_
   ·refine gCN fun K hK => ?_
    refine wU_ (hr) (by simp [Aw.ids]) (by simp [find]) (by simp [z2_, x4_, xA_, xp_, Wq_, Aw.ids]) (by simp [xA_, xp_, Wq_, Aw.ids]) (by simp [Aw.ids]) ?_; simp only [Aw.ids, List.map_cons, List.map_nil, List.filter_cons, List.filter_nil, List.contains_cons, List.contains_nil, Bool.or_false, Bool.or_true, Bool.not_true, Bool.not_false, Nat.reduceBEq, Bool.false_eq_true, if_true, if_false, List.cons_append, List.nil_append]; simp only [go_sem, seval]
    refine hK _ ?_; clear hK K
    refine gBN ?_
    refine ⟨b + 1,  by omega, by omega, .inl ⟨gH,  rfl⟩⟩
   ·exact absurd (by omega) h3
  ·rw [if_neg (by rw [decide_eq_false hq]; decide), List.append_nil] at gSb
   refine gI (fun h3 => ?_) fun h3 => ?_
   ·exact absurd h3 (by omega)
   ·refine xb_ ?_
    refine gBN ?_
    refine ⟨b + 1,  by omega, by omega, .inl ⟨gH,  by rw [gSb]⟩⟩
 ·obtain rfl : b = V.length := by omega
  refine xf_ (ye_ ?_)
  refine gBN ?_
  refine xd_ ⟨⟨[(8, .ref 6 [])], [(6, .r2 (ag V.length))]⟩, xS_ [7] [], .inr rfl, (by first | rfl | exact ⟨trivial, rfl⟩ | (simp only [wg_, V8_, go_sem, seval]; done)), (by simp [St.get, xh_, xD_]), rfl⟩
end Go.Proofs.Ytlngnhbochmcoaa
