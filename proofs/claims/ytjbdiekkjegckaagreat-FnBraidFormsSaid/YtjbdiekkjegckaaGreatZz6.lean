import Derived.Test.YtjbdiekkjegckaaGreatZz5
import Derived.Test.YtjbdiekkjegckaaGreatYz5
set_option linter.unusedSimpArgs false
set_option linter.unusedVariables false
namespace Go.Proofs.YtjbdiekkjegckaaGreat
open Go Go.Aw Go.Pl
attribute [local go_sem] yq_ List.getElem?_toArray List.getElem?_cons_zero List.getElem?_cons_succ Option.getD_some and_true true_and and_self
theorem ag7 {n : Nat} {m : Int} {c d : List (List Int)} (m1 : 1 ≤ m) : GridB n m (Wd_ m n c d) := by
 unfold Wd_
 refine ⟨ya_ .., fun j hj => ?_⟩
 rw [yK_ hj]
 refine ⟨xT_ .., fun k hk => ?_⟩
 rw [y4_ hk]
 have := Int.emod_nonneg (e2 c j k + e2 d j k) (show m ≠ 0 by omega)
 have := Int.emod_lt_of_pos (e2 c j k + e2 d j k) (show 0 < m by omega)
 omega
def DrB (P : Program) (f : FuncId) (s : Src) (o : List Int) (m : Int) (W : List (List (List Int))) (C : List (List Int)) (s' : Src) : Prop :=
 OwnCall P f [.bptr 0 0] [(0, xv_ s)] [(0, xv_ s'), (1, .t1 o), (2, .t3 W), (3, .t2 C), (4, .bx [.ref 1 [], .int m, .ref 2 [], .ref 3 []])] (.agg [.ref 1 [], .int m, .ref 2 [], .ref 3 []]) [0]
theorem TD_ {q0 P a m : Int} {n : Nat} (h0 : 0 ≤ q0) (h1 : q0 ≤ m - 1) (eP : q0 * (n : Int) = P) (ea : (if P % 2 = 1 then q0 - 1 else q0) = a) : 0 ≤ a ∧ a ≤ m - 1 ∧ a * n % 2 = 0 := by
 by_cases hp : P % 2 = 1
 ·rw [if_pos hp] at ea
  have : q0 ≠ 0 := by
   rintro h
   rw [h, Int.zero_mul] at eP
   omega
  have e2 : a * (n : Int) = P - n := by rw [← ea, Int.sub_mul, eP, Int.one_mul]
  have e3' : (n : Int) % 2 = 1 := by
   rcases Int.emod_two_eq (n : Int) with h | h
   ·exfalso
    have := Int.mul_emod q0 (n : Int) 2
    rw [eP, h, Int.mul_zero] at this
    omega
   ·exact h
  omega
 ·rw [if_neg hp] at ea
  rw [← ea, eP]
  omega
set_option maxRecDepth 100000 in
set_option maxHeartbeats 16000000 in
theorem Sp_ (s : Src) (hs : s.Ok) (h0 : (nx s 2).1 = 0) (hu : ¬ (nx (nx (nx (nx s 2).2 6).2 (2 * (2 + (nx (nx s 2).2 6).1))).2 2).1 = 0) : ∃ (o : List Int) (m : Int) (W : List (List (List Int))) (C : List (List Int)) (s' : Src) (n : Nat), s'.Ok ∧ 1 ≤ n ∧ n ≤ 8 ∧ m ≤ 1000 ∧ o.length ≤ 8 ∧ W.length = n ∧ GridB n m C ∧ DrB Tryz.prog 59 s o m W C s' := by
 have hr := xW_ s hs 2 (by omega)
 have okr := yp_ hs 2
 obtain ⟨r, er⟩ : ∃ r, nx s 2 = r := ⟨_, rfl⟩
 rw [er] at hr okr h0 hu
 rw [h0] at hr
 have h1 := xW_ r.2 okr 6 (by omega)
 have b1 := yO_ r.2 (n := 6) (by omega)
 have ok1 := yp_ okr 6
 obtain ⟨N, eN⟩ : ∃ N, nx r.2 6 = N := ⟨_, rfl⟩
 rw [eN] at h1 b1 ok1 hu
 obtain ⟨n, en⟩ : ∃ n : Nat, 2 + N.1 = n := ⟨(2 + N.1).toNat, by omega⟩
 have n1 : 1 ≤ n := by omega
 have n8 : n ≤ 8 := by omega
 obtain ⟨m, em⟩ : ∃ m : Int, 2 * (n : Int) = m := ⟨_, rfl⟩
 rw [en, em] at hu
 have h2 := xW_ N.2 ok1 m (by omega)
 have b2 := yO_ N.2 (n := m) (by omega)
 have ok2 := yp_ ok1 m
 obtain ⟨A, eA⟩ : ∃ A, nx N.2 m = A := ⟨_, rfl⟩
 rw [eA] at h2 b2 ok2 hu
 obtain ⟨q0, eq0⟩ : ∃ q0, A.1 = q0 := ⟨_, rfl⟩
 rw [eq0] at h2 b2
 obtain ⟨P, eP⟩ : ∃ P, q0 * (n : Int) = P := ⟨_, rfl⟩
 have bP0 : 0 ≤ P := by rw [← eP]; exact Int.mul_nonneg b2.1 (by omega)
 have bP1 : P ≤ 16 * 8 := by rw [← eP]; exact Int.mul_le_mul (by omega) (by omega) (by omega) (by omega)
 have eM : P.tmod 2 = P % 2 := Int.tmod_eq_emod_of_nonneg bP0
 obtain ⟨a, ea⟩ : ∃ a : Int, (if P % 2 = 1 then q0 - 1 else q0) = a := ⟨_, rfl⟩
 obtain ⟨a0, a1, a2⟩ := TD_ (m := m) b2.1 (by omega) eP ea
 have hSt := Xm_ n a n1 n8 a0 (by omega)
 have hW := aH4 (n := n) (a := a) n1 n8
 have hC := av8 (n := n) (a := a) n1 n8 a2
 have lW : (sdW n a).length = n := xL_ ..
 rw [em] at hSt hW hC
 obtain ⟨W, eW⟩ : ∃ W, sdW n a = W := ⟨_, rfl⟩
 obtain ⟨C, eC⟩ : ∃ C, sdC n a = C := ⟨_, rfl⟩
 rw [eW] at hSt hW lW
 rw [eC] at hSt hC
 have hU := xW_ A.2 ok2 2 (by omega)
 have okU := yp_ ok2 2
 obtain ⟨U, eU⟩ : ∃ U, nx A.2 2 = U := ⟨_, rfl⟩
 rw [eU] at hU okU hu
 refine ⟨[(n : Int)], m, W, C, U.2, n, okU, n1, n8, by omega, by simp, lW, hC, ?_⟩
 clear hW hC a0 a1 a2 eW eC
 unfold DrB
 refine OwnCall.introR (n := 82) (rs := [.cell 2 30]) 1 [0] (X := [0]) Tryz.call59 Tryz.func59 rfl rfl rfl (by simp only [List.length_cons, List.length_nil]; omega) (by simp [Aw.ids, x3_, xQ_, xl_, xg_]) (fun cx hcx hrd => AT.weakG (x2_ ?_)); refine gE ?_
 refine gBN ?_
 (repeat refine xb_ ?_); refine AT.ghost (st' := ⟨[(0, .bptr 0 0), (2, .bptr 9 0)], [(0, xv_ s), (9, .bx [.nil, .int 0, .nil, .nil])]⟩) (xm_ [] [(1, 9)]) ?_
 refine gCN fun K hK => ?_
 refine xp_ (hr) rfl rfl ?_; simp only [go_sem, seval]
 refine hK _ ?_; clear hK K
 refine gR ?_
 refine gCN fun K hK => ?_
 refine xp_ (h1) rfl rfl ?_; simp only [go_sem, seval]
 simp only [go_sem, seval, en]
 refine gU ?_
 refine hK _ ?_; clear hK K
 (repeat refine xb_ ?_); refine xx_ (by first | exact xO_ hcx | exact wJ_ hcx rfl | exact y2_ hcx rfl) fun K hK => ?_; simp only [go_sem, seval, em]
 refine gU ?_
 refine xp_ (h2) rfl rfl ?_; simp only [go_sem, seval]
 refine hK _ ?_; clear hK K
 (repeat refine xb_ ?_); refine xx_ (by first | exact xO_ hcx | exact wJ_ hcx rfl | exact y2_ hcx rfl) fun K hK => ?_; simp only [go_sem, seval, eP, eM]
 refine gU ?_
 refine hK _ ?_; clear hK K
 (repeat refine xb_ ?_)
 refine Xh_ ⟨[(0, .bptr 0 0), (2, .bptr 9 0), (3, .int n), (4, .int a)], [(0, xv_ A.2), (9, .bx [.nil, .int 0, .nil, .nil])]⟩ ?_ ?_
 ·refine gI (fun hq => ?_) fun hq => ?_
  ·rw [if_pos hq] at ea
   (repeat refine xb_ ?_); refine xx_ (by first | exact xO_ hcx | exact wJ_ hcx rfl | exact y2_ hcx rfl) fun K hK => ?_; simp only [go_sem, seval, ea]
   refine gU ?_
   refine hK _ ?_; clear hK K
   refine xJ_ ?_; refine Or.inl ⟨rfl, xm_ [] []⟩
  ·rw [if_neg hq] at ea
   (repeat refine xb_ ?_); refine AT.ghost (st' := ⟨[(0, .bptr 0 0), (2, .bptr 9 0), (3, .int n), (4, .int q0)], [(0, xv_ A.2), (9, .bx [.nil, .int 0, .nil, .nil])]⟩) (xr_ [] (by simp only [go_sem, seval, AV.int.injEq, AV.bool.injEq, AV.l1.injEq, AV.l2.injEq, AV.l3.injEq]) (by simp only [go_sem, seval])) ?_
   rw [ea]
   refine xe_ ?_
   refine xJ_ ?_; refine Or.inl ⟨rfl, xm_ [] []⟩
 refine gCN fun K hK => ?_
 refine xq_ rfl (hSt) rfl ?_; simp only [go_sem, seval]
 refine hK _ ?_; clear hK K
 (repeat refine xb_ ?_); refine AT.ghost (st' := ⟨[(0, .bptr 0 0), (2, .bptr 9 0), (3, .int n), (5, .bptr 13 0)], [(0, xv_ A.2), (9, .bx [.nil, .int 0, .nil, .nil]), (10, .t1 [(n : Int)]), (11, .t3 W), (12, .t2 C), (13, .bx [.ref 10 [], .int m, .ref 11 [], .ref 12 []])]⟩) (xr_ [] (by simp only [go_sem, seval, AV.int.injEq, AV.bool.injEq, AV.l1.injEq, AV.l2.injEq, AV.l3.injEq]) (by simp only [go_sem, seval])) ?_
 refine gCN fun K hK => ?_
 refine xp_ (hU) rfl rfl ?_; simp only [go_sem, seval]
 refine hK _ ?_; clear hK K
 refine gI (fun g3 => ?_) fun g3 => ?_
 ·exact absurd g3 hu
 ·refine xe_ ?_
  refine gBN ?_
  refine xf_ ⟨⟨[(0, .bptr 0 0), (2, .bptr 4 0)], [(0, xv_ U.2), (1, .t1 [(n : Int)]), (2, .t3 W), (3, .t2 C), (4, .bx [.ref 1 [], .int m, .ref 2 [], .ref 3 []])]⟩, xm_ [13] [(10, 1), (11, 2), (12, 3), (9, 4)], .inr rfl, (by first | rfl | exact ⟨trivial, rfl⟩ | (simp only [y1_, zZ_, go_sem, seval]; done)), (by simp [St.get, xg_, xl_]), rfl⟩
set_option maxRecDepth 100000 in
set_option maxHeartbeats 16000000 in
theorem Sq_ (s : Src) (hs : s.Ok) (h0 : (nx s 2).1 = 0) (hu : (nx (nx (nx (nx s 2).2 6).2 (2 * (2 + (nx (nx s 2).2 6).1))).2 2).1 = 0) : ∃ (o : List Int) (m : Int) (W : List (List (List Int))) (C : List (List Int)) (s' : Src) (n : Nat), s'.Ok ∧ 1 ≤ n ∧ n ≤ 8 ∧ m ≤ 1000 ∧ o.length ≤ 8 ∧ W.length = n ∧ GridB n m C ∧ DrB Tryz.prog 59 s o m W C s' := by
 have hr := xW_ s hs 2 (by omega)
 have okr := yp_ hs 2
 obtain ⟨r, er⟩ : ∃ r, nx s 2 = r := ⟨_, rfl⟩
 rw [er] at hr okr h0 hu
 rw [h0] at hr
 have h1 := xW_ r.2 okr 6 (by omega)
 have b1 := yO_ r.2 (n := 6) (by omega)
 have ok1 := yp_ okr 6
 obtain ⟨N, eN⟩ : ∃ N, nx r.2 6 = N := ⟨_, rfl⟩
 rw [eN] at h1 b1 ok1 hu
 obtain ⟨n, en⟩ : ∃ n : Nat, 2 + N.1 = n := ⟨(2 + N.1).toNat, by omega⟩
 have n1 : 1 ≤ n := by omega
 have n8 : n ≤ 8 := by omega
 obtain ⟨m, em⟩ : ∃ m : Int, 2 * (n : Int) = m := ⟨_, rfl⟩
 rw [en, em] at hu
 have h2 := xW_ N.2 ok1 m (by omega)
 have b2 := yO_ N.2 (n := m) (by omega)
 have ok2 := yp_ ok1 m
 obtain ⟨A, eA⟩ : ∃ A, nx N.2 m = A := ⟨_, rfl⟩
 rw [eA] at h2 b2 ok2 hu
 obtain ⟨q0, eq0⟩ : ∃ q0, A.1 = q0 := ⟨_, rfl⟩
 rw [eq0] at h2 b2
 obtain ⟨P, eP⟩ : ∃ P, q0 * (n : Int) = P := ⟨_, rfl⟩
 have bP0 : 0 ≤ P := by rw [← eP]; exact Int.mul_nonneg b2.1 (by omega)
 have bP1 : P ≤ 16 * 8 := by rw [← eP]; exact Int.mul_le_mul (by omega) (by omega) (by omega) (by omega)
 have eM : P.tmod 2 = P % 2 := Int.tmod_eq_emod_of_nonneg bP0
 obtain ⟨a, ea⟩ : ∃ a : Int, (if P % 2 = 1 then q0 - 1 else q0) = a := ⟨_, rfl⟩
 obtain ⟨a0, a1, a2⟩ := TD_ (m := m) b2.1 (by omega) eP ea
 have hSt := Xm_ n a n1 n8 a0 (by omega)
 have hW := aH4 (n := n) (a := a) n1 n8
 have hC := av8 (n := n) (a := a) n1 n8 a2
 have lW : (sdW n a).length = n := xL_ ..
 rw [em] at hSt hW hC
 obtain ⟨W, eW⟩ : ∃ W, sdW n a = W := ⟨_, rfl⟩
 obtain ⟨C, eC⟩ : ∃ C, sdC n a = C := ⟨_, rfl⟩
 rw [eW] at hSt hW lW
 rw [eC] at hSt hC
 have hU := xW_ A.2 ok2 2 (by omega)
 have okU := yp_ ok2 2
 obtain ⟨U, eU⟩ : ∃ U, nx A.2 2 = U := ⟨_, rfl⟩
 rw [eU] at hU okU hu
 have hP := zu_ U.2 okU n m n8 (by omega)
 obtain ⟨pk, _⟩ := ze_ (n := n) (m := m) okU n
 have pp := w4_ (n := n) (s := U.2) okU (show 1 ≤ m by omega)
 obtain ⟨p, ep⟩ : ∃ p, wn_ n m n U.2 = p := ⟨_, rfl⟩
 rw [ep] at hP pk pp
 have hCb := yS_ [(n : Int)] m n p.1 hW.1 hW.2.1 (by have h := hW.2.2.2.2.1; rw [lW] at h; exact h) (by omega) (by omega) pp.1 (by simp)
 have hT := Wr_ m n p.1 n8 (by omega) (by omega) pp.1
 have hS := Ws_ [(n : Int)] m W C [(n : Int)] (Xl_ [(n : Int)] m n p.1) (Z3_ m n p.1) hW (by rw [zt_, lW]) (by rw [lW]; exact T6_ (by omega)) (by simp) (by rw [lW]; exact hC) (by rw [lW]; exact (Kt_ (by omega) pp).1)
 rw [lW] at hS
 refine ⟨[(n : Int)], m, sumW m n W (Xl_ [(n : Int)] m n p.1), Wd_ m n C (Z3_ m n p.1), p.2, n, pk, n1, n8, by omega, by simp, xL_ .., ag7 (by omega), ?_⟩
 obtain ⟨V, eV⟩ : ∃ V, Xl_ [(n : Int)] m n p.1 = V := ⟨_, rfl⟩
 obtain ⟨D, eD⟩ : ∃ D, Z3_ m n p.1 = D := ⟨_, rfl⟩
 rw [eV, eD] at hS ⊢
 rw [eV] at hCb
 rw [eD] at hT
 obtain ⟨W', eW'⟩ : ∃ W', sumW m n W V = W' := ⟨_, rfl⟩
 obtain ⟨C', eC'⟩ : ∃ C', Wd_ m n C D = C' := ⟨_, rfl⟩
 rw [eW', eC'] at hS ⊢
 rw [hu] at hU
 clear pp eV eD eW' eC' pk
 clear hW hC a0 a1 a2 eW eC
 unfold DrB
 refine OwnCall.introR (n := 82) (rs := [.cell 2 30]) 1 [0] (X := [0]) Tryz.call59 Tryz.func59 rfl rfl rfl (by simp only [List.length_cons, List.length_nil]; omega) (by simp [Aw.ids, x3_, xQ_, xl_, xg_]) (fun cx hcx hrd => AT.weakG (x2_ ?_)); refine gE ?_
 refine gBN ?_
 (repeat refine xb_ ?_); refine AT.ghost (st' := ⟨[(0, .bptr 0 0), (2, .bptr 9 0)], [(0, xv_ s), (9, .bx [.nil, .int 0, .nil, .nil])]⟩) (xm_ [] [(1, 9)]) ?_
 refine gCN fun K hK => ?_
 refine xp_ (hr) rfl rfl ?_; simp only [go_sem, seval]
 refine hK _ ?_; clear hK K
 refine gR ?_
 refine gCN fun K hK => ?_
 refine xp_ (h1) rfl rfl ?_; simp only [go_sem, seval]
 simp only [go_sem, seval, en]
 refine gU ?_
 refine hK _ ?_; clear hK K
 (repeat refine xb_ ?_); refine xx_ (by first | exact xO_ hcx | exact wJ_ hcx rfl | exact y2_ hcx rfl) fun K hK => ?_; simp only [go_sem, seval, em]
 refine gU ?_
 refine xp_ (h2) rfl rfl ?_; simp only [go_sem, seval]
 refine hK _ ?_; clear hK K
 (repeat refine xb_ ?_); refine xx_ (by first | exact xO_ hcx | exact wJ_ hcx rfl | exact y2_ hcx rfl) fun K hK => ?_; simp only [go_sem, seval, eP, eM]
 refine gU ?_
 refine hK _ ?_; clear hK K
 (repeat refine xb_ ?_)
 refine Xh_ ⟨[(0, .bptr 0 0), (2, .bptr 9 0), (3, .int n), (4, .int a)], [(0, xv_ A.2), (9, .bx [.nil, .int 0, .nil, .nil])]⟩ ?_ ?_
 ·refine gI (fun hq => ?_) fun hq => ?_
  ·rw [if_pos hq] at ea
   (repeat refine xb_ ?_); refine xx_ (by first | exact xO_ hcx | exact wJ_ hcx rfl | exact y2_ hcx rfl) fun K hK => ?_; simp only [go_sem, seval, ea]
   refine gU ?_
   refine hK _ ?_; clear hK K
   refine xJ_ ?_; refine Or.inl ⟨rfl, xm_ [] []⟩
  ·rw [if_neg hq] at ea
   (repeat refine xb_ ?_); refine AT.ghost (st' := ⟨[(0, .bptr 0 0), (2, .bptr 9 0), (3, .int n), (4, .int q0)], [(0, xv_ A.2), (9, .bx [.nil, .int 0, .nil, .nil])]⟩) (xr_ [] (by simp only [go_sem, seval, AV.int.injEq, AV.bool.injEq, AV.l1.injEq, AV.l2.injEq, AV.l3.injEq]) (by simp only [go_sem, seval])) ?_
   rw [ea]
   refine xe_ ?_
   refine xJ_ ?_; refine Or.inl ⟨rfl, xm_ [] []⟩
 refine gCN fun K hK => ?_
 refine xq_ rfl (hSt) rfl ?_; simp only [go_sem, seval]
 refine hK _ ?_; clear hK K
 (repeat refine xb_ ?_); refine AT.ghost (st' := ⟨[(0, .bptr 0 0), (2, .bptr 9 0), (3, .int n), (5, .bptr 13 0)], [(0, xv_ A.2), (9, .bx [.nil, .int 0, .nil, .nil]), (10, .t1 [(n : Int)]), (11, .t3 W), (12, .t2 C), (13, .bx [.ref 10 [], .int m, .ref 11 [], .ref 12 []])]⟩) (xr_ [] (by simp only [go_sem, seval, AV.int.injEq, AV.bool.injEq, AV.l1.injEq, AV.l2.injEq, AV.l3.injEq]) (by simp only [go_sem, seval])) ?_
 refine gCN fun K hK => ?_
 refine xp_ (hU) rfl rfl ?_; simp only [go_sem, seval]
 refine hK _ ?_; clear hK K
 refine gR ?_
 (repeat refine xb_ ?_); refine xx_ (by first | exact xO_ hcx | exact wJ_ hcx rfl | exact y2_ hcx rfl) fun K hK => ?_; simp only [go_sem, seval, em]
 refine gU ?_
 refine xN_ (hP) (k := ?_); simp only [Aw.ids, go_sem, seval]
 refine hK _ ?_; clear hK K
 (repeat refine xb_ ?_)
 obtain ⟨mk, emk⟩ : ∃ mk : List (Nat × AV) → List (Nat × Tree) → St, mk = fun s h => ⟨[(0, .bptr 0 0), (2, .bptr 9 0), (5, .bptr 13 0)] ++ s, h ++ [(0, xv_ p.2), (1, .t2 p.1), (9, .bx [.nil, .int 0, .nil, .nil]), (10, .t1 [(n : Int)]), (11, .t3 W), (12, .t2 C), (13, .bx [.ref 10 [], .int m, .ref 11 [], .ref 12 []])]⟩ := ⟨_, rfl⟩
 obtain ⟨z0, ez0⟩ := gZ (⟨[(0, .bptr 0 0), (2, .bptr 9 0), (5, .bptr 13 0), (43, .int n), (45, .ref 1 []), (47, .ref 1 []), (48, .int n)], [(0, xv_ p.2), (1, .t2 p.1), (9, .bx [.nil, .int 0, .nil, .nil]), (10, .t1 [(n : Int)]), (11, .t3 W), (12, .t2 C), (13, .bx [.ref 10 [], .int m, .ref 11 [], .ref 12 []])]⟩ : St)
 obtain ⟨z1, ez1⟩ := gZ (mk [(39, .agg [.ref 10 [], .int m, .ref 11 [], .ref 12 []]), (43, .int n), (45, .ref 1 []), (47, .ref 1 []), (48, .int n)] [])
 obtain ⟨z2, ez2⟩ := gZ (mk [(40, .bptr 13 0), (43, .int n), (45, .ref 1 []), (47, .ref 1 []), (48, .int n)] [])
 obtain ⟨z3, ez3⟩ := gZ (mk [(44, .int m), (45, .ref 1 []), (47, .ref 1 []), (48, .int n)] [])
 obtain ⟨z4, ez4⟩ := gZ (mk [(43, .int n), (45, .ref 1 []), (47, .ref 1 []), (49, .int m)] [])
 obtain ⟨z5, ez5⟩ := gZ (mk [(39, .agg [.ref 10 [], .int m, .ref 11 [], .ref 12 []]), (40, .bptr 13 0), (43, .int n), (45, .ref 1 []), (47, .ref 1 []), (48, .int n)] [])
 obtain ⟨z6, ez6⟩ := gZ (mk [(39, .agg [.ref 10 [], .int m, .ref 11 [], .ref 12 []]), (44, .int m), (45, .ref 1 []), (47, .ref 1 []), (48, .int n)] [])
 obtain ⟨z7, ez7⟩ := gZ (mk [(39, .agg [.ref 10 [], .int m, .ref 11 [], .ref 12 []]), (43, .int n), (45, .ref 1 []), (47, .ref 1 []), (49, .int m)] [])
 obtain ⟨z8, ez8⟩ := gZ (mk [(41, .bptr 13 0), (43, .int n), (45, .ref 1 []), (47, .ref 1 []), (48, .int n)] [])
 obtain ⟨z9, ez9⟩ := gZ (mk [(40, .bptr 13 0), (44, .int m), (45, .ref 1 []), (47, .ref 1 []), (48, .int n)] [])
 obtain ⟨z10, ez10⟩ := gZ (mk [(40, .bptr 13 0), (43, .int n), (45, .ref 1 []), (47, .ref 1 []), (49, .int m)] [])
 obtain ⟨z11, ez11⟩ := gZ (mk [(44, .int m), (45, .ref 1 []), (47, .ref 1 []), (49, .int m)] [])
 obtain ⟨z12, ez12⟩ := gZ (mk [(39, .agg [.ref 10 [], .int m, .ref 11 [], .ref 12 []]), (41, .bptr 13 0), (43, .int n), (45, .ref 1 []), (47, .ref 1 []), (48, .int n)] [])
 obtain ⟨z13, ez13⟩ := gZ (mk [(39, .agg [.ref 10 [], .int m, .ref 11 [], .ref 12 []]), (40, .bptr 13 0), (44, .int m), (45, .ref 1 []), (47, .ref 1 []), (48, .int n)] [])
 obtain ⟨z14, ez14⟩ := gZ (mk [(39, .agg [.ref 10 [], .int m, .ref 11 [], .ref 12 []]), (40, .bptr 13 0), (43, .int n), (45, .ref 1 []), (47, .ref 1 []), (49, .int m)] [])
 obtain ⟨z15, ez15⟩ := gZ (mk [(39, .agg [.ref 10 [], .int m, .ref 11 [], .ref 12 []]), (44, .int m), (45, .ref 1 []), (47, .ref 1 []), (49, .int m)] [])
 obtain ⟨z16, ez16⟩ := gZ (mk [(42, .ref 10 []), (43, .int n), (45, .ref 1 []), (47, .ref 1 []), (48, .int n)] [])
 obtain ⟨z17, ez17⟩ := gZ (mk [(41, .bptr 13 0), (44, .int m), (45, .ref 1 []), (47, .ref 1 []), (48, .int n)] [])
 obtain ⟨z18, ez18⟩ := gZ (mk [(41, .bptr 13 0), (43, .int n), (45, .ref 1 []), (47, .ref 1 []), (49, .int m)] [])
 obtain ⟨z19, ez19⟩ := gZ (mk [(40, .bptr 13 0), (44, .int m), (45, .ref 1 []), (47, .ref 1 []), (49, .int m)] [])
 obtain ⟨z20, ez20⟩ := gZ (mk [(39, .agg [.ref 10 [], .int m, .ref 11 [], .ref 12 []]), (42, .ref 10 []), (43, .int n), (45, .ref 1 []), (47, .ref 1 []), (48, .int n)] [])
 obtain ⟨z21, ez21⟩ := gZ (mk [(39, .agg [.ref 10 [], .int m, .ref 11 [], .ref 12 []]), (41, .bptr 13 0), (44, .int m), (45, .ref 1 []), (47, .ref 1 []), (48, .int n)] [])
 obtain ⟨z22, ez22⟩ := gZ (mk [(39, .agg [.ref 10 [], .int m, .ref 11 [], .ref 12 []]), (41, .bptr 13 0), (43, .int n), (45, .ref 1 []), (47, .ref 1 []), (49, .int m)] [])
 obtain ⟨z23, ez23⟩ := gZ (mk [(39, .agg [.ref 10 [], .int m, .ref 11 [], .ref 12 []]), (40, .bptr 13 0), (44, .int m), (45, .ref 1 []), (47, .ref 1 []), (49, .int m)] [])
 obtain ⟨z24, ez24⟩ := gZ (mk [(42, .ref 10 []), (44, .int m), (45, .ref 1 []), (47, .ref 1 []), (48, .int n)] [])
 obtain ⟨z25, ez25⟩ := gZ (mk [(42, .ref 10 []), (43, .int n), (45, .ref 1 []), (47, .ref 1 []), (49, .int m)] [])
 obtain ⟨z26, ez26⟩ := gZ (mk [(41, .bptr 13 0), (44, .int m), (45, .ref 1 []), (47, .ref 1 []), (49, .int m)] [])
 obtain ⟨z27, ez27⟩ := gZ (mk [(39, .agg [.ref 10 [], .int m, .ref 11 [], .ref 12 []]), (42, .ref 10 []), (44, .int m), (45, .ref 1 []), (47, .ref 1 []), (48, .int n)] [])
 obtain ⟨z28, ez28⟩ := gZ (mk [(39, .agg [.ref 10 [], .int m, .ref 11 [], .ref 12 []]), (42, .ref 10 []), (43, .int n), (45, .ref 1 []), (47, .ref 1 []), (49, .int m)] [])
 obtain ⟨z29, ez29⟩ := gZ (mk [(39, .agg [.ref 10 [], .int m, .ref 11 [], .ref 12 []]), (41, .bptr 13 0), (44, .int m), (45, .ref 1 []), (47, .ref 1 []), (49, .int m)] [])
 obtain ⟨z30, ez30⟩ := gZ (mk [(46, .agg [.l1 [(n : Int)], .int m, .l3 V]), (47, .ref 1 []), (48, .int n)] [])
 obtain ⟨z31, ez31⟩ := gZ (mk [(42, .ref 10 []), (44, .int m), (45, .ref 1 []), (47, .ref 1 []), (49, .int m)] [])
 obtain ⟨z32, ez32⟩ := gZ (mk [(39, .agg [.ref 10 [], .int m, .ref 11 [], .ref 12 []]), (46, .agg [.l1 [(n : Int)], .int m, .l3 V]), (47, .ref 1 []), (48, .int n)] [])
 obtain ⟨z33, ez33⟩ := gZ (mk [(39, .agg [.ref 10 [], .int m, .ref 11 [], .ref 12 []]), (42, .ref 10 []), (44, .int m), (45, .ref 1 []), (47, .ref 1 []), (49, .int m)] [])
 obtain ⟨z34, ez34⟩ := gZ (mk [(46, .agg [.l1 [(n : Int)], .int m, .l3 V]), (47, .ref 1 []), (49, .int m)] [])
 obtain ⟨z35, ez35⟩ := gZ (mk [(39, .agg [.ref 10 [], .int m, .ref 11 [], .ref 12 []]), (46, .agg [.l1 [(n : Int)], .int m, .l3 V]), (47, .ref 1 []), (49, .int m)] [])
 obtain ⟨z36, ez36⟩ := gZ (mk [(46, .agg [.l1 [(n : Int)], .int m, .l3 V]), (50, .l2 D)] [])
 obtain ⟨z37, ez37⟩ := gZ (mk [(39, .agg [.ref 10 [], .int m, .ref 11 [], .ref 12 []]), (46, .agg [.l1 [(n : Int)], .int m, .l3 V]), (50, .l2 D)] [])
 obtain ⟨z38, ez38⟩ := gZ (mk [(51, .agg [.l1 [(n : Int)], .int m, .l3 V, .l2 D])] [])
 obtain ⟨z39, ez39⟩ := gZ (mk [(39, .agg [.ref 10 [], .int m, .ref 11 [], .ref 12 []]), (51, .agg [.l1 [(n : Int)], .int m, .l3 V, .l2 D])] [])
 obtain ⟨z40, ez40⟩ := gZ (⟨[(0, .bptr 0 0), (2, .bptr 9 0), (5, .bptr 13 0), (52, .agg [.ref 14 [], .int m, .ref 15 [], .ref 16 []])], [(0, xv_ p.2), (1, .t2 p.1), (9, .bx [.nil, .int 0, .nil, .nil]), (10, .t1 [(n : Int)]), (11, .t3 W), (12, .t2 C), (13, .bx [.ref 10 [], .int m, .ref 11 [], .ref 12 []]), (14, .t1 [(n : Int)]), (15, .t3 W'), (16, .t2 C')]⟩ : St)
 obtain ⟨z41, ez41⟩ := gZ (⟨[(0, .bptr 0 0), (2, .bptr 9 0), (5, .bptr 13 0)], [(0, xv_ p.2), (1, .t2 p.1), (9, .bx [.nil, .int 0, .nil, .nil]), (10, .t1 [(n : Int)]), (11, .t3 W), (12, .t2 C), (13, .bx [.ref 14 [], .int m, .ref 15 [], .ref 16 []]), (14, .t1 [(n : Int)]), (15, .t3 W'), (16, .t2 C')]⟩ : St)
 refine w2_ [13] [4, 6, 8, 9] [[4, 6, 8, 9], [0, 4, 6, 8, 9], [1, 4, 6, 8, 9], [4, 5, 6, 8, 9], [4, 6, 8, 9, 10], [0, 1, 4, 6, 8, 9], [0, 4, 5, 6, 8, 9], [0, 4, 6, 8, 9, 10], [1, 2, 4, 6, 8, 9], [1, 4, 5, 6, 8, 9], [1, 4, 6, 8, 9, 10], [4, 5, 6, 8, 9, 10], [0, 1, 2, 4, 6, 8, 9], [0, 1, 4, 5, 6, 8, 9], [0, 1, 4, 6, 8, 9, 10], [0, 4, 5, 6, 8, 9, 10], [1, 2, 3, 4, 6, 8, 9], [1, 2, 4, 5, 6, 8, 9], [1, 2, 4, 6, 8, 9, 10], [1, 4, 5, 6, 8, 9, 10], [0, 1, 2, 3, 4, 6, 8, 9], [0, 1, 2, 4, 5, 6, 8, 9], [0, 1, 2, 4, 6, 8, 9, 10], [0, 1, 4, 5, 6, 8, 9, 10], [1, 2, 3, 4, 5, 6, 8, 9], [1, 2, 3, 4, 6, 8, 9, 10], [1, 2, 4, 5, 6, 8, 9, 10], [0, 1, 2, 3, 4, 5, 6, 8, 9], [0, 1, 2, 3, 4, 6, 8, 9, 10], [0, 1, 2, 4, 5, 6, 8, 9, 10], [1, 2, 3, 4, 5, 6, 7, 8, 9], [1, 2, 3, 4, 5, 6, 8, 9, 10], [0, 1, 2, 3, 4, 5, 6, 7, 8, 9], [0, 1, 2, 3, 4, 5, 6, 8, 9, 10], [1, 2, 3, 4, 5, 6, 7, 8, 9, 10], [0, 1, 2, 3, 4, 5, 6, 7, 8, 9, 10], [1, 2, 3, 4, 5, 6, 7, 8, 9, 10, 11], [0, 1, 2, 3, 4, 5, 6, 7, 8, 9, 10, 11], [1, 2, 3, 4, 5, 6, 7, 8, 9, 10, 11, 12], [0, 1, 2, 3, 4, 5, 6, 7, 8, 9, 10, 11, 12], [0, 1, 2, 3, 4, 5, 6, 7, 8, 9, 10, 11, 12, 13], [0, 1, 2, 3, 4, 5, 6, 7, 8, 9, 10, 11, 12, 13, 14]] [(0, 0, 1), (0, 1, 2), (0, 5, 3), (0, 10, 4), (1, 1, 5), (1, 5, 6), (1, 10, 7), (2, 0, 5), (2, 2, 8), (2, 5, 9), (2, 10, 10), (3, 0, 6), (3, 1, 9), (3, 10, 11), (4, 0, 7), (4, 1, 10), (4, 5, 11), (5, 2, 12), (5, 5, 13), (5, 10, 14), (6, 1, 13), (6, 10, 15), (7, 1, 14), (7, 5, 15), (8, 0, 12), (8, 3, 16), (8, 5, 17), (8, 10, 18), (9, 0, 13), (9, 2, 17), (9, 10, 19), (10, 0, 14), (10, 2, 18), (10, 5, 19), (11, 0, 15), (11, 1, 19), (12, 3, 20), (12, 5, 21), (12, 10, 22), (13, 2, 21), (13, 10, 23), (14, 2, 22), (14, 5, 23), (15, 1, 23), (16, 0, 20), (16, 5, 24), (16, 10, 25), (17, 0, 21), (17, 3, 24), (17, 10, 26), (18, 0, 22), (18, 3, 25), (18, 5, 26), (19, 0, 23), (19, 2, 26), (20, 5, 27), (20, 10, 28), (21, 3, 27), (21, 10, 29), (22, 3, 28), (22, 5, 29), (23, 2, 29), (24, 0, 27), (24, 7, 30), (24, 10, 31), (25, 0, 28), (25, 5, 31), (26, 0, 29), (26, 3, 31), (27, 7, 32), (27, 10, 33), (28, 5, 33), (29, 3, 33), (30, 0, 32), (30, 10, 34), (31, 0, 33), (31, 7, 34), (32, 10, 35), (33, 7, 35), (34, 0, 35), (34, 11, 36), (35, 11, 37), (36, 0, 37), (36, 12, 38), (37, 12, 39), (38, 0, 39), (39, 13, 40), (40, 14, 41)] [z0, z1, z2, z3, z4, z5, z6, z7, z8, z9, z10, z11, z12, z13, z14, z15, z16, z17, z18, z19, z20, z21, z22, z23, z24, z25, z26, z27, z28, z29, z30, z31, z32, z33, z34, z35, z36, z37, z38, z39, z40, z41] hrd (by first | exact xO_ hcx | exact wJ_ hcx rfl | exact y2_ hcx rfl) mixed (by kernel_rfl) ?_ ?_ ?_
 ·show wj_ _ _ _ _ _ _ (fun s => yy_ _ _ s z0)
  rw [ez0]; simp only [go_sem, seval]; repeat' (first | (refine Xq_ ?_ rfl; (focus ((repeat' (first | exact True.intro | refine And.intro rfl ?_)); done))) | with_reducible refine And.intro ?_ ?_ | omega)
 ·refine ⟨dtr ez0 ez1 ?_, dtr ez0 ez2 ?_, dtr ez0 ez3 ?_, dtr ez0 ez4 ?_, dtr ez1 ez5 ?_, dtr ez1 ez6 ?_, dtr ez1 ez7 ?_, dtr ez2 ez5 ?_, dtr ez2 ez8 ?_, dtr ez2 ez9 ?_, dtr ez2 ez10 ?_, dtr ez3 ez6 ?_, dtr ez3 ez9 ?_, dtr ez3 ez11 ?_, dtr ez4 ez7 ?_, dtr ez4 ez10 ?_, dtr ez4 ez11 ?_, dtr ez5 ez12 ?_, dtr ez5 ez13 ?_, dtr ez5 ez14 ?_, dtr ez6 ez13 ?_, dtr ez6 ez15 ?_, dtr ez7 ez14 ?_, dtr ez7 ez15 ?_, dtr ez8 ez12 ?_, dtr ez8 ez16 ?_, dtr ez8 ez17 ?_, dtr ez8 ez18 ?_, dtr ez9 ez13 ?_, dtr ez9 ez17 ?_, dtr ez9 ez19 ?_, dtr ez10 ez14 ?_, dtr ez10 ez18 ?_, dtr ez10 ez19 ?_, dtr ez11 ez15 ?_, dtr ez11 ez19 ?_, dtr ez12 ez20 ?_, dtr ez12 ez21 ?_, dtr ez12 ez22 ?_, dtr ez13 ez21 ?_, dtr ez13 ez23 ?_, dtr ez14 ez22 ?_, dtr ez14 ez23 ?_, dtr ez15 ez23 ?_, dtr ez16 ez20 ?_, dtr ez16 ez24 ?_, dtr ez16 ez25 ?_, dtr ez17 ez21 ?_, dtr ez17 ez24 ?_, dtr ez17 ez26 ?_, dtr ez18 ez22 ?_, dtr ez18 ez25 ?_, dtr ez18 ez26 ?_, dtr ez19 ez23 ?_, dtr ez19 ez26 ?_, dtr ez20 ez27 ?_, dtr ez20 ez28 ?_, dtr ez21 ez27 ?_, dtr ez21 ez29 ?_, dtr ez22 ez28 ?_, dtr ez22 ez29 ?_, dtr ez23 ez29 ?_, dtr ez24 ez27 ?_, dtr ez24 ez30 ?_, dtr ez24 ez31 ?_, dtr ez25 ez28 ?_, dtr ez25 ez31 ?_, dtr ez26 ez29 ?_, dtr ez26 ez31 ?_, dtr ez27 ez32 ?_, dtr ez27 ez33 ?_, dtr ez28 ez33 ?_, dtr ez29 ez33 ?_, dtr ez30 ez32 ?_, dtr ez30 ez34 ?_, dtr ez31 ez33 ?_, dtr ez31 ez34 ?_, dtr ez32 ez35 ?_, dtr ez33 ez35 ?_, dtr ez34 ez35 ?_, dtr ez34 ez36 ?_, dtr ez35 ez37 ?_, dtr ez36 ez37 ?_, dtr ez36 ez38 ?_, dtr ez37 ez39 ?_, dtr ez38 ez39 ?_, dtr ez39 ez40 ?_, dtr ez40 ez41 ?_, trivial⟩
  all_goals simp only [emk, List.cons_append, List.nil_append, List.append_nil, go_sem, seval]
  all_goals repeat' (first | (refine Xq_ ?_ rfl; (focus ((repeat' (first | exact True.intro | refine And.intro rfl ?_)); done))) | with_reducible refine And.intro ?_ ?_ | omega | ((first | refine yx_ rfl (hCb) ?_ | refine xd_ (yn_ rfl (hCb)) ?_); simp only [go_sem, seval]) | ((first | refine yx_ rfl (hT) ?_ | refine xd_ (yn_ rfl (hT)) ?_); simp only [go_sem, seval]) | (refine xq_ rfl (hS) rfl ?_; simp only [go_sem, seval]) | ((simp only [em])))
 show ATs _ _ _ _ _ z41
 rw [ez41]
 clear emk ez0 ez1 ez2 ez3 ez4 ez5 ez6 ez7 ez8 ez9 ez10 ez11 ez12 ez13 ez14 ez15 ez16 ez17 ez18 ez19 ez20 ez21 ez22 ez23 ez24 ez25 ez26 ez27 ez28 ez29 ez30 ez31 ez32 ez33 ez34 ez35 ez36 ez37 ez38 ez39 ez40 ez41
 refine gBN ?_
 refine xf_ ⟨⟨[(0, .bptr 0 0), (2, .bptr 4 0)], [(0, xv_ p.2), (1, .t1 [(n : Int)]), (2, .t3 W'), (3, .t2 C'), (4, .bx [.ref 1 [], .int m, .ref 2 [], .ref 3 []])]⟩, xm_ [1, 10, 11, 12, 13] [(14, 1), (15, 2), (16, 3), (9, 4)], .inr rfl, (by first | rfl | exact ⟨trivial, rfl⟩ | (simp only [y1_, zZ_, go_sem, seval]; done)), (by simp [St.get, xg_, xl_]), rfl⟩
end Go.Proofs.YtjbdiekkjegckaaGreat
namespace Go.Proofs.YtjbdiekkjegckaaGreat
open Go Go.Aw Go.Pl
attribute [local go_sem] yq_ List.getElem?_toArray List.getElem?_cons_zero List.getElem?_cons_succ Option.getD_some and_true true_and and_self
set_option maxRecDepth 100000 in
set_option maxHeartbeats 16000000 in
theorem RO_ (s : Src) (hs : s.Ok) (h0 : ¬ (nx s 2).1 = 0) : ∃ (o : List Int) (m : Int) (W : List (List (List Int))) (C : List (List Int)) (s' : Src) (n : Nat), s'.Ok ∧ 1 ≤ n ∧ n ≤ 8 ∧ m ≤ 1000 ∧ o.length ≤ 8 ∧ W.length = n ∧ GridB n m C ∧ DrB Tryz.prog 59 s o m W C s' := by
 have hr := xW_ s hs 2 (by omega)
 have okr := yp_ hs 2
 obtain ⟨r, er⟩ : ∃ r, nx s 2 = r := ⟨_, rfl⟩
 rw [er] at hr okr h0
 obtain ⟨q0, eq0⟩ : ∃ q0, r.1 = q0 := ⟨_, rfl⟩
 rw [eq0] at hr h0
 have hO : OwnCall Tryz.prog 84 [.bptr 0 0, .int 8] [(0, xv_ r.2)] [(0, xv_ (UJ_ r.2 8).2), (1, .t1 (UJ_ r.2 8).1)] (.ref 1 []) [0] := wL_ r.2 okr 8 (by omega) (by omega)
 obtain ⟨hp, h8, j, _, _, mv⟩ := UE_ okr (most := 8) (by omega)
 have lo := KQ_ r.2 8
 have okO := mv.ok okr
 obtain ⟨d, ed⟩ : ∃ d, UJ_ r.2 8 = d := ⟨_, rfl⟩
 rw [ed] at hO hp h8 lo okO
 obtain ⟨o, eo⟩ : ∃ o, d.1 = o := ⟨_, rfl⟩
 rw [eo] at hO hp h8 lo
 have hZ := w5_ o hp
 obtain ⟨n, hn⟩ : ∃ n : Nat, (n : Int) = xA_ o := ⟨(xA_ o).toNat, by have := yk_ hp; omega⟩
 rw [KM_ h8 hn] at hZ
 have n1 : 1 ≤ n := by have := yk_ hp; omega
 have n8 : n ≤ 8 := by omega
 have hQk := Yg_ d.2 okO [1, 2, 3, 4, 6, 8, 12] (by decide) (by decide)
 rw [show (([1, 2, 3, 4, 6, 8, 12] : List Int).length : Int) = 7 from rfl] at hQk
 have okK := yp_ okO 7
 have bK := yO_ d.2 (n := 7) (by omega)
 obtain ⟨q, eq⟩ : ∃ q, nx d.2 7 = q := ⟨_, rfl⟩
 rw [eq] at hQk okK bK
 have hm : 1 ≤ ([1, 2, 3, 4, 6, 8, 12] : List Int).getD q.1.toNat 0 ∧ ([1, 2, 3, 4, 6, 8, 12] : List Int).getD q.1.toNat 0 ≤ 1000 := by
  have h7 : q.1.toNat < 7 := by omega
  have : ∀ i, i < 7 → 1 ≤ ([1, 2, 3, 4, 6, 8, 12] : List Int).getD i 0 ∧ ([1, 2, 3, 4, 6, 8, 12] : List Int).getD i 0 ≤ 1000 := by decide
  exact this _ h7
 obtain ⟨m, em⟩ : ∃ m, ([1, 2, 3, 4, 6, 8, 12] : List Int).getD q.1.toNat 0 = m := ⟨_, rfl⟩
 rw [em] at hQk hm
 obtain ⟨m1, m2⟩ := hm
 have hCh := Ss_ q.2 okK o m n hp h8 hn m1 m2 (by omega)
 have okC := (YC_ (o := o) m1 (n := o.length) okK o.length).1
 obtain ⟨t, et⟩ : ∃ t, Ye_ o m o.length o.length q.2 = t := ⟨_, rfl⟩
 rw [et] at hCh okC
 have hC := aI0 (o := o) (m := m) (n := n) (T := t.1) m1
 have hW := aI1 (o := o) (m := m) (n := n) hp h8 m1 m2 hn
 have lW : (List.replicate n (List.replicate n (List.replicate n (0 : Int)))).length = n := List.length_replicate
 obtain ⟨W, eW⟩ : ∃ W, List.replicate n (List.replicate n (List.replicate n (0 : Int))) = W := ⟨_, rfl⟩
 obtain ⟨C, eC⟩ : ∃ C, yW_ n n (chV o m t.1) = C := ⟨_, rfl⟩
 rw [eW] at hCh hW lW
 rw [eC] at hCh hC
 have hU := xW_ t.2 okC 2 (by omega)
 have okU := yp_ okC 2
 obtain ⟨U, eU⟩ : ∃ U, nx t.2 2 = U := ⟨_, rfl⟩
 rw [eU] at hU okU
 by_cases hu : U.1 = 0
 ·have hP := zu_ U.2 okU n m n8 (by omega)
  obtain ⟨pk, _⟩ := ze_ (n := n) (m := m) okU n
  have pp := w4_ (n := n) (s := U.2) okU (show 1 ≤ m by omega)
  obtain ⟨p, ep⟩ : ∃ p, wn_ n m n U.2 = p := ⟨_, rfl⟩
  rw [ep] at hP pk pp
  have hCb := yS_ o m n p.1 hW.1 hW.2.1 (by have h := hW.2.2.2.2.1; rw [lW] at h; exact h) (by omega) (by omega) pp.1 (by omega)
  have hT := Wr_ m n p.1 n8 (by omega) (by omega) pp.1
  have hS := Ws_ o m W C o (Xl_ o m n p.1) (Z3_ m n p.1) hW (by rw [zt_, lW]) (by rw [lW]; exact T6_ (by omega)) (by omega) (by rw [lW]; exact hC) (by rw [lW]; exact (Kt_ (by omega) pp).1)
  rw [lW] at hS
  refine ⟨o, m, sumW m n W (Xl_ o m n p.1), Wd_ m n C (Z3_ m n p.1), p.2, n, pk, n1, n8, by omega, by omega, xL_ .., ag7 (by omega), ?_⟩
  obtain ⟨V, eV⟩ : ∃ V, Xl_ o m n p.1 = V := ⟨_, rfl⟩
  obtain ⟨D, eD⟩ : ∃ D, Z3_ m n p.1 = D := ⟨_, rfl⟩
  rw [eV, eD] at hS ⊢
  rw [eV] at hCb
  rw [eD] at hT
  obtain ⟨W', eW'⟩ : ∃ W', sumW m n W V = W' := ⟨_, rfl⟩
  obtain ⟨C', eC'⟩ : ∃ C', Wd_ m n C D = C' := ⟨_, rfl⟩
  rw [eW', eC'] at hS ⊢
  rw [hu] at hU
  clear pp eV eD eW' eC' pk hW hC eW eC hp h8 hn
  unfold DrB
  refine OwnCall.introR (n := 82) (rs := [.cell 2 30]) 1 [0] (X := [0]) Tryz.call59 Tryz.func59 rfl rfl rfl (by simp only [List.length_cons, List.length_nil]; omega) (by simp [Aw.ids, x3_, xQ_, xl_, xg_]) (fun cx hcx hrd => AT.weakG (x2_ ?_)); refine gE ?_
  refine gBN ?_
  (repeat refine xb_ ?_); refine AT.ghost (st' := ⟨[(0, .bptr 0 0), (2, .bptr 8 0)], [(0, xv_ s), (8, .bx [.nil, .int 0, .nil, .nil])]⟩) (xm_ [] [(1, 8)]) ?_
  refine gCN fun K hK => ?_
  refine xp_ (hr) rfl rfl ?_; simp only [go_sem, seval]
  refine hK _ ?_; clear hK K
  refine gI (fun g0 => ?_) fun g0 => ?_
  ·exact absurd g0 h0
  refine xe_ ?_
  refine gCN fun K hK => ?_
  refine xN_ (hO) (k := ?_); simp only [Aw.ids, go_sem, seval]
  refine hK _ ?_; clear hK K
  refine gCN fun K hK => ?_
  refine xN_ (hQk) (k := ?_); simp only [Aw.ids, go_sem, seval]
  refine hK _ ?_; clear hK K
  (repeat refine xb_ ?_); refine AT.ghost (st' := ⟨[(0, .bptr 0 0), (2, .bptr 8 0), (7, .ref 1 []), (8, .int m)], [(0, xv_ q.2), (1, .t1 o), (8, .bx [.nil, .int 0, .nil, .nil])]⟩) (xm_ [9] [(1, 1)]) ?_
  (repeat refine xb_ ?_); refine AT.ghost (YF_ [1]) ?_; simp only [Wn_, wk_, YS_, Z8_, RL_, zk_, Option.getD_some, Option.getD_none, find, xu_, xH_, yP_, yg_, qOf, rmT, xD_, zC_, List.map_cons, List.map_nil, List.filter_cons, List.filter_nil, List.contains_cons, List.contains_nil, Bool.or_false, Bool.or_true, Bool.false_and, Bool.not_true, Bool.not_false, Bool.false_eq_true, if_true, if_false, seval]
  refine gCN fun K hK => ?_
  refine xN_ (hCh) (k := ?_); simp only [Aw.ids, go_sem, seval]
  refine hK _ ?_; clear hK K
  (repeat refine xb_ ?_); refine AT.ghost (st' := ⟨[(0, .bptr 0 0), (2, .bptr 8 0), (7, .l1 o), (8, .int m), (9, .bptr 13 0)], [(0, xv_ t.2), (8, .bx [.nil, .int 0, .nil, .nil]), (10, .t1 o), (11, .t3 W), (12, .t2 C), (13, .bx [.ref 10 [], .int m, .ref 11 [], .ref 12 []])]⟩) (xm_ [4] [(1, 10), (2, 11), (3, 12), (9, 13)]) ?_
  refine gCN fun K hK => ?_
  refine xp_ (hU) rfl rfl ?_; simp only [go_sem, seval]
  refine hK _ ?_; clear hK K
  refine gR ?_
  refine gCN fun K hK => ?_
  first | refine xc_ (hZ) rfl ?_ | refine xd_ (xa_ (hZ) rfl) ?_
  refine gV ?_
  refine xN_ (hP) (k := ?_); simp only [Aw.ids, go_sem, seval]
  refine hK _ ?_; clear hK K
  (repeat refine xb_ ?_)
  obtain ⟨mk, emk⟩ : ∃ mk : List (Nat × AV) → List (Nat × Tree) → St, mk = fun s h => ⟨[(0, .bptr 0 0), (2, .bptr 8 0), (9, .bptr 13 0)] ++ s, h ++ [(0, xv_ p.2), (1, .t2 p.1), (8, .bx [.nil, .int 0, .nil, .nil]), (10, .t1 o), (11, .t3 W), (12, .t2 C), (13, .bx [.ref 10 [], .int m, .ref 11 [], .ref 12 []])]⟩ := ⟨_, rfl⟩
  obtain ⟨z0, ez0⟩ := gZ (⟨[(0, .bptr 0 0), (2, .bptr 8 0), (9, .bptr 13 0), (72, .l1 o), (73, .int m), (74, .ref 1 []), (76, .ref 1 []), (77, .int m)], [(0, xv_ p.2), (1, .t2 p.1), (8, .bx [.nil, .int 0, .nil, .nil]), (10, .t1 o), (11, .t3 W), (12, .t2 C), (13, .bx [.ref 10 [], .int m, .ref 11 [], .ref 12 []])]⟩ : St)
  obtain ⟨z1, ez1⟩ := gZ (mk [(71, .agg [.ref 10 [], .int m, .ref 11 [], .ref 12 []]), (72, .l1 o), (73, .int m), (74, .ref 1 []), (76, .ref 1 []), (77, .int m)] [])
  obtain ⟨z2, ez2⟩ := gZ (mk [(75, .agg [.l1 o, .int m, .l3 V]), (76, .ref 1 []), (77, .int m)] [])
  obtain ⟨z3, ez3⟩ := gZ (mk [(71, .agg [.ref 10 [], .int m, .ref 11 [], .ref 12 []]), (75, .agg [.l1 o, .int m, .l3 V]), (76, .ref 1 []), (77, .int m)] [])
  obtain ⟨z4, ez4⟩ := gZ (mk [(75, .agg [.l1 o, .int m, .l3 V]), (78, .l2 D)] [])
  obtain ⟨z5, ez5⟩ := gZ (mk [(71, .agg [.ref 10 [], .int m, .ref 11 [], .ref 12 []]), (75, .agg [.l1 o, .int m, .l3 V]), (78, .l2 D)] [])
  obtain ⟨z6, ez6⟩ := gZ (mk [(79, .agg [.l1 o, .int m, .l3 V, .l2 D])] [])
  obtain ⟨z7, ez7⟩ := gZ (mk [(71, .agg [.ref 10 [], .int m, .ref 11 [], .ref 12 []]), (79, .agg [.l1 o, .int m, .l3 V, .l2 D])] [])
  obtain ⟨z8, ez8⟩ := gZ (⟨[(0, .bptr 0 0), (2, .bptr 8 0), (9, .bptr 13 0), (80, .agg [.ref 14 [], .int m, .ref 15 [], .ref 16 []])], [(0, xv_ p.2), (1, .t2 p.1), (8, .bx [.nil, .int 0, .nil, .nil]), (10, .t1 o), (11, .t3 W), (12, .t2 C), (13, .bx [.ref 10 [], .int m, .ref 11 [], .ref 12 []]), (14, .t1 o), (15, .t3 W'), (16, .t2 C')]⟩ : St)
  obtain ⟨z9, ez9⟩ := gZ (⟨[(0, .bptr 0 0), (2, .bptr 8 0), (9, .bptr 13 0)], [(0, xv_ p.2), (1, .t2 p.1), (8, .bx [.nil, .int 0, .nil, .nil]), (10, .t1 o), (11, .t3 W), (12, .t2 C), (13, .bx [.ref 14 [], .int m, .ref 15 [], .ref 16 []]), (14, .t1 o), (15, .t3 W'), (16, .t2 C')]⟩ : St)
  refine w2_ [9] [1, 2, 3, 5, 6] [[1, 2, 3, 5, 6], [0, 1, 2, 3, 5, 6], [1, 2, 3, 4, 5, 6], [0, 1, 2, 3, 4, 5, 6], [1, 2, 3, 4, 5, 6, 7], [0, 1, 2, 3, 4, 5, 6, 7], [1, 2, 3, 4, 5, 6, 7, 8], [0, 1, 2, 3, 4, 5, 6, 7, 8], [0, 1, 2, 3, 4, 5, 6, 7, 8, 9], [0, 1, 2, 3, 4, 5, 6, 7, 8, 9, 10]] [(0, 0, 1), (0, 4, 2), (1, 4, 3), (2, 0, 3), (2, 7, 4), (3, 7, 5), (4, 0, 5), (4, 8, 6), (5, 8, 7), (6, 0, 7), (7, 9, 8), (8, 10, 9)] [z0, z1, z2, z3, z4, z5, z6, z7, z8, z9] hrd (by first | exact xO_ hcx | exact wJ_ hcx rfl | exact y2_ hcx rfl) mixed (by kernel_rfl) ?_ ?_ ?_
  ·show wj_ _ _ _ _ _ _ (fun s => yy_ _ _ s z0)
   rw [ez0]; simp only [go_sem, seval]; repeat' (first | (refine Xq_ ?_ rfl; (focus ((repeat' (first | exact True.intro | refine And.intro rfl ?_)); done))) | with_reducible refine And.intro ?_ ?_ | omega)
  ·refine ⟨dtr ez0 ez1 ?_, dtr ez0 ez2 ?_, dtr ez1 ez3 ?_, dtr ez2 ez3 ?_, dtr ez2 ez4 ?_, dtr ez3 ez5 ?_, dtr ez4 ez5 ?_, dtr ez4 ez6 ?_, dtr ez5 ez7 ?_, dtr ez6 ez7 ?_, dtr ez7 ez8 ?_, dtr ez8 ez9 ?_, trivial⟩
   all_goals simp only [emk, List.cons_append, List.nil_append, List.append_nil, go_sem, seval]
   all_goals repeat' (first | (refine Xq_ ?_ rfl; (focus ((repeat' (first | exact True.intro | refine And.intro rfl ?_)); done))) | with_reducible refine And.intro ?_ ?_ | omega | ((first | refine yx_ rfl (hCb) ?_ | refine xd_ (yn_ rfl (hCb)) ?_); simp only [go_sem, seval]) | ((first | refine yx_ rfl (hT) ?_ | refine xd_ (yn_ rfl (hT)) ?_); simp only [go_sem, seval]) | (refine xq_ rfl (hS) rfl ?_; simp only [go_sem, seval]))
  show ATs _ _ _ _ _ z9
  rw [ez9]
  clear emk ez0 ez1 ez2 ez3 ez4 ez5 ez6 ez7 ez8 ez9
  refine gBN ?_
  refine xf_ ⟨⟨[(0, .bptr 0 0), (2, .bptr 4 0)], [(0, xv_ p.2), (1, .t1 o), (2, .t3 W'), (3, .t2 C'), (4, .bx [.ref 1 [], .int m, .ref 2 [], .ref 3 []])]⟩, xm_ [1, 10, 11, 12, 13] [(14, 1), (15, 2), (16, 3), (8, 4)], .inr rfl, (by first | rfl | exact ⟨trivial, rfl⟩ | (simp only [y1_, zZ_, go_sem, seval]; done)), (by simp [St.get, xg_, xl_]), rfl⟩
 ·refine ⟨o, m, W, C, U.2, n, okU, n1, n8, by omega, by omega, lW, hC, ?_⟩
  clear hW hC eW eC hp h8 hn
  unfold DrB
  refine OwnCall.introR (n := 82) (rs := [.cell 2 30]) 1 [0] (X := [0]) Tryz.call59 Tryz.func59 rfl rfl rfl (by simp only [List.length_cons, List.length_nil]; omega) (by simp [Aw.ids, x3_, xQ_, xl_, xg_]) (fun cx hcx hrd => AT.weakG (x2_ ?_)); refine gE ?_
  refine gBN ?_
  (repeat refine xb_ ?_); refine AT.ghost (st' := ⟨[(0, .bptr 0 0), (2, .bptr 8 0)], [(0, xv_ s), (8, .bx [.nil, .int 0, .nil, .nil])]⟩) (xm_ [] [(1, 8)]) ?_
  refine gCN fun K hK => ?_
  refine xp_ (hr) rfl rfl ?_; simp only [go_sem, seval]
  refine hK _ ?_; clear hK K
  refine gI (fun g0 => ?_) fun g0 => ?_
  ·exact absurd g0 h0
  refine xe_ ?_
  refine gCN fun K hK => ?_
  refine xN_ (hO) (k := ?_); simp only [Aw.ids, go_sem, seval]
  refine hK _ ?_; clear hK K
  refine gCN fun K hK => ?_
  refine xN_ (hQk) (k := ?_); simp only [Aw.ids, go_sem, seval]
  refine hK _ ?_; clear hK K
  (repeat refine xb_ ?_); refine AT.ghost (st' := ⟨[(0, .bptr 0 0), (2, .bptr 8 0), (7, .ref 1 []), (8, .int m)], [(0, xv_ q.2), (1, .t1 o), (8, .bx [.nil, .int 0, .nil, .nil])]⟩) (xm_ [9] [(1, 1)]) ?_
  (repeat refine xb_ ?_); refine AT.ghost (YF_ [1]) ?_; simp only [Wn_, wk_, YS_, Z8_, RL_, zk_, Option.getD_some, Option.getD_none, find, xu_, xH_, yP_, yg_, qOf, rmT, xD_, zC_, List.map_cons, List.map_nil, List.filter_cons, List.filter_nil, List.contains_cons, List.contains_nil, Bool.or_false, Bool.or_true, Bool.false_and, Bool.not_true, Bool.not_false, Bool.false_eq_true, if_true, if_false, seval]
  refine gCN fun K hK => ?_
  refine xN_ (hCh) (k := ?_); simp only [Aw.ids, go_sem, seval]
  refine hK _ ?_; clear hK K
  (repeat refine xb_ ?_); refine AT.ghost (st' := ⟨[(0, .bptr 0 0), (2, .bptr 8 0), (7, .l1 o), (8, .int m), (9, .bptr 13 0)], [(0, xv_ t.2), (8, .bx [.nil, .int 0, .nil, .nil]), (10, .t1 o), (11, .t3 W), (12, .t2 C), (13, .bx [.ref 10 [], .int m, .ref 11 [], .ref 12 []])]⟩) (xm_ [4] [(1, 10), (2, 11), (3, 12), (9, 13)]) ?_
  refine gCN fun K hK => ?_
  refine xp_ (hU) rfl rfl ?_; simp only [go_sem, seval]
  refine hK _ ?_; clear hK K
  refine gI (fun g3 => ?_) fun g3 => ?_
  ·exact absurd g3 hu
  ·refine xe_ ?_
   refine gBN ?_
   refine xf_ ⟨⟨[(0, .bptr 0 0), (2, .bptr 4 0)], [(0, xv_ U.2), (1, .t1 o), (2, .t3 W), (3, .t2 C), (4, .bx [.ref 1 [], .int m, .ref 2 [], .ref 3 []])]⟩, xm_ [13] [(10, 1), (11, 2), (12, 3), (8, 4)], .inr rfl, (by first | rfl | exact ⟨trivial, rfl⟩ | (simp only [y1_, zZ_, go_sem, seval]; done)), (by simp [St.get, xg_, xl_]), rfl⟩
theorem Sr_ (s : Src) (hs : s.Ok) : ∃ (o : List Int) (m : Int) (W : List (List (List Int))) (C : List (List Int)) (s' : Src) (n : Nat), s'.Ok ∧ 1 ≤ n ∧ n ≤ 8 ∧ m ≤ 1000 ∧ o.length ≤ 8 ∧ W.length = n ∧ GridB n m C ∧ DrB Tryz.prog 59 s o m W C s' := by
 by_cases h0 : (nx s 2).1 = 0
 ·by_cases hu : (nx (nx (nx (nx s 2).2 6).2 (2 * (2 + (nx (nx s 2).2 6).1))).2 2).1 = 0
  ·exact Sq_ s hs h0 hu
  ·exact Sp_ s hs h0 hu
 ·exact RO_ s hs h0
end Go.Proofs.YtjbdiekkjegckaaGreat
namespace Go.Proofs.YtjbdiekkjegckaaGreat
open Go Go.Aw Go.Pl
attribute [local go_sem] yq_ List.getElem?_toArray List.getElem?_cons_zero List.getElem?_cons_succ Option.getD_some and_true true_and and_self
def av7 (P : Program) (f : FuncId) (s : Src) (o : List Int) (m : Int) (W : List (List (List Int))) (C : List (List Int)) (s' : Src) : Prop :=
 OwnCall P f [.bptr 0 0] [(0, xv_ s)] [(0, xv_ s'), (4, .bx [.l1 o, .int m, .l3 W, .l2 C])] (.agg [.l1 o, .int m, .l3 W, .l2 C]) [0]
theorem DrB.any {P : Program} {f : FuncId} {s : Src} {o : List Int} {m : Int} {W : List (List (List Int))} {C : List (List Int)} {s' : Src} (hA : DrB P f s o m W C s') : av7 P f s o m W C s' := by
 have h := OwnCall.frz hA [1, 2, 3] (by simp)
 unfold av7
 simpa [aH7, Wn_, wk_, YS_, YS_, Z8_, RL_, rmT, xu_, find] using h
set_option maxRecDepth 100000 in
set_option maxHeartbeats 8000000 in
theorem UK_ (s : Src) (hs : s.Ok) : ∃ (o : List Int) (m : Int) (W : List (List (List Int))) (C : List (List Int)) (s' : Src), o.length ≤ 11 ∧ av7 Tryz.prog 23 s o m W C s' := by
 obtain ⟨o, m, W, C, s1, n, ok1, n1, n8, m2, lo, lW, hC, hD⟩ := Sr_ s hs
 have lC := hC.1
 have hc := xW_ s1 ok1 20 (by omega)
 have okc := yp_ ok1 20
 obtain ⟨c, ec⟩ : ∃ c, nx s1 20 = c := ⟨_, rfl⟩
 rw [ec] at hc okc
 unfold DrB at hD
 by_cases c0 : c.1 = 0
 ·rw [c0] at hc
  have h1 := xW_ c.2 okc n (by omega)
  have b1 := yO_ c.2 (n := (n : Int)) (by omega)
  have ok1 := yp_ okc n
  obtain ⟨a1, e1⟩ : ∃ a, nx c.2 n = a := ⟨_, rfl⟩
  rw [e1] at h1 b1 ok1
  obtain ⟨i, ei⟩ : ∃ i : Nat, a1.1 = i := ⟨a1.1.toNat, by omega⟩
  rw [ei] at h1 b1
  have h2 := xW_ a1.2 ok1 n (by omega)
  have b2 := yO_ a1.2 (n := (n : Int)) (by omega)
  have ok2 := yp_ ok1 n
  obtain ⟨a2, e2⟩ : ∃ a, nx a1.2 n = a := ⟨_, rfl⟩
  rw [e2] at h2 b2 ok2
  obtain ⟨j, ej⟩ : ∃ j : Nat, a2.1 = j := ⟨a2.1.toNat, by omega⟩
  rw [ej] at h2 b2
  have hQk := Yg_ a2.2 ok2 [0, 1, -1, m] (by simp) (by simp)
  rw [show (([0, 1, -1, m] : List Int).length : Int) = 4 from rfl] at hQk
  obtain ⟨q, eq⟩ : ∃ q, nx a2.2 4 = q := ⟨_, rfl⟩
  rw [eq] at hQk
  obtain ⟨v, ev⟩ : ∃ v, ([0, 1, -1, m] : List Int).getD q.1.toNat 0 = v := ⟨_, rfl⟩
  rw [ev] at hQk
  have hi : i < n := by omega
  have hj : j < n := by omega
  have mi := hC.row hi
  refine ⟨o, m, W, C.set i ((C.getD i []).set j v), q.2, by omega, DrB.any ?_⟩
  unfold DrB
  refine OwnCall.introR (n := 45) (rs := [.cell 2 30]) 1 [0] (X := [0]) Tryz.call23 Tryz.func23 rfl rfl rfl (by simp only [List.length_cons, List.length_nil]; omega) (by simp [Aw.ids, x3_, xQ_, xl_, xg_]) (fun cx hcx hrd => AT.weakG (x2_ ?_)); refine gE ?_
  refine gBN ?_
  (repeat refine xb_ ?_); refine AT.ghost (st' := ⟨[(0, .bptr 0 0), (2, .bptr 5 0)], [(0, xv_ s), (5, .bx [.nil, .int 0, .nil, .nil])]⟩) (xm_ [] [(1, 5)]) ?_
  refine gCN fun K hK => ?_
  refine xN_ (hD) (k := ?_); simp only [Aw.ids, go_sem, seval]
  refine hK _ ?_; clear hK K
  (repeat refine xb_ ?_); refine AT.ghost (st' := ⟨[(0, .bptr 0 0), (2, .bptr 5 0), (3, .bptr 8 0)], [(0, xv_ s1), (1, .t1 o), (2, .t3 W), (3, .t2 C), (5, .bx [.nil, .int 0, .nil, .nil]), (8, .bx [.ref 1 [], .int m, .ref 2 [], .ref 3 []])]⟩) (xm_ [4] [(6, 8)]) ?_
  (repeat refine xb_ ?_); refine xx_ (by first | exact xO_ hcx | exact wJ_ hcx rfl | exact y2_ hcx rfl) fun K hK => ?_; simp only [go_sem, seval, lC]
  refine gU ?_
  refine hK _ ?_; clear hK K
  refine gCN fun K hK => ?_
  refine xp_ (hc) rfl rfl ?_; simp only [go_sem, seval]
  refine hK _ ?_; clear hK K
  (repeat refine xb_ ?_); refine AT.ghost (st' := ⟨[(0, .bptr 0 0), (2, .bptr 5 0), (3, .bptr 8 0), (4, .int n), (12, .int 0)], [(0, xv_ c.2), (1, .t1 o), (2, .t3 W), (3, .t2 C), (5, .bx [.nil, .int 0, .nil, .nil]), (8, .bx [.ref 1 [], .int m, .ref 2 [], .ref 3 []])]⟩) (xr_ [] (by simp only [go_sem, seval, AV.int.injEq, AV.bool.injEq, AV.l1.injEq, AV.l2.injEq, AV.l3.injEq]) (by simp only [go_sem, seval])) ?_
  refine gO ?_
  refine gBN ?_
  refine gR ?_
  (repeat refine xb_ ?_)
  obtain ⟨mk, emk⟩ : ∃ mk : List (Nat × AV) → List (Nat × Tree) → St, mk = fun s h => ⟨[(0, .bptr 0 0), (2, .bptr 5 0), (3, .bptr 8 0), (4, .int n)] ++ s, h ++ [(1, .t1 o), (2, .t3 W), (3, .t2 C), (5, .bx [.nil, .int 0, .nil, .nil]), (8, .bx [.ref 1 [], .int m, .ref 2 [], .ref 3 []])]⟩ := ⟨_, rfl⟩
  obtain ⟨z0, ez0⟩ := gZ (⟨[(0, .bptr 0 0), (2, .bptr 5 0), (3, .bptr 8 0), (4, .int n), (17, .bptr 0 0), (18, .int n)], [(0, xv_ c.2), (1, .t1 o), (2, .t3 W), (3, .t2 C), (5, .bx [.nil, .int 0, .nil, .nil]), (8, .bx [.ref 1 [], .int m, .ref 2 [], .ref 3 []])]⟩ : St)
  obtain ⟨z1, ez1⟩ := gZ (mk [(15, .bptr 8 3), (17, .bptr 0 0), (18, .int n)] [(0, xv_ c.2)])
  obtain ⟨z2, ez2⟩ := gZ (mk [(19, .int i)] [(0, xv_ a1.2)])
  obtain ⟨z3, ez3⟩ := gZ (mk [(16, .ref 3 []), (17, .bptr 0 0), (18, .int n)] [(0, xv_ c.2)])
  obtain ⟨z4, ez4⟩ := gZ (mk [(15, .bptr 8 3), (19, .int i)] [(0, xv_ a1.2)])
  obtain ⟨z5, ez5⟩ := gZ (mk [(16, .ref 3 []), (19, .int i)] [(0, xv_ a1.2)])
  obtain ⟨z6, ez6⟩ := gZ (mk [(20, .eref 3 [] i)] [(0, xv_ a1.2)])
  obtain ⟨z7, ez7⟩ := gZ (mk [(21, .ref 3 [i])] [(0, xv_ a1.2)])
  obtain ⟨z8, ez8⟩ := gZ (⟨[(0, .bptr 0 0), (2, .bptr 5 0), (3, .bptr 8 0), (4, .int n), (5, .ref 3 [i])], [(0, xv_ a1.2), (1, .t1 o), (2, .t3 W), (3, .t2 C), (5, .bx [.nil, .int 0, .nil, .nil]), (8, .bx [.ref 1 [], .int m, .ref 2 [], .ref 3 []])]⟩ : St)
  refine w2_ [4] [2, 3] [[2, 3], [0, 2, 3], [2, 3, 4], [0, 1, 2, 3], [0, 2, 3, 4], [0, 1, 2, 3, 4], [0, 1, 2, 3, 4, 5], [0, 1, 2, 3, 4, 5, 6], [0, 1, 2, 3, 4, 5, 6, 7]] [(0, 0, 1), (0, 4, 2), (1, 1, 3), (1, 4, 4), (2, 0, 4), (3, 4, 5), (4, 1, 5), (5, 5, 6), (6, 6, 7), (7, 7, 8)] [z0, z1, z2, z3, z4, z5, z6, z7, z8] hrd (by first | exact xO_ hcx | exact wJ_ hcx rfl | exact y2_ hcx rfl) mixed (by kernel_rfl) ?_ ?_ ?_
  ·show wj_ _ _ _ _ _ _ (fun s => yy_ _ _ s z0)
   rw [ez0]; simp only [go_sem, seval]; repeat' (first | (refine Xq_ ?_ rfl; (focus ((repeat' (first | exact True.intro | refine And.intro rfl ?_)); done))) | with_reducible refine And.intro ?_ ?_ | omega)
  ·refine ⟨dtr ez0 ez1 ?_, dtr ez0 ez2 ?_, dtr ez1 ez3 ?_, dtr ez1 ez4 ?_, dtr ez2 ez4 ?_, dtr ez3 ez5 ?_, dtr ez4 ez5 ?_, dtr ez5 ez6 ?_, dtr ez6 ez7 ?_, dtr ez7 ez8 ?_, trivial⟩
   all_goals simp only [emk, List.cons_append, List.nil_append, List.append_nil, go_sem, seval]
   all_goals repeat' (first | (refine Xq_ ?_ rfl; (focus ((repeat' (first | exact True.intro | refine And.intro rfl ?_)); done))) | with_reducible refine And.intro ?_ ?_ | omega | (refine xp_ (h1) rfl rfl ?_; simp only [go_sem, seval]))
  show ATs _ _ _ _ _ z8
  rw [ez8]
  clear emk ez0 ez1 ez2 ez3 ez4 ez5 ez6 ez7 ez8
  (repeat refine xb_ ?_)
  obtain ⟨mk, emk⟩ : ∃ mk : List (Nat × AV) → List (Nat × Tree) → St, mk = fun s h => ⟨[(0, .bptr 0 0), (2, .bptr 5 0), (3, .bptr 8 0)] ++ s, h ++ [(1, .t1 o), (2, .t3 W), (3, .t2 C), (5, .bx [.nil, .int 0, .nil, .nil]), (8, .bx [.ref 1 [], .int m, .ref 2 [], .ref 3 []])]⟩ := ⟨_, rfl⟩
  obtain ⟨z0, ez0⟩ := gZ (⟨[(0, .bptr 0 0), (2, .bptr 5 0), (3, .bptr 8 0), (22, .ref 3 [i]), (23, .bptr 0 0), (24, .int n), (26, .bptr 0 0)], [(0, xv_ a1.2), (1, .t1 o), (2, .t3 W), (3, .t2 C), (5, .bx [.nil, .int 0, .nil, .nil]), (8, .bx [.ref 1 [], .int m, .ref 2 [], .ref 3 []])]⟩ : St)
  obtain ⟨z1, ez1⟩ := gZ (mk [(22, .ref 3 [i]), (25, .int j), (26, .bptr 0 0)] [(0, xv_ a2.2)])
  obtain ⟨z2, ez2⟩ := gZ (mk [(22, .ref 3 [i]), (23, .bptr 0 0), (24, .int n), (26, .bptr 0 0), (27, .bptr 8 0)] [(0, xv_ a1.2)])
  obtain ⟨z3, ez3⟩ := gZ (mk [(22, .ref 3 [i]), (25, .int j), (26, .bptr 0 0), (27, .bptr 8 0)] [(0, xv_ a2.2)])
  obtain ⟨z4, ez4⟩ := gZ (mk [(22, .ref 3 [i]), (23, .bptr 0 0), (24, .int n), (26, .bptr 0 0), (28, .bptr 8 1)] [(0, xv_ a1.2)])
  obtain ⟨z5, ez5⟩ := gZ (mk [(22, .ref 3 [i]), (25, .int j), (26, .bptr 0 0), (28, .bptr 8 1)] [(0, xv_ a2.2)])
  obtain ⟨z6, ez6⟩ := gZ (mk [(22, .ref 3 [i]), (23, .bptr 0 0), (24, .int n), (26, .bptr 0 0), (29, .int m)] [(0, xv_ a1.2)])
  obtain ⟨z7, ez7⟩ := gZ (mk [(22, .ref 3 [i]), (25, .int j), (26, .bptr 0 0), (29, .int m)] [(0, xv_ a2.2)])
  obtain ⟨z8, ez8⟩ := gZ (⟨[(0, .bptr 0 0), (2, .bptr 5 0), (3, .bptr 8 0), (22, .ref 3 [i]), (23, .bptr 0 0), (24, .int n), (26, .bptr 0 0), (30, .ref 9 [])], [(0, xv_ a1.2), (1, .t1 o), (2, .t3 W), (3, .t2 C), (5, .bx [.nil, .int 0, .nil, .nil]), (8, .bx [.ref 1 [], .int m, .ref 2 [], .ref 3 []]), (9, .t1 [0, 1, -1, m])]⟩ : St)
  obtain ⟨z9, ez9⟩ := gZ (⟨[(0, .bptr 0 0), (2, .bptr 5 0), (3, .bptr 8 0), (22, .ref 3 [i]), (25, .int j), (26, .bptr 0 0), (30, .ref 9 [])], [(0, xv_ a2.2), (1, .t1 o), (2, .t3 W), (3, .t2 C), (5, .bx [.nil, .int 0, .nil, .nil]), (8, .bx [.ref 1 [], .int m, .ref 2 [], .ref 3 []]), (9, .t1 [0, 1, -1, m])]⟩ : St)
  obtain ⟨z10, ez10⟩ := gZ (⟨[(0, .bptr 0 0), (2, .bptr 5 0), (3, .bptr 8 0), (22, .ref 3 [i]), (25, .int j), (31, .int v)], [(0, xv_ q.2), (1, .t1 o), (2, .t3 W), (3, .t2 C), (5, .bx [.nil, .int 0, .nil, .nil]), (8, .bx [.ref 1 [], .int m, .ref 2 [], .ref 3 []]), (9, .t1 [0, 1, -1, m])]⟩ : St)
  obtain ⟨z11, ez11⟩ := gZ (⟨[(0, .bptr 0 0), (2, .bptr 5 0), (3, .bptr 8 0), (31, .int v), (32, .eref 3 [i] j)], [(0, xv_ q.2), (1, .t1 o), (2, .t3 W), (3, .t2 C), (5, .bx [.nil, .int 0, .nil, .nil]), (8, .bx [.ref 1 [], .int m, .ref 2 [], .ref 3 []]), (9, .t1 [0, 1, -1, m])]⟩ : St)
  obtain ⟨z12, ez12⟩ := gZ (⟨[(0, .bptr 0 0), (2, .bptr 5 0), (3, .bptr 8 0)], [(0, xv_ q.2), (1, .t1 o), (2, .t3 W), (3, .t2 (C.set i ((C.getD i []).set j v))), (5, .bx [.nil, .int 0, .nil, .nil]), (8, .bx [.ref 1 [], .int m, .ref 2 [], .ref 3 []]), (9, .t1 [0, 1, -1, m])]⟩ : St)
  refine w2_ [3, 9] [0, 1, 2, 4] [[0, 1, 2, 4], [0, 1, 2, 3, 4], [0, 1, 2, 4, 5], [0, 1, 2, 3, 4, 5], [0, 1, 2, 4, 5, 6], [0, 1, 2, 3, 4, 5, 6], [0, 1, 2, 4, 5, 6, 7], [0, 1, 2, 3, 4, 5, 6, 7], [0, 1, 2, 4, 5, 6, 7, 8], [0, 1, 2, 3, 4, 5, 6, 7, 8], [0, 1, 2, 3, 4, 5, 6, 7, 8, 9], [0, 1, 2, 3, 4, 5, 6, 7, 8, 9, 10], [0, 1, 2, 3, 4, 5, 6, 7, 8, 9, 10, 11]] [(0, 3, 1), (0, 5, 2), (1, 5, 3), (2, 3, 3), (2, 6, 4), (3, 6, 5), (4, 3, 5), (4, 7, 6), (5, 7, 7), (6, 3, 7), (6, 8, 8), (7, 8, 9), (8, 3, 9), (9, 9, 10), (10, 10, 11), (11, 11, 12)] [z0, z1, z2, z3, z4, z5, z6, z7, z8, z9, z10, z11, z12] hrd (by first | exact xO_ hcx | exact wJ_ hcx rfl | exact y2_ hcx rfl) mixed (by kernel_rfl) ?_ ?_ ?_
  ·show wj_ _ _ _ _ _ _ (fun s => yy_ _ _ s z0)
   rw [ez0]; simp only [go_sem, seval]; repeat' (first | (refine Xq_ ?_ rfl; (focus ((repeat' (first | exact True.intro | refine And.intro rfl ?_)); done))) | with_reducible refine And.intro ?_ ?_ | omega)
  ·refine ⟨dtr ez0 ez1 ?_, dtr ez0 ez2 ?_, dtr ez1 ez3 ?_, dtr ez2 ez3 ?_, dtr ez2 ez4 ?_, dtr ez3 ez5 ?_, dtr ez4 ez5 ?_, dtr ez4 ez6 ?_, dtr ez5 ez7 ?_, dtr ez6 ez7 ?_, dtr ez6 ez8 ?_, dtr ez7 ez9 ?_, dtr ez8 ez9 ?_, dtr ez9 ez10 ?_, dtr ez10 ez11 ?_, dtr ez11 ez12 ?_, trivial⟩
   all_goals simp only [emk, List.cons_append, List.nil_append, List.append_nil, go_sem, seval]
   all_goals repeat' (first | (refine Xq_ ?_ rfl; (focus ((repeat' (first | exact True.intro | refine And.intro rfl ?_)); done))) | with_reducible refine And.intro ?_ ?_ | omega | (refine xp_ (h2) rfl rfl ?_; simp only [go_sem, seval]) | (refine zz_ (hQk) (by simp [Aw.ids]) (by simp [find]) (by simp [zQ_, zC_, xH_, xu_, YV_, Aw.ids]) (by simp [xH_, xu_, YV_, Aw.ids]) (by simp [Aw.ids]) ?_; simp only [Aw.ids, List.map_cons, List.map_nil, List.filter_cons, List.filter_nil, List.contains_cons, List.contains_nil, Bool.or_false, Bool.or_true, Bool.not_true, Bool.not_false, Nat.reduceBEq, Bool.false_eq_true, if_true, if_false, List.cons_append, List.nil_append]; simp only [go_sem, seval]))
  show ATs _ _ _ _ _ z12
  rw [ez12]
  clear emk ez0 ez1 ez2 ez3 ez4 ez5 ez6 ez7 ez8 ez9 ez10 ez11 ez12
  refine gBN ?_
  refine xf_ ⟨⟨[(0, .bptr 0 0), (2, .bptr 4 0)], [(0, xv_ q.2), (1, .t1 o), (2, .t3 W), (3, .t2 (C.set i ((C.getD i []).set j v))), (4, .bx [.ref 1 [], .int m, .ref 2 [], .ref 3 []])]⟩, xm_ [8, 9] [(5, 4)], .inr rfl, (by first | rfl | exact ⟨trivial, rfl⟩ | (simp only [y1_, zZ_, go_sem, seval]; done)), (by simp [St.get, xg_, xl_]), rfl⟩
 ·by_cases c1 : c.1 = 1
  ·rw [c1] at hc
   obtain ⟨o', m', W', s2, _, lo', _, hA⟩ := VL_ c.2 okc
   unfold DrC at hA
   refine ⟨o', m', W', C, s2, by omega, DrB.any ?_⟩
   unfold DrB
   refine OwnCall.intro (n := 45) (rs := [.cell 2 30]) 1 [0] (X := [0]) Tryz.call23 Tryz.func23 rfl rfl rfl (by simp only [List.length_cons, List.length_nil]; omega) (by simp [Aw.ids, x3_, xQ_, xl_, xg_]) (fun cx hcx => AT.weakG (x2_ ?_)); refine gE ?_
   refine gBN ?_
   (repeat refine xb_ ?_); refine AT.ghost (st' := ⟨[(0, .bptr 0 0), (2, .bptr 5 0)], [(0, xv_ s), (5, .bx [.nil, .int 0, .nil, .nil])]⟩) (xm_ [] [(1, 5)]) ?_
   refine gCN fun K hK => ?_
   refine xN_ (hD) (k := ?_); simp only [Aw.ids, go_sem, seval]
   refine hK _ ?_; clear hK K
   (repeat refine xb_ ?_); refine AT.ghost (st' := ⟨[(0, .bptr 0 0), (2, .bptr 5 0), (3, .bptr 8 0)], [(0, xv_ s1), (1, .t1 o), (2, .t3 W), (3, .t2 C), (5, .bx [.nil, .int 0, .nil, .nil]), (8, .bx [.ref 1 [], .int m, .ref 2 [], .ref 3 []])]⟩) (xm_ [4] [(6, 8)]) ?_
   (repeat refine xb_ ?_); refine xx_ (by first | exact xO_ hcx | exact wJ_ hcx rfl | exact y2_ hcx rfl) fun K hK => ?_; simp only [go_sem, seval, lC]
   refine gU ?_
   refine hK _ ?_; clear hK K
   refine gCN fun K hK => ?_
   refine xp_ (hc) rfl rfl ?_; simp only [go_sem, seval]
   refine hK _ ?_; clear hK K
   (repeat refine xb_ ?_); refine AT.ghost (st' := ⟨[(0, .bptr 0 0), (2, .bptr 5 0), (3, .bptr 8 0), (4, .int n), (12, .int 1)], [(0, xv_ c.2), (5, .bx [.nil, .int 0, .nil, .nil]), (8, .bx [.ref 11 [], .int m, .ref 12 [], .ref 13 []]), (11, .t1 o), (12, .t3 W), (13, .t2 C)]⟩) (xm_ [] [(1, 11), (2, 12), (3, 13)]) ?_
   refine gO ?_
   refine gBN ?_
   refine gQ ?_
   refine gBN ?_
   refine gR ?_
   refine gCN fun K hK => ?_
   refine xN_ (hA) (k := ?_); simp only [Aw.ids, go_sem, seval]
   refine hK _ ?_; clear hK K
   refine gBN ?_
   refine xf_ ⟨⟨[(0, .bptr 0 0), (2, .bptr 4 0)], [(0, xv_ s2), (1, .t1 o'), (2, .t3 W'), (3, .t2 C), (4, .bx [.ref 1 [], .int m', .ref 2 [], .ref 3 []])]⟩, xm_ [3, 8, 11, 12] [(13, 3), (5, 4)], .inr rfl, (by first | rfl | exact ⟨trivial, rfl⟩ | (simp only [y1_, zZ_, go_sem, seval]; done)), (by simp [St.get, xg_, xl_]), rfl⟩
  ·by_cases c2 : c.1 = 2
   ·rw [c2] at hc
    refine ⟨o, m, W, (C.take n).drop 1, c.2, by omega, ?_⟩
    have hE : OwnCall Tryz.prog 23 [.bptr 0 0] [(0, xv_ s)] [(0, xv_ c.2), (1, .t1 o), (2, .t3 W), (3, .t2 C), (4, .bx [.ref 1 [], .int m, .ref 2 [], .sub 3 [] 1 n])] (.agg [.ref 1 [], .int m, .ref 2 [], .sub 3 [] 1 n]) [0] := by
     refine OwnCall.intro (n := 45) (rs := [.cell 2 30]) 1 [0] (X := [0]) Tryz.call23 Tryz.func23 rfl rfl rfl (by simp only [List.length_cons, List.length_nil]; omega) (by simp [Aw.ids, x3_, xQ_, xl_, xg_]) (fun cx hcx => AT.weakG (x2_ ?_)); refine gE ?_
     refine gBN ?_
     (repeat refine xb_ ?_); refine AT.ghost (st' := ⟨[(0, .bptr 0 0), (2, .bptr 5 0)], [(0, xv_ s), (5, .bx [.nil, .int 0, .nil, .nil])]⟩) (xm_ [] [(1, 5)]) ?_
     refine gCN fun K hK => ?_
     refine xN_ (hD) (k := ?_); simp only [Aw.ids, go_sem, seval]
     refine hK _ ?_; clear hK K
     (repeat refine xb_ ?_); refine AT.ghost (st' := ⟨[(0, .bptr 0 0), (2, .bptr 5 0), (3, .bptr 8 0)], [(0, xv_ s1), (1, .t1 o), (2, .t3 W), (3, .t2 C), (5, .bx [.nil, .int 0, .nil, .nil]), (8, .bx [.ref 1 [], .int m, .ref 2 [], .ref 3 []])]⟩) (xm_ [4] [(6, 8)]) ?_
     (repeat refine xb_ ?_); refine xx_ (by first | exact xO_ hcx | exact wJ_ hcx rfl | exact y2_ hcx rfl) fun K hK => ?_; simp only [go_sem, seval, lC]
     refine gU ?_
     refine hK _ ?_; clear hK K
     refine gCN fun K hK => ?_
     refine xp_ (hc) rfl rfl ?_; simp only [go_sem, seval]
     refine hK _ ?_; clear hK K
     (repeat refine xb_ ?_); refine AT.ghost (st' := ⟨[(0, .bptr 0 0), (2, .bptr 5 0), (3, .bptr 8 0), (4, .int n), (12, .int 2)], [(0, xv_ c.2), (1, .t1 o), (2, .t3 W), (3, .t2 C), (5, .bx [.nil, .int 0, .nil, .nil]), (8, .bx [.ref 1 [], .int m, .ref 2 [], .ref 3 []])]⟩) (xr_ [] (by simp only [go_sem, seval, AV.int.injEq, AV.bool.injEq, AV.l1.injEq, AV.l2.injEq, AV.l3.injEq]) (by simp only [go_sem, seval])) ?_
     refine gO ?_
     refine gBN ?_
     refine gQ ?_
     refine gBN ?_
     refine gQ ?_
     refine gBN ?_
     refine gR ?_
     (repeat refine xb_ ?_); refine xx_ (by first | exact xO_ hcx | exact wJ_ hcx rfl | exact y2_ hcx rfl) fun K hK => ?_; simp only [go_sem, seval, lC]
     refine gU ?_
     refine hK _ ?_; clear hK K
     refine gBN ?_
     refine xf_ ⟨⟨[(0, .bptr 0 0), (2, .bptr 4 0)], [(0, xv_ c.2), (1, .t1 o), (2, .t3 W), (3, .t2 C), (4, .bx [.ref 1 [], .int m, .ref 2 [], .sub 3 [] 1 n])]⟩, xm_ [8] [(5, 4)], .inr rfl, (by first | rfl | exact ⟨trivial, rfl⟩ | (simp only [y1_, zZ_, go_sem, seval]; done)), (by simp [St.get, xg_, xl_]), rfl⟩
    have h := OwnCall.frz hE [1, 2, 3] (by simp)
    unfold av7
    simpa [aH7, Wn_, wk_, YS_, YS_, Z8_, RL_, rmT, xu_, find, zk_] using h
   ·refine ⟨o, m, W, C, c.2, by omega, DrB.any ?_⟩
    obtain ⟨d, ed⟩ : ∃ d, c.1 = d := ⟨_, rfl⟩
    rw [ed] at hc c0 c1 c2
    unfold DrB
    refine OwnCall.intro (n := 45) (rs := [.cell 2 30]) 1 [0] (X := [0]) Tryz.call23 Tryz.func23 rfl rfl rfl (by simp only [List.length_cons, List.length_nil]; omega) (by simp [Aw.ids, x3_, xQ_, xl_, xg_]) (fun cx hcx => AT.weakG (x2_ ?_)); refine gE ?_
    refine gBN ?_
    (repeat refine xb_ ?_); refine AT.ghost (st' := ⟨[(0, .bptr 0 0), (2, .bptr 5 0)], [(0, xv_ s), (5, .bx [.nil, .int 0, .nil, .nil])]⟩) (xm_ [] [(1, 5)]) ?_
    refine gCN fun K hK => ?_
    refine xN_ (hD) (k := ?_); simp only [Aw.ids, go_sem, seval]
    refine hK _ ?_; clear hK K
    (repeat refine xb_ ?_); refine AT.ghost (st' := ⟨[(0, .bptr 0 0), (2, .bptr 5 0), (3, .bptr 8 0)], [(0, xv_ s1), (1, .t1 o), (2, .t3 W), (3, .t2 C), (5, .bx [.nil, .int 0, .nil, .nil]), (8, .bx [.ref 1 [], .int m, .ref 2 [], .ref 3 []])]⟩) (xm_ [4] [(6, 8)]) ?_
    (repeat refine xb_ ?_); refine xx_ (by first | exact xO_ hcx | exact wJ_ hcx rfl | exact y2_ hcx rfl) fun K hK => ?_; simp only [go_sem, seval, lC]
    refine gU ?_
    refine hK _ ?_; clear hK K
    refine gCN fun K hK => ?_
    refine xp_ (hc) rfl rfl ?_; simp only [go_sem, seval]
    refine hK _ ?_; clear hK K
    (repeat refine xb_ ?_); refine AT.ghost (st' := ⟨[(0, .bptr 0 0), (2, .bptr 5 0), (3, .bptr 8 0), (4, .int n), (12, .int d)], [(0, xv_ c.2), (1, .t1 o), (2, .t3 W), (3, .t2 C), (5, .bx [.nil, .int 0, .nil, .nil]), (8, .bx [.ref 1 [], .int m, .ref 2 [], .ref 3 []])]⟩) (xr_ [] (by simp only [go_sem, seval, AV.int.injEq, AV.bool.injEq, AV.l1.injEq, AV.l2.injEq, AV.l3.injEq]) (by simp only [go_sem, seval])) ?_
    refine gO ?_
    refine gBN ?_
    refine gI (fun g0 => ?_) fun g0 => ?_
    ·exact absurd g0 c0
    ·refine gBN ?_
     refine gI (fun g1 => ?_) fun g1 => ?_
     ·exact absurd g1 c1
     ·refine gBN ?_
      refine gI (fun g2 => ?_) fun g2 => ?_
      ·exact absurd g2 c2
      ·refine xe_ ?_
       refine gBN ?_
       refine xf_ ⟨⟨[(0, .bptr 0 0), (2, .bptr 4 0)], [(0, xv_ c.2), (1, .t1 o), (2, .t3 W), (3, .t2 C), (4, .bx [.ref 1 [], .int m, .ref 2 [], .ref 3 []])]⟩, xm_ [8] [(5, 4)], .inr rfl, (by first | rfl | exact ⟨trivial, rfl⟩ | (simp only [y1_, zZ_, go_sem, seval]; done)), (by simp [St.get, xg_, xl_]), rfl⟩
set_option maxRecDepth 100000 in
set_option maxHeartbeats 4000000 in
theorem wO_ (c : List Int) (hl : c.length ≤ 1048576) (hb : ∀ i, i < c.length → 0 ≤ c.getD i 0 ∧ c.getD i 0 ≤ 255) : ∃ (o : List Int) (m : Int) (W : List (List (List Int))) (C : List (List Int)), o.length ≤ 11 ∧ PureCall Tryz.prog 5 [.lv (bsV c)] (.agg [.l1 o, .int m, .l3 W, .l2 C]) := by
 have hF := KN_ c hl hb
 have ok0 := aj3 hl hb
 generalize frS c = s at *
 obtain ⟨o, m, W, C, s1, lo, hA⟩ := UK_ s ok0
 unfold av7 at hA
 refine ⟨o, m, W, C, lo, ?_⟩
 refine PureCall.introR (n := 6) (rs := [.cell 2 30]) Tryz.call5 Tryz.func5 rfl rfl rfl (by simp only [List.length_cons, List.length_nil]; omega) (fun cx hcx hrd => x2_ ?_); refine gE ?_
 refine gBN ?_
 (repeat refine xb_ ?_); refine AT.ghost (st' := ⟨[(0, .lv (bsV c)), (2, .bptr 7 0)], [(7, .bx [.nil, .int 0, .nil, .nil])]⟩) (xm_ [] [(0, 7)]) ?_
 refine gCN fun K hK => ?_
 refine xN_ (hF) (k := ?_); simp only [Aw.ids, go_sem, seval]
 refine xN_ (hA) (k := ?_); simp only [Aw.ids, go_sem, seval]
 refine hK _ ?_; clear hK K
 exact xf_ (bh5 (v := .agg [.l1 o, .int m, .l3 W, .l2 C]) (by simp only [go_sem, seval]) rfl)
end Go.Proofs.YtjbdiekkjegckaaGreat
