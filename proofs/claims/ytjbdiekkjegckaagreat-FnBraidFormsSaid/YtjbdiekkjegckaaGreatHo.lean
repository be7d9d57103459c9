import Derived.Test.YtjbdiekkjegckaaGreatHy3
set_option linter.unusedSimpArgs false
set_option linter.unusedVariables false
namespace Go.Proofs.YtjbdiekkjegckaaGreat
open Go Go.Aw Go.Pl
attribute [local go_sem] y9_ yB_ za_ zb_ wE_ yq_ List.getElem?_toArray List.getElem?_cons_zero List.getElem?_cons_succ
theorem ag6 (n : Nat) (o : List Int) (m : Int) (w : List (List (List Int))) (c : List (List Int)) (o' : List Int) (w' : List (List (List Int))) (c' : List (List Int)) (m2 : m ≤ 1000) (h : GridB n m c) (h' : GridB n m c') (x y : Nat) (hx : x < n) (hy : y < n) : PureCall Tryz.prog 49 [.int x, .int y, .cptr [.l1 o, .int m, .l3 w, .l2 c] 0, .cptr [.l1 o', .int m, .l3 w', .l2 c'] 0] (.int (e2 c x y + e2 c' x y)) := by
 have l1 := h.1
 have l2 := h'.1
 have rx := h.row hx
 have rx' := h'.row hx
 have v1 := h.bd hx hy
 have v2 := h'.bd hx hy
 simp only [e2] at v1 v2 ⊢
 refine gPC 24 [.tmp 6] Tryz.call49 Tryz.func49 fun cx hcx => gE ?_
 refine gAN ?_
 (repeat refine xb_ ?_); refine xI_ (by first | exact xO_ hcx | exact y2_ hcx rfl) mixed (by kernel_rfl) fun K hK => ?_; simp only [go_sem, seval]; (repeat refine aI (hb := ?_)); refine hK _ ?_; clear hK K
 refine xf_ (zY_ rfl ?_)
 rfl
set_option maxRecDepth 100000 in
set_option maxHeartbeats 8000000 in
theorem VM_ (n : Nat) (W : List (List (List Int))) (o : List Int) (m : Int) (w : List (List (List Int))) (c : List (List Int)) (o' : List Int) (w' : List (List (List Int))) (c' : List (List Int)) (hW : W.length = n) (n8 : n ≤ 8) (m1 : 1 ≤ m) (m2 : m ≤ 1000) (h : GridB n m c) (h' : GridB n m c') :
  OwnCall Tryz.prog 44 [.agg [.ref 3 [], .int m, .ref 4 []], .fn 49 [.bptr 0 0, .bptr 1 0]]
   [(0, .bx [.l1 o, .int m, .l3 w, .l2 c]), (1, .bx [.l1 o', .int m, .l3 w', .l2 c']), (3, .t1 o), (4, .t3 W)]
   [(0, .bx [.l1 o, .int m, .l3 w, .l2 c]), (1, .bx [.l1 o', .int m, .l3 w', .l2 c']), (3, .t1 o), (4, .t3 W), (5, .t2 (Wd_ m n c c')), (6, .bx [.ref 3 [], .int m, .ref 4 [], .ref 5 []])]
   (.agg [.ref 3 [], .int m, .ref 4 [], .ref 5 []]) [0, 1] := by
 have hz := Xg_ n n (by omega) (by omega)
 obtain ⟨f, ef⟩ : ∃ f : Nat → Nat → Int, f = fun i j => (e2 c i j + e2 c' i j) % m := ⟨_, rfl⟩
 have es : Wd_ m n c c' = yW_ n n f := by unfold Wd_; rw [ef]
 rw [es]
 obtain ⟨g, eg⟩ : ∃ g : Nat → Nat → Int, g = fun _ _ => 0 := ⟨_, rfl⟩
 have z0 : List.replicate n (List.replicate n (0 : Int)) = wrM n f g 0 0 := by rw [w6_, eg, zK_]
 rw [z0] at hz
 have hz' : FreshCall Tryz.prog 74 [.int W.length, .int W.length] (.l2 (wrM n f g 0 0)) := by rw [hW]; exact hz
 refine OwnCall.intro (n := 45) (rs := [.cell 4 30]) 2 [0, 1] (X := [0, 1]) Tryz.call44 Tryz.func44 rfl rfl rfl (by simp only [List.length_cons, List.length_nil]; omega) (by simp [Aw.ids, x3_, xQ_, xl_, xg_]) (fun cx hcx => AT.weakG (x2_ ?_)); refine gE ?_
 refine gBN ?_
 (repeat refine xb_ ?_)
 refine wh_ [7] (.one 1 (.one 2 (.one 3 (.one 4 (.one 5 (.one 6 (.alt 0 (.alt 7 (.one 8 (.alt 9 (.alt 10 .fin .stop) .stop)) (.alt 9 (.alt 7 (.one 8 (.alt 10 .fin .stop)) .stop) .stop)) (.alt 7 (.one 0 (.one 8 (.alt 9 (.alt 10 .fin .stop) .stop))) (.alt 9 (.alt 0 (.alt 7 (.one 8 (.alt 10 .fin .stop)) .stop) (.alt 7 (.one 0 (.one 8 (.alt 10 .fin .stop))) .stop)) .stop))))))))) ⟨[(0, .agg [.ref 3 [], .int m, .ref 4 []]), (1, .fn 49 [.bptr 0 0, .bptr 1 0]), (2, .bptr 5 0), (4, .bptr 6 0), (5, .bptr 8 0)], [(0, .bx [.l1 o, .int m, .l3 w, .l2 c]), (1, .bx [.l1 o', .int m, .l3 w', .l2 c']), (3, .t1 o), (4, .t3 W), (5, .bx [.ref 3 [], .int m, .ref 4 []]), (6, .bx [.nil, .int 0, .nil, .nil]), (7, .t2 (wrM n f g 0 0)), (8, .bx [.ref 3 [], .int m, .ref 4 [], .ref 7 []])]⟩ (by first | exact xO_ hcx | exact y2_ hcx rfl) mixed (by kernel_rfl) (fun K hK => ?_) ?_
 ·simp only [go_sem, seval, Option.getD_some, and_true, true_and, and_self, List.contains_cons, List.contains_nil, Bool.or_false, Bool.or_true]
  repeat' (first | (refine hK _ (xr_ [] ?_ ?_); (focus (simp only [YO_, rnL, rn, rns, sw, xs_, St.get, xg_, List.map_cons, List.map_nil, seval, AV.int.injEq, AV.bool.injEq, AV.l1.injEq, AV.l2.injEq, AV.l3.injEq, true_and, and_true]; done)); (focus (simp only [zf_, YY_, YP_, rnH, rnT, rn, rns, sw, List.map_cons, List.map_nil, seval]; done))) | (refine hK _ (xr_ [(7, 8)] ?_ ?_); (focus (simp only [YO_, rnL, rn, rns, sw, xs_, St.get, xg_, List.map_cons, List.map_nil, seval, AV.int.injEq, AV.bool.injEq, AV.l1.injEq, AV.l2.injEq, AV.l3.injEq, true_and, and_true]; done)); (focus (simp only [zf_, YY_, YP_, rnH, rnT, rn, rns, sw, List.map_cons, List.map_nil, seval]; done))) | with_reducible refine And.intro ?_ ?_ | omega | (refine xq_ rfl (hz') rfl ?_; simp only [go_sem, seval, Option.getD_some, and_true, true_and, and_self, List.contains_cons, List.contains_nil, Bool.or_false, Bool.or_true]))
 have l1 := yT_ (n := n) (f := f) (g := g) (i := 0) (j := 0)
 refine gCN fun K hK => ?_
 simp only [l1]
 refine gU ?_
 refine hK _ ?_; clear hK K
 (repeat refine xb_ ?_); refine gLp (fun i : Nat => ⟨[(0, .agg [.ref 3 [], .int m, .ref 4 []]), (1, .fn 49 [.bptr 0 0, .bptr 1 0]), (2, .bptr 5 0), (4, .bptr 6 0), (5, .bptr 8 0), (19, .int n), (20, .int i)], [(0, .bx [.l1 o, .int m, .l3 w, .l2 c]), (1, .bx [.l1 o', .int m, .l3 w', .l2 c']), (3, .t1 o), (4, .t3 W), (5, .bx [.ref 3 [], .int m, .ref 4 []]), (6, .bx [.nil, .int 0, .nil, .nil]), (7, .t2 (wrM n f g i 0)), (8, .bx [.ref 3 [], .int m, .ref 4 [], .ref 7 []])]⟩) n fun i hi => ?_
 refine gBN ?_
 refine gI (fun hli => ?_) fun hli => ?_
 ·have l2 := yT_ (n := n) (f := f) (g := g) (i := i) (j := 0)
  refine xe_ ?_
  refine gO ?_
  refine gBN ?_
  refine gCN fun K hK => ?_
  simp only [l2]
  refine gU ?_
  refine hK _ ?_; clear hK K
  (repeat refine xb_ ?_); refine gLp (fun j : Nat => ⟨[(0, .agg [.ref 3 [], .int m, .ref 4 []]), (1, .fn 49 [.bptr 0 0, .bptr 1 0]), (2, .bptr 5 0), (4, .bptr 6 0), (5, .bptr 8 0), (6, .int i), (19, .int n), (20, .int i), (25, .int n), (26, .int j)], [(0, .bx [.l1 o, .int m, .l3 w, .l2 c]), (1, .bx [.l1 o', .int m, .l3 w', .l2 c']), (3, .t1 o), (4, .t3 W), (5, .bx [.ref 3 [], .int m, .ref 4 []]), (6, .bx [.nil, .int 0, .nil, .nil]), (7, .t2 (wrM n f g i j)), (8, .bx [.ref 3 [], .int m, .ref 4 [], .ref 7 []])]⟩) n fun j hj => ?_
  refine gBN ?_
  refine gI (fun hlj => ?_) fun hlj => ?_
  ·have l3 := yT_ (n := n) (f := f) (g := g) (i := i) (j := j)
   have l4 := XL_ (n := n) (f := f) (g := g) (i := i) (j := j) (x := i) (by omega)
   have hA := ag6 n o m w c o' w' c' m2 h h' i j (by omega) (by omega)
   have hR := zB_ o m W (e2 c i j + e2 c' i j) m1 m2
   have ev : (e2 c i j + e2 c' i j) % m = f i j := by rw [ef]
   have b1 := Int.emod_nonneg (e2 c i j + e2 c' i j) (show m ≠ 0 by omega)
   have b2 := Int.emod_lt_of_pos (e2 c i j + e2 c' i j) (show 0 < m by omega)
   rw [ev] at hR b1 b2
   have sk := ws_ (n := n) (f := f) (g := g) (i := i) (j := j) (by omega)
   refine xe_ ?_
   refine gO ?_
   refine gBN ?_
   (repeat refine xb_ ?_)
   refine xZ_ [] (.one 0 (.one 1 (.one 2 (.one 3 (.one 4 (.one 5 (.one 6 (.one 7 (.one 8 (.one 9 (.one 10 (.one 11 (.one 12 (.alt 13 .fin .stop)))))))))))))) ⟨[(0, .agg [.ref 3 [], .int m, .ref 4 []]), (1, .fn 49 [.bptr 0 0, .bptr 1 0]), (2, .bptr 5 0), (4, .bptr 6 0), (5, .bptr 8 0), (6, .int i), (19, .int n), (20, .int i), (25, .int n), (26, .int j)], [(0, .bx [.l1 o, .int m, .l3 w, .l2 c]), (1, .bx [.l1 o', .int m, .l3 w', .l2 c']), (3, .t1 o), (4, .t3 W), (5, .bx [.ref 3 [], .int m, .ref 4 []]), (6, .bx [.nil, .int 0, .nil, .nil]), (7, .t2 ((wrM n f g i j).set i (((wrM n f g i j).getD i []).set j (f i j)))), (8, .bx [.ref 3 [], .int m, .ref 4 [], .ref 7 []])]⟩ (by first | exact xO_ hcx | exact y2_ hcx rfl) mixed (by kernel_rfl) (fun K hK => ?_) ?_
   ·simp only [go_sem, seval, Option.getD_some, and_true, true_and, and_self, List.contains_cons, List.contains_nil, Bool.or_false, Bool.or_true]
    repeat' (first | exact hK _ gM  | with_reducible refine And.intro ?_ ?_ | omega | ((first | refine x0_ rfl rfl (hA) ?_ | refine xd_ (xR_ rfl rfl (hA)) ?_); simp only [go_sem, seval, Option.getD_some, and_true, true_and, and_self, List.contains_cons, List.contains_nil, Bool.or_false, Bool.or_true]) | ((first | refine x0_ rfl rfl (hR) ?_ | refine xd_ (xR_ rfl rfl (hR)) ?_); simp only [go_sem, seval, Option.getD_some, and_true, true_and, and_self, List.contains_cons, List.contains_nil, Bool.or_false, Bool.or_true]))
   rw [sk]
   refine gBN ?_
   refine ⟨j + 1,  by omega, by omega, .inl ⟨gH,  rfl⟩⟩
  ·obtain rfl : j = n := by omega
   rw [wt_]
   refine xh_ (x9_ ?_)
   refine gBN ?_
   refine ⟨i + 1,  by omega, by omega, .inl ⟨gH,  rfl⟩⟩
 ·obtain rfl : i = n := by omega
  rw [wu_]
  refine xh_ (x9_ ?_)
  refine gBN ?_
  refine xf_ ⟨⟨[(0, .agg [.ref 3 [], .int m, .ref 4 []]), (1, .fn 49 [.bptr 0 0, .bptr 1 0]), (4, .bptr 6 0)], [(0, .bx [.l1 o, .int m, .l3 w, .l2 c]), (1, .bx [.l1 o', .int m, .l3 w', .l2 c']), (3, .t1 o), (4, .t3 W), (5, .t2 (yW_ i i f)), (6, .bx [.ref 3 [], .int m, .ref 4 [], .ref 5 []])]⟩, yJ_ (wg_ [5, 8]) (xr_ [(5, 7)] (by simp only [yj_, xu_, xH_, qOf, rmT, xD_, yF_, List.filter_cons, List.filter_nil, List.contains_cons, List.contains_nil, Bool.or_false, Bool.or_true, Bool.false_and, Bool.not_true, Bool.not_false, Bool.false_eq_true, if_true, if_false, YO_, rnL, rn, rns, sw, xs_, St.get, xg_, List.map_cons, List.map_nil, seval, AV.int.injEq, AV.bool.injEq, AV.l1.injEq, AV.l2.injEq, AV.l3.injEq, true_and, and_true]) (by simp only [yj_, xu_, xH_, qOf, rmT, xD_, yF_, List.filter_cons, List.filter_nil, List.contains_cons, List.contains_nil, Bool.or_false, Bool.or_true, Bool.false_and, Bool.not_true, Bool.not_false, Bool.false_eq_true, if_true, if_false, zf_, YY_, YP_, rnH, rnT, rn, rns, sw, List.map_cons, List.map_nil, seval])), .inr rfl, (by first | rfl | exact ⟨trivial, rfl⟩ | (simp only [y1_, zZ_, go_sem, seval]; done)), (by simp [St.get, xg_, xl_]), rfl⟩
end Go.Proofs.YtjbdiekkjegckaaGreat
