import Derived.Test.YtaijdhkjemffhaaHt
set_option linter.unusedSimpArgs false
set_option linter.unusedVariables false
namespace Go.Proofs.Ytaijdhkjemffhaa
open Go Go.Aw Go.Pl
attribute [local go_sem] pl_fin pl_stop pl_one pl_alt PK_ap pickO List.getElem?_toArray List.getElem?_cons_zero List.getElem?_cons_succ
def mixA (n : Nat) (A : List (List Int)) (q : Nat) (f : Nat → Int) (z : Nat) : List (List Int) := A.set q (rowF n fun y => if y < z then f y else e2 A q y)
section
variable {n : Nat} {A : List (List Int)} {q : Nat} {f : Nat → Int} {z : Nat}
theorem mixA_zero (h : Sq n A) (hq : q < n) : mixA n A q f 0 = A := by
  unfold mixA
  have e : (rowF n fun y => if y < 0 then f y else e2 A q y) = A.getD q [] := by
    rw [← rowF_own (h.2 q hq)]
    exact rowF_congr fun y hy => by rw [if_neg (Nat.not_lt_zero y)]
  have hq2 : q < A.length := by rw [h.1]; exact hq
  have e3 : A.getD q [] = A[q] := by simp [List.getD, hq2]
  rw [e, e3]
  exact List.set_getElem_self hq2
theorem mixA_end : mixA n A q f n = A.set q (rowF n f) := by
  unfold mixA
  rw [rowF_congr (g := f) fun y hy => if_pos hy]
theorem mixA_len (h : Sq n A) : (mixA n A q f z).length = n := by unfold mixA; rw [List.length_set, h.1]
theorem mixA_row (h : Sq n A) {x : Nat} (hx : x < n) : ((mixA n A q f z).getD x []).length = n := by
  unfold mixA
  rw [getD_set']
  split
  · exact rowF_length ..
  · exact h.2 x hx
theorem mixA_step (h : Sq n A) (hq : q < n) : (mixA n A q f z).set q (((mixA n A q f z).getD q []).set z (f z)) = mixA n A q f (z + 1) := by
  have e : (mixA n A q f z).getD q [] = rowF n fun y => if y < z then f y else e2 A q y := by
    unfold mixA
    rw [getD_set', if_pos ⟨rfl, by rw [h.1]; exact hq⟩]
  rw [e, rowF_set]
  unfold mixA
  rw [List.set_set]
  congr 1
  refine rowF_congr fun y hy => ?_
  by_cases h1 : y = z
  · rw [if_pos h1, if_pos (by omega), h1]
  · rw [if_neg h1]
    by_cases h2 : y < z
    · rw [if_pos h2, if_pos (by omega)]
    · rw [if_neg h2, if_neg (by omega)]
theorem mixA_read (h : Sq n A) (hq : q < n) (hz : z < n) {x : Nat} : e2 (mixA n A q f z) x z = e2 A x z := by
  unfold mixA
  rw [e2_set (by rw [h.1]; exact hq)]
  split
  · rename_i e
    rw [rowF_get hz, if_neg (Nat.lt_irrefl z), e]
  · rfl
end
def TB (o : List Int) (m : Int) (w : List (List (List Int))) (R A : List (List Int)) : List (Nat × Tree) := [(0, .bx [.l1 o, .int m, .l3 w]), (3, .bx [.int w.length]), (4, .bx [.l3 w]), (5, .t2 R), (8, .bx [.ref 5 []]), (9, .t2 A), (10, .bx [.ref 9 []])]
set_option maxRecDepth 100000 in
set_option maxHeartbeats 8000000 in
theorem vis2_ok (o : List Int) (m : Int) (w : List (List (List Int))) (hs : CocS o m w) (R A : List (List Int)) (hR2 : GridB w.length m R) (hA2 : GridB w.length m A) (x h k : Nat) (hx : x < w.length) (hh : h < w.length) :
    OwnCall Try.prog 80 [.int x, .int h, .int k, .bptr 3 0, .bptr 0 0, .bptr 10 0, .bptr 8 0, .bptr 4 0] (TB o m w R A) (TB o m w R (A.set (ad o x h) (rowF w.length (cl2 m w R A x h)))) (.tup []) [3, 0, 10, 8, 4] := by
  have n8 := hs.n8
  have m1 := hs.2.2.1
  have m2 := hs.2.2.2.1
  have hc := hs.2.2.2.2.2
  have hP := plus_ok o m w hs.1 hs.2.1 x h (by omega) (by omega)
  have hR := rest_ok o m w
  have ha := hs.ad x h
  have sqA := hA2.sq
  have sqR := hR2.sq
  obtain ⟨q, eq⟩ : ∃ q, ad o x h = q := ⟨_, rfl⟩
  obtain ⟨f, ef⟩ : ∃ f, cl2 m w R A x h = f := ⟨_, rfl⟩
  have fv : ∀ z, f z = (e2 A x z + e2 R h z - e3 w x z h + e3 w z x h + e3 w x h z) % m := fun z => by rw [← ef]; rfl
  unfold TB
  rw [ef, ← mixA_end]
  simp only [eq] at hP ha ⊢
  have hx0 := mixA_zero (f := f) sqA ha
  obtain ⟨B, eB⟩ : ∃ B, B = mixA w.length A q f 0 := ⟨_, rfl⟩
  obtain ⟨n, en⟩ : ∃ n, w.length = n := ⟨_, rfl⟩
  have hA0 : A = mixA n A q f 0 := by rw [← en]; exact hx0.symm
  simp only [en] at *
  have st0 : [((0 : Nat), Tree.bx [.l1 o, .int m, .l3 w]), (3, .bx [.int n]), (4, .bx [.l3 w]), (5, .t2 R), (8, .bx [.ref 5 []]), (9, .t2 A), (10, .bx [.ref 9 []])] = [(0, .bx [.l1 o, .int m, .l3 w]), (3, .bx [.int n]), (4, .bx [.l3 w]), (5, .t2 R), (8, .bx [.ref 5 []]), (9, .t2 (mixA n A q f 0)), (10, .bx [.ref 9 []])] := by rw [← hA0]
  rw [st0]
  refine OwnCall.intro (n := 76) (rs := []) 8 [3, 4, 5, 6, 7] (X := [3, 0, 10, 8, 4]) Try.call80 Try.func80 rfl rfl rfl (by simp only [List.length_cons, List.length_nil]; omega) (by simp [Aw.ids, rootsA, rootsAs, argSlots, slotGet]) (fun cx hcx => AT.weakG (ats_of ?_)); simp only [argSlots, Nat.zero_add, Nat.reduceAdd]
  (repeat refine ats_seq ?_); refine ats_go (by first | exact fix0 hcx | exact fix1 hcx rfl | exact fixN hcx rfl) fun K hK => ?_; simp only [go_sem, seval]; (repeat refine And.intro (by first | omega | (intro hq; first | omega | (simp at hq <;> omega) | (simp_all <;> omega))) ?_); refine hK _ ?_; clear hK K
  (repeat refine ats_seq ?_); refine ats_loop (fun z : Nat => ⟨[(0, .int x), (1, .int h), (2, .int k), (3, .bptr 3 0), (4, .bptr 0 0), (5, .bptr 10 0), (6, .bptr 8 0), (7, .bptr 4 0), (12, .int n), (13, .int z)], [(0, .bx [.l1 o, .int m, .l3 w]), (3, .bx [.int n]), (4, .bx [.l3 w]), (5, .t2 R), (8, .bx [.ref 5 []]), (9, .t2 (mixA n A q f z)), (10, .bx [.ref 9 []])]⟩) (fun z => z ≤ n) (fun z => n - z) 0 (Nat.zero_le _) (by refine And.intro ?_ rfl; simp only [SlotsLe, St.get, slotGet, Nat.reduceEqDiff, ↓reduceIte, true_and, and_true, AV.int.injEq, AV.bool.injEq, AV.l1.injEq, AV.l2.injEq, AV.l3.injEq]; repeat' (first | rfl | with_reducible refine And.intro ?_ ?_ | omega)) (fun z hz => ?_)
  (repeat refine ats_seq ?_); refine ats_go (by first | exact fix0 hcx | exact fix1 hcx rfl | exact fixN hcx rfl) fun K hK => ?_; simp only [go_sem, seval]; (repeat refine And.intro (by first | omega | (intro hq; first | omega | (simp at hq <;> omega) | (simp_all <;> omega))) ?_); refine hK _ ?_; clear hK K
  (repeat refine ats_seq ?_); first | refine ats_ifn (p := _) rfl trivial (fun hlz => ?_) (fun hlz => ?_) | refine ats_ifp (p := _) rfl trivial (fun hlz => ?_) (fun hlz => ?_) | refine ats_cond rfl trivial (fun hlz => ?_) (fun hlz => ?_)
  · have hz : z < n := by omega
    have l0 : w.length = n := hc.1
    have l1 := hc.mat hx
    have l2 := hc.mat hz
    have r1 := hc.row hx hz
    have r2 := hc.row hz hx
    have r3 := hc.row hx hh
    have v1 := hc.bd hx hz hh
    have v2 := hc.bd hz hx hh
    have v3 := hc.bd hx hh hz
    have v4 := hR2.bd hh hz
    have v5 := hA2.bd hx hz
    have lR := hR2.1
    have rR := hR2.row hh
    have lA := mixA_len (q := q) (f := f) (z := z) sqA
    have rA := mixA_row (q := q) (f := f) (z := z) sqA hx
    have rQ := mixA_row (q := q) (f := f) (z := z) sqA ha
    have rd := mixA_read (f := f) sqA ha hz (x := x)
    rw [← rd] at v5
    have sx := mixA_step (f := f) (z := z) sqA ha
    have fz := fv z
    rw [← rd] at fz
    have hRz := hR (e2 (mixA n A q f z) x z + e2 R h z - e3 w x z h + e3 w z x h + e3 w x h z) m1 m2
    have bV1 := Int.emod_nonneg (e2 (mixA n A q f z) x z + e2 R h z - e3 w x z h + e3 w z x h + e3 w x h z) (show m ≠ 0 by omega)
    have bV2 := Int.emod_lt_of_pos (e2 (mixA n A q f z) x z + e2 R h z - e3 w x z h + e3 w z x h + e3 w x h z) (show 0 < m by omega)
    rw [← fz] at hRz bV1 bV2
    obtain ⟨B, eB⟩ : ∃ B, mixA n A q f z = B := ⟨_, rfl⟩
    obtain ⟨v, ev⟩ : ∃ v, f z = v := ⟨_, rfl⟩
    simp only [e3, e2] at v1 v2 v3 v4 v5 hRz
    simp only [eB, ev] at *
    have mb : m - 1 ≤ 999 := by omega
    replace v1 := And.intro v1.1 (Int.le_trans v1.2 mb)
    replace v2 := And.intro v2.1 (Int.le_trans v2.2 mb)
    replace v3 := And.intro v3.1 (Int.le_trans v3.2 mb)
    replace v4 := And.intro v4.1 (Int.le_trans v4.2 mb)
    replace v5 := And.intro v5.1 (Int.le_trans v5.2 mb)
    replace bV2 : v ≤ 1000 := by omega
    clear hR fz fv rd ef sqA sqR hA0 hx0 st0 hc hA2 hR2 mb
    refine ats_skip ?_
    (repeat refine ats_seq ?_); refine ats_block ?_
    (repeat refine ats_seq ?_); refine ats_go (by first | exact fix0 hcx | exact fix1 hcx rfl | exact fixN hcx rfl) fun K hK => ?_; simp only [go_sem, seval]; (repeat refine And.intro (by first | omega | (intro hq; first | omega | (simp at hq <;> omega) | (simp_all <;> omega))) ?_); refine hK _ ?_; clear hK K
    (repeat refine ats_seq ?_)
    refine ats_plan [] (.one 0 (.one 1 (.one 2 (.one 3 (.one 4 (.one 5 (.one 6 (.one 7 (.one 8 (.one 9 (.one 10 (.one 11 (.one 12 (.one 13 (.one 14 (.one 15 (.one 16 (.one 17 (.one 18 (.one 19 (.one 20 (.one 21 (.one 22 (.one 23 (.one 24 (.one 25 (.one 26 (.one 27 (.one 28 (.one 29 (.one 30 (.one 31 (.one 32 (.one 33 (.one 34 (.one 35 (.one 36 (.one 37 (.one 38 (.one 39 (.one 40 (.one 41 (.one 42 (.one 43 (.one 44 (.one 45 (.one 46 (.one 47 (.one 48 (.one 49 (.one 50 (.one 51 (.one 52 (.one 53 (.one 54 (.one 55 (.one 56 (.one 57 (.one 58 (.alt 59 .fin .stop)))))))))))))))))))))))))))))))))))))))))))))))))))))))))))) ⟨[(0, .int x), (1, .int h), (2, .int k), (3, .bptr 3 0), (4, .bptr 0 0), (5, .bptr 10 0), (6, .bptr 8 0), (7, .bptr 4 0), (12, .int n), (13, .int z)], [(0, .bx [.l1 o, .int m, .l3 w]), (3, .bx [.int n]), (4, .bx [.l3 w]), (5, .t2 R), (8, .bx [.ref 5 []]), (9, .t2 (B.set q ((B.getD q []).set z v))), (10, .bx [.ref 9 []])]⟩ (by first | exact fix0 hcx | exact fixN hcx rfl) mixed (by kernel_rfl) (fun K hK => ?_) ?_
    · simp only [go_sem, seval, Option.getD_some, and_true, true_and, and_self, List.contains_cons, List.contains_nil, Bool.or_false, Bool.or_true]
      repeat' (first | exact hK _ (by refine And.intro ?_ rfl; simp only [SlotsLe, St.get, slotGet, Nat.reduceEqDiff, ↓reduceIte, AV.int.injEq, AV.bool.injEq, AV.l1.injEq, AV.l2.injEq, AV.l3.injEq, true_and, and_true])  | with_reducible refine And.intro ?_ ?_ | omega | ((first | refine fcall_free rfl rfl (hP) ?_ | refine YR_intro (acall_free rfl rfl (hP)) ?_); simp only [go_sem, seval, Option.getD_some, and_true, true_and, and_self, List.contains_cons, List.contains_nil, Bool.or_false, Bool.or_true]) | ((first | refine fcall_free rfl rfl (hRz) ?_ | refine YR_intro (acall_free rfl rfl (hRz)) ?_); simp only [go_sem, seval, Option.getD_some, and_true, true_and, and_self, List.contains_cons, List.contains_nil, Bool.or_false, Bool.or_true]))
    rw [sx]
    (repeat refine ats_seq ?_); refine ats_go (by first | exact fix0 hcx | exact fix1 hcx rfl | exact fixN hcx rfl) fun K hK => ?_; simp only [go_sem, seval]; (repeat refine And.intro (by first | omega | (intro hq; first | omega | (simp at hq <;> omega) | (simp_all <;> omega))) ?_); refine hK _ ?_; clear hK K
    refine ⟨z + 1,  by omega, by omega, .inl ⟨by simp only [SlotsLe, St.get, slotGet, Nat.reduceEqDiff, ↓reduceIte, AV.int.injEq, AV.bool.injEq, AV.l1.injEq, AV.l2.injEq, AV.l3.injEq, true_and, and_true]; omega,  rfl⟩⟩
  · obtain rfl : z = n := by omega
    refine ats_exit (lq_x ?_)
    refine id ⟨⟨[(3, .bptr 3 0), (4, .bptr 0 0), (5, .bptr 10 0), (6, .bptr 8 0), (7, .bptr 4 0)], [(0, .bx [.l1 o, .int m, .l3 w]), (3, .bx [.int z]), (4, .bx [.l3 w]), (5, .t2 R), (8, .bx [.ref 5 []]), (9, .t2 (mixA z A q f z)), (10, .bx [.ref 9 []])]⟩, ghost_trans (ghost_drop []) (ghost_can [] (by simp only [killL, killA, killAs, qOf, rmT, killH, killT, List.filter_cons, List.filter_nil, List.contains_cons, List.contains_nil, Bool.or_false, Bool.or_true, Bool.false_and, Bool.not_true, Bool.not_false, Bool.false_eq_true, if_true, if_false, rnLs, rnL, rn, rns, sw, SlotsLe, St.get, slotGet, List.map_cons, List.map_nil, seval, AV.int.injEq, AV.bool.injEq, AV.l1.injEq, AV.l2.injEq, AV.l3.injEq, true_and, and_true]) (by simp only [killL, killA, killAs, qOf, rmT, killH, killT, List.filter_cons, List.filter_nil, List.contains_cons, List.contains_nil, Bool.or_false, Bool.or_true, Bool.false_and, Bool.not_true, Bool.not_false, Bool.false_eq_true, if_true, if_false, sortH, insH, rnHs, rnH, rnT, rn, rns, sw, List.map_cons, List.map_nil, seval])), .inl rfl, (by first | rfl | exact ⟨trivial, rfl⟩ | (simp only [resL, resA, go_sem, seval]; done)), (by simp [St.get, slotGet, argSlots]), rfl⟩
end Go.Proofs.Ytaijdhkjemffhaa
