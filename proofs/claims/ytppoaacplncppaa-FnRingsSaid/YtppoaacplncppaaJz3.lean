import Derived.Test.YtppoaacplncppaaJz2
set_option linter.unusedSimpArgs false
set_option linter.unusedVariables false
namespace Go.Proofs.Ytppoaacplncppaa
open Go Go.Aw Go.Pl
def dvL : Nat → List Int → Src → List Int × Src
 | 0, o, s => (o, s)
 | k + 1, o, s => dvL k (o ++ [[0, 0, 1, 1, 2, (nx s 1000).1].getD (nx (nx s 1000).2 6).1.toNat 0]) (nx (nx s 1000).2 6).2
theorem dvL_fact : ∀ (k : Nat) (o : List Int) (s : Src), s.Ok → (dvL k o s).2.Ok ∧ (dvL k o s).1.length = o.length + k
 | 0, o, s, hs => ⟨hs, rfl⟩
 | k + 1, o, s, hs => by
  have h := dvL_fact k (o ++ [[0, 0, 1, 1, 2, (nx s 1000).1].getD (nx (nx s 1000).2 6).1.toNat 0]) (nx (nx s 1000).2 6).2 (nx_ok (nx_ok hs _) _)
  refine ⟨h.1, h.2.trans ?_⟩
  rw [List.length_append]
  simp only [List.length_cons, List.length_nil]
  omega
theorem pk6 {a : Int} (h0 : 0 ≤ a) (h1 : a < 1000) {p : Int} : 0 ≤ ([0, 0, 1, 1, 2, a] : List Int).getD p.toNat 0 ∧ ([0, 0, 1, 1, 2, a] : List Int).getD p.toNat 0 ≤ 1000 := by
 match p.toNat with
 | 0 | 1 | 2 | 3 | 4 | 5 => simp; try omega
 | k + 6 => simp
def dVec (n : Nat) (s : Src) : List Int × Src :=
 if (nx (dvL n [] s).2 40).1 = 0 then ((dvL n [] s).1 ++ [1], (nx (dvL n [] s).2 40).2)
 else if (nx (dvL n [] s).2 40).1 = 1 ∧ 0 < n then ((dvL n [] s).1.set 0 ([-1, 1000001].getD (nx (nx (dvL n [] s).2 40).2 2).1.toNat 0), (nx (nx (dvL n [] s).2 40).2 2).2)
 else ((dvL n [] s).1, (nx (dvL n [] s).2 40).2)
theorem dVec_fact {n : Nat} {s : Src} (hs : s.Ok) : (dVec n s).2.Ok ∧ (dVec n s).1.length ≤ n + 1 := by
 have h := dvL_fact n [] s hs
 have hl : (dvL n [] s).1.length = n := by simpa using h.2
 unfold dVec
 split
 ·exact ⟨nx_ok h.1 _, by rw [List.length_append, hl]; simp⟩
 ·split
  ·exact ⟨nx_ok (nx_ok h.1 _) _, by rw [List.length_set, hl]; omega⟩
  ·exact ⟨nx_ok h.1 _, by dsimp only; omega⟩
set_option maxRecDepth 100000 in
set_option maxHeartbeats 4000000 in
theorem l03DrawVector_ok (s : Src) (hs : s.Ok) (n : Nat) (hn : n ≤ 16) : OwnCall Try.prog 35 [.bptr 0 0, .int n] [(0, srcB s)] [(0, srcB (dVec n s).2)] (.l1 (dVec n s).1) [0] := by
 have fL := dvL_fact n [] s hs
 unfold dVec
 obtain ⟨R, eR⟩ : ∃ R, dvL n [] s = R := ⟨_, rfl⟩
 rw [eR] at fL ⊢
 obtain ⟨ok1, lR⟩ := fL
 have lR : R.1.length = n := by simpa using lR
 have hN := next_ok R.2 ok1 40 (by omega)
 have ok2 := nx_ok ok1 40
 generalize nx R.2 40 = q at *
 have hP := pick2_ok q.2 ok2 [-1, 1000001] (by decide) (by decide)
 rw [show (([-1, 1000001] : List Int).length : Int) = 2 from rfl] at hP
 generalize nx q.2 2 = p at *
 obtain ⟨v, ev⟩ : ∃ v, ([-1, 1000001] : List Int).getD p.1.toNat 0 = v := ⟨_, rfl⟩
 rw [ev] at hP ⊢
 clear ev
 refine OwnCall.intro (n := 38) (rs := [.tmp 4]) 2 [0, 1] (X := [0]) Try.call35 Try.func35 rfl rfl rfl (by simp only [List.length_cons, List.length_nil]; omega) (by simp [Aw.ids, rootsA, rootsAs, argSlots, slotGet]) (fun cx hcx => AT.weakG (ats_of ?_)); simp only [argSlots, Nat.zero_add, Nat.reduceAdd]
 (repeat refine ats_seq ?_); refine ats_go (by first | exact fix0 hcx | exact fix1 hcx rfl | exact fixN hcx rfl) fun K hK => ?_; simp only [go_sem, seval]; (repeat refine aI (hb := ?_)); refine hK _ ?_; clear hK K
 (repeat refine ats_seq ?_); refine ats_go (by first | exact fix0 hcx | exact fix1 hcx rfl | exact fixN hcx rfl) fun K hK => ?_; simp only [go_sem, seval]; (repeat refine aI (hb := ?_)); refine hK _ ?_; clear hK K
 (repeat refine ats_seq ?_); refine ats_go (by first | exact fix0 hcx | exact fix1 hcx rfl | exact fixN hcx rfl) fun K hK => ?_; simp only [go_sem, seval]; (repeat refine aI (hb := ?_)); refine hK _ ?_; clear hK K
 (repeat refine ats_seq ?_); refine ats_loop (fun x : Nat × List Int × Src => ⟨[(0, .bptr 0 0), (1, .int n), (5, .ref 1 []), (6, .int ((n - x.1 : Nat) : Int))], [(0, srcB x.2.2), (1, .t1 x.2.1)]⟩) (fun x => x.2.2.Ok ∧ x.1 ≤ n ∧ x.2.1.length = n - x.1 ∧ dvL x.1 x.2.1 x.2.2 = R) (fun x => x.1) (n, [], s) ⟨hs, Nat.le_refl _, by simp, eR⟩ (by
  refine And.intro ?_ rfl; simp only [leS, Nat.reduceEqDiff, ↓reduceIte, true_and, and_true]
  omega) (fun x hx => ?_)
 obtain ⟨k, o, s1⟩ := x
 dsimp only at hx ⊢
 obtain ⟨ok, hk, hl, eD⟩ := hx
 (repeat refine ats_seq ?_); refine ats_go (by first | exact fix0 hcx | exact fix1 hcx rfl | exact fixN hcx rfl) fun K hK => ?_; simp only [go_sem, seval]; (repeat refine aI (hb := ?_)); refine hK _ ?_; clear hK K
 (repeat refine ats_seq ?_); first | refine ats_ifn (p := _) rfl trivial (fun hc => ?_) (fun hc => ?_) | refine ats_ifp (p := _) rfl trivial (fun hc => ?_) (fun hc => ?_) | refine ats_cond rfl trivial (fun hc => ?_) (fun hc => ?_)
 ·obtain ⟨k, rfl⟩ : ∃ j, k = j + 1 := ⟨k - 1, by omega⟩
  have hN1 := next_ok s1 ok 1000 (by omega)
  have b1 := nx_bd s1 (n := 1000) (by omega)
  have ok3 := nx_ok ok 1000
  unfold dvL at eD
  generalize nx s1 1000 = r at *
  have hP1 := pick2_ok r.2 ok3 [0, 0, 1, 1, 2, r.1] (show 1 ≤ 6 by decide) (show 6 ≤ 1048576 by decide)
  rw [show (([0, 0, 1, 1, 2, r.1] : List Int).length : Int) = 6 from rfl] at hP1
  have ok4 := nx_ok ok3 6
  have b2 := pk6 (p := (nx r.2 6).1) b1.1 b1.2
  generalize nx r.2 6 = w at *
  obtain ⟨u, eu⟩ : ∃ u, ([0, 0, 1, 1, 2, r.1] : List Int).getD w.1.toNat 0 = u := ⟨_, rfl⟩
  rw [eu] at hP1 eD b2
  clear eu
  refine ats_skip ?_
  (repeat refine ats_seq ?_); refine ats_block ?_
  (repeat refine ats_seq ?_); refine ats_go (by first | exact fix0 hcx | exact fix1 hcx rfl | exact fixN hcx rfl) fun K hK => ?_; simp only [go_sem, seval]
  (repeat refine aI (hb := ?_))
  refine fcall_src (hN1) rfl rfl ?_; simp only [go_sem, seval]
  (repeat refine aI (hb := ?_))
  refine fcall_bx (hP1) (k := ?_); simp only [Aw.ids, go_sem, seval]
  (repeat refine aI (hb := ?_))
  refine hK _ ?_; clear hK K
  (repeat refine ats_seq ?_); refine AT.ghost (st' := ⟨[(0, .bptr 0 0), (1, .int n), (5, .ref 1 []), (6, .int ((n - (k + 1) : Nat) : Int))], [(0, srcB w.2), (1, .t1 (o ++ [u]))]⟩) (ghost_to [2, 3] []) ?_
  (repeat refine ats_seq ?_); refine ats_go (by first | exact fix0 hcx | exact fix1 hcx rfl | exact fixN hcx rfl) fun K hK => ?_; simp only [go_sem, seval]; (repeat refine aI (hb := ?_)); refine hK _ ?_; clear hK K
  refine ⟨(k, o ++ [u], w.2),  ⟨ok4, by dsimp only; omega, by dsimp only; rw [List.length_append, List.length_cons, List.length_nil]; omega, eD⟩, by omega, .inl ⟨by simp only [leS, Nat.reduceEqDiff, ↓reduceIte, true_and, and_true]; omega,  rfl⟩⟩
 ·obtain rfl : k = 0 := by omega
  have eD' : (o, s1) = R := eD
  subst eD'
  dsimp only at *
  refine ats_exit (lq_x ?_)
  (repeat refine ats_seq ?_); refine ats_go (by first | exact fix0 hcx | exact fix1 hcx rfl | exact fixN hcx rfl) fun K hK => ?_; simp only [go_sem, seval]
  refine fcall_src (hN) rfl rfl ?_; simp only [go_sem, seval]
  (repeat refine aI (hb := ?_))
  refine hK _ ?_; clear hK K
  (repeat refine ats_seq ?_)
  (repeat refine ats_seq ?_); refine ats_block ?_
  (repeat refine ats_seq ?_); refine ats_go (by first | exact fix0 hcx | exact fix1 hcx rfl | exact fixN hcx rfl) fun K hK => ?_; simp only [go_sem, seval]; (repeat refine aI (hb := ?_)); refine hK _ ?_; clear hK K
  (repeat refine ats_seq ?_); first | refine ats_ifn (p := _) rfl trivial (fun h0 => ?_) (fun h0 => ?_) | refine ats_ifp (p := _) rfl trivial (fun h0 => ?_) (fun h0 => ?_) | refine ats_cond rfl trivial (fun h0 => ?_) (fun h0 => ?_)
  ·rw [if_pos h0]
   (repeat refine ats_seq ?_); refine ats_go (by first | exact fix0 hcx | exact fix1 hcx rfl | exact fixN hcx rfl) fun K hK => ?_; simp only [go_sem, seval]; (repeat refine aI (hb := ?_)); refine hK _ ?_; clear hK K
   refine ats_nil (bq_n ?_)
   (repeat refine ats_seq ?_); refine ats_go (by first | exact fix0 hcx | exact fix1 hcx rfl | exact fixN hcx rfl) fun K hK => ?_; simp only [go_sem, seval]; (repeat refine aI (hb := ?_)); refine hK _ ?_; clear hK K
   (repeat refine ats_seq ?_); refine AT.ghost (ghost_frz [1]) ?_; simp only [frzV, find, killA, killAs, killT_srcB, killAs_bsV, qOf, rmT, killH, killT_e, List.map_cons, List.map_nil, List.filter_cons, List.filter_nil, List.contains_cons, List.contains_nil, Bool.or_false, Bool.or_true, Bool.false_and, Bool.not_true, Bool.not_false, Bool.false_eq_true, if_true, if_false, seval]
   refine ats_ret ⟨⟨[(0, .bptr 0 0), (1, .int n), (4, .l1 (o ++ [1]))], [(0, srcB q.2)]⟩, ghost_to [2] [], .inr rfl, (by first | rfl | exact ⟨trivial, rfl⟩ | (simp only [resL, resA, go_sem, seval]; done)), (by simp [St.get, slotGet, argSlots]), rfl⟩
  ·rw [if_neg h0]
   (repeat refine ats_seq ?_); refine ats_go (by first | exact fix0 hcx | exact fix1 hcx rfl | exact fixN hcx rfl) fun K hK => ?_; simp only [go_sem, seval]; (repeat refine aI (hb := ?_)); refine hK _ ?_; clear hK K
   (repeat refine ats_seq ?_); first | refine ats_ifn (p := _) rfl trivial (fun h1 => ?_) (fun h1 => ?_) | refine ats_ifp (p := _) rfl trivial (fun h1 => ?_) (fun h1 => ?_) | refine ats_cond rfl trivial (fun h1 => ?_) (fun h1 => ?_)
   ·(repeat refine ats_seq ?_); refine ats_go (by first | exact fix0 hcx | exact fix1 hcx rfl | exact fixN hcx rfl) fun K hK => ?_; simp only [go_sem, seval]; (repeat refine aI (hb := ?_)); refine hK _ ?_; clear hK K
    (repeat refine ats_seq ?_); first | refine ats_ifn (p := _) rfl trivial (fun h2 => ?_) (fun h2 => ?_) | refine ats_ifp (p := _) rfl trivial (fun h2 => ?_) (fun h2 => ?_) | refine ats_cond rfl trivial (fun h2 => ?_) (fun h2 => ?_)
    ·rw [if_pos ⟨h1, by omega⟩]
     (repeat refine ats_seq ?_); refine ats_go (by first | exact fix0 hcx | exact fix1 hcx rfl | exact fixN hcx rfl) fun K hK => ?_; simp only [go_sem, seval]
     (repeat refine aI (hb := ?_))
     refine fcall_bx (hP) (k := ?_); simp only [Aw.ids, go_sem, seval]
     (repeat refine aI (hb := ?_))
     refine hK _ ?_; clear hK K
     refine ats_nil (bq_n ?_)
     (repeat refine ats_seq ?_); refine ats_go (by first | exact fix0 hcx | exact fix1 hcx rfl | exact fixN hcx rfl) fun K hK => ?_; simp only [go_sem, seval]; (repeat refine aI (hb := ?_)); refine hK _ ?_; clear hK K
     (repeat refine ats_seq ?_); refine AT.ghost (ghost_frz [1]) ?_; simp only [frzV, find, killA, killAs, killT_srcB, killAs_bsV, qOf, rmT, killH, killT_e, List.map_cons, List.map_nil, List.filter_cons, List.filter_nil, List.contains_cons, List.contains_nil, Bool.or_false, Bool.or_true, Bool.false_and, Bool.not_true, Bool.not_false, Bool.false_eq_true, if_true, if_false, seval]
     refine ats_ret ⟨⟨[(0, .bptr 0 0), (1, .int n), (4, .l1 (o.set 0 v))], [(0, srcB p.2)]⟩, ghost_to [2] [], .inr rfl, (by first | rfl | exact ⟨trivial, rfl⟩ | (simp only [resL, resA, go_sem, seval]; done)), (by simp [St.get, slotGet, argSlots]), rfl⟩
    ·rw [if_neg (fun h => h2 (by omega))]
     refine ats_skip ?_
     refine ats_nil (bq_n ?_)
     (repeat refine ats_seq ?_); refine ats_go (by first | exact fix0 hcx | exact fix1 hcx rfl | exact fixN hcx rfl) fun K hK => ?_; simp only [go_sem, seval]; (repeat refine aI (hb := ?_)); refine hK _ ?_; clear hK K
     (repeat refine ats_seq ?_); refine AT.ghost (ghost_frz [1]) ?_; simp only [frzV, find, killA, killAs, killT_srcB, killAs_bsV, qOf, rmT, killH, killT_e, List.map_cons, List.map_nil, List.filter_cons, List.filter_nil, List.contains_cons, List.contains_nil, Bool.or_false, Bool.or_true, Bool.false_and, Bool.not_true, Bool.not_false, Bool.false_eq_true, if_true, if_false, seval]
     refine ats_ret ⟨⟨[(0, .bptr 0 0), (1, .int n), (4, .l1 o)], [(0, srcB q.2)]⟩, ghost_to [] [], .inr rfl, (by first | rfl | exact ⟨trivial, rfl⟩ | (simp only [resL, resA, go_sem, seval]; done)), (by simp [St.get, slotGet, argSlots]), rfl⟩
   ·rw [if_neg (fun h => h1 h.1)]
    refine ats_skip ?_
    refine ats_nil (bq_n ?_)
    (repeat refine ats_seq ?_); refine ats_go (by first | exact fix0 hcx | exact fix1 hcx rfl | exact fixN hcx rfl) fun K hK => ?_; simp only [go_sem, seval]; (repeat refine aI (hb := ?_)); refine hK _ ?_; clear hK K
    (repeat refine ats_seq ?_); refine AT.ghost (ghost_frz [1]) ?_; simp only [frzV, find, killA, killAs, killT_srcB, killAs_bsV, qOf, rmT, killH, killT_e, List.map_cons, List.map_nil, List.filter_cons, List.filter_nil, List.contains_cons, List.contains_nil, Bool.or_false, Bool.or_true, Bool.false_and, Bool.not_true, Bool.not_false, Bool.false_eq_true, if_true, if_false, seval]
    refine ats_ret ⟨⟨[(0, .bptr 0 0), (1, .int n), (4, .l1 o)], [(0, srcB q.2)]⟩, ghost_to [] [], .inr rfl, (by first | rfl | exact ⟨trivial, rfl⟩ | (simp only [resL, resA, go_sem, seval]; done)), (by simp [St.get, slotGet, argSlots]), rfl⟩
end Go.Proofs.Ytppoaacplncppaa
namespace Go.Proofs.Ytppoaacplncppaa
open Go Go.Aw Go.Pl
attribute [local go_sem] pickO List.getElem?_toArray List.getElem?_cons_zero List.getElem?_cons_succ Option.getD_some and_true true_and and_self
structure CodeOk (c : List Int) : Prop where
 len : c.length ≤ 1048576
 byte : ∀ i, i < c.length → 0 ≤ c.getD i 0 ∧ c.getD i 0 ≤ 255
set_option maxRecDepth 100000 in
set_option maxHeartbeats 4000000 in
theorem DrawMultiplyVectors_ok (c : List Int) (hc : CodeOk c) : ∃ (t : Cu) (x y : List Int), t.length ≤ 8 ∧ x.length ≤ 17 ∧ y.length ≤ 17 ∧ PureCall Try.prog 12 [.lv (bsV c)] (.tup [.agg [.l3 t], .l1 x, .l1 y]) := by
 have hF := from_ok c hc.len hc.byte
 have ok0 := frS_ok hc.len hc.byte
 generalize frS c = s at *
 obtain ⟨t, s1, lt, ok1, hA⟩ := l03DrawAny_ok s ok0 8 (by decide) (by decide)
 have hV := l03DrawVector_ok s1 ok1 t.length (by omega)
 have fV := dVec_fact (n := t.length) ok1
 generalize dVec t.length s1 = x at *
 have hW := l03DrawVector_ok x.2 fV.1 t.length (by omega)
 have fW := dVec_fact (n := t.length) fV.1
 generalize dVec t.length x.2 = y at *
 refine ⟨t, x.1, y.1, lt, by omega, by omega, ?_⟩
 unfold AnyC at hA
 refine PureCall.introR (n := 22) (rs := [.cell 2 26, .tmp 3, .tmp 4]) Try.call12 Try.func12 rfl rfl rfl (by simp only [List.length_cons, List.length_nil]; omega) (fun cx hcx hrd => ats_of ?_); simp only [argSlots, Nat.zero_add, Nat.reduceAdd]
 (repeat refine ats_seq ?_); refine ats_go (fix0 hcx) fun K hK => ?_; simp only [go_sem, seval]; (repeat refine aI (hb := ?_)); refine hK _ ?_; clear hK K
 (repeat refine ats_seq ?_); refine AT.ghost (st' := ⟨[(0, .lv (bsV c)), (2, .bptr 7 0), (3, .nil), (4, .nil)], [(7, .bx [.nil])]⟩) (ghost_to [] [(0, 7)]) ?_
 (repeat refine ats_seq ?_); refine ats_go (fix0 hcx) fun K hK => ?_; simp only [go_sem, seval]
 refine fcall_bx (hF) (k := ?_); simp only [Aw.ids, go_sem, seval]
 refine hK _ ?_; clear hK K
 (repeat refine ats_seq ?_); refine ats_go (fix0 hcx) fun K hK => ?_; simp only [go_sem, seval]
 refine fcall_bx (hA) (k := ?_); simp only [Aw.ids, go_sem, seval]
 refine hK _ ?_; clear hK K
 (repeat refine ats_seq ?_); refine AT.ghost (st' := ⟨[(2, .bptr 7 0), (3, .nil), (4, .nil), (5, .bptr 0 0), (6, .bptr 8 0)], [(0, srcB s1), (7, .bx [.nil]), (8, .bx [.l3 t])]⟩) (ghost_to [2] []) ?_
 (repeat refine ats_seq ?_); refine ats_go (fix0 hcx) fun K hK => ?_; simp only [go_sem, seval]; (repeat refine aI (hb := ?_)); refine hK _ ?_; clear hK K
 (repeat refine ats_seq ?_)
 obtain ⟨z0, ez0⟩ : ∃ z : St, z = ⟨[(2, .bptr 7 0), (6, .bptr 8 0), (16, .bptr 0 0), (17, .int t.length), (19, .bptr 0 0), (20, .int t.length)], [(0, srcB s1), (7, .bx [.nil]), (8, .bx [.l3 t])]⟩ := ⟨_, rfl⟩
 obtain ⟨z1, ez1⟩ : ∃ z : St, z = ⟨[(2, .bptr 7 0), (15, .agg [.l3 t]), (16, .bptr 0 0), (17, .int t.length), (19, .bptr 0 0), (20, .int t.length)], [(0, srcB s1), (7, .bx [.nil]), (8, .bx [.l3 t])]⟩ := ⟨_, rfl⟩
 obtain ⟨z2, ez2⟩ : ∃ z : St, z = ⟨[(2, .bptr 7 0), (6, .bptr 8 0), (18, .l1 x.1), (19, .bptr 0 0), (20, .int t.length)], [(0, srcB x.2), (7, .bx [.nil]), (8, .bx [.l3 t])]⟩ := ⟨_, rfl⟩
 obtain ⟨z3, ez3⟩ : ∃ z : St, z = ⟨[(2, .bptr 7 0), (15, .agg [.l3 t]), (18, .l1 x.1), (19, .bptr 0 0), (20, .int t.length)], [(0, srcB x.2), (7, .bx [.nil]), (8, .bx [.l3 t])]⟩ := ⟨_, rfl⟩
 obtain ⟨z4, ez4⟩ : ∃ z : St, z = ⟨[(2, .bptr 7 0), (6, .bptr 8 0), (18, .l1 x.1), (21, .l1 y.1)], [(0, srcB y.2), (7, .bx [.nil]), (8, .bx [.l3 t])]⟩ := ⟨_, rfl⟩
 obtain ⟨z5, ez5⟩ : ∃ z : St, z = ⟨[(2, .bptr 7 0), (15, .agg [.l3 t]), (18, .l1 x.1), (21, .l1 y.1)], [(0, srcB y.2), (7, .bx [.nil]), (8, .bx [.l3 t])]⟩ := ⟨_, rfl⟩
 obtain ⟨z6, ez6⟩ : ∃ z : St, z = ⟨[(2, .bptr 7 0), (18, .l1 x.1), (21, .l1 y.1)], [(0, srcB y.2), (7, .bx [.l3 t]), (8, .bx [.l3 t])]⟩ := ⟨_, rfl⟩
 obtain ⟨z7, ez7⟩ : ∃ z : St, z = ⟨[(2, .bptr 7 0), (3, .l1 x.1), (21, .l1 y.1)], [(0, srcB y.2), (7, .bx [.l3 t]), (8, .bx [.l3 t])]⟩ := ⟨_, rfl⟩
 obtain ⟨z8, ez8⟩ : ∃ z : St, z = ⟨[(2, .bptr 7 0), (3, .l1 x.1), (4, .l1 y.1)], [(0, srcB y.2), (7, .bx [.l3 t]), (8, .bx [.l3 t])]⟩ := ⟨_, rfl⟩
 refine ats_table [3, 6] [1, 2, 4, 5] [[1, 2, 4, 5], [0, 1, 2, 4, 5], [1, 2, 3, 4, 5], [0, 1, 2, 3, 4, 5], [1, 2, 3, 4, 5, 6], [0, 1, 2, 3, 4, 5, 6], [0, 1, 2, 3, 4, 5, 6, 7], [0, 1, 2, 3, 4, 5, 6, 7, 8], [0, 1, 2, 3, 4, 5, 6, 7, 8, 9]] [(0, 0, 1), (0, 3, 2), (1, 3, 3), (2, 0, 3), (2, 6, 4), (3, 6, 5), (4, 0, 5), (5, 7, 6), (6, 8, 7), (7, 9, 8)] [z0, z1, z2, z3, z4, z5, z6, z7, z8] hrd (by first | exact fix0 hcx | exact fix1 hcx rfl | exact fixN hcx rfl) mixed (by kernel_rfl) ?_ ?_ ?_
 ·show mvTRun _ _ _ _ _ _ (fun s => Ghost _ _ s z0)
  rw [ez0]; simp only [go_sem, seval]; repeat' (first | exact dt_can ⟨rfl, rfl, rfl, rfl, rfl, rfl, trivial⟩ rfl | with_reducible refine And.intro ?_ ?_ | omega)
 ·refine ⟨?_, ?_, ?_, ?_, ?_, ?_, ?_, ?_, ?_, ?_, trivial⟩
  ·show gRun _ _ _ _ _ z0 (fun st' => Ghost _ _ st' z1)
   rw [ez0, ez1]; simp only [go_sem, seval]; repeat' (first | exact dt_can ⟨rfl, rfl, rfl, rfl, rfl, rfl, trivial⟩ rfl | with_reducible refine And.intro ?_ ?_ | omega)
  ·show gRun _ _ _ _ _ z0 (fun st' => Ghost _ _ st' z2)
   rw [ez0, ez2]; simp only [go_sem, seval]; refine fcall_src (hV) rfl rfl ?_; simp only [go_sem, seval]; exact dt_can ⟨rfl, rfl, rfl, rfl, rfl, trivial⟩ rfl
  ·show gRun _ _ _ _ _ z1 (fun st' => Ghost _ _ st' z3)
   rw [ez1, ez3]; simp only [go_sem, seval]; refine fcall_src (hV) rfl rfl ?_; simp only [go_sem, seval]; exact dt_can ⟨rfl, rfl, rfl, rfl, rfl, trivial⟩ rfl
  ·show gRun _ _ _ _ _ z2 (fun st' => Ghost _ _ st' z3)
   rw [ez2, ez3]; simp only [go_sem, seval]; repeat' (first | exact dt_can ⟨rfl, rfl, rfl, rfl, rfl, trivial⟩ rfl | with_reducible refine And.intro ?_ ?_ | omega)
  ·show gRun _ _ _ _ _ z2 (fun st' => Ghost _ _ st' z4)
   rw [ez2, ez4]; simp only [go_sem, seval]; refine fcall_src (hW) rfl rfl ?_; simp only [go_sem, seval]; exact dt_can ⟨rfl, rfl, rfl, rfl, trivial⟩ rfl
  ·show gRun _ _ _ _ _ z3 (fun st' => Ghost _ _ st' z5)
   rw [ez3, ez5]; simp only [go_sem, seval]; refine fcall_src (hW) rfl rfl ?_; simp only [go_sem, seval]; exact dt_can ⟨rfl, rfl, rfl, rfl, trivial⟩ rfl
  ·show gRun _ _ _ _ _ z4 (fun st' => Ghost _ _ st' z5)
   rw [ez4, ez5]; simp only [go_sem, seval]; repeat' (first | exact dt_can ⟨rfl, rfl, rfl, rfl, trivial⟩ rfl | with_reducible refine And.intro ?_ ?_ | omega)
  ·show gRun _ _ _ _ _ z5 (fun st' => Ghost _ _ st' z6)
   rw [ez5, ez6]; simp only [go_sem, seval]; repeat' (first | exact dt_can ⟨rfl, rfl, rfl, trivial⟩ rfl | with_reducible refine And.intro ?_ ?_ | omega)
  ·show gRun _ _ _ _ _ z6 (fun st' => Ghost _ _ st' z7)
   rw [ez6, ez7]; simp only [go_sem, seval]; exact dt_can ⟨rfl, rfl, rfl, trivial⟩ rfl
  ·show gRun _ _ _ _ _ z7 (fun st' => Ghost _ _ st' z8)
   rw [ez7, ez8]; simp only [go_sem, seval]; exact dt_can ⟨rfl, rfl, rfl, trivial⟩ rfl
 show ATs _ _ _ _ _ z8
 rw [ez8]
 clear ez0 ez1 ez2 ez3 ez4 ez5 ez6 ez7 ez8 z0 z1 z2 z3 z4 z5 z6 z7 z8
 exact ats_ret ⟨.inr rfl, .tup [.agg [.l3 t], .l1 x.1, .l1 y.1], by simp only [resL, resA, go_sem, seval], rfl⟩
end Go.Proofs.Ytppoaacplncppaa
namespace Go.Proofs.Ytppoaacplncppaa
open Go Go.Aw Go.Pl
attribute [local go_sem] pl_fin pl_stop pl_one pl_alt PK_ap pickO List.getElem?_toArray List.getElem?_cons_zero List.getElem?_cons_succ
theorem big_ok (c : List Int) : PureCall Try.prog 5 [.lv (bsV c)] (.bool (decide (4096 < c.length))) := by
 have hl := bsV_len (c := c)
 refine PureCall.intro (n := 6) (rs := [.tmp 2]) Try.call5 Try.func5 rfl rfl rfl (by simp only [List.length_cons, List.length_nil]; omega) (fun cx hcx => ats_of ?_); simp only [argSlots, Nat.zero_add, Nat.reduceAdd]
 (repeat refine ats_seq ?_); refine ats_go (by first | exact fix0 hcx | exact fixN hcx rfl) fun K hK => ?_; simp only [go_sem, seval]; (repeat refine aI (hb := ?_)); refine hK _ ?_; clear hK K
 (repeat refine ats_seq ?_); refine ats_go (by first | exact fix0 hcx | exact fixN hcx rfl) fun K hK => ?_; simp only [go_sem, seval]; (repeat refine aI (hb := ?_)); refine hK _ ?_; clear hK K
 refine ats_ret (finB rfl ?_)
 rw [decide_eq_decide]
 omega
theorem likeInts_ok (xs ys : List Int) : PureCall Try.prog 9 [.l1 xs, .l1 ys] (.bool (decide (xs = ys))) := by
 refine PureCall.intro (n := 26) (rs := [.tmp 4]) Try.call9 Try.func9 rfl rfl rfl (by simp only [List.length_cons, List.length_nil]; omega) (fun cx hcx => ats_of ?_); simp only [argSlots, Nat.zero_add, Nat.reduceAdd]
 (repeat refine ats_seq ?_); refine ats_go (by first | exact fix0 hcx | exact fixN hcx rfl) fun K hK => ?_; simp only [go_sem, seval]; (repeat refine aI (hb := ?_)); refine hK _ ?_; clear hK K
 refine ats_know 0 fun h0 => ?_; simp only [St.get, slotGet, Nat.reduceEqDiff, ↓reduceIte, if_true, fact, facts] at h0
 refine ats_know 1 fun h1 => ?_; simp only [St.get, slotGet, Nat.reduceEqDiff, ↓reduceIte, if_true, fact, facts] at h1
 have lx := h0.1
 have ly := h1.1
 (repeat refine ats_seq ?_); refine ats_go (by first | exact fix0 hcx | exact fixN hcx rfl) fun K hK => ?_; simp only [go_sem, seval]; (repeat refine aI (hb := ?_)); refine hK _ ?_; clear hK K
 (repeat refine ats_seq ?_); first | refine ats_ifn (p := _) rfl trivial (fun hl => ?_) (fun hl => ?_) | refine ats_ifp (p := _) rfl trivial (fun hl => ?_) (fun hl => ?_) | refine ats_cond rfl trivial (fun hl => ?_) (fun hl => ?_)
 ·(repeat refine ats_seq ?_); refine ats_go (by first | exact fix0 hcx | exact fixN hcx rfl) fun K hK => ?_; simp only [go_sem, seval]; (repeat refine aI (hb := ?_)); refine hK _ ?_; clear hK K
  refine ats_ret (finB rfl ?_)
  exact (decide_eq_false (fun h => hl (by rw [h]))).symm
 ·have el : xs.length = ys.length := by omega
  refine ats_skip ?_
  (repeat refine ats_seq ?_); refine ats_go (by first | exact fix0 hcx | exact fixN hcx rfl) fun K hK => ?_; simp only [go_sem, seval]; (repeat refine aI (hb := ?_)); refine hK _ ?_; clear hK K
  (repeat refine ats_seq ?_); refine ats_loop (fun i : Nat => ⟨[(0, .l1 xs), (1, .l1 ys), (5, .int i)], []⟩) (fun i => i ≤ xs.length ∧ ∀ b, b < i → xs.getD b 0 = ys.getD b 0) (fun i => xs.length - i) 0 ⟨Nat.zero_le _, fun a h => absurd h (Nat.not_lt_zero a)⟩ (by refine And.intro ?_ rfl; simp only [leS, Nat.reduceEqDiff, ↓reduceIte, true_and, and_true]; rfl) (fun i hi => ?_); obtain ⟨hi, Hi⟩ := hi
  (repeat refine ats_seq ?_); refine ats_go (by first | exact fix0 hcx | exact fixN hcx rfl) fun K hK => ?_; simp only [go_sem, seval]; (repeat refine aI (hb := ?_)); refine hK _ ?_; clear hK K
  (repeat refine ats_seq ?_); first | refine ats_ifn (p := _) rfl trivial (fun h2 => ?_) (fun h2 => ?_) | refine ats_ifp (p := _) rfl trivial (fun h2 => ?_) (fun h2 => ?_) | refine ats_cond rfl trivial (fun h2 => ?_) (fun h2 => ?_)
  ·refine ats_skip ?_
   (repeat refine ats_seq ?_); refine ats_block ?_
   (repeat refine ats_seq ?_); refine ats_pick (by first | exact fix0 hcx | exact fixN hcx rfl) mixed (by kernel_rfl) fun K hK => ?_; simp only [go_sem, seval]; (repeat refine aI (hb := ?_)); refine hK _ ?_; clear hK K
   (repeat refine ats_seq ?_); first | refine ats_ifn (p := _) rfl trivial (fun h3 => ?_) (fun h3 => ?_) | refine ats_ifp (p := _) rfl trivial (fun h3 => ?_) (fun h3 => ?_) | refine ats_cond rfl trivial (fun h3 => ?_) (fun h3 => ?_)
   ·(repeat refine ats_seq ?_); refine ats_go (by first | exact fix0 hcx | exact fixN hcx rfl) fun K hK => ?_; simp only [go_sem, seval]; (repeat refine aI (hb := ?_)); refine hK _ ?_; clear hK K
    refine ats_ret (finB rfl ?_)
    exact (decide_eq_false (fun h => h3 (by rw [h]))).symm
   ·refine ats_skip ?_
    (repeat refine ats_seq ?_); refine ats_go (by first | exact fix0 hcx | exact fixN hcx rfl) fun K hK => ?_; simp only [go_sem, seval]; (repeat refine aI (hb := ?_)); refine hK _ ?_; clear hK K
    refine ⟨i + 1, ⟨by omega, fun a ha => by rcases Nat.lt_succ_iff_lt_or_eq.1 ha with h | rfl; exact Hi a h; exact (by omega)⟩, by omega, .inl ⟨?_, rfl⟩⟩; simp only [leS, Nat.reduceEqDiff, ↓reduceIte, true_and, and_true]; omega
  ·refine ats_exit (lq_x ?_)
   (repeat refine ats_seq ?_); refine ats_go (by first | exact fix0 hcx | exact fixN hcx rfl) fun K hK => ?_; simp only [go_sem, seval]; (repeat refine aI (hb := ?_)); refine hK _ ?_; clear hK K
   refine ats_ret (finB rfl ?_)
   refine (decide_eq_true (List.ext_getElem el fun j j1 j2 => ?_)).symm
   have := Hi j (by omega)
   rw [List.getD_eq_getElem?_getD, List.getElem?_eq_getElem j1, List.getD_eq_getElem?_getD, List.getElem?_eq_getElem j2] at this
   simpa using this
theorem belowB_ok (s : Src) (hs : s.Ok) (n : Int) (hn : n ≤ 1099511627776) : OwnCall Try.prog 26 [.bptr 0 0, .int n] (TS s) (TS (nx s n).2) (.int (nx s n).1) [0] := by
 obtain ⟨hl, hb, hp, hh⟩ := hs
 unfold nx TS
 by_cases h1 : n < 1
 ·rw [if_pos h1]
  dsimp only
  refine OwnCall.intro (n := 58) (rs := [.tmp 4]) 2 [0] (X := [0]) Try.call26 Try.func26 rfl rfl rfl (by simp only [List.length_cons, List.length_nil]; omega) (by simp [Aw.ids, rootsA, rootsAs, argSlots, slotGet]) (fun cx hcx => AT.weakG (ats_of ?_)); simp only [argSlots, Nat.zero_add, Nat.reduceAdd]
  (repeat refine ats_seq ?_); refine ats_go (by first | exact fix0 hcx | exact fix1 hcx rfl | exact fixN hcx rfl) fun K hK => ?_; simp only [go_sem, seval]; (repeat refine aI (hb := ?_)); refine hK _ ?_; clear hK K
  (repeat refine ats_seq ?_); refine ats_go (by first | exact fix0 hcx | exact fix1 hcx rfl | exact fixN hcx rfl) fun K hK => ?_; simp only [go_sem, seval]; (repeat refine aI (hb := ?_)); refine hK _ ?_; clear hK K
  (repeat refine ats_seq ?_); first | refine ats_ifn (p := _) rfl trivial (fun h => ?_) (fun h => ?_) | refine ats_ifp (p := _) rfl trivial (fun h => ?_) (fun h => ?_) | refine ats_cond rfl trivial (fun h => ?_) (fun h => ?_)
  ·(repeat refine ats_seq ?_); refine ats_go (by first | exact fix0 hcx | exact fix1 hcx rfl | exact fixN hcx rfl) fun K hK => ?_; simp only [go_sem, seval]; (repeat refine aI (hb := ?_)); refine hK _ ?_; clear hK K
   refine ats_ret ⟨⟨[(0, .bptr 0 0), (4, .int 0)], [(0, .bx [.lv (bsV s.code), .int s.pos, .ik .u64 s.h])]⟩, ghost_to [] [], .inr rfl, (by first | rfl | exact ⟨trivial, rfl⟩ | (simp only [resL, resA, go_sem, seval]; done)), (by simp [St.get, slotGet, argSlots]), rfl⟩
  ·omega
 ·rw [if_neg h1]
  have bx := nxX_bd (nxH s.h)
  have bh := nxH_bd s.h
  have et : ∀ x : Int, 0 ≤ x → x.tmod n = x % n := fun x hx => Int.tmod_eq_emod_of_nonneg hx
  by_cases h2 : s.pos < s.code.length
  ·rw [if_pos h2]
   have hb2 := hb _ h2
   have e1 := et (nxX (nxH s.h) + s.code.getD s.pos 0) (by omega)
   have m1 := Int.emod_nonneg (nxX (nxH s.h) + s.code.getD s.pos 0) (show n ≠ 0 by omega)
   have m2 := Int.emod_lt_of_pos (nxX (nxH s.h) + s.code.getD s.pos 0) (show 0 < n by omega)
   dsimp only
   rw [show ((s.pos + 1 : Nat) : Int) = (s.pos : Int) + 1 by push_cast; rfl]
   refine OwnCall.intro (n := 58) (rs := [.tmp 4]) 2 [0] (X := [0]) Try.call26 Try.func26 rfl rfl rfl (by simp only [List.length_cons, List.length_nil]; omega) (by simp [Aw.ids, rootsA, rootsAs, argSlots, slotGet]) (fun cx hcx => AT.weakG (ats_of ?_)); simp only [argSlots, Nat.zero_add, Nat.reduceAdd]
   (repeat refine ats_seq ?_); refine ats_go (by first | exact fix0 hcx | exact fix1 hcx rfl | exact fixN hcx rfl) fun K hK => ?_; simp only [go_sem, seval]; (repeat refine aI (hb := ?_)); refine hK _ ?_; clear hK K
   (repeat refine ats_seq ?_); refine ats_go (by first | exact fix0 hcx | exact fix1 hcx rfl | exact fixN hcx rfl) fun K hK => ?_; simp only [go_sem, seval]; (repeat refine aI (hb := ?_)); refine hK _ ?_; clear hK K
   (repeat refine ats_seq ?_); first | refine ats_ifn (p := _) rfl trivial (fun h => ?_) (fun h => ?_) | refine ats_ifp (p := _) rfl trivial (fun h => ?_) (fun h => ?_) | refine ats_cond rfl trivial (fun h => ?_) (fun h => ?_)
   ·omega
   ·refine ats_skip ?_
    (repeat refine ats_seq ?_); refine ats_go (by first | exact fix0 hcx | exact fix1 hcx rfl | exact fixN hcx rfl) fun K hK => ?_; simp only [go_sem, seval]
    simp only [nxH_eq]
    refine hK _ ?_; clear hK K
    (repeat refine ats_seq ?_); refine ats_go (by first | exact fix0 hcx | exact fix1 hcx rfl | exact fixN hcx rfl) fun K hK => ?_; simp only [go_sem, seval]
    simp only [nxX_eq]
    (repeat refine aI (hb := ?_))
    refine hK _ ?_; clear hK K
    (repeat refine ats_seq ?_); refine AT.ghost (st' := ⟨[(0, .bptr 0 0), (1, .int n), (5, .int (nxX (nxH s.h)))], [(0, .bx [.lv (bsV s.code), .int s.pos, .ik .u64 (nxH s.h)])]⟩) (ghost_can [] (by simp only [go_sem, seval, AV.int.injEq, AV.bool.injEq, AV.l1.injEq, AV.l2.injEq, AV.l3.injEq]) (by simp only [go_sem, seval])) ?_
    (repeat refine ats_seq ?_); refine ats_pick (by first | exact fix0 hcx | exact fixN hcx rfl) mixed (by kernel_rfl) fun K hK => ?_; simp only [go_sem, seval]; (repeat refine aI (hb := ?_)); refine hK _ ?_; clear hK K
    (repeat refine ats_seq ?_); first | refine ats_ifn (p := _) rfl trivial (fun h3 => ?_) (fun h3 => ?_) | refine ats_ifp (p := _) rfl trivial (fun h3 => ?_) (fun h3 => ?_) | refine ats_cond rfl trivial (fun h3 => ?_) (fun h3 => ?_)
    ·(repeat refine ats_seq ?_); refine ats_pick (by first | exact fix0 hcx | exact fixN hcx rfl) mixed (by kernel_rfl) fun K hK => ?_; simp only [go_sem, seval]
     simp only [bsV_get h2]
     simp only [go_sem, seval]
     (repeat refine aI (hb := ?_))
     refine hK _ ?_; clear hK K
     (repeat refine ats_seq ?_); refine ats_go (by first | exact fix0 hcx | exact fix1 hcx rfl | exact fixN hcx rfl) fun K hK => ?_; simp only [go_sem, seval]; (repeat refine aI (hb := ?_)); refine hK _ ?_; clear hK K
     (repeat refine ats_seq ?_); refine ats_go (by first | exact fix0 hcx | exact fix1 hcx rfl | exact fixN hcx rfl) fun K hK => ?_; simp only [go_sem, seval]
     simp only [e1]
     (repeat refine aI (hb := ?_))
     refine hK _ ?_; clear hK K
     refine ats_ret ⟨⟨[(0, .bptr 0 0), (4, .int ((nxX (nxH s.h) + s.code.getD s.pos 0) % n))], [(0, .bx [.lv (bsV s.code), .int ((s.pos : Int) + 1), .ik .u64 (nxH s.h)])]⟩, ghost_to [] [], .inr rfl, (by first | rfl | exact ⟨trivial, rfl⟩ | (simp only [resL, resA, go_sem, seval]; done)), (by simp [St.get, slotGet, argSlots]), rfl⟩
    ·omega
  ·rw [if_neg h2]
   have e1 := et (nxX (nxH s.h)) (by omega)
   have m1 := Int.emod_nonneg (nxX (nxH s.h)) (show n ≠ 0 by omega)
   have m2 := Int.emod_lt_of_pos (nxX (nxH s.h)) (show 0 < n by omega)
   dsimp only
   refine OwnCall.intro (n := 58) (rs := [.tmp 4]) 2 [0] (X := [0]) Try.call26 Try.func26 rfl rfl rfl (by simp only [List.length_cons, List.length_nil]; omega) (by simp [Aw.ids, rootsA, rootsAs, argSlots, slotGet]) (fun cx hcx => AT.weakG (ats_of ?_)); simp only [argSlots, Nat.zero_add, Nat.reduceAdd]
   (repeat refine ats_seq ?_); refine ats_go (by first | exact fix0 hcx | exact fix1 hcx rfl | exact fixN hcx rfl) fun K hK => ?_; simp only [go_sem, seval]; (repeat refine aI (hb := ?_)); refine hK _ ?_; clear hK K
   (repeat refine ats_seq ?_); refine ats_go (by first | exact fix0 hcx | exact fix1 hcx rfl | exact fixN hcx rfl) fun K hK => ?_; simp only [go_sem, seval]; (repeat refine aI (hb := ?_)); refine hK _ ?_; clear hK K
   (repeat refine ats_seq ?_); first | refine ats_ifn (p := _) rfl trivial (fun h => ?_) (fun h => ?_) | refine ats_ifp (p := _) rfl trivial (fun h => ?_) (fun h => ?_) | refine ats_cond rfl trivial (fun h => ?_) (fun h => ?_)
   ·omega
   ·refine ats_skip ?_
    (repeat refine ats_seq ?_); refine ats_go (by first | exact fix0 hcx | exact fix1 hcx rfl | exact fixN hcx rfl) fun K hK => ?_; simp only [go_sem, seval]
    simp only [nxH_eq]
    refine hK _ ?_; clear hK K
    (repeat refine ats_seq ?_); refine ats_go (by first | exact fix0 hcx | exact fix1 hcx rfl | exact fixN hcx rfl) fun K hK => ?_; simp only [go_sem, seval]
    simp only [nxX_eq]
    (repeat refine aI (hb := ?_))
    refine hK _ ?_; clear hK K
    (repeat refine ats_seq ?_); refine AT.ghost (st' := ⟨[(0, .bptr 0 0), (1, .int n), (5, .int (nxX (nxH s.h)))], [(0, .bx [.lv (bsV s.code), .int s.pos, .ik .u64 (nxH s.h)])]⟩) (ghost_can [] (by simp only [go_sem, seval, AV.int.injEq, AV.bool.injEq, AV.l1.injEq, AV.l2.injEq, AV.l3.injEq]) (by simp only [go_sem, seval])) ?_
    (repeat refine ats_seq ?_); refine ats_pick (by first | exact fix0 hcx | exact fixN hcx rfl) mixed (by kernel_rfl) fun K hK => ?_; simp only [go_sem, seval]; (repeat refine aI (hb := ?_)); refine hK _ ?_; clear hK K
    (repeat refine ats_seq ?_); first | refine ats_ifn (p := _) rfl trivial (fun h3 => ?_) (fun h3 => ?_) | refine ats_ifp (p := _) rfl trivial (fun h3 => ?_) (fun h3 => ?_) | refine ats_cond rfl trivial (fun h3 => ?_) (fun h3 => ?_)
    ·omega
    ·refine ats_skip ?_
     (repeat refine ats_seq ?_); refine ats_go (by first | exact fix0 hcx | exact fix1 hcx rfl | exact fixN hcx rfl) fun K hK => ?_; simp only [go_sem, seval]
     simp only [e1]
     (repeat refine aI (hb := ?_))
     refine hK _ ?_; clear hK K
     refine ats_ret ⟨⟨[(0, .bptr 0 0), (4, .int (nxX (nxH s.h) % n))], [(0, .bx [.lv (bsV s.code), .int s.pos, .ik .u64 (nxH s.h)])]⟩, ghost_to [] [], .inr rfl, (by first | rfl | exact ⟨trivial, rfl⟩ | (simp only [resL, resA, go_sem, seval]; done)), (by simp [St.get, slotGet, argSlots]), rfl⟩
theorem below_ok (s : Src) (hs : s.Ok) (n : Int) (hn : n ≤ 1099511627776) : OwnCall Try.prog 26 [.bptr 0 0, .int n] [(0, srcB s)] [(0, srcB (nx s n).2)] (.int (nx s n).1) [0] := belowB_ok s hs n hn
def rlH (c : List Int) (seed : Int) : Nat → Int
 | 0 => (seed * 6007 % 18446744073709551616 + (c.length : Int) % 18446744073709551616) % 18446744073709551616
 | i + 1 => ((rlH c seed i * 1099511628211 % 18446744073709551616 + c.getD i 0 % 18446744073709551616) % 18446744073709551616 + 5) % 18446744073709551616
def rlS (c : List Int) (seed : Int) : Src := ⟨c, 0, rlH c seed c.length⟩
theorem rlH_bd (c : List Int) (seed : Int) : ∀ i, 0 ≤ rlH c seed i ∧ rlH c seed i < 18446744073709551616
 | 0 => by unfold rlH; omega
 | i + 1 => by unfold rlH; omega
theorem rlS_ok {c : List Int} {seed : Int} (hc : CodeOk c) : (rlS c seed).Ok := ⟨hc.len, hc.byte, Nat.zero_le _, rlH_bd _ _ _⟩
theorem roll_ok (c : List Int) (hc : CodeOk c) (seed : Int) : OwnCall Try.prog 15 [.lv (bsV c), .ik .u64 seed] [] [(0, srcB (rlS c seed))] (.bptr 0 0) [] := by
 have hl := hc.len
 have hb := hc.byte
 unfold srcB rlS
 dsimp only
 obtain ⟨N, eN⟩ : ∃ N, c.length = N := ⟨_, rfl⟩
 have lb : (bsV c).length = N := by rw [bsV_len, eN]
 rw [eN] at hl ⊢
 refine OwnCall.intro (n := 38) (rs := [.tmp 4]) 2 [0] (X := []) Try.call15 Try.func15 rfl rfl rfl (by simp only [List.length_cons, List.length_nil]; omega) (by simp [Aw.ids, rootsA, rootsAs, argSlots, slotGet]) (fun cx hcx => AT.weakG (ats_of ?_)); simp only [argSlots, Nat.zero_add, Nat.reduceAdd]
 (repeat refine ats_seq ?_); refine ats_go (by first | exact fix0 hcx | exact fix1 hcx rfl | exact fixN hcx rfl) fun K hK => ?_; simp only [go_sem, seval]; (repeat refine aI (hb := ?_)); refine hK _ ?_; clear hK K
 (repeat refine ats_seq ?_); refine ats_go (by first | exact fix0 hcx | exact fix1 hcx rfl | exact fixN hcx rfl) fun K hK => ?_; simp only [go_sem, seval]; (repeat refine aI (hb := ?_)); refine hK _ ?_; clear hK K
 (repeat refine ats_seq ?_); refine ats_go (by first | exact fix0 hcx | exact fix1 hcx rfl | exact fixN hcx rfl) fun K hK => ?_; simp only [go_sem, seval]; (repeat refine aI (hb := ?_)); refine hK _ ?_; clear hK K
 (repeat refine ats_seq ?_); refine ats_loop (fun i : Nat => ⟨[(0, .lv (bsV c)), (5, .bptr 0 0), (6, .int i)], [(0, .bx [.lv (bsV c), .int (0 : Nat), .ik .u64 (rlH c seed i)])]⟩) (fun i => i ≤ N) (fun i => N - i) 0 (Nat.zero_le _) (by
  refine And.intro ?_ rfl; simp only [leS, Nat.reduceEqDiff, ↓reduceIte, true_and, and_true]
  try rfl) (fun i hi => ?_)
 (repeat refine ats_seq ?_); refine ats_go (by first | exact fix0 hcx | exact fix1 hcx rfl | exact fixN hcx rfl) fun K hK => ?_; simp only [go_sem, seval]; (repeat refine aI (hb := ?_)); refine hK _ ?_; clear hK K
 (repeat refine ats_seq ?_); first | refine ats_ifn (p := _) rfl trivial (fun hc2 => ?_) (fun hc2 => ?_) | refine ats_ifp (p := _) rfl trivial (fun hc2 => ?_) (fun hc2 => ?_) | refine ats_cond rfl trivial (fun hc2 => ?_) (fun hc2 => ?_)
 ·have hlt : i < c.length := by omega
  have hbi := hb i hlt
  have es : rlH c seed (i + 1) = ((rlH c seed i * 1099511628211 % 18446744073709551616 + c.getD i 0 % 18446744073709551616) % 18446744073709551616 + 5) % 18446744073709551616 := rfl
  refine ats_skip ?_
  (repeat refine ats_seq ?_); refine ats_block ?_
  (repeat refine ats_seq ?_)
  refine ats_plan [] (.one 0 (.one 1 (.one 2 (.one 3 (.one 4 (.one 5 (.one 6 (.one 7 (.one 8 (.one 9 (.one 10 (.one 11 (.one 12 (.one 13 (.one 14 (.alt 15 .fin .stop)))))))))))))))) ⟨[(0, .lv (bsV c)), (5, .bptr 0 0), (6, .int i)], [(0, .bx [.lv (bsV c), .int (0 : Nat), .ik .u64 (rlH c seed (i + 1))])]⟩ (by first | exact fix0 hcx | exact fixN hcx rfl) mixed (by kernel_rfl) (fun K hK => ?_) ?_
  ·simp only [go_sem, seval, Option.getD_some, and_true, true_and, and_self, List.contains_cons, List.contains_nil, Bool.or_false, Bool.or_true]
   repeat' (first | exact hK _ (by refine And.intro ?_ rfl; simp only [leS, Nat.reduceEqDiff, ↓reduceIte, true_and, and_true])  | with_reducible refine And.intro ?_ ?_ | omega | ((simp only [bsV_get hlt, ← es])) | (simp only [go_sem, seval, Option.getD_some, and_true, true_and, and_self, List.contains_cons, List.contains_nil, Bool.or_false, Bool.or_true]))
  (repeat refine ats_seq ?_); refine ats_go (by first | exact fix0 hcx | exact fix1 hcx rfl | exact fixN hcx rfl) fun K hK => ?_; simp only [go_sem, seval]; (repeat refine aI (hb := ?_)); refine hK _ ?_; clear hK K
  refine ⟨i + 1,  by omega, by omega, .inl ⟨by simp only [leS, Nat.reduceEqDiff, ↓reduceIte, true_and, and_true]; (try omega),  rfl⟩⟩
 ·have e : i = N := by omega
  subst e
  refine ats_exit (lq_x ?_)
  (repeat refine ats_seq ?_); refine ats_go (by first | exact fix0 hcx | exact fix1 hcx rfl | exact fixN hcx rfl) fun K hK => ?_; simp only [go_sem, seval]; (repeat refine aI (hb := ?_)); refine hK _ ?_; clear hK K
  refine ats_ret ⟨⟨[(0, .lv (bsV c)), (4, .bptr 0 0)], [(0, .bx [.lv (bsV c), .int (0 : Nat), .ik .u64 (rlH c seed i)])]⟩, ghost_to [] [], .inr rfl, (by first | rfl | exact ⟨trivial, rfl⟩ | (simp only [resL, resA, go_sem, seval]; done)), (by simp [St.get, slotGet, argSlots]), rfl⟩
def v9L : Nat → List Int → Src → List Int × Src
 | 0, o, s => (o, s)
 | k + 1, o, s => v9L k (o ++ [(nx s 5).1]) (nx s 5).2
theorem v9L_fact : ∀ (k : Nat) (o : List Int) (s : Src), s.Ok → (∀ x ∈ o, 0 ≤ x ∧ x ≤ 4) → (v9L k o s).2.Ok ∧ (v9L k o s).1.length = o.length + k ∧ ∀ x ∈ (v9L k o s).1, 0 ≤ x ∧ x ≤ 4
 | 0, o, s, hs, ho => ⟨hs, rfl, ho⟩
 | k + 1, o, s, hs, ho => by
  have b := nx_bd s (n := 5) (by decide)
  have h := v9L_fact k (o ++ [(nx s 5).1]) (nx s 5).2 (nx_ok hs _) (fun x hx => by
   rcases List.mem_append.1 hx with h | h
   ·exact ho x h
   ·simp only [List.mem_singleton] at h; omega)
  refine ⟨h.1, h.2.1.trans ?_, h.2.2⟩
  rw [List.length_append]
  simp only [List.length_cons, List.length_nil]
  omega
theorem vector9_ok (s : Src) (hs : s.Ok) (n : Nat) (hn : n ≤ 16) : OwnCall Try.prog 16 [.bptr 0 0, .int n] [(0, srcB s)] [(0, srcB (v9L n [] s).2)] (.l1 (v9L n [] s).1) [0] := by
 have fL := v9L_fact n [] s hs (fun x hx => by cases hx)
 obtain ⟨R, eR⟩ : ∃ R, v9L n [] s = R := ⟨_, rfl⟩
 rw [eR] at fL ⊢
 refine OwnCall.intro (n := 17) (rs := [.tmp 4]) 1 [0] (X := [0]) Try.call16 Try.func16 rfl rfl rfl (by simp only [List.length_cons, List.length_nil]; omega) (by simp [Aw.ids, rootsA, rootsAs, argSlots, slotGet]) (fun cx hcx => AT.weakG (ats_of ?_)); simp only [argSlots, Nat.zero_add, Nat.reduceAdd]
 (repeat refine ats_seq ?_); refine ats_go (by first | exact fix0 hcx | exact fix1 hcx rfl | exact fixN hcx rfl) fun K hK => ?_; simp only [go_sem, seval]; (repeat refine aI (hb := ?_)); refine hK _ ?_; clear hK K
 (repeat refine ats_seq ?_); refine ats_go (by first | exact fix0 hcx | exact fix1 hcx rfl | exact fixN hcx rfl) fun K hK => ?_; simp only [go_sem, seval]; (repeat refine aI (hb := ?_)); refine hK _ ?_; clear hK K
 (repeat refine ats_seq ?_); refine ats_loop (fun x : Nat × List Int × Src => ⟨[(0, .bptr 0 0), (1, .int x.1), (5, .ref 1 [])], [(0, srcB x.2.2), (1, .t1 x.2.1)]⟩) (fun x => x.2.2.Ok ∧ x.1 ≤ n ∧ x.2.1.length = n - x.1 ∧ v9L x.1 x.2.1 x.2.2 = R) (fun x => x.1) (n, [], s) ⟨hs, Nat.le_refl _, by simp, eR⟩ (by
  refine And.intro ?_ rfl; simp only [leS, Nat.reduceEqDiff, ↓reduceIte, true_and, and_true]
  try rfl) (fun x hx => ?_)
 obtain ⟨k, o, s1⟩ := x
 dsimp only at hx ⊢
 obtain ⟨ok, hk, hl, eD⟩ := hx
 (repeat refine ats_seq ?_); refine ats_go (by first | exact fix0 hcx | exact fix1 hcx rfl | exact fixN hcx rfl) fun K hK => ?_; simp only [go_sem, seval]; (repeat refine aI (hb := ?_)); refine hK _ ?_; clear hK K
 (repeat refine ats_seq ?_); first | refine ats_ifn (p := _) rfl trivial (fun hc => ?_) (fun hc => ?_) | refine ats_ifp (p := _) rfl trivial (fun hc => ?_) (fun hc => ?_) | refine ats_cond rfl trivial (fun hc => ?_) (fun hc => ?_)
 ·obtain ⟨k, rfl⟩ : ∃ j, k = j + 1 := ⟨k - 1, by omega⟩
  have hN1 := below_ok s1 ok 5 (by omega)
  have b1 := nx_bd s1 (n := 5) (by omega)
  have ok3 := nx_ok ok 5
  unfold v9L at eD
  generalize nx s1 5 = r at *
  refine ats_skip ?_
  (repeat refine ats_seq ?_); refine ats_block ?_
  (repeat refine ats_seq ?_); refine ats_go (by first | exact fix0 hcx | exact fix1 hcx rfl | exact fixN hcx rfl) fun K hK => ?_; simp only [go_sem, seval]
  (repeat refine aI (hb := ?_))
  refine fcall_src (hN1) rfl rfl ?_; simp only [go_sem, seval]
  (repeat refine aI (hb := ?_))
  refine hK _ ?_; clear hK K
  (repeat refine ats_seq ?_); refine AT.ghost (st' := ⟨[(0, .bptr 0 0), (1, .int ((k + 1 : Nat) : Int)), (5, .ref 1 [])], [(0, srcB r.2), (1, .t1 (o ++ [r.1]))]⟩) (ghost_to [2] []) ?_
  (repeat refine ats_seq ?_); refine ats_go (by first | exact fix0 hcx | exact fix1 hcx rfl | exact fixN hcx rfl) fun K hK => ?_; simp only [go_sem, seval]; (repeat refine aI (hb := ?_)); refine hK _ ?_; clear hK K
  refine ⟨(k, o ++ [r.1], r.2),  ⟨ok3, by dsimp only; omega, by dsimp only; rw [List.length_append, List.length_cons, List.length_nil]; omega, eD⟩, by omega, .inl ⟨by simp only [leS, Nat.reduceEqDiff, ↓reduceIte, true_and, and_true]; omega,  rfl⟩⟩
 ·obtain rfl : k = 0 := by omega
  have eD' : (o, s1) = R := eD
  subst eD'
  dsimp only at *
  refine ats_exit (lq_x ?_)
  (repeat refine ats_seq ?_); refine ats_go (by first | exact fix0 hcx | exact fix1 hcx rfl | exact fixN hcx rfl) fun K hK => ?_; simp only [go_sem, seval]; (repeat refine aI (hb := ?_)); refine hK _ ?_; clear hK K
  (repeat refine ats_seq ?_); refine AT.ghost (ghost_frz [1]) ?_; simp only [frzV, find, killA, killAs, killT_srcB, killAs_bsV, qOf, rmT, killH, killT_e, List.map_cons, List.map_nil, List.filter_cons, List.filter_nil, List.contains_cons, List.contains_nil, Bool.or_false, Bool.or_true, Bool.false_and, Bool.not_true, Bool.not_false, Bool.false_eq_true, if_true, if_false, seval]
  refine ats_ret ⟨⟨[(0, .bptr 0 0), (4, .l1 o)], [(0, srcB s1)]⟩, ghost_to [] [], .inr rfl, (by first | rfl | exact ⟨trivial, rfl⟩ | (simp only [resL, resA, go_sem, seval]; done)), (by simp [St.get, slotGet, argSlots]), rfl⟩
end Go.Proofs.Ytppoaacplncppaa
namespace Go.Proofs.Ytppoaacplncppaa
open Go Go.Aw Go.Pl
set_option maxRecDepth 100000 in
set_option maxHeartbeats 4000000 in
theorem DrawRingFault_ok (c : List Int) (hc : CodeOk c) : ∃ t : Cu, t.length ≤ 6 ∧ PureCall Try.prog 6 [.lv (bsV c)] (.agg [.l3 t]) := by
 have hF := from_ok c hc.len hc.byte
 have ok0 := frS_ok hc.len hc.byte
 generalize frS c = s at *
 obtain ⟨n, g, s1, d1, d2, ok1, hA⟩ := l03DrawAny_own s ok0 6 (by decide) (by decide)
 have l0 := cubF_length n g
 have hN := next_ok s1 ok1 2 (by omega)
 have b2 := nx_bd s1 (n := 2) (by omega)
 have ok2 := nx_ok ok1 2
 obtain ⟨q, eq⟩ : ∃ q, nx s1 2 = q := ⟨_, rfl⟩
 rw [eq] at hN b2 ok2
 clear eq
 -- four numbers, where the table has m matrices
 have four : ∀ m : Nat, 1 < m → m ≤ 6 → ∃ (i j k : Nat) (v : Int) (a b d e : Src), 1 ≤ i ∧ i < m ∧ 1 ≤ j ∧ j < m ∧ 1 ≤ k ∧ k < m ∧ 0 ≤ v ∧ v ≤ 2 ∧ OwnCall Try.prog 29 [.bptr 0 0, .int ((m : Int) - 1)] [(0, srcB q.2)] [(0, srcB a)] (.int ((i : Int) - 1)) [0] ∧
   OwnCall Try.prog 29 [.bptr 0 0, .int ((m : Int) - 1)] [(0, srcB a)] [(0, srcB b)] (.int ((j : Int) - 1)) [0] ∧ OwnCall Try.prog 29 [.bptr 0 0, .int ((m : Int) - 1)] [(0, srcB b)] [(0, srcB d)] (.int ((k : Int) - 1)) [0] ∧
   OwnCall Try.prog 29 [.bptr 0 0, .int 3] [(0, srcB d)] [(0, srcB e)] (.int v) [0] := fun m m1 m6 => by
  have hI := next_ok q.2 ok2 ((m : Int) - 1) (by omega)
  have bI := nx_bd q.2 (n := (m : Int) - 1) (by omega)
  have okI := nx_ok ok2 ((m : Int) - 1)
  generalize nx q.2 ((m : Int) - 1) = i at *
  have hJ := next_ok i.2 okI ((m : Int) - 1) (by omega)
  have bJ := nx_bd i.2 (n := (m : Int) - 1) (by omega)
  have okJ := nx_ok okI ((m : Int) - 1)
  generalize nx i.2 ((m : Int) - 1) = j at *
  have hK := next_ok j.2 okJ ((m : Int) - 1) (by omega)
  have bK := nx_bd j.2 (n := (m : Int) - 1) (by omega)
  have okK := nx_ok okJ ((m : Int) - 1)
  generalize nx j.2 ((m : Int) - 1) = k at *
  have hV := next_ok k.2 okK 3 (by omega)
  have bV := nx_bd k.2 (n := 3) (by omega)
  generalize nx k.2 3 = v at *
  refine ⟨(i.1 + 1).toNat, (j.1 + 1).toNat, (k.1 + 1).toNat, v.1, i.2, j.2, k.2, v.2, by omega, by omega, by omega, by omega, by omega, by omega, by omega, by omega, ?_, ?_, ?_, hV⟩
  ·rw [show (((i.1 + 1).toNat : Nat) : Int) - 1 = i.1 by omega]; exact hI
  ·rw [show (((j.1 + 1).toNat : Nat) : Int) - 1 = j.1 by omega]; exact hJ
  ·rw [show (((k.1 + 1).toNat : Nat) : Int) - 1 = k.1 by omega]; exact hK
 rcases hA with hA | hA | ⟨σ, lσ, hσ, hA⟩
 ·unfold AnyF at hA
  by_cases h1 : 1 < n ∧ q.1 = 0
  ·obtain ⟨i, j, k, v, a, b, d, e, i1, i2, j1, j2, k1, k2, v0, v1, hI, hJ, hK', hV⟩ := four (n) h1.1 (by omega)
   have ei : (1 : Int) + ((i : Int) - 1) = i := by omega
   have ej : (1 : Int) + ((j : Int) - 1) = j := by omega
   have ek : (1 : Int) + ((k : Int) - 1) = k := by omega
   have h1' : (1 : Int) < ((n : Nat) : Int) := by omega
   have s1_ := cubF_upd (n := n) (g := g) (i := i) (j := j) (k := k) (v := v) (by omega) (by omega)
   have m1 := cubF_mat (f := g) (show i < n by omega)
   have r1 := cubF_row (f := g) (show i < n by omega) (show j < n by omega)
   obtain ⟨g1, e1⟩ : ∃ g1, updG g (i) j k v = g1 := ⟨_, rfl⟩
   rw [e1] at s1_
   have l1 := cubF_length n g1
   have s2_ := cubF_upd (n := n) (g := g1) (i := j) (j := i) (k := k) (v := v) (by omega) (by omega)
   have m2 := cubF_mat (f := g1) (show j < n by omega)
   have r2 := cubF_row (f := g1) (show j < n by omega) (show i < n by omega)
   obtain ⟨g2, e2⟩ : ∃ g2, updG g1 (j) i k v = g2 := ⟨_, rfl⟩
   rw [e2] at s2_
   have l2 := cubF_length n g2
   have s3_ := cubF_upd (n := n) (g := g2) (i := i) (j := k) (k := j) (v := v) (by omega) (by omega)
   have m3 := cubF_mat (f := g2) (show i < n by omega)
   have r3 := cubF_row (f := g2) (show i < n by omega) (show k < n by omega)
   obtain ⟨g3, e3⟩ : ∃ g3, updG g2 (i) k j v = g3 := ⟨_, rfl⟩
   rw [e3] at s3_
   refine ⟨cubF n g3, by rw [cubF_length]; exact d2, ?_⟩
   clear four e1 e2 e3
   refine PureCall.introR (n := 75) (rs := [.cell 2 26]) Try.call6 Try.func6 rfl rfl rfl (by simp only [List.length_cons, List.length_nil]; omega) (fun cx hcx hrd => ats_of ?_); simp only [argSlots, Nat.zero_add, Nat.reduceAdd]
   (repeat refine ats_seq ?_); refine ats_go (by first | exact fix0 hcx | exact fix1 hcx rfl) fun K hK => ?_; simp only [go_sem, seval]; (repeat refine aI (hb := ?_)); refine hK _ ?_; clear hK K
   (repeat refine ats_seq ?_); refine AT.ghost (st' := ⟨[(0, .lv (bsV c)), (2, .bptr 7 0)], [(7, .bx [.nil])]⟩) (ghost_to [] [(0, 7)]) ?_
   (repeat refine ats_seq ?_); refine ats_go (by first | exact fix0 hcx | exact fix1 hcx rfl) fun K hK => ?_; simp only [go_sem, seval]
   refine fcall_bx (hF) (k := ?_); simp only [Aw.ids, go_sem, seval]
   refine hK _ ?_; clear hK K
   (repeat refine ats_seq ?_); refine ats_go (by first | exact fix0 hcx | exact fix1 hcx rfl) fun K hK => ?_; simp only [go_sem, seval]
   refine fcall_bx (hA) (k := ?_); simp only [Aw.ids, go_sem, seval]
   refine hK _ ?_; clear hK K
   (repeat refine ats_seq ?_); refine AT.ghost (st' := ⟨[(2, .bptr 7 0), (3, .bptr 0 0), (4, .bptr 8 0)], [(0, srcB s1), (1, .t3 (cubF n g)), (7, .bx [.nil]), (8, .bx [.ref 1 []])]⟩) (ghost_to [2] []) ?_
   (repeat refine ats_seq ?_); refine ats_go (by first | exact fix0 hcx | exact fix1 hcx rfl) fun K hK => ?_; simp only [go_sem, seval]
   simp only [l0]
   (repeat refine aI (hb := ?_))
   refine hK _ ?_; clear hK K
   (repeat refine ats_seq ?_); refine ats_goU (by first | exact fix0 hcx | exact fix1 hcx rfl | exact fixN hcx rfl) fun K hK => ?_; simp only [go_sem, seval, u_nil, u_cons, UK_ap, ung_eq, gOk_none, gOk_some, List.getElem?_toArray, List.getElem?_cons_zero, List.getElem?_cons_succ, true_and, and_true]
   simp only [h1', decide_true, true_and]
   refine fcall_src (hN) rfl rfl ?_; simp only [go_sem, seval]
   simp only [go_sem, seval, u_nil, u_cons, UK_ap, ung_eq, gOk_none, gOk_some, List.getElem?_toArray, List.getElem?_cons_zero, List.getElem?_cons_succ, true_and, and_true]
   refine hK _ ?_; clear hK K
   (repeat refine ats_seq ?_); first | refine ats_ifn (p := _) rfl trivial (fun hz => ?_) (fun hz => ?_) | refine ats_ifp (p := _) rfl trivial (fun hz => ?_) (fun hz => ?_) | refine ats_cond rfl trivial (fun hz => ?_) (fun hz => ?_)
   rotate_left
   ·exact absurd h1.2 hz
   (repeat refine ats_seq ?_); refine ats_go (by first | exact fix0 hcx | exact fix1 hcx rfl) fun K hK => ?_; simp only [go_sem, seval]
   (repeat refine aI (hb := ?_))
   refine fcall_src (hI) rfl rfl ?_; simp only [go_sem, seval]
   (repeat refine aI (hb := ?_))
   refine fcall_src (hJ) rfl rfl ?_; simp only [go_sem, seval]
   (repeat refine aI (hb := ?_))
   refine fcall_src (hK') rfl rfl ?_; simp only [go_sem, seval]
   (repeat refine aI (hb := ?_))
   refine fcall_src (hV) rfl rfl ?_; simp only [go_sem, seval]
   simp only [ei, ej, ek]
   (repeat refine aI (hb := ?_))
   refine hK _ ?_; clear hK K
   (repeat refine ats_seq ?_); refine ats_go (by first | exact fix0 hcx | exact fix1 hcx rfl) fun K hK => ?_; simp only [go_sem, seval]
   (repeat refine aI (hb := ?_))
   rw [s1_]
   refine hK _ ?_; clear hK K
   (repeat refine ats_seq ?_); refine ats_go (by first | exact fix0 hcx | exact fix1 hcx rfl) fun K hK => ?_; simp only [go_sem, seval]
   (repeat refine aI (hb := ?_))
   rw [s2_]
   refine hK _ ?_; clear hK K
   (repeat refine ats_seq ?_); refine ats_go (by first | exact fix0 hcx | exact fix1 hcx rfl) fun K hK => ?_; simp only [go_sem, seval]
   (repeat refine aI (hb := ?_))
   rw [s3_]
   refine hK _ ?_; clear hK K
   (repeat refine ats_seq ?_); refine ats_go (by first | exact fix0 hcx | exact fix1 hcx rfl) fun K hK => ?_; simp only [go_sem, seval]; (repeat refine aI (hb := ?_)); refine hK _ ?_; clear hK K
   exact ats_ret ⟨.inr rfl, .agg [.ref 1 []], by simp only [resL, resA, go_sem, seval], rfl⟩
  ·refine ⟨cubF n g, by rw [cubF_length]; exact d2, ?_⟩
   by_cases h2 : (1 : Int) < ((n : Nat) : Int)
   ·have h3 : ¬ q.1 = 0 := fun h => h1 ⟨by omega, h⟩
    clear four
    refine PureCall.introR (n := 75) (rs := [.cell 2 26]) Try.call6 Try.func6 rfl rfl rfl (by simp only [List.length_cons, List.length_nil]; omega) (fun cx hcx hrd => ats_of ?_); simp only [argSlots, Nat.zero_add, Nat.reduceAdd]
    (repeat refine ats_seq ?_); refine ats_go (by first | exact fix0 hcx | exact fix1 hcx rfl) fun K hK => ?_; simp only [go_sem, seval]; (repeat refine aI (hb := ?_)); refine hK _ ?_; clear hK K
    (repeat refine ats_seq ?_); refine AT.ghost (st' := ⟨[(0, .lv (bsV c)), (2, .bptr 7 0)], [(7, .bx [.nil])]⟩) (ghost_to [] [(0, 7)]) ?_
    (repeat refine ats_seq ?_); refine ats_go (by first | exact fix0 hcx | exact fix1 hcx rfl) fun K hK => ?_; simp only [go_sem, seval]
    refine fcall_bx (hF) (k := ?_); simp only [Aw.ids, go_sem, seval]
    refine hK _ ?_; clear hK K
    (repeat refine ats_seq ?_); refine ats_go (by first | exact fix0 hcx | exact fix1 hcx rfl) fun K hK => ?_; simp only [go_sem, seval]
    refine fcall_bx (hA) (k := ?_); simp only [Aw.ids, go_sem, seval]
    refine hK _ ?_; clear hK K
    (repeat refine ats_seq ?_); refine AT.ghost (st' := ⟨[(2, .bptr 7 0), (3, .bptr 0 0), (4, .bptr 8 0)], [(0, srcB s1), (1, .t3 (cubF n g)), (7, .bx [.nil]), (8, .bx [.ref 1 []])]⟩) (ghost_to [2] []) ?_
    (repeat refine ats_seq ?_); refine ats_go (by first | exact fix0 hcx | exact fix1 hcx rfl) fun K hK => ?_; simp only [go_sem, seval]
    simp only [l0]
    (repeat refine aI (hb := ?_))
    refine hK _ ?_; clear hK K
    (repeat refine ats_seq ?_); refine ats_goU (by first | exact fix0 hcx | exact fix1 hcx rfl | exact fixN hcx rfl) fun K hK => ?_; simp only [go_sem, seval, u_nil, u_cons, UK_ap, ung_eq, gOk_none, gOk_some, List.getElem?_toArray, List.getElem?_cons_zero, List.getElem?_cons_succ, true_and, and_true]
    simp only [h2, decide_true, true_and]
    refine fcall_src (hN) rfl rfl ?_; simp only [go_sem, seval]
    simp only [go_sem, seval, u_nil, u_cons, UK_ap, ung_eq, gOk_none, gOk_some, List.getElem?_toArray, List.getElem?_cons_zero, List.getElem?_cons_succ, true_and, and_true]
    refine hK _ ?_; clear hK K
    (repeat refine ats_seq ?_); first | refine ats_ifn (p := _) rfl trivial (fun hz => ?_) (fun hz => ?_) | refine ats_ifp (p := _) rfl trivial (fun hz => ?_) (fun hz => ?_) | refine ats_cond rfl trivial (fun hz => ?_) (fun hz => ?_)
    ·exact absurd hz h3
    refine ats_skip ?_
    (repeat refine ats_seq ?_); refine ats_go (by first | exact fix0 hcx | exact fix1 hcx rfl) fun K hK => ?_; simp only [go_sem, seval]; (repeat refine aI (hb := ?_)); refine hK _ ?_; clear hK K
    exact ats_ret ⟨.inr rfl, .agg [.ref 1 []], by simp only [resL, resA, go_sem, seval], rfl⟩
   ·clear four
    refine PureCall.introR (n := 75) (rs := [.cell 2 26]) Try.call6 Try.func6 rfl rfl rfl (by simp only [List.length_cons, List.length_nil]; omega) (fun cx hcx hrd => ats_of ?_); simp only [argSlots, Nat.zero_add, Nat.reduceAdd]
    (repeat refine ats_seq ?_); refine ats_go (by first | exact fix0 hcx | exact fix1 hcx rfl) fun K hK => ?_; simp only [go_sem, seval]; (repeat refine aI (hb := ?_)); refine hK _ ?_; clear hK K
    (repeat refine ats_seq ?_); refine AT.ghost (st' := ⟨[(0, .lv (bsV c)), (2, .bptr 7 0)], [(7, .bx [.nil])]⟩) (ghost_to [] [(0, 7)]) ?_
    (repeat refine ats_seq ?_); refine ats_go (by first | exact fix0 hcx | exact fix1 hcx rfl) fun K hK => ?_; simp only [go_sem, seval]
    refine fcall_bx (hF) (k := ?_); simp only [Aw.ids, go_sem, seval]
    refine hK _ ?_; clear hK K
    (repeat refine ats_seq ?_); refine ats_go (by first | exact fix0 hcx | exact fix1 hcx rfl) fun K hK => ?_; simp only [go_sem, seval]
    refine fcall_bx (hA) (k := ?_); simp only [Aw.ids, go_sem, seval]
    refine hK _ ?_; clear hK K
    (repeat refine ats_seq ?_); refine AT.ghost (st' := ⟨[(2, .bptr 7 0), (3, .bptr 0 0), (4, .bptr 8 0)], [(0, srcB s1), (1, .t3 (cubF n g)), (7, .bx [.nil]), (8, .bx [.ref 1 []])]⟩) (ghost_to [2] []) ?_
    (repeat refine ats_seq ?_); refine ats_go (by first | exact fix0 hcx | exact fix1 hcx rfl) fun K hK => ?_; simp only [go_sem, seval]
    simp only [l0]
    (repeat refine aI (hb := ?_))
    refine hK _ ?_; clear hK K
    (repeat refine ats_seq ?_); refine ats_go (by first | exact fix0 hcx | exact fix1 hcx rfl) fun K hK => ?_; simp only [go_sem, seval]
    simp only [h2, decide_false]
    simp only [go_sem, seval]
    refine YR_intro (v := .int 0) (by first | trivial | (intro h; cases h)) ?_
    simp only [go_sem, seval]
    refine hK _ ?_; clear hK K
    (repeat refine ats_seq ?_); refine ats_no rfl trivial ?_
    refine ats_skip ?_
    (repeat refine ats_seq ?_); refine ats_go (by first | exact fix0 hcx | exact fix1 hcx rfl) fun K hK => ?_; simp only [go_sem, seval]; (repeat refine aI (hb := ?_)); refine hK _ ?_; clear hK K
    exact ats_ret ⟨.inr rfl, .agg [.ref 1 []], by simp only [resL, resA, go_sem, seval], rfl⟩
 ·unfold AnyF at hA
  by_cases h1 : 1 < n - 1 ∧ q.1 = 0
  ·obtain ⟨i, j, k, v, a, b, d, e, i1, i2, j1, j2, k1, k2, v0, v1, hI, hJ, hK', hV⟩ := four (n - 1) h1.1 (by omega)
   have ei : (1 : Int) + ((i : Int) - 1) = i := by omega
   have ej : (1 : Int) + ((j : Int) - 1) = j := by omega
   have ek : (1 : Int) + ((k : Int) - 1) = k := by omega
   have h1' : (1 : Int) < ((n - 1 : Nat) : Int) := by omega
   have s1_ := cubF_upd (n := n) (g := g) (i := 1 + i) (j := j) (k := k) (v := v) (by omega) (by omega)
   have m1 := cubF_mat (f := g) (show 1 + i < n by omega)
   have r1 := cubF_row (f := g) (show 1 + i < n by omega) (show j < n by omega)
   obtain ⟨g1, e1⟩ : ∃ g1, updG g (1 + i) j k v = g1 := ⟨_, rfl⟩
   rw [e1] at s1_
   have l1 := cubF_length n g1
   have s2_ := cubF_upd (n := n) (g := g1) (i := 1 + j) (j := i) (k := k) (v := v) (by omega) (by omega)
   have m2 := cubF_mat (f := g1) (show 1 + j < n by omega)
   have r2 := cubF_row (f := g1) (show 1 + j < n by omega) (show i < n by omega)
   obtain ⟨g2, e2⟩ : ∃ g2, updG g1 (1 + j) i k v = g2 := ⟨_, rfl⟩
   rw [e2] at s2_
   have l2 := cubF_length n g2
   have s3_ := cubF_upd (n := n) (g := g2) (i := 1 + i) (j := k) (k := j) (v := v) (by omega) (by omega)
   have m3 := cubF_mat (f := g2) (show 1 + i < n by omega)
   have r3 := cubF_row (f := g2) (show 1 + i < n by omega) (show k < n by omega)
   obtain ⟨g3, e3⟩ : ∃ g3, updG g2 (1 + i) k j v = g3 := ⟨_, rfl⟩
   rw [e3] at s3_
   refine ⟨((cubF n g3).take n).drop 1, by rw [List.length_drop, List.length_take, cubF_length]; omega, ?_⟩
   clear four e1 e2 e3
   refine PureCall.introR (n := 75) (rs := [.cell 2 26]) Try.call6 Try.func6 rfl rfl rfl (by simp only [List.length_cons, List.length_nil]; omega) (fun cx hcx hrd => ats_of ?_); simp only [argSlots, Nat.zero_add, Nat.reduceAdd]
   (repeat refine ats_seq ?_); refine ats_go (by first | exact fix0 hcx | exact fix1 hcx rfl) fun K hK => ?_; simp only [go_sem, seval]; (repeat refine aI (hb := ?_)); refine hK _ ?_; clear hK K
   (repeat refine ats_seq ?_); refine AT.ghost (st' := ⟨[(0, .lv (bsV c)), (2, .bptr 7 0)], [(7, .bx [.nil])]⟩) (ghost_to [] [(0, 7)]) ?_
   (repeat refine ats_seq ?_); refine ats_go (by first | exact fix0 hcx | exact fix1 hcx rfl) fun K hK => ?_; simp only [go_sem, seval]
   refine fcall_bx (hF) (k := ?_); simp only [Aw.ids, go_sem, seval]
   refine hK _ ?_; clear hK K
   (repeat refine ats_seq ?_); refine ats_go (by first | exact fix0 hcx | exact fix1 hcx rfl) fun K hK => ?_; simp only [go_sem, seval]
   refine fcall_bx (hA) (k := ?_); simp only [Aw.ids, go_sem, seval]
   refine hK _ ?_; clear hK K
   (repeat refine ats_seq ?_); refine AT.ghost (st' := ⟨[(2, .bptr 7 0), (3, .bptr 0 0), (4, .bptr 8 0)], [(0, srcB s1), (1, .t3 (cubF n g)), (7, .bx [.nil]), (8, .bx [.sub 1 [] 1 n])]⟩) (ghost_to [2] []) ?_
   (repeat refine ats_seq ?_); refine ats_go (by first | exact fix0 hcx | exact fix1 hcx rfl) fun K hK => ?_; simp only [go_sem, seval]
   try simp only [l0]
   (repeat refine aI (hb := ?_))
   refine hK _ ?_; clear hK K
   (repeat refine ats_seq ?_); refine ats_goU (by first | exact fix0 hcx | exact fix1 hcx rfl | exact fixN hcx rfl) fun K hK => ?_; simp only [go_sem, seval, u_nil, u_cons, UK_ap, ung_eq, gOk_none, gOk_some, List.getElem?_toArray, List.getElem?_cons_zero, List.getElem?_cons_succ, true_and, and_true]
   simp only [h1', decide_true, true_and]
   refine fcall_src (hN) rfl rfl ?_; simp only [go_sem, seval]
   simp only [go_sem, seval, u_nil, u_cons, UK_ap, ung_eq, gOk_none, gOk_some, List.getElem?_toArray, List.getElem?_cons_zero, List.getElem?_cons_succ, true_and, and_true]
   refine hK _ ?_; clear hK K
   (repeat refine ats_seq ?_); first | refine ats_ifn (p := _) rfl trivial (fun hz => ?_) (fun hz => ?_) | refine ats_ifp (p := _) rfl trivial (fun hz => ?_) (fun hz => ?_) | refine ats_cond rfl trivial (fun hz => ?_) (fun hz => ?_)
   rotate_left
   ·exact absurd h1.2 hz
   (repeat refine ats_seq ?_); refine ats_go (by first | exact fix0 hcx | exact fix1 hcx rfl) fun K hK => ?_; simp only [go_sem, seval]
   (repeat refine aI (hb := ?_))
   refine fcall_src (hI) rfl rfl ?_; simp only [go_sem, seval]
   (repeat refine aI (hb := ?_))
   refine fcall_src (hJ) rfl rfl ?_; simp only [go_sem, seval]
   (repeat refine aI (hb := ?_))
   refine fcall_src (hK') rfl rfl ?_; simp only [go_sem, seval]
   (repeat refine aI (hb := ?_))
   refine fcall_src (hV) rfl rfl ?_; simp only [go_sem, seval]
   simp only [ei, ej, ek]
   (repeat refine aI (hb := ?_))
   refine hK _ ?_; clear hK K
   (repeat refine ats_seq ?_); refine ats_go (by first | exact fix0 hcx | exact fix1 hcx rfl) fun K hK => ?_; simp only [go_sem, seval]
   (repeat refine aI (hb := ?_))
   rw [s1_]
   refine hK _ ?_; clear hK K
   (repeat refine ats_seq ?_); refine ats_go (by first | exact fix0 hcx | exact fix1 hcx rfl) fun K hK => ?_; simp only [go_sem, seval]
   (repeat refine aI (hb := ?_))
   rw [s2_]
   refine hK _ ?_; clear hK K
   (repeat refine ats_seq ?_); refine ats_go (by first | exact fix0 hcx | exact fix1 hcx rfl) fun K hK => ?_; simp only [go_sem, seval]
   (repeat refine aI (hb := ?_))
   rw [s3_]
   refine hK _ ?_; clear hK K
   (repeat refine ats_seq ?_); refine ats_go (by first | exact fix0 hcx | exact fix1 hcx rfl) fun K hK => ?_; simp only [go_sem, seval]; (repeat refine aI (hb := ?_)); refine hK _ ?_; clear hK K
   exact ats_ret ⟨.inr rfl, .agg [.sub 1 [] 1 n], by simp only [resL, resA, go_sem, seval], rfl⟩
  ·refine ⟨((cubF n g).take n).drop 1, by rw [List.length_drop, List.length_take, cubF_length]; omega, ?_⟩
   by_cases h2 : (1 : Int) < ((n - 1 : Nat) : Int)
   ·have h3 : ¬ q.1 = 0 := fun h => h1 ⟨by omega, h⟩
    clear four
    refine PureCall.introR (n := 75) (rs := [.cell 2 26]) Try.call6 Try.func6 rfl rfl rfl (by simp only [List.length_cons, List.length_nil]; omega) (fun cx hcx hrd => ats_of ?_); simp only [argSlots, Nat.zero_add, Nat.reduceAdd]
    (repeat refine ats_seq ?_); refine ats_go (by first | exact fix0 hcx | exact fix1 hcx rfl) fun K hK => ?_; simp only [go_sem, seval]; (repeat refine aI (hb := ?_)); refine hK _ ?_; clear hK K
    (repeat refine ats_seq ?_); refine AT.ghost (st' := ⟨[(0, .lv (bsV c)), (2, .bptr 7 0)], [(7, .bx [.nil])]⟩) (ghost_to [] [(0, 7)]) ?_
    (repeat refine ats_seq ?_); refine ats_go (by first | exact fix0 hcx | exact fix1 hcx rfl) fun K hK => ?_; simp only [go_sem, seval]
    refine fcall_bx (hF) (k := ?_); simp only [Aw.ids, go_sem, seval]
    refine hK _ ?_; clear hK K
    (repeat refine ats_seq ?_); refine ats_go (by first | exact fix0 hcx | exact fix1 hcx rfl) fun K hK => ?_; simp only [go_sem, seval]
    refine fcall_bx (hA) (k := ?_); simp only [Aw.ids, go_sem, seval]
    refine hK _ ?_; clear hK K
    (repeat refine ats_seq ?_); refine AT.ghost (st' := ⟨[(2, .bptr 7 0), (3, .bptr 0 0), (4, .bptr 8 0)], [(0, srcB s1), (1, .t3 (cubF n g)), (7, .bx [.nil]), (8, .bx [.sub 1 [] 1 n])]⟩) (ghost_to [2] []) ?_
    (repeat refine ats_seq ?_); refine ats_go (by first | exact fix0 hcx | exact fix1 hcx rfl) fun K hK => ?_; simp only [go_sem, seval]
    try simp only [l0]
    (repeat refine aI (hb := ?_))
    refine hK _ ?_; clear hK K
    (repeat refine ats_seq ?_); refine ats_goU (by first | exact fix0 hcx | exact fix1 hcx rfl | exact fixN hcx rfl) fun K hK => ?_; simp only [go_sem, seval, u_nil, u_cons, UK_ap, ung_eq, gOk_none, gOk_some, List.getElem?_toArray, List.getElem?_cons_zero, List.getElem?_cons_succ, true_and, and_true]
    simp only [h2, decide_true, true_and]
    refine fcall_src (hN) rfl rfl ?_; simp only [go_sem, seval]
    simp only [go_sem, seval, u_nil, u_cons, UK_ap, ung_eq, gOk_none, gOk_some, List.getElem?_toArray, List.getElem?_cons_zero, List.getElem?_cons_succ, true_and, and_true]
    refine hK _ ?_; clear hK K
    (repeat refine ats_seq ?_); first | refine ats_ifn (p := _) rfl trivial (fun hz => ?_) (fun hz => ?_) | refine ats_ifp (p := _) rfl trivial (fun hz => ?_) (fun hz => ?_) | refine ats_cond rfl trivial (fun hz => ?_) (fun hz => ?_)
    ·exact absurd hz h3
    refine ats_skip ?_
    (repeat refine ats_seq ?_); refine ats_go (by first | exact fix0 hcx | exact fix1 hcx rfl) fun K hK => ?_; simp only [go_sem, seval]; (repeat refine aI (hb := ?_)); refine hK _ ?_; clear hK K
    exact ats_ret ⟨.inr rfl, .agg [.sub 1 [] 1 n], by simp only [resL, resA, go_sem, seval], rfl⟩
   ·clear four
    refine PureCall.introR (n := 75) (rs := [.cell 2 26]) Try.call6 Try.func6 rfl rfl rfl (by simp only [List.length_cons, List.length_nil]; omega) (fun cx hcx hrd => ats_of ?_); simp only [argSlots, Nat.zero_add, Nat.reduceAdd]
    (repeat refine ats_seq ?_); refine ats_go (by first | exact fix0 hcx | exact fix1 hcx rfl) fun K hK => ?_; simp only [go_sem, seval]; (repeat refine aI (hb := ?_)); refine hK _ ?_; clear hK K
    (repeat refine ats_seq ?_); refine AT.ghost (st' := ⟨[(0, .lv (bsV c)), (2, .bptr 7 0)], [(7, .bx [.nil])]⟩) (ghost_to [] [(0, 7)]) ?_
    (repeat refine ats_seq ?_); refine ats_go (by first | exact fix0 hcx | exact fix1 hcx rfl) fun K hK => ?_; simp only [go_sem, seval]
    refine fcall_bx (hF) (k := ?_); simp only [Aw.ids, go_sem, seval]
    refine hK _ ?_; clear hK K
    (repeat refine ats_seq ?_); refine ats_go (by first | exact fix0 hcx | exact fix1 hcx rfl) fun K hK => ?_; simp only [go_sem, seval]
    refine fcall_bx (hA) (k := ?_); simp only [Aw.ids, go_sem, seval]
    refine hK _ ?_; clear hK K
    (repeat refine ats_seq ?_); refine AT.ghost (st' := ⟨[(2, .bptr 7 0), (3, .bptr 0 0), (4, .bptr 8 0)], [(0, srcB s1), (1, .t3 (cubF n g)), (7, .bx [.nil]), (8, .bx [.sub 1 [] 1 n])]⟩) (ghost_to [2] []) ?_
    (repeat refine ats_seq ?_); refine ats_go (by first | exact fix0 hcx | exact fix1 hcx rfl) fun K hK => ?_; simp only [go_sem, seval]
    try simp only [l0]
    (repeat refine aI (hb := ?_))
    refine hK _ ?_; clear hK K
    (repeat refine ats_seq ?_); refine ats_go (by first | exact fix0 hcx | exact fix1 hcx rfl) fun K hK => ?_; simp only [go_sem, seval]
    simp only [h2, decide_false]
    simp only [go_sem, seval]
    refine YR_intro (v := .int 0) (by first | trivial | (intro h; cases h)) ?_
    simp only [go_sem, seval]
    refine hK _ ?_; clear hK K
    (repeat refine ats_seq ?_); refine ats_no rfl trivial ?_
    refine ats_skip ?_
    (repeat refine ats_seq ?_); refine ats_go (by first | exact fix0 hcx | exact fix1 hcx rfl) fun K hK => ?_; simp only [go_sem, seval]; (repeat refine aI (hb := ?_)); refine hK _ ?_; clear hK K
    exact ats_ret ⟨.inr rfl, .agg [.sub 1 [] 1 n], by simp only [resL, resA, go_sem, seval], rfl⟩
 ·unfold AnyF at hA
  by_cases h1 : 1 < n ∧ q.1 = 0
  ·obtain ⟨i, j, k, v, a, b, d, e, i1, i2, j1, j2, k1, k2, v0, v1, hI, hJ, hK', hV⟩ := four (n) h1.1 (by omega)
   have ei : (1 : Int) + ((i : Int) - 1) = i := by omega
   have ej : (1 : Int) + ((j : Int) - 1) = j := by omega
   have ek : (1 : Int) + ((k : Int) - 1) = k := by omega
   have h1' : (1 : Int) < ((n : Nat) : Int) := by omega
   have ri := hσ _ (getD_mem (d := 0) (show i < σ.length by omega))
   have rj := hσ _ (getD_mem (d := 0) (show j < σ.length by omega))
   have s1_ := cubF_upd (n := n) (g := g) (i := σ.getD i 0) (j := j) (k := k) (v := v) (by omega) (by omega)
   have m1 := cubF_mat (f := g) (show σ.getD i 0 < n by omega)
   have r1 := cubF_row (f := g) (show σ.getD i 0 < n by omega) (show j < n by omega)
   obtain ⟨g1, e1⟩ : ∃ g1, updG g (σ.getD i 0) j k v = g1 := ⟨_, rfl⟩
   rw [e1] at s1_
   have l1 := cubF_length n g1
   have s2_ := cubF_upd (n := n) (g := g1) (i := σ.getD j 0) (j := i) (k := k) (v := v) (by omega) (by omega)
   have m2 := cubF_mat (f := g1) (show σ.getD j 0 < n by omega)
   have r2 := cubF_row (f := g1) (show σ.getD j 0 < n by omega) (show i < n by omega)
   obtain ⟨g2, e2⟩ : ∃ g2, updG g1 (σ.getD j 0) i k v = g2 := ⟨_, rfl⟩
   rw [e2] at s2_
   have l2 := cubF_length n g2
   have s3_ := cubF_upd (n := n) (g := g2) (i := σ.getD i 0) (j := k) (k := j) (v := v) (by omega) (by omega)
   have m3 := cubF_mat (f := g2) (show σ.getD i 0 < n by omega)
   have r3 := cubF_row (f := g2) (show σ.getD i 0 < n by omega) (show k < n by omega)
   obtain ⟨g3, e3⟩ : ∃ g3, updG g2 (σ.getD i 0) k j v = g3 := ⟨_, rfl⟩
   rw [e3] at s3_
   refine ⟨σ.map fun k => (cubF n g3).getD k [], by rw [List.length_map]; omega, ?_⟩
   clear four e1 e2 e3
   refine PureCall.introR (n := 75) (rs := [.cell 2 26]) Try.call6 Try.func6 rfl rfl rfl (by simp only [List.length_cons, List.length_nil]; omega) (fun cx hcx hrd => ats_of ?_); simp only [argSlots, Nat.zero_add, Nat.reduceAdd]
   (repeat refine ats_seq ?_); refine ats_go (by first | exact fix0 hcx | exact fix1 hcx rfl) fun K hK => ?_; simp only [go_sem, seval]; (repeat refine aI (hb := ?_)); refine hK _ ?_; clear hK K
   (repeat refine ats_seq ?_); refine AT.ghost (st' := ⟨[(0, .lv (bsV c)), (2, .bptr 7 0)], [(7, .bx [.nil])]⟩) (ghost_to [] [(0, 7)]) ?_
   (repeat refine ats_seq ?_); refine ats_go (by first | exact fix0 hcx | exact fix1 hcx rfl) fun K hK => ?_; simp only [go_sem, seval]
   refine fcall_bx (hF) (k := ?_); simp only [Aw.ids, go_sem, seval]
   refine hK _ ?_; clear hK K
   (repeat refine ats_seq ?_); refine ats_go (by first | exact fix0 hcx | exact fix1 hcx rfl) fun K hK => ?_; simp only [go_sem, seval]
   refine fcall_bx (hA) (k := ?_); simp only [Aw.ids, go_sem, seval]
   refine hK _ ?_; clear hK K
   (repeat refine ats_seq ?_); refine AT.ghost (st' := ⟨[(2, .bptr 7 0), (3, .bptr 0 0), (4, .bptr 8 0)], [(0, srcB s1), (1, .a3 (cubF n g) σ), (7, .bx [.nil]), (8, .bx [.ref 1 []])]⟩) (ghost_to [2] []) ?_
   (repeat refine ats_seq ?_); refine ats_go (by first | exact fix0 hcx | exact fix1 hcx rfl) fun K hK => ?_; simp only [go_sem, seval]
   simp only [lσ]
   (repeat refine aI (hb := ?_))
   refine hK _ ?_; clear hK K
   (repeat refine ats_seq ?_); refine ats_goU (by first | exact fix0 hcx | exact fix1 hcx rfl | exact fixN hcx rfl) fun K hK => ?_; simp only [go_sem, seval, u_nil, u_cons, UK_ap, ung_eq, gOk_none, gOk_some, List.getElem?_toArray, List.getElem?_cons_zero, List.getElem?_cons_succ, true_and, and_true]
   simp only [h1', decide_true, true_and]
   refine fcall_src (hN) rfl rfl ?_; simp only [go_sem, seval]
   simp only [go_sem, seval, u_nil, u_cons, UK_ap, ung_eq, gOk_none, gOk_some, List.getElem?_toArray, List.getElem?_cons_zero, List.getElem?_cons_succ, true_and, and_true]
   refine hK _ ?_; clear hK K
   (repeat refine ats_seq ?_); first | refine ats_ifn (p := _) rfl trivial (fun hz => ?_) (fun hz => ?_) | refine ats_ifp (p := _) rfl trivial (fun hz => ?_) (fun hz => ?_) | refine ats_cond rfl trivial (fun hz => ?_) (fun hz => ?_)
   rotate_left
   ·exact absurd h1.2 hz
   (repeat refine ats_seq ?_); refine ats_go (by first | exact fix0 hcx | exact fix1 hcx rfl) fun K hK => ?_; simp only [go_sem, seval]
   (repeat refine aI (hb := ?_))
   refine fcall_src (hI) rfl rfl ?_; simp only [go_sem, seval]
   (repeat refine aI (hb := ?_))
   refine fcall_src (hJ) rfl rfl ?_; simp only [go_sem, seval]
   (repeat refine aI (hb := ?_))
   refine fcall_src (hK') rfl rfl ?_; simp only [go_sem, seval]
   (repeat refine aI (hb := ?_))
   refine fcall_src (hV) rfl rfl ?_; simp only [go_sem, seval]
   simp only [ei, ej, ek]
   (repeat refine aI (hb := ?_))
   refine hK _ ?_; clear hK K
   (repeat refine ats_seq ?_); refine ats_go (by first | exact fix0 hcx | exact fix1 hcx rfl) fun K hK => ?_; simp only [go_sem, seval]
   (repeat refine aI (hb := ?_))
   rw [s1_]
   refine hK _ ?_; clear hK K
   (repeat refine ats_seq ?_); refine ats_go (by first | exact fix0 hcx | exact fix1 hcx rfl) fun K hK => ?_; simp only [go_sem, seval]
   (repeat refine aI (hb := ?_))
   rw [s2_]
   refine hK _ ?_; clear hK K
   (repeat refine ats_seq ?_); refine ats_go (by first | exact fix0 hcx | exact fix1 hcx rfl) fun K hK => ?_; simp only [go_sem, seval]
   (repeat refine aI (hb := ?_))
   rw [s3_]
   refine hK _ ?_; clear hK K
   (repeat refine ats_seq ?_); refine ats_go (by first | exact fix0 hcx | exact fix1 hcx rfl) fun K hK => ?_; simp only [go_sem, seval]; (repeat refine aI (hb := ?_)); refine hK _ ?_; clear hK K
   exact ats_ret ⟨.inr rfl, .agg [.ref 1 []], by simp only [resL, resA, go_sem, seval], rfl⟩
  ·refine ⟨σ.map fun k => (cubF n g).getD k [], by rw [List.length_map]; omega, ?_⟩
   by_cases h2 : (1 : Int) < ((n : Nat) : Int)
   ·have h3 : ¬ q.1 = 0 := fun h => h1 ⟨by omega, h⟩
    clear four
    refine PureCall.introR (n := 75) (rs := [.cell 2 26]) Try.call6 Try.func6 rfl rfl rfl (by simp only [List.length_cons, List.length_nil]; omega) (fun cx hcx hrd => ats_of ?_); simp only [argSlots, Nat.zero_add, Nat.reduceAdd]
    (repeat refine ats_seq ?_); refine ats_go (by first | exact fix0 hcx | exact fix1 hcx rfl) fun K hK => ?_; simp only [go_sem, seval]; (repeat refine aI (hb := ?_)); refine hK _ ?_; clear hK K
    (repeat refine ats_seq ?_); refine AT.ghost (st' := ⟨[(0, .lv (bsV c)), (2, .bptr 7 0)], [(7, .bx [.nil])]⟩) (ghost_to [] [(0, 7)]) ?_
    (repeat refine ats_seq ?_); refine ats_go (by first | exact fix0 hcx | exact fix1 hcx rfl) fun K hK => ?_; simp only [go_sem, seval]
    refine fcall_bx (hF) (k := ?_); simp only [Aw.ids, go_sem, seval]
    refine hK _ ?_; clear hK K
    (repeat refine ats_seq ?_); refine ats_go (by first | exact fix0 hcx | exact fix1 hcx rfl) fun K hK => ?_; simp only [go_sem, seval]
    refine fcall_bx (hA) (k := ?_); simp only [Aw.ids, go_sem, seval]
    refine hK _ ?_; clear hK K
    (repeat refine ats_seq ?_); refine AT.ghost (st' := ⟨[(2, .bptr 7 0), (3, .bptr 0 0), (4, .bptr 8 0)], [(0, srcB s1), (1, .a3 (cubF n g) σ), (7, .bx [.nil]), (8, .bx [.ref 1 []])]⟩) (ghost_to [2] []) ?_
    (repeat refine ats_seq ?_); refine ats_go (by first | exact fix0 hcx | exact fix1 hcx rfl) fun K hK => ?_; simp only [go_sem, seval]
    simp only [lσ]
    (repeat refine aI (hb := ?_))
    refine hK _ ?_; clear hK K
    (repeat refine ats_seq ?_); refine ats_goU (by first | exact fix0 hcx | exact fix1 hcx rfl | exact fixN hcx rfl) fun K hK => ?_; simp only [go_sem, seval, u_nil, u_cons, UK_ap, ung_eq, gOk_none, gOk_some, List.getElem?_toArray, List.getElem?_cons_zero, List.getElem?_cons_succ, true_and, and_true]
    simp only [h2, decide_true, true_and]
    refine fcall_src (hN) rfl rfl ?_; simp only [go_sem, seval]
    simp only [go_sem, seval, u_nil, u_cons, UK_ap, ung_eq, gOk_none, gOk_some, List.getElem?_toArray, List.getElem?_cons_zero, List.getElem?_cons_succ, true_and, and_true]
    refine hK _ ?_; clear hK K
    (repeat refine ats_seq ?_); first | refine ats_ifn (p := _) rfl trivial (fun hz => ?_) (fun hz => ?_) | refine ats_ifp (p := _) rfl trivial (fun hz => ?_) (fun hz => ?_) | refine ats_cond rfl trivial (fun hz => ?_) (fun hz => ?_)
    ·exact absurd hz h3
    refine ats_skip ?_
    (repeat refine ats_seq ?_); refine ats_go (by first | exact fix0 hcx | exact fix1 hcx rfl) fun K hK => ?_; simp only [go_sem, seval]; (repeat refine aI (hb := ?_)); refine hK _ ?_; clear hK K
    exact ats_ret ⟨.inr rfl, .agg [.ref 1 []], by simp only [resL, resA, go_sem, seval], rfl⟩
   ·clear four
    refine PureCall.introR (n := 75) (rs := [.cell 2 26]) Try.call6 Try.func6 rfl rfl rfl (by simp only [List.length_cons, List.length_nil]; omega) (fun cx hcx hrd => ats_of ?_); simp only [argSlots, Nat.zero_add, Nat.reduceAdd]
    (repeat refine ats_seq ?_); refine ats_go (by first | exact fix0 hcx | exact fix1 hcx rfl) fun K hK => ?_; simp only [go_sem, seval]; (repeat refine aI (hb := ?_)); refine hK _ ?_; clear hK K
    (repeat refine ats_seq ?_); refine AT.ghost (st' := ⟨[(0, .lv (bsV c)), (2, .bptr 7 0)], [(7, .bx [.nil])]⟩) (ghost_to [] [(0, 7)]) ?_
    (repeat refine ats_seq ?_); refine ats_go (by first | exact fix0 hcx | exact fix1 hcx rfl) fun K hK => ?_; simp only [go_sem, seval]
    refine fcall_bx (hF) (k := ?_); simp only [Aw.ids, go_sem, seval]
    refine hK _ ?_; clear hK K
    (repeat refine ats_seq ?_); refine ats_go (by first | exact fix0 hcx | exact fix1 hcx rfl) fun K hK => ?_; simp only [go_sem, seval]
    refine fcall_bx (hA) (k := ?_); simp only [Aw.ids, go_sem, seval]
    refine hK _ ?_; clear hK K
    (repeat refine ats_seq ?_); refine AT.ghost (st' := ⟨[(2, .bptr 7 0), (3, .bptr 0 0), (4, .bptr 8 0)], [(0, srcB s1), (1, .a3 (cubF n g) σ), (7, .bx [.nil]), (8, .bx [.ref 1 []])]⟩) (ghost_to [2] []) ?_
    (repeat refine ats_seq ?_); refine ats_go (by first | exact fix0 hcx | exact fix1 hcx rfl) fun K hK => ?_; simp only [go_sem, seval]
    simp only [lσ]
    (repeat refine aI (hb := ?_))
    refine hK _ ?_; clear hK K
    (repeat refine ats_seq ?_); refine ats_go (by first | exact fix0 hcx | exact fix1 hcx rfl) fun K hK => ?_; simp only [go_sem, seval]
    simp only [h2, decide_false]
    simp only [go_sem, seval]
    refine YR_intro (v := .int 0) (by first | trivial | (intro h; cases h)) ?_
    simp only [go_sem, seval]
    refine hK _ ?_; clear hK K
    (repeat refine ats_seq ?_); refine ats_no rfl trivial ?_
    refine ats_skip ?_
    (repeat refine ats_seq ?_); refine ats_go (by first | exact fix0 hcx | exact fix1 hcx rfl) fun K hK => ?_; simp only [go_sem, seval]; (repeat refine aI (hb := ?_)); refine hK _ ?_; clear hK K
    exact ats_ret ⟨.inr rfl, .agg [.ref 1 []], by simp only [resL, resA, go_sem, seval], rfl⟩
end Go.Proofs.Ytppoaacplncppaa
