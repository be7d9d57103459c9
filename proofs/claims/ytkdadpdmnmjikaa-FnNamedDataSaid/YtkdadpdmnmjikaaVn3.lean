import Derived.Test.YtkdadpdmnmjikaaVn2
import Derived.Test.YtkdadpdmnmjikaaJz3
import Derived.Test.YtkdadpdmnmjikaaSz1
import Derived.Test.YtkdadpdmnmjikaaDz2
import Derived.Test.YtkdadpdmnmjikaaBb
set_option linter.unusedSimpArgs false
set_option linter.unusedVariables false
namespace Go.Proofs.Ytkdadpdmnmjikaa
open Go Go.Aw Go.Pl
theorem data9_ok (s s' : List (List Int)) (t t' : List Int) : PureCall Try.prog 8 [.agg [.l2 s, .l1 t], .agg [.l2 s', .l1 t']] (.bool (decide (s = s') && decide (t = t'))) := by
 have h1 := same9_ok s s'
 have h2 := likeInts_ok t t'
 refine PureCall.intro (n := 17) (rs := [.tmp 4]) Try.call8 Try.func8 rfl rfl rfl (by simp only [List.length_cons, List.length_nil]; omega) (fun cx hcx => ats_of ?_); simp only [argSlots, Nat.zero_add, Nat.reduceAdd]
 refine gB ?_
 refine gC fun K hK => ?_
 first | refine fcall_data (h1) rfl ?_ | refine YR_intro (acall_data (h1) rfl) ?_
 simp only [go_sem, seval]
 first | refine YR_intro (fun _ => acall_data (h2) rfl) ?_ | refine YR_intro (acall_data (h2) rfl) ?_
 simp only [go_sem, seval]
 refine hK _ ?_; clear hK K
 refine ats_ret (finB rfl ?_)
 rfl
end Go.Proofs.Ytkdadpdmnmjikaa
namespace Go.Proofs.Ytkdadpdmnmjikaa
open Go Go.Aw Go.Pl
theorem DrawFb_ok (c : List Int) (hc : CodeOk c) : ∃ k : Int, PureCall Try.prog 5 [.lv (bsV c)] (.int k) := by
 have hF := from_ok c hc.len hc.byte
 have ok0 := frS_ok hc.len hc.byte
 generalize frS c = s at *
 have hN := next_ok s ok0 6 (by omega)
 have b1 := nx_bd s (n := 6) (by omega)
 generalize nx s 6 = q at *
 refine ⟨q.1, ?_⟩
 refine PureCall.introR (n := 6) (rs := [.tmp 2]) Try.call5 Try.func5 rfl rfl rfl (by simp only [List.length_cons, List.length_nil]; omega) (fun cx hcx hrd => ats_of ?_); simp only [argSlots, Nat.zero_add, Nat.reduceAdd]
 refine gB ?_
 refine gC fun K hK => ?_
 refine fcall_box (hF) (by simp [Aw.ids]) (by simp [find]) (by simp [closedT, killT_e, killAs, killA, outQ, Aw.ids]) (by simp [killAs, killA, outQ, Aw.ids]) (by simp [Aw.ids]) ?_; simp only [Aw.ids, List.map_cons, List.map_nil, List.filter_cons, List.filter_nil, List.contains_cons, List.contains_nil, Bool.or_false, Bool.or_true, Bool.not_true, Bool.not_false, Nat.reduceBEq, Bool.false_eq_true, if_true, if_false, List.cons_append, List.nil_append]; simp only [go_sem, seval]
 refine fcall_src (hN) rfl rfl ?_; simp only [go_sem, seval]
 (repeat refine aI (hb := ?_))
 refine hK _ ?_; clear hK K
 exact ats_ret ⟨.inr rfl, .int q.1, by simp only [resL, resA, go_sem, seval], rfl⟩
theorem DrawIg_ok (c : List Int) (hc : CodeOk c) : ∃ v s : Int, PureCall Try.prog 10 [.lv (bsV c)] (.tup [.int v, .int s]) := by
 have hF := from_ok c hc.len hc.byte
 have ok0 := frS_ok hc.len hc.byte
 generalize frS c = s at *
 have hN := next_ok s ok0 8 (by decide)
 have b1 := nx_bd s (n := 8) (by decide)
 have ok1 := nx_ok ok0 8
 generalize nx s 8 = q at *
 have hM := next_ok q.2 ok1 16 (by decide)
 have b2 := nx_bd q.2 (n := 16) (by decide)
 have ok2 := nx_ok ok1 16
 generalize nx q.2 16 = r at *
 have b3 : -1 ≤ r.1.tdiv 15 ∧ r.1.tdiv 15 ≤ 16 := by
  have := Int.tdiv_eq_ediv_of_nonneg (b := 15) b2.1
  omega
 have hP := pick1_ok r.2 ok2 [1, -1, 1, -1, 1, 0] (by decide) (by decide)
 rw [show (([1, -1, 1, -1, 1, 0] : List Int).length : Int) = 6 from rfl] at hP
 generalize nx r.2 6 = p at *
 obtain ⟨v, ev⟩ : ∃ v, ([1, -1, 1, -1, 1, 0] : List Int).getD p.1.toNat 0 = v := ⟨_, rfl⟩
 rw [ev] at hP
 clear ev
 refine ⟨1 + 2 * q.1 + r.1.tdiv 15, v, ?_⟩
 refine PureCall.introR (n := 18) (rs := [.tmp 2, .tmp 3]) Try.call10 Try.func10 rfl rfl rfl (by simp only [List.length_cons, List.length_nil]; omega) (fun cx hcx hrd => ats_of ?_); simp only [argSlots, Nat.zero_add, Nat.reduceAdd]
 refine gB ?_
 refine gC fun K hK => ?_
 refine fcall_box (hF) (by simp [Aw.ids]) (by simp [find]) (by simp [closedT, killT_e, killAs, killA, outQ, Aw.ids]) (by simp [killAs, killA, outQ, Aw.ids]) (by simp [Aw.ids]) ?_; simp only [Aw.ids, List.map_cons, List.map_nil, List.filter_cons, List.filter_nil, List.contains_cons, List.contains_nil, Bool.or_false, Bool.or_true, Bool.not_true, Bool.not_false, Nat.reduceBEq, Bool.false_eq_true, if_true, if_false, List.cons_append, List.nil_append]; simp only [go_sem, seval]
 refine hK _ ?_; clear hK K
 refine gC fun K hK => ?_
 refine fcall_src (hN) rfl rfl ?_; simp only [go_sem, seval]
 (repeat refine aI (hb := ?_))
 refine fcall_src (hM) rfl rfl ?_; simp only [go_sem, seval]
 (repeat refine aI (hb := ?_))
 refine fcall_box (hP) (by simp [Aw.ids]) (by simp [find]) (by simp [closedT, killT_e, killAs, killA, outQ, Aw.ids]) (by simp [killAs, killA, outQ, Aw.ids]) (by simp [Aw.ids]) ?_; simp only [Aw.ids, List.map_cons, List.map_nil, List.filter_cons, List.filter_nil, List.contains_cons, List.contains_nil, Bool.or_false, Bool.or_true, Bool.not_true, Bool.not_false, Nat.reduceBEq, Bool.false_eq_true, if_true, if_false, List.cons_append, List.nil_append]; simp only [go_sem, seval]
 refine hK _ ?_; clear hK K
 exact ats_ret ⟨.inr rfl, .tup [.int (1 + 2 * q.1 + r.1.tdiv 15), .int v], by simp only [resL, resA, go_sem, seval], rfl⟩
theorem DrawSp_ok (c : List Int) (hc : CodeOk c) : ∃ k m : Int, PureCall Try.prog 13 [.lv (bsV c)] (.tup [.int k, .int m]) := by
 have hF := from_ok c hc.len hc.byte
 have ok0 := frS_ok hc.len hc.byte
 generalize frS c = s at *
 have hN := next_ok s ok0 18 (by decide)
 have b1 := nx_bd s (n := 18) (by decide)
 have ok1 := nx_ok ok0 18
 generalize nx s 18 = q at *
 have hM := next_ok q.2 ok1 24 (by decide)
 have b2 := nx_bd q.2 (n := 24) (by decide)
 have ok2 := nx_ok ok1 24
 generalize nx q.2 24 = r at *
 have hL := next_ok r.2 ok2 1001 (by decide)
 have b4 := nx_bd r.2 (n := 1001) (by decide)
 have ok3 := nx_ok ok2 1001
 generalize nx r.2 1001 = w at *
 have b3 : -1 ≤ r.1.tdiv 23 ∧ r.1.tdiv 23 ≤ 24 := by
  have := Int.tdiv_eq_ediv_of_nonneg (b := 23) b2.1
  omega
 have hP := pick1_ok w.2 ok3 [1, 1, 3, 5, 7, 1 + w.1, 0] (show 1 ≤ 7 by decide) (show 7 ≤ 1048576 by decide)
 rw [show (([1, 1, 3, 5, 7, 1 + w.1, 0] : List Int).length : Int) = 7 from rfl] at hP
 generalize nx w.2 7 = p at *
 obtain ⟨v, ev⟩ : ∃ v, ([1, 1, 3, 5, 7, 1 + w.1, 0] : List Int).getD p.1.toNat 0 = v := ⟨_, rfl⟩
 rw [ev] at hP
 clear ev
 refine ⟨q.1 - r.1.tdiv 23, v, ?_⟩
 refine PureCall.introR (n := 19) (rs := [.tmp 2, .tmp 3]) Try.call13 Try.func13 rfl rfl rfl (by simp only [List.length_cons, List.length_nil]; omega) (fun cx hcx hrd => ats_of ?_); simp only [argSlots, Nat.zero_add, Nat.reduceAdd]
 refine gB ?_
 refine gC fun K hK => ?_
 refine fcall_box (hF) (by simp [Aw.ids]) (by simp [find]) (by simp [closedT, killT_e, killAs, killA, outQ, Aw.ids]) (by simp [killAs, killA, outQ, Aw.ids]) (by simp [Aw.ids]) ?_; simp only [Aw.ids, List.map_cons, List.map_nil, List.filter_cons, List.filter_nil, List.contains_cons, List.contains_nil, Bool.or_false, Bool.or_true, Bool.not_true, Bool.not_false, Nat.reduceBEq, Bool.false_eq_true, if_true, if_false, List.cons_append, List.nil_append]; simp only [go_sem, seval]
 refine hK _ ?_; clear hK K
 refine gC fun K hK => ?_
 refine fcall_src (hN) rfl rfl ?_; simp only [go_sem, seval]
 refine fcall_src (hM) rfl rfl ?_; simp only [go_sem, seval]
 (repeat refine aI (hb := ?_))
 refine fcall_src (hL) rfl rfl ?_; simp only [go_sem, seval]
 (repeat refine aI (hb := ?_))
 refine fcall_box (hP) (by simp [Aw.ids]) (by simp [find]) (by simp [closedT, killT_e, killAs, killA, outQ, Aw.ids]) (by simp [killAs, killA, outQ, Aw.ids]) (by simp [Aw.ids]) ?_; simp only [Aw.ids, List.map_cons, List.map_nil, List.filter_cons, List.filter_nil, List.contains_cons, List.contains_nil, Bool.or_false, Bool.or_true, Bool.not_true, Bool.not_false, Nat.reduceBEq, Bool.false_eq_true, if_true, if_false, List.cons_append, List.nil_append]; simp only [go_sem, seval]
 refine hK _ ?_; clear hK K
 exact ats_ret ⟨.inr rfl, .tup [.int (q.1 - r.1.tdiv 23), .int v], by simp only [resL, resA, go_sem, seval], rfl⟩
theorem DrawEsp_ok (c : List Int) (hc : CodeOk c) : ∃ k m : Int, PureCall Try.prog 19 [.lv (bsV c)] (.tup [.int k, .int m]) := by
 have hF := from_ok c hc.len hc.byte
 have ok0 := frS_ok hc.len hc.byte
 generalize frS c = s at *
 have hN := next_ok s ok0 16 (by decide)
 have b1 := nx_bd s (n := 16) (by decide)
 have ok1 := nx_ok ok0 16
 generalize nx s 16 = q at *
 have hM := next_ok q.2 ok1 16 (by decide)
 have b2 := nx_bd q.2 (n := 16) (by decide)
 have ok2 := nx_ok ok1 16
 generalize nx q.2 16 = r at *
 have hL := next_ok r.2 ok2 1001 (by decide)
 have b4 := nx_bd r.2 (n := 1001) (by decide)
 have ok3 := nx_ok ok2 1001
 generalize nx r.2 1001 = w at *
 have b3 : -1 ≤ r.1.tdiv 15 ∧ r.1.tdiv 15 ≤ 16 := by
  have := Int.tdiv_eq_ediv_of_nonneg (b := 15) b2.1
  omega
 have hP := pick1_ok w.2 ok3 [1, 1, 3, 5, 7, 11, 13, 1 + w.1, 0] (show 1 ≤ 9 by decide) (show 9 ≤ 1048576 by decide)
 rw [show (([1, 1, 3, 5, 7, 11, 13, 1 + w.1, 0] : List Int).length : Int) = 9 from rfl] at hP
 generalize nx w.2 9 = p at *
 obtain ⟨v, ev⟩ : ∃ v, ([1, 1, 3, 5, 7, 11, 13, 1 + w.1, 0] : List Int).getD p.1.toNat 0 = v := ⟨_, rfl⟩
 rw [ev] at hP
 clear ev
 refine ⟨1 + 2 * q.1 + r.1.tdiv 15, v, ?_⟩
 refine PureCall.introR (n := 21) (rs := [.tmp 2, .tmp 3]) Try.call19 Try.func19 rfl rfl rfl (by simp only [List.length_cons, List.length_nil]; omega) (fun cx hcx hrd => ats_of ?_); simp only [argSlots, Nat.zero_add, Nat.reduceAdd]
 refine gB ?_
 refine gC fun K hK => ?_
 refine fcall_box (hF) (by simp [Aw.ids]) (by simp [find]) (by simp [closedT, killT_e, killAs, killA, outQ, Aw.ids]) (by simp [killAs, killA, outQ, Aw.ids]) (by simp [Aw.ids]) ?_; simp only [Aw.ids, List.map_cons, List.map_nil, List.filter_cons, List.filter_nil, List.contains_cons, List.contains_nil, Bool.or_false, Bool.or_true, Bool.not_true, Bool.not_false, Nat.reduceBEq, Bool.false_eq_true, if_true, if_false, List.cons_append, List.nil_append]; simp only [go_sem, seval]
 refine hK _ ?_; clear hK K
 refine gC fun K hK => ?_
 refine fcall_src (hN) rfl rfl ?_; simp only [go_sem, seval]
 (repeat refine aI (hb := ?_))
 refine fcall_src (hM) rfl rfl ?_; simp only [go_sem, seval]
 (repeat refine aI (hb := ?_))
 refine fcall_src (hL) rfl rfl ?_; simp only [go_sem, seval]
 (repeat refine aI (hb := ?_))
 refine fcall_box (hP) (by simp [Aw.ids]) (by simp [find]) (by simp [closedT, killT_e, killAs, killA, outQ, Aw.ids]) (by simp [killAs, killA, outQ, Aw.ids]) (by simp [Aw.ids]) ?_; simp only [Aw.ids, List.map_cons, List.map_nil, List.filter_cons, List.filter_nil, List.contains_cons, List.contains_nil, Bool.or_false, Bool.or_true, Bool.not_true, Bool.not_false, Nat.reduceBEq, Bool.false_eq_true, if_true, if_false, List.cons_append, List.nil_append]; simp only [go_sem, seval]
 refine hK _ ?_; clear hK K
 exact ats_ret ⟨.inr rfl, .tup [.int (1 + 2 * q.1 + r.1.tdiv 15), .int v], by simp only [resL, resA, go_sem, seval], rfl⟩
end Go.Proofs.Ytkdadpdmnmjikaa
namespace Go.Proofs.Ytkdadpdmnmjikaa
open Go Go.Aw Go.Pl
theorem datE_nil {P : Program} {f : FuncId} {ds : List AV} {c : Int} (h : PureCall P f ds (.tup [.agg [.nil, .nil], .int c])) : PureCall P f ds (.tup [.agg [.l2 [], .l1 []], .int c]) :=
 pure_le h (avLe_tup (avsLe_cons (avLe_agg (avsLe_cons avLe_nil2 (avsLe_cons avLe_nil1 (avsLe_rfl _)))) (avsLe_rfl _)))
theorem fb_any (k : Int) : ∃ (S : List (List Int)) (T : List Int) (c : Int), PureCall Try.prog 6 [.int k] (.tup [.agg [.l2 S, .l1 T], .int c]) ∧ PureCall Try.prog 7 [.int k] (.tup [.agg [.l2 S, .l1 T], .int c]) ∧ (c = 0 → isData S T = true) := by
 have h1 := implFbd_ok k
 have h2 := specFbd_ok k
 unfold fdA at h1 h2
 by_cases hk : 1 ≤ k ∧ k ≤ 4
 ·rw [if_pos hk] at h1 h2
  refine ⟨_, _, _, h1, h2, fun _ => ?_⟩
  have hv := List.all_eq_true.1 fb_all (k.toNat - 1) (List.mem_range.2 (by omega))
  rw [show k.toNat - 1 + 1 = k.toNat by omega] at hv
  exact (spn_data (k := 3) (st := 2) (.inr ⟨rfl, by omega⟩) rfl hv).1
 ·rw [if_neg hk] at h1 h2
  exact ⟨_, _, _, datE_nil h1, datE_nil h2, fun h => absurd h (by decide)⟩
theorem ig_any (v s : Int) : ∃ (S : List (List Int)) (T : List Int) (c : Int), PureCall Try.prog 11 [.int v, .int s] (.tup [.agg [.l2 S, .l1 T], .int c]) ∧ PureCall Try.prog 12 [.int v, .int s] (.tup [.agg [.l2 S, .l1 T], .int c]) ∧ (c = 0 → isData S T = true) := by
 have h1 := implIg_ok v s
 have h2 := specIg_ok v s
 unfold igA at h1 h2
 cases hb : igB v s with
 | true =>
  rw [hb, if_pos rfl] at h1 h2
  refine ⟨_, _, _, h1, h2, fun _ => ?_⟩
  have hb' : ((1 ≤ v ∧ v ≤ 15) ∧ ¬ v.tmod 2 = 0) ∧ (s = 1 ∨ s = -1) := by
   unfold igB at hb
   simpa only [Bool.and_eq_true, Bool.or_eq_true, Bool.not_eq_true', decide_eq_true_eq, decide_eq_false_iff_not] using hb
  obtain ⟨⟨hb1, hb2⟩, hb3⟩ := hb'
  have e1 := Int.tmod_eq_emod_of_nonneg (b := 2) (show 0 ≤ v by omega)
  rw [e1] at hb2
  obtain ⟨i, hi, ei⟩ : ∃ i, i < 8 ∧ v.toNat = 2 * i + 1 := ⟨(v.toNat - 1) / 2, by omega, by omega⟩
  rw [ei]
  have key : ∀ j, j < 2 → isData (cL2 (igS (igD j))) (cL1 (igT (2 * i + 1))) = true := fun j hj => by
   have hv := List.all_eq_true.1 (List.all_eq_true.1 is_all j (List.mem_range.2 hj)) i (List.mem_range.2 hi)
   exact (spn_data (k := 2) (st := 1) (.inl ⟨rfl, by omega⟩) rfl hv).1
  unfold igN
  by_cases h : s = 1
  ·rw [if_pos h]; exact key 0 (by omega)
  ·rw [if_neg h]; exact key 1 (by omega)
 | false =>
  rw [hb, if_neg (by simp)] at h1 h2
  exact ⟨_, _, _, datE_nil h1, datE_nil h2, fun h => absurd h (by decide)⟩
theorem spOk_iff {k m : Nat} (h : spOk k m = true) : 55440 % (4 * (k + 2)) = 0 ∧ Nat.gcd m (4 * (k + 2)) = 1 := by
 unfold spOk at h
 simpa only [Bool.and_eq_true, decide_eq_true_eq] using h
theorem rg_spin {st k m : Nat} (hst : st = 1 ∧ k ≤ 15 ∨ st = 2 ∧ k ≤ 31 ∧ k % 2 = 1) (ho : spOk k m = true) :
  FreshCall Try.prog 16 [.agg [.l2 (spSI (k / st + 1) st (zI k m * zI k m % 55441)), .l1 (spTI (k / st + 1) st (zI k m))]] (.tup [.agg [.l3 (spnT k st)], .int 0]) := by
 obtain ⟨g1, g2⟩ := spOk_iff ho
 obtain ⟨d1, d2⟩ := spin_data hst g1 g2
 have h := implRg_ok (spSI (k / st + 1) st (zI k m * zI k m % 55441)) (spTI (k / st + 1) st (zI k m))
 unfold rgA at h
 have hl : (spTI (k / st + 1) st (zI k m)).length = k / st + 1 := rowF_length _ _
 rw [d1, if_pos rfl, hl, d2] at h
 exact h
theorem sp_any (k m : Int) : ∃ (S : List (List Int)) (T : List Int) (c : Int), PureCall Try.prog 14 [.int k, .int m] (.tup [.agg [.l2 S, .l1 T], .int c]) ∧ PureCall Try.prog 15 [.int k, .int m] (.tup [.agg [.l2 S, .l1 T], .int c]) ∧
  (c = 0 → ∃ R : Cu, FreshCall Try.prog 16 [.agg [.l2 S, .l1 T]] (.tup [.agg [.l3 R], .int 0]) ∧ PureCall Try.prog 17 [.int k] (.tup [.agg [.l3 R], .int 0])) := by
 have h1 := implSsd_ok k m
 have h2 := specSsd_ok k m
 have h3 := implSpin_ok k
 unfold sp1A at h1 h2
 cases hb : sp1B k m with
 | false =>
  rw [hb, if_neg (by simp)] at h1 h2
  exact ⟨_, _, _, datE_nil h1, datE_nil h2, fun h => absurd h (by decide)⟩
 | true =>
  rw [hb, if_pos rfl] at h1 h2
  unfold sp1B at hb
  simp only [Bool.and_eq_true, decide_eq_true_eq] at hb
  unfold sdA at h1 h2
  cases ho : spOk k.toNat m.toNat with
  | false =>
   rw [ho, if_neg (by simp)] at h1 h2
   exact ⟨_, _, _, datE_nil h1, datE_nil h2, fun h => absurd h (by decide)⟩
  | true =>
   rw [ho, if_pos rfl] at h1 h2
   refine ⟨_, _, _, h1, h2, fun _ => ⟨spnT k.toNat 1, rg_spin (.inl ⟨rfl, by omega⟩) ho, ?_⟩⟩
   unfold spR1 at h3
   rw [if_pos hb.1] at h3
   exact h3
theorem esp_any (k m : Int) : ∃ (S : List (List Int)) (T : List Int) (c : Int), PureCall Try.prog 20 [.int k, .int m] (.tup [.agg [.l2 S, .l1 T], .int c]) ∧ PureCall Try.prog 21 [.int k, .int m] (.tup [.agg [.l2 S, .l1 T], .int c]) ∧
  (c = 0 → ∃ R : Cu, FreshCall Try.prog 16 [.agg [.l2 S, .l1 T]] (.tup [.agg [.l3 R], .int 0]) ∧ PureCall Try.prog 22 [.int k] (.tup [.agg [.l3 R], .int 0])) := by
 have h1 := implEsd_ok k m
 have h2 := specEsd_ok k m
 have h3 := implEven_ok k
 unfold sp2A at h1 h2
 cases hb : sp2B k m with
 | false =>
  rw [hb, if_neg (by simp)] at h1 h2
  exact ⟨_, _, _, datE_nil h1, datE_nil h2, fun h => absurd h (by decide)⟩
 | true =>
  rw [hb, if_pos rfl] at h1 h2
  have hb' : ((1 ≤ k ∧ k ≤ 31) ∧ ¬ k.tmod 2 = 0) ∧ (1 ≤ m ∧ m ≤ 1000) := by
   unfold sp2B at hb
   simpa only [Bool.and_eq_true, Bool.not_eq_true', decide_eq_true_eq, decide_eq_false_iff_not] using hb
  obtain ⟨⟨hb1, hb2⟩, hb3⟩ := hb'
  have e1 := Int.tmod_eq_emod_of_nonneg (b := 2) (show 0 ≤ k by omega)
  rw [e1] at hb2
  unfold sdA at h1 h2
  cases ho : spOk k.toNat m.toNat with
  | false =>
   rw [ho, if_neg (by simp)] at h1 h2
   exact ⟨_, _, _, datE_nil h1, datE_nil h2, fun h => absurd h (by decide)⟩
  | true =>
   rw [ho, if_pos rfl] at h1 h2
   refine ⟨_, _, _, h1, h2, fun _ => ⟨spnT k.toNat 2, rg_spin (.inr ⟨rfl, by omega, by omega⟩) ho, ?_⟩⟩
   unfold spR2 at h3
   rw [if_pos (by omega)] at h3
   exact h3
theorem eqF_at {A B : List (List Nat)} (hA : A.length = 2) (hB : B.length = 2) (h0 : eqF (A.getD 0 []) (B.getD 0 []) = true) (h1 : eqF (A.getD 1 []) (B.getD 1 []) = true) : A = B := by
 rw [eqF_eq] at h0 h1
 have e0 := eqN_eq h0
 have e1 := eqN_eq h1
 match A, B, hA, hB with
 | [a, b], [c, d], _, _ =>
  have e0 : a = c := e0
  have e1 : b = d := e1
  rw [e0, e1]
def fbI (i : Nat) : List (List Int) := cL2 (fbS (fbZ i))
def fbJ (i : Nat) : List Int := cL1 (fbT (fbZ i))
theorem lv_one {m : Nat} (hm : m ∈ lv3) : PureCall Try.prog 20 [.int 3, .int (m : Int)] (.tup [.agg [.l2 (cL2 (lvS m)), .l1 (cL1 (spTN 2 2 (lvZ m)))], .int 0]) := by
 have h1 := implEsd_ok 3 m
 have hb : (1 ≤ m ∧ m < 20) ∧ spOk 3 m = true := by
  simp only [lv3, List.mem_cons, List.not_mem_nil, or_false] at hm
  rcases hm with rfl | rfl | rfl | rfl | rfl | rfl | rfl | rfl <;> decide
 have hB : sp2B 3 m = true := by
  unfold sp2B
  rw [decide_eq_true (show (1 : Int) ≤ m by omega), decide_eq_true (show (m : Int) ≤ 1000 by omega)]
  rfl
 unfold sp2A at h1
 rw [hB, if_pos rfl] at h1
 unfold sdA at h1
 rw [Int.toNat_natCast, show (3 : Int).toNat = 3 from rfl, hb.2, if_pos rfl] at h1
 have e1 : zI 3 m = ((lvZ m : Nat) : Int) := by
  have := zI_nat (k := 3) (m := m) (by omega) rfl
  rw [this, show m % (4 * (3 + 2)) = m from Nat.mod_eq_of_lt hb.1.2]
  rfl
 have hz : lvZ m < 55441 := Nat.mod_lt _ (by omega)
 have hq : ((lvZ m : Nat) : Int) * ((lvZ m : Nat) : Int) % 55441 = ((lvQ m : Nat) : Int) := by
  rw [← Int.natCast_mul]
  exact (Int.natCast_emod _ _).symm
 rw [e1, hq, show 3 / 2 + 1 = 2 from rfl, spS_nat (q := lvQ m) (Nat.mod_lt _ (by omega)), spT_nat hz] at h1
 exact h1
theorem lv_fb {m : Nat} (hm : m ∈ lv3) : ∃ i, i < 4 ∧ cL2 (lvS m) = fbI (i + 1) ∧ cL1 (spTN 2 2 (lvZ m)) = fbJ (i + 1) := by
 have h := List.all_eq_true.1 lv_all m hm
 obtain ⟨i, hi, hb⟩ := List.any_eq_true.1 h
 simp only [Bool.and_eq_true] at hb
 obtain ⟨⟨h1, h2⟩, h3⟩ := hb
 rw [eqF_eq] at h3
 have e1 : lvS m = fbS (fbZ (i + 1)) := eqF_at (by unfold lvS spSN; rw [List.length_map, List.length_range]) rfl h1 h2
 exact ⟨i, List.mem_range.1 hi, by unfold fbI; rw [e1], by unfold fbJ; rw [eqN_eq h3]⟩
def lv3I : List Int := [1, 3, 7, 9, 11, 13, 17, 19]
theorem lv_any {j : Nat} (hj : j < 8) : ∃ (S : List (List Int)) (T : List Int), PureCall Try.prog 20 [.int 3, .int (lv3I.getD j 0)] (.tup [.agg [.l2 S, .l1 T], .int 0]) ∧ ∃ i, i < 4 ∧ S = fbI (i + 1) ∧ T = fbJ (i + 1) := by
 have hm : lv3.getD j 0 ∈ lv3 ∧ lv3I.getD j 0 = ((lv3.getD j 0 : Nat) : Int) := by
  match j, hj with
  | 0, _ => decide
  | 1, _ => decide
  | 2, _ => decide
  | 3, _ => decide
  | 4, _ => decide
  | 5, _ => decide
  | 6, _ => decide
  | 7, _ => decide
 rw [hm.2]
 exact ⟨_, _, lv_one hm.1, lv_fb hm.1⟩
theorem fb_at (n : Nat) (hn : n < 4) : PureCall Try.prog 6 [.int ((n : Int) + 1)] (.tup [.agg [.l2 (fbI (n + 1)), .l1 (fbJ (n + 1))], .int 0]) := by
 have h := implFbd_ok ((n : Int) + 1)
 unfold fdA at h
 rw [if_pos (by omega), show ((n : Int) + 1).toNat = n + 1 by omega] at h
 exact h
def fndB (S : List (List Int)) (T : List Int) : Nat → Bool
 | 0 => false
 | n + 1 => fndB S T n || (decide (S = fbI (n + 1)) && decide (T = fbJ (n + 1)))
theorem fnd_at {S : List (List Int)} {T : List Int} {i : Nat} (h1 : S = fbI (i + 1)) (h2 : T = fbJ (i + 1)) : ∀ n, i < n → fndB S T n = true
 | n + 1, h => by
  unfold fndB
  by_cases e : i = n
  ·subst e
   rw [decide_eq_true h1, decide_eq_true h2, Bool.and_true, Bool.or_true]
  ·rw [fnd_at h1 h2 n (by omega), Bool.true_or]
end Go.Proofs.Ytkdadpdmnmjikaa
namespace Go.Proofs.Ytkdadpdmnmjikaa
open Go Go.Aw Go.Pl
set_option maxRecDepth 100000 in
set_option maxHeartbeats 4000000 in
theorem fnNamedData_ok (c : List Int) (hb : ByteOk c) : PureCall Try.prog 3 [.lv (bsV c)] (.bool true) := by
 have hbig := big_ok c
 by_cases hlen : 4096 < c.length
 ·rw [decide_eq_true hlen] at hbig
  refine PureCall.intro (n := 241) (rs := [.tmp 2]) Try.call3 Try.func3 rfl rfl rfl (by simp only [List.length_cons, List.length_nil]; omega) (fun cx hcx => ats_of ?_); simp only [argSlots, Nat.zero_add, Nat.reduceAdd]
  refine gB ?_
  refine gC fun K hK => ?_
  refine fcall_data (hbig) (by first | rfl | simp only [areData, Aw.isData, areData_bsV, Bool.and_true]) ?_; simp only [go_sem, seval]
  refine hK _ ?_; clear hK K
  (repeat refine ats_seq ?_); refine ats_yes rfl trivial ?_
  refine gB ?_
  refine ats_ret (finB rfl ?_)
  rfl
 ·rw [decide_eq_false hlen] at hbig
  have hc : CodeOk c := ⟨by omega, hb⟩
  obtain ⟨k1, hD1⟩ := DrawFb_ok c hc
  obtain ⟨k2, m2, hD2⟩ := DrawIg_ok c hc
  obtain ⟨k3, m3, hD3⟩ := DrawSp_ok c hc
  obtain ⟨k4, m4, hD4⟩ := DrawEsp_ok c hc
  obtain ⟨S1, T1, c1, a1, b1, g1⟩ := fb_any k1
  obtain ⟨S2, T2, c2, a2, b2, g2⟩ := ig_any k2 m2
  obtain ⟨S3, T3, c3, a3, b3, g3⟩ := sp_any k3 m3
  obtain ⟨S4, T4, c4, a4, b4, g4⟩ := esp_any k4 m4
  have r1 := data9_ok S1 S1 T1 T1
  have r2 := data9_ok S2 S2 T2 T2
  have r3 := data9_ok S3 S3 T3 T3
  have r4 := data9_ok S4 S4 T4 T4
  rw [decide_eq_true rfl, decide_eq_true rfl, Bool.and_true] at r1 r2 r3 r4
  have i1 := IsData_ok S1 T1
  have i2 := IsData_ok S2 T2
  refine PureCall.intro (n := 241) (rs := [.tmp 2]) Try.call3 Try.func3 rfl rfl rfl (by simp only [List.length_cons, List.length_nil]; omega) (fun cx hcx => ats_of ?_); simp only [argSlots, Nat.zero_add, Nat.reduceAdd]
  refine gB ?_
  refine gC fun K hK => ?_
  refine fcall_data (hbig) (by first | rfl | simp only [areData, Aw.isData, areData_bsV, Bool.and_true]) ?_; simp only [go_sem, seval]
  refine hK _ ?_; clear hK K
  (repeat refine ats_seq ?_); refine ats_no rfl trivial ?_
  refine ats_skip ?_
  refine gC fun K hK => ?_
  refine fcall_data (hD1) (by first | rfl | simp only [areData, Aw.isData, areData_bsV, Bool.and_true]) ?_; simp only [go_sem, seval]
  refine hK _ ?_; clear hK K
  refine gC fun K hK => ?_
  first | refine fcall_data (a1) rfl ?_ | refine YR_intro (acall_data (a1) rfl) ?_
  simp only [go_sem, seval]
  refine hK _ ?_; clear hK K
  refine gC fun K hK => ?_
  first | refine fcall_data (b1) rfl ?_ | refine YR_intro (acall_data (b1) rfl) ?_
  simp only [go_sem, seval]
  refine hK _ ?_; clear hK K
  (repeat refine ats_seq ?_)
  refine ats_upto ⟨[(0, .lv (bsV c)), (2, .bool false), (72, .bool false)], []⟩ ?_ ?_
  ·by_cases h1 : c1 = 0
   ·rw [g1 h1] at i1
    subst h1
    (repeat refine ats_seq ?_); refine ats_go (fix0 hcx) fun K hK => ?_; simp only [go_sem, seval, decide_true, Bool.not_true]
    first | refine YR_intro (fun _ => acall_data (r1) rfl) ?_ | refine YR_intro (acall_data (r1) rfl) ?_
    simp only [go_sem, seval]
    simp only [go_sem, seval, decide_true, Bool.not_true]
    first | refine YR_intro (fun _ => acall_data (i1) rfl) ?_ | refine YR_intro (acall_data (i1) rfl) ?_
    simp only [go_sem, seval]
    refine hK _ ?_; clear hK K
    refine ats_nil ?_; refine Or.inl ⟨rfl, ghost_trans (ghost_drop [0, 1]) (ghost_can [] (by simp only [killL, killA, killAs, killAs_bsV, qOf, rmT, killH, killT, List.filter_cons, List.filter_nil, List.contains_cons, List.contains_nil, Bool.or_false, Bool.or_true, Bool.false_and, Bool.not_true, Bool.not_false, Bool.false_eq_true, if_true, if_false, rnLs, rnL, rn, rns, rns_bsV, sw, SlotsLe, St.get, slotGet, List.map_cons, List.map_nil, seval, AV.int.injEq, AV.bool.injEq, AV.l1.injEq, AV.l2.injEq, AV.l3.injEq, true_and, and_true]) (by simp only [killL, killA, killAs, killAs_bsV, qOf, rmT, killH, killT, List.filter_cons, List.filter_nil, List.contains_cons, List.contains_nil, Bool.or_false, Bool.or_true, Bool.false_and, Bool.not_true, Bool.not_false, Bool.false_eq_true, if_true, if_false, sortH, insH, rnHs, rnH, rnT, rn, rns, rns_bsV, sw, List.map_cons, List.map_nil, seval]))⟩
   ·have h1' := eq_false h1
    (repeat refine ats_seq ?_); refine ats_go (fix0 hcx) fun K hK => ?_; simp only [go_sem, seval, decide_true, Bool.not_true]
    first | refine YR_intro (fun _ => acall_data (r1) rfl) ?_ | refine YR_intro (acall_data (r1) rfl) ?_
    simp only [go_sem, seval]
    simp only [go_sem, seval, decide_true, Bool.not_true, h1', decide_false]
    refine YR_intro (v := .bool true) (by first | trivial | (intro h; cases h)) ?_
    simp only [go_sem, seval, decide_true, Bool.not_true, h1', decide_false]
    refine hK _ ?_; clear hK K
    refine ats_nil ?_; refine Or.inl ⟨rfl, ghost_trans (ghost_drop [0, 1]) (ghost_can [] (by simp only [killL, killA, killAs, killAs_bsV, qOf, rmT, killH, killT, List.filter_cons, List.filter_nil, List.contains_cons, List.contains_nil, Bool.or_false, Bool.or_true, Bool.false_and, Bool.not_true, Bool.not_false, Bool.false_eq_true, if_true, if_false, rnLs, rnL, rn, rns, rns_bsV, sw, SlotsLe, St.get, slotGet, List.map_cons, List.map_nil, seval, AV.int.injEq, AV.bool.injEq, AV.l1.injEq, AV.l2.injEq, AV.l3.injEq, true_and, and_true]) (by simp only [killL, killA, killAs, killAs_bsV, qOf, rmT, killH, killT, List.filter_cons, List.filter_nil, List.contains_cons, List.contains_nil, Bool.or_false, Bool.or_true, Bool.false_and, Bool.not_true, Bool.not_false, Bool.false_eq_true, if_true, if_false, sortH, insH, rnHs, rnH, rnT, rn, rns, rns_bsV, sw, List.map_cons, List.map_nil, seval]))⟩
  (repeat refine ats_seq ?_); refine ats_no rfl trivial ?_
  refine ats_skip ?_
  clear a1 b1 g1 r1 i1 hD1
  refine gC fun K hK => ?_
  refine fcall_data (hD2) (by first | rfl | simp only [areData, Aw.isData, areData_bsV, Bool.and_true]) ?_; simp only [go_sem, seval]
  refine hK _ ?_; clear hK K
  refine gC fun K hK => ?_
  first | refine fcall_data (a2) rfl ?_ | refine YR_intro (acall_data (a2) rfl) ?_
  simp only [go_sem, seval]
  refine hK _ ?_; clear hK K
  refine gC fun K hK => ?_
  first | refine fcall_data (b2) rfl ?_ | refine YR_intro (acall_data (b2) rfl) ?_
  simp only [go_sem, seval]
  refine hK _ ?_; clear hK K
  (repeat refine ats_seq ?_)
  refine ats_upto ⟨[(0, .lv (bsV c)), (2, .bool false), (107, .bool false)], []⟩ ?_ ?_
  ·by_cases h1 : c2 = 0
   ·rw [g2 h1] at i2
    subst h1
    (repeat refine ats_seq ?_); refine ats_go (fix0 hcx) fun K hK => ?_; simp only [go_sem, seval, decide_true, Bool.not_true]
    first | refine YR_intro (fun _ => acall_data (r2) rfl) ?_ | refine YR_intro (acall_data (r2) rfl) ?_
    simp only [go_sem, seval]
    simp only [go_sem, seval, decide_true, Bool.not_true]
    first | refine YR_intro (fun _ => acall_data (i2) rfl) ?_ | refine YR_intro (acall_data (i2) rfl) ?_
    simp only [go_sem, seval]
    refine hK _ ?_; clear hK K
    refine ats_nil ?_; refine Or.inl ⟨rfl, ghost_trans (ghost_drop [0, 1]) (ghost_can [] (by simp only [killL, killA, killAs, killAs_bsV, qOf, rmT, killH, killT, List.filter_cons, List.filter_nil, List.contains_cons, List.contains_nil, Bool.or_false, Bool.or_true, Bool.false_and, Bool.not_true, Bool.not_false, Bool.false_eq_true, if_true, if_false, rnLs, rnL, rn, rns, rns_bsV, sw, SlotsLe, St.get, slotGet, List.map_cons, List.map_nil, seval, AV.int.injEq, AV.bool.injEq, AV.l1.injEq, AV.l2.injEq, AV.l3.injEq, true_and, and_true]) (by simp only [killL, killA, killAs, killAs_bsV, qOf, rmT, killH, killT, List.filter_cons, List.filter_nil, List.contains_cons, List.contains_nil, Bool.or_false, Bool.or_true, Bool.false_and, Bool.not_true, Bool.not_false, Bool.false_eq_true, if_true, if_false, sortH, insH, rnHs, rnH, rnT, rn, rns, rns_bsV, sw, List.map_cons, List.map_nil, seval]))⟩
   ·have h1' := eq_false h1
    (repeat refine ats_seq ?_); refine ats_go (fix0 hcx) fun K hK => ?_; simp only [go_sem, seval, decide_true, Bool.not_true]
    first | refine YR_intro (fun _ => acall_data (r2) rfl) ?_ | refine YR_intro (acall_data (r2) rfl) ?_
    simp only [go_sem, seval]
    simp only [go_sem, seval, decide_true, Bool.not_true, h1', decide_false]
    refine YR_intro (v := .bool true) (by first | trivial | (intro h; cases h)) ?_
    simp only [go_sem, seval, decide_true, Bool.not_true, h1', decide_false]
    refine hK _ ?_; clear hK K
    refine ats_nil ?_; refine Or.inl ⟨rfl, ghost_trans (ghost_drop [0, 1]) (ghost_can [] (by simp only [killL, killA, killAs, killAs_bsV, qOf, rmT, killH, killT, List.filter_cons, List.filter_nil, List.contains_cons, List.contains_nil, Bool.or_false, Bool.or_true, Bool.false_and, Bool.not_true, Bool.not_false, Bool.false_eq_true, if_true, if_false, rnLs, rnL, rn, rns, rns_bsV, sw, SlotsLe, St.get, slotGet, List.map_cons, List.map_nil, seval, AV.int.injEq, AV.bool.injEq, AV.l1.injEq, AV.l2.injEq, AV.l3.injEq, true_and, and_true]) (by simp only [killL, killA, killAs, killAs_bsV, qOf, rmT, killH, killT, List.filter_cons, List.filter_nil, List.contains_cons, List.contains_nil, Bool.or_false, Bool.or_true, Bool.false_and, Bool.not_true, Bool.not_false, Bool.false_eq_true, if_true, if_false, sortH, insH, rnHs, rnH, rnT, rn, rns, rns_bsV, sw, List.map_cons, List.map_nil, seval]))⟩
  (repeat refine ats_seq ?_); refine ats_no rfl trivial ?_
  refine ats_skip ?_
  clear a2 b2 g2 r2 i2 hD2
  refine gC fun K hK => ?_
  refine fcall_data (hD3) (by first | rfl | simp only [areData, Aw.isData, areData_bsV, Bool.and_true]) ?_; simp only [go_sem, seval]
  refine hK _ ?_; clear hK K
  refine gC fun K hK => ?_
  first | refine fcall_data (a3) rfl ?_ | refine YR_intro (acall_data (a3) rfl) ?_
  simp only [go_sem, seval]
  refine hK _ ?_; clear hK K
  refine gC fun K hK => ?_
  first | refine fcall_data (b3) rfl ?_ | refine YR_intro (acall_data (b3) rfl) ?_
  simp only [go_sem, seval]
  refine hK _ ?_; clear hK K
  (repeat refine ats_seq ?_); refine ats_go (fix0 hcx) fun K hK => ?_; simp only [go_sem, seval, decide_true, Bool.not_true]
  first | refine YR_intro (fun _ => acall_data (r3) rfl) ?_ | refine YR_intro (acall_data (r3) rfl) ?_
  simp only [go_sem, seval]
  refine hK _ ?_; clear hK K
  (repeat refine ats_seq ?_); refine ats_no rfl trivial ?_
  refine ats_skip ?_
  refine gB ?_
  (repeat refine ats_seq ?_)
  refine ats_upto ⟨[(0, .lv (bsV c)), (2, .bool false)], []⟩ ?_ ?_
  ·refine gI (fun h1 => ?_) fun h1 => ?_
   ·obtain ⟨R, u1, u2⟩ := g3 h1
    have rr := ring9_ok R R
    rw [decide_eq_true rfl] at rr
    refine gC fun K hK => ?_
    first | refine fcall_fresh rfl (u1) ?_ | refine YR_intro (acall_fresh rfl (u1)) ?_
    simp only [go_sem, seval]
    refine hK _ ?_; clear hK K
    refine gC fun K hK => ?_
    first | refine fcall_data (u2) rfl ?_ | refine YR_intro (acall_data (u2) rfl) ?_
    simp only [go_sem, seval]
    refine hK _ ?_; clear hK K
    (repeat refine ats_seq ?_); refine ats_go (fix0 hcx) fun K hK => ?_; simp only [go_sem, seval, decide_true, Bool.not_true]
    first | refine YR_intro (fun _ => acall_data (rr) rfl) ?_ | refine YR_intro (acall_data (rr) rfl) ?_
    simp only [go_sem, seval]
    refine hK _ ?_; clear hK K
    (repeat refine ats_seq ?_); refine ats_no rfl trivial ?_
    refine ats_skip ?_
    refine ats_nil ?_; refine Or.inl ⟨rfl, ghost_trans (ghost_drop [0, 1, 2, 3]) (ghost_can [] (by simp only [killL, killA, killAs, killAs_bsV, qOf, rmT, killH, killT, List.filter_cons, List.filter_nil, List.contains_cons, List.contains_nil, Bool.or_false, Bool.or_true, Bool.false_and, Bool.not_true, Bool.not_false, Bool.false_eq_true, if_true, if_false, rnLs, rnL, rn, rns, rns_bsV, sw, SlotsLe, St.get, slotGet, List.map_cons, List.map_nil, seval, AV.int.injEq, AV.bool.injEq, AV.l1.injEq, AV.l2.injEq, AV.l3.injEq, true_and, and_true]) (by simp only [killL, killA, killAs, killAs_bsV, qOf, rmT, killH, killT, List.filter_cons, List.filter_nil, List.contains_cons, List.contains_nil, Bool.or_false, Bool.or_true, Bool.false_and, Bool.not_true, Bool.not_false, Bool.false_eq_true, if_true, if_false, sortH, insH, rnHs, rnH, rnT, rn, rns, rns_bsV, sw, List.map_cons, List.map_nil, seval]))⟩
   ·refine ats_skip ?_
    refine ats_nil ?_; refine Or.inl ⟨rfl, ghost_trans (ghost_drop [0, 1]) (ghost_can [] (by simp only [killL, killA, killAs, killAs_bsV, qOf, rmT, killH, killT, List.filter_cons, List.filter_nil, List.contains_cons, List.contains_nil, Bool.or_false, Bool.or_true, Bool.false_and, Bool.not_true, Bool.not_false, Bool.false_eq_true, if_true, if_false, rnLs, rnL, rn, rns, rns_bsV, sw, SlotsLe, St.get, slotGet, List.map_cons, List.map_nil, seval, AV.int.injEq, AV.bool.injEq, AV.l1.injEq, AV.l2.injEq, AV.l3.injEq, true_and, and_true]) (by simp only [killL, killA, killAs, killAs_bsV, qOf, rmT, killH, killT, List.filter_cons, List.filter_nil, List.contains_cons, List.contains_nil, Bool.or_false, Bool.or_true, Bool.false_and, Bool.not_true, Bool.not_false, Bool.false_eq_true, if_true, if_false, sortH, insH, rnHs, rnH, rnT, rn, rns, rns_bsV, sw, List.map_cons, List.map_nil, seval]))⟩
  clear a3 b3 g3 r3 hD3
  refine gC fun K hK => ?_
  refine fcall_data (hD4) (by first | rfl | simp only [areData, Aw.isData, areData_bsV, Bool.and_true]) ?_; simp only [go_sem, seval]
  refine hK _ ?_; clear hK K
  refine gC fun K hK => ?_
  first | refine fcall_data (a4) rfl ?_ | refine YR_intro (acall_data (a4) rfl) ?_
  simp only [go_sem, seval]
  refine hK _ ?_; clear hK K
  refine gC fun K hK => ?_
  first | refine fcall_data (b4) rfl ?_ | refine YR_intro (acall_data (b4) rfl) ?_
  simp only [go_sem, seval]
  refine hK _ ?_; clear hK K
  (repeat refine ats_seq ?_); refine ats_go (fix0 hcx) fun K hK => ?_; simp only [go_sem, seval, decide_true, Bool.not_true]
  first | refine YR_intro (fun _ => acall_data (r4) rfl) ?_ | refine YR_intro (acall_data (r4) rfl) ?_
  simp only [go_sem, seval]
  refine hK _ ?_; clear hK K
  (repeat refine ats_seq ?_); refine ats_no rfl trivial ?_
  refine ats_skip ?_
  refine gB ?_
  (repeat refine ats_seq ?_)
  refine ats_upto ⟨[(0, .lv (bsV c)), (2, .bool false)], []⟩ ?_ ?_
  ·refine gI (fun h1 => ?_) fun h1 => ?_
   ·obtain ⟨R, u1, u2⟩ := g4 h1
    have rr := ring9_ok R R
    rw [decide_eq_true rfl] at rr
    refine gC fun K hK => ?_
    first | refine fcall_fresh rfl (u1) ?_ | refine YR_intro (acall_fresh rfl (u1)) ?_
    simp only [go_sem, seval]
    refine hK _ ?_; clear hK K
    refine gC fun K hK => ?_
    first | refine fcall_data (u2) rfl ?_ | refine YR_intro (acall_data (u2) rfl) ?_
    simp only [go_sem, seval]
    refine hK _ ?_; clear hK K
    (repeat refine ats_seq ?_); refine ats_go (fix0 hcx) fun K hK => ?_; simp only [go_sem, seval, decide_true, Bool.not_true]
    first | refine YR_intro (fun _ => acall_data (rr) rfl) ?_ | refine YR_intro (acall_data (rr) rfl) ?_
    simp only [go_sem, seval]
    refine hK _ ?_; clear hK K
    (repeat refine ats_seq ?_); refine ats_no rfl trivial ?_
    refine ats_skip ?_
    refine ats_nil ?_; refine Or.inl ⟨rfl, ghost_trans (ghost_drop [0, 1, 2, 3]) (ghost_can [] (by simp only [killL, killA, killAs, killAs_bsV, qOf, rmT, killH, killT, List.filter_cons, List.filter_nil, List.contains_cons, List.contains_nil, Bool.or_false, Bool.or_true, Bool.false_and, Bool.not_true, Bool.not_false, Bool.false_eq_true, if_true, if_false, rnLs, rnL, rn, rns, rns_bsV, sw, SlotsLe, St.get, slotGet, List.map_cons, List.map_nil, seval, AV.int.injEq, AV.bool.injEq, AV.l1.injEq, AV.l2.injEq, AV.l3.injEq, true_and, and_true]) (by simp only [killL, killA, killAs, killAs_bsV, qOf, rmT, killH, killT, List.filter_cons, List.filter_nil, List.contains_cons, List.contains_nil, Bool.or_false, Bool.or_true, Bool.false_and, Bool.not_true, Bool.not_false, Bool.false_eq_true, if_true, if_false, sortH, insH, rnHs, rnH, rnT, rn, rns, rns_bsV, sw, List.map_cons, List.map_nil, seval]))⟩
   ·refine ats_skip ?_
    refine ats_nil ?_; refine Or.inl ⟨rfl, ghost_trans (ghost_drop [0, 1]) (ghost_can [] (by simp only [killL, killA, killAs, killAs_bsV, qOf, rmT, killH, killT, List.filter_cons, List.filter_nil, List.contains_cons, List.contains_nil, Bool.or_false, Bool.or_true, Bool.false_and, Bool.not_true, Bool.not_false, Bool.false_eq_true, if_true, if_false, rnLs, rnL, rn, rns, rns_bsV, sw, SlotsLe, St.get, slotGet, List.map_cons, List.map_nil, seval, AV.int.injEq, AV.bool.injEq, AV.l1.injEq, AV.l2.injEq, AV.l3.injEq, true_and, and_true]) (by simp only [killL, killA, killAs, killAs_bsV, qOf, rmT, killH, killT, List.filter_cons, List.filter_nil, List.contains_cons, List.contains_nil, Bool.or_false, Bool.or_true, Bool.false_and, Bool.not_true, Bool.not_false, Bool.false_eq_true, if_true, if_false, sortH, insH, rnHs, rnH, rnT, rn, rns, rns_bsV, sw, List.map_cons, List.map_nil, seval]))⟩
  clear a4 b4 g4 r4 hD4
  have hS := roll_ok c hc 4019
  have ok0 := rlS_ok (seed := 4019) hc
  generalize rlS c 4019 = s0 at *
  have hJ := below_ok s0 ok0 8 (by decide)
  have bJ := nx_bd s0 (n := 8) (by decide)
  generalize nx s0 8 = j at *
  obtain ⟨y, ey⟩ : ∃ y : Nat, (y : Int) = j.1 := ⟨j.1.toNat, by omega⟩
  rw [← ey] at hJ bJ
  have hy : y < 8 := by omega
  obtain ⟨S, T, hE, i, hi4, eS, eT⟩ := lv_any hy
  have hfnd := fnd_at eS eT 4 hi4
  clear eS eT
  refine gB ?_
  (repeat refine ats_seq ?_); refine AT.ghost (st' := ⟨[(0, .lv (bsV c)), (2, .bool false), (34, .ref 5 [])], [(5, .t1 [1, 3, 7, 9, 11, 13, 17, 19])]⟩) (ghost_trans (ghost_drop []) (ghost_can [(0, 5)] (by simp only [killL, killA, killAs, killAs_bsV, qOf, rmT, killH, killT, List.filter_cons, List.filter_nil, List.contains_cons, List.contains_nil, Bool.or_false, Bool.or_true, Bool.false_and, Bool.not_true, Bool.not_false, Bool.false_eq_true, if_true, if_false, rnLs, rnL, rn, rns, rns_bsV, sw, SlotsLe, St.get, slotGet, List.map_cons, List.map_nil, seval, AV.int.injEq, AV.bool.injEq, AV.l1.injEq, AV.l2.injEq, AV.l3.injEq, true_and, and_true]) (by simp only [killL, killA, killAs, killAs_bsV, qOf, rmT, killH, killT, List.filter_cons, List.filter_nil, List.contains_cons, List.contains_nil, Bool.or_false, Bool.or_true, Bool.false_and, Bool.not_true, Bool.not_false, Bool.false_eq_true, if_true, if_false, sortH, insH, rnHs, rnH, rnT, rn, rns, rns_bsV, sw, List.map_cons, List.map_nil, seval]))) ?_
  have hL8 : lv3I.length = 8 := rfl
  rw [show ([1, 3, 7, 9, 11, 13, 17, 19] : List Int) = lv3I from rfl]
  generalize lv3I = L at *
  refine gC fun K hK => ?_
  refine fcall_box (hS) (by simp [Aw.ids]) (by simp [find]) (by simp [closedT, killT, killAs, killA, outQ, Aw.ids]) (by simp [killAs, killA, outQ, Aw.ids]) (by simp [Aw.ids]) ?_; simp only [Aw.ids, List.map_cons, List.map_nil, List.filter_cons, List.filter_nil, List.contains_cons, List.contains_nil, Bool.or_false, Bool.or_true, Bool.not_true, Bool.not_false, Nat.reduceBEq, Bool.false_eq_true, if_true, if_false, List.cons_append, List.nil_append]; simp only [go_sem, seval]
  refine fcall_src (hJ) rfl rfl ?_; simp only [go_sem, seval]
  (repeat refine aI (hb := ?_))
  first | refine fcall_data (hE) rfl ?_ | refine YR_intro (acall_data (hE) rfl) ?_
  simp only [go_sem, seval]
  refine hK _ ?_; clear hK K
  (repeat refine ats_seq ?_); refine AT.ghost (st' := ⟨[(2, .bool false), (35, .bptr 3 0), (36, .int 0)], [(3, .bx [.l2 S, .l1 T])]⟩) (ghost_trans (ghost_drop [0, 5]) (ghost_can [(6, 3)] (by simp only [killL, killA, killAs, killAs_bsV, qOf, rmT, killH, killT, List.filter_cons, List.filter_nil, List.contains_cons, List.contains_nil, Bool.or_false, Bool.or_true, Bool.false_and, Bool.not_true, Bool.not_false, Bool.false_eq_true, if_true, if_false, rnLs, rnL, rn, rns, rns_bsV, sw, SlotsLe, St.get, slotGet, List.map_cons, List.map_nil, seval, AV.int.injEq, AV.bool.injEq, AV.l1.injEq, AV.l2.injEq, AV.l3.injEq, true_and, and_true]) (by simp only [killL, killA, killAs, killAs_bsV, qOf, rmT, killH, killT, List.filter_cons, List.filter_nil, List.contains_cons, List.contains_nil, Bool.or_false, Bool.or_true, Bool.false_and, Bool.not_true, Bool.not_false, Bool.false_eq_true, if_true, if_false, sortH, insH, rnHs, rnH, rnT, rn, rns, rns_bsV, sw, List.map_cons, List.map_nil, seval]))) ?_
  refine gB ?_
  refine gB ?_
  (repeat refine ats_seq ?_); refine ats_loop (fun n : Nat => ⟨[(2, .bool false), (35, .bptr 3 0), (36, .int 0), (37, .bool (fndB S T n)), (38, .int ((n : Int) + 1))], [(3, .bx [.l2 S, .l1 T])]⟩) (fun n => n ≤ 4) (fun n => 4 - n) 0 (Nat.zero_le _) (by refine And.intro ?_ rfl; simp only [leS, Nat.reduceEqDiff, ↓reduceIte, true_and, and_true]; repeat' (first | rfl | with_reducible refine And.intro ?_ ?_ | omega)) (fun n hn => ?_)
  refine gB ?_
  refine gI (fun hn => ?_) fun hn => ?_
  ·have hF := fb_at n (by omega)
   have hd := data9_ok S (fbI (n + 1)) T (fbJ (n + 1))
   have ef : fndB S T (n + 1) = (fndB S T n || (decide (S = fbI (n + 1)) && decide (T = fbJ (n + 1)))) := rfl
   generalize (decide (S = fbI (n + 1)) && decide (T = fbJ (n + 1))) = q at *
   refine ats_skip ?_
   (repeat refine ats_seq ?_); refine ats_block ?_
   refine gC fun K hK => ?_
   first | refine fcall_data (hF) rfl ?_ | refine YR_intro (acall_data (hF) rfl) ?_
   simp only [go_sem, seval]
   refine hK _ ?_; clear hK K
   refine gB ?_
   (repeat refine ats_seq ?_); refine ats_no rfl trivial ?_
   refine ats_skip ?_
   cases hf : fndB S T n with
   | true =>
    rw [hf, Bool.true_or] at ef
    refine gC fun K hK => ?_
    refine YR_intro (v := .bool true) (by first | trivial | (intro h; cases h)) ?_
    simp only [go_sem, seval]
    refine hK _ ?_; clear hK K
    refine gB ?_
    refine ⟨n + 1, by omega, by omega, .inr ⟨[4], by simp only [killL, List.map_cons, List.map_nil, killA, killAs, killAs_bsV, qOf, rmT, killH, killT, List.filter_cons, List.filter_nil, List.contains_cons, List.contains_nil, SlotsLe, St.get, slotGet, Nat.reduceEqDiff, Nat.reduceBEq, Bool.or_false, Bool.or_true, Bool.false_and, Bool.not_true, Bool.not_false, Bool.false_eq_true, ↓reduceIte, if_true, if_false, AV.int.injEq, AV.bool.injEq, AV.l1.injEq, AV.l2.injEq, AV.l3.injEq, true_and, and_true]; (rw [ef]; exact ⟨rfl, by omega⟩), by simp only [killL, List.map_cons, List.map_nil, killA, killAs, killAs_bsV, qOf, rmT, killH, killT, List.filter_cons, List.filter_nil, List.contains_cons, List.contains_nil, SlotsLe, St.get, slotGet, Nat.reduceEqDiff, Nat.reduceBEq, Bool.or_false, Bool.or_true, Bool.false_and, Bool.not_true, Bool.not_false, Bool.false_eq_true, ↓reduceIte, if_true, if_false, AV.int.injEq, AV.bool.injEq, AV.l1.injEq, AV.l2.injEq, AV.l3.injEq, true_and, and_true]; try rfl⟩⟩
   | false =>
    rw [hf, Bool.false_or] at ef
    refine gC fun K hK => ?_
    first | refine YR_intro (fun _ => acall_data (hd) rfl) ?_ | refine YR_intro (acall_data (hd) rfl) ?_
    simp only [go_sem, seval]
    refine hK _ ?_; clear hK K
    refine gB ?_
    refine ⟨n + 1, by omega, by omega, .inr ⟨[4], by simp only [killL, List.map_cons, List.map_nil, killA, killAs, killAs_bsV, qOf, rmT, killH, killT, List.filter_cons, List.filter_nil, List.contains_cons, List.contains_nil, SlotsLe, St.get, slotGet, Nat.reduceEqDiff, Nat.reduceBEq, Bool.or_false, Bool.or_true, Bool.false_and, Bool.not_true, Bool.not_false, Bool.false_eq_true, ↓reduceIte, if_true, if_false, AV.int.injEq, AV.bool.injEq, AV.l1.injEq, AV.l2.injEq, AV.l3.injEq, true_and, and_true]; (rw [ef]; exact ⟨rfl, by omega⟩), by simp only [killL, List.map_cons, List.map_nil, killA, killAs, killAs_bsV, qOf, rmT, killH, killT, List.filter_cons, List.filter_nil, List.contains_cons, List.contains_nil, SlotsLe, St.get, slotGet, Nat.reduceEqDiff, Nat.reduceBEq, Bool.or_false, Bool.or_true, Bool.false_and, Bool.not_true, Bool.not_false, Bool.false_eq_true, ↓reduceIte, if_true, if_false, AV.int.injEq, AV.bool.injEq, AV.l1.injEq, AV.l2.injEq, AV.l3.injEq, true_and, and_true]; try rfl⟩⟩
  ·obtain rfl : n = 4 := by omega
   refine ats_exit (lq_x ?_)
   rw [hfnd]
   refine gB ?_
   refine ats_ret (finB rfl ?_)
   rfl
end Go.Proofs.Ytkdadpdmnmjikaa
