import Derived.Test.YtmjcbgpbhlheoaaJz1
import Derived.Test.YtmjcbgpbhlheoaaJz3
import Derived.Test.YtmjcbgpbhlheoaaQz1
import Derived.Test.YtmjcbgpbhlheoaaHx1
import Derived.Test.YtmjcbgpbhlheoaaQd7
import Derived.Test.YtmjcbgpbhlheoaaDz1
set_option linter.unusedSimpArgs false
set_option linter.unusedVariables false
namespace Go.Proofs.Ytmjcbgpbhlheoaa
open Go Go.Aw Go.Pl
def dhR (n : Int) : Cu × Int := if 1 ≤ n ∧ n ≤ 18 then (dhdT n.toNat, 0) else ([], 2)
theorem in_no {n lo hi : Int} (h : ¬ (lo ≤ n ∧ n ≤ hi)) : (decide (lo ≤ n) && decide (n ≤ hi)) = false := by
 by_cases h1 : lo ≤ n
 ·rw [decide_eq_true h1, Bool.true_and]; exact decide_eq_false fun h2 => h ⟨h1, h2⟩
 ·rw [decide_eq_false h1]; rfl
theorem specDh_ok (n : Int) : PureCall Try.prog 19 [.int n] (.tup [.agg [.l3 (dhR n).1], .int (dhR n).2]) := by
 have hw := l01In_ok n 1 18
 by_cases hn : 1 ≤ n ∧ n ≤ 18
 ·rw [decide_eq_true hn.1, decide_eq_true hn.2] at hw
  have e : dhR n = (dhdT n.toNat, 0) := by unfold dhR; rw [if_pos hn]
  obtain ⟨m, rfl⟩ : ∃ m : Nat, n = m := ⟨n.toNat, by omega⟩
  have hD := l06Dihedral_ok m (by omega) (by omega)
  rw [e, Int.toNat_natCast]
  generalize dhdT m = T at *
  refine PureCall.intro (n := 11) (rs := [.cell 2 28, .tmp 3]) Try.call19 Try.func19 rfl rfl rfl (by simp only [List.length_cons, List.length_nil]; omega) (fun cx hcx => ats_of ?_); simp only [argSlots, Nat.zero_add, Nat.reduceAdd]
  refine gB ?_
  refine gC fun K hK => ?_
  first | refine fcall_data (hw) rfl ?_ | refine YR_intro (acall_data (hw) rfl) ?_
  simp only [go_sem, seval]
  refine hK _ ?_; clear hK K
  (repeat refine ats_seq ?_); refine ats_no rfl trivial ?_
  refine ats_skip ?_
  refine gC fun K hK => ?_
  first | refine fcall_fresh rfl (hD) ?_ | refine YR_intro (acall_fresh rfl (hD)) ?_
  simp only [go_sem, seval]
  refine hK _ ?_; clear hK K
  exact ats_ret ⟨.inr rfl, .tup [.agg [.l3 T], .int 0], by simp only [resL, resA, go_sem, seval], rfl⟩
 ·rw [in_no hn] at hw
  have e : dhR n = ([], 2) := by unfold dhR; rw [if_neg hn]
  rw [e]
  have hk : PureCall Try.prog 19 [.int n] (.tup [.agg [.nil], .int 2]) := by
   refine PureCall.intro (n := 11) (rs := [.cell 2 28, .tmp 3]) Try.call19 Try.func19 rfl rfl rfl (by simp only [List.length_cons, List.length_nil]; omega) (fun cx hcx => ats_of ?_); simp only [argSlots, Nat.zero_add, Nat.reduceAdd]
   refine gB ?_
   refine gC fun K hK => ?_
   first | refine fcall_data (hw) rfl ?_ | refine YR_intro (acall_data (hw) rfl) ?_
   simp only [go_sem, seval]
   refine hK _ ?_; clear hK K
   (repeat refine ats_seq ?_); refine ats_yes rfl trivial ?_
   refine gB ?_
   exact ats_ret ⟨.inr rfl, .tup [.agg [.nil], .int 2], by simp only [resL, resA, go_sem, seval], rfl⟩
  exact pure_le hk (avLe_tup (avsLe_cons (avLe_agg (avsLe_cons avLe_nil3 (avsLe_rfl _))) (avsLe_rfl _)))
theorem DrawDihedralRing_ok (c : List Int) (hc : CodeOk c) : ∃ n : Int, 0 ≤ n ∧ n ≤ 19 ∧ PureCall Try.prog 17 [.lv (bsV c)] (.int n) := by
 have hF := from_ok c hc.len hc.byte
 have ok0 := frS_ok hc.len hc.byte
 generalize frS c = s at *
 have hN := next_ok s ok0 20 (by omega)
 have b1 := nx_bd s (n := 20) (by omega)
 generalize nx s 20 = q at *
 refine ⟨q.1, by omega, by omega, ?_⟩
 refine PureCall.introR (n := 6) (rs := [.tmp 2]) Try.call17 Try.func17 rfl rfl rfl (by simp only [List.length_cons, List.length_nil]; omega) (fun cx hcx hrd => ats_of ?_); simp only [argSlots, Nat.zero_add, Nat.reduceAdd]
 refine gB ?_
 refine gC fun K hK => ?_
 refine fcall_box (hF) (by simp [Aw.ids]) (by simp [find]) (by simp [closedT, killT_e, killAs, killA, outQ, Aw.ids]) (by simp [killAs, killA, outQ, Aw.ids]) (by simp [Aw.ids]) ?_; simp only [Aw.ids, List.map_cons, List.map_nil, List.filter_cons, List.filter_nil, List.contains_cons, List.contains_nil, Bool.or_false, Bool.or_true, Bool.not_true, Bool.not_false, Nat.reduceBEq, Bool.false_eq_true, if_true, if_false, List.cons_append, List.nil_append]; simp only [go_sem, seval]
 refine fcall_src (hN) rfl rfl ?_; simp only [go_sem, seval]
 refine hK _ ?_; clear hK K
 exact ats_ret ⟨.inr rfl, .int q.1, by simp only [resL, resA, go_sem, seval], rfl⟩
theorem DrawDihedralGroupRing_ok (c : List Int) (hc : CodeOk c) : ∃ n : Int, 0 ≤ n ∧ n ≤ 9 ∧ PureCall Try.prog 21 [.lv (bsV c)] (.int n) := by
 have hF := from_ok c hc.len hc.byte
 have ok0 := frS_ok hc.len hc.byte
 generalize frS c = s at *
 have hN := next_ok s ok0 10 (by omega)
 have b1 := nx_bd s (n := 10) (by omega)
 generalize nx s 10 = q at *
 refine ⟨q.1, by omega, by omega, ?_⟩
 refine PureCall.introR (n := 6) (rs := [.tmp 2]) Try.call21 Try.func21 rfl rfl rfl (by simp only [List.length_cons, List.length_nil]; omega) (fun cx hcx hrd => ats_of ?_); simp only [argSlots, Nat.zero_add, Nat.reduceAdd]
 refine gB ?_
 refine gC fun K hK => ?_
 refine fcall_box (hF) (by simp [Aw.ids]) (by simp [find]) (by simp [closedT, killT_e, killAs, killA, outQ, Aw.ids]) (by simp [killAs, killA, outQ, Aw.ids]) (by simp [Aw.ids]) ?_; simp only [Aw.ids, List.map_cons, List.map_nil, List.filter_cons, List.filter_nil, List.contains_cons, List.contains_nil, Bool.or_false, Bool.or_true, Bool.not_true, Bool.not_false, Nat.reduceBEq, Bool.false_eq_true, if_true, if_false, List.cons_append, List.nil_append]; simp only [go_sem, seval]
 refine fcall_src (hN) rfl rfl ?_; simp only [go_sem, seval]
 refine hK _ ?_; clear hK K
 exact ats_ret ⟨.inr rfl, .int q.1, by simp only [resL, resA, go_sem, seval], rfl⟩
end Go.Proofs.Ytmjcbgpbhlheoaa
namespace Go.Proofs.Ytmjcbgpbhlheoaa
open Go Go.Aw Go.Pl
noncomputable def oCode (o : List Int) (most : Int) : Int := if bd (PosO o) = true then (if prodO o ≤ most then 0 else 3) else 1
theorem oCode_good {o : List Int} {m : Int} (h : PosO o) (hm : prodO o ≤ m) : oCode o m = 0 := by unfold oCode; rw [bd_true h, if_pos rfl, if_pos hm]
theorem oCode_big {o : List Int} {m : Int} (h : PosO o) (hm : ¬ prodO o ≤ m) : oCode o m = 3 := by unfold oCode; rw [bd_true h, if_pos rfl, if_neg hm]
theorem oCode_bad {o : List Int} {m : Int} (h : ¬ PosO o) : oCode o m = 1 := by unfold oCode; rw [bd_false h]; rfl
theorem o_cases (o : List Int) (m : Int) : (PosO o ∧ prodO o ≤ m ∧ oCode o m = 0) ∨ (PosO o ∧ ¬ prodO o ≤ m ∧ oCode o m = 3) ∨ (¬ PosO o ∧ oCode o m = 1) := by
 by_cases h : PosO o
 ·by_cases hm : prodO o ≤ m
  ·exact .inl ⟨h, hm, oCode_good h hm⟩
  ·exact .inr (.inl ⟨h, hm, oCode_big h hm⟩)
 ·exact .inr (.inr ⟨h, oCode_bad h⟩)
noncomputable def grpR (o : List Int) : Cu × Int := if oCode o 16 = 0 then (grpT o 0, 0) else ([], oCode o 16)
noncomputable def nrR (o : List Int) (k : Int) : Cu × Int :=
 if oCode o 15 = 1 then ([], 1) else if 0 ≤ k ∧ k ≤ 1000 then (if oCode o 15 = 0 then (nearT o k, 0) else ([], 3)) else ([], 2)
theorem size17_ok (o : List Int) (h : PosO o) : PureCall Try.prog 54 [.l1 o, .int 16] (.int (min17 (prodO o))) := by
 refine PureCall.intro (n := 33) (rs := [.tmp 4]) Try.call54 Try.func54 rfl rfl rfl (by simp only [List.length_cons, List.length_nil]; omega) (fun cx hcx => ats_of ?_); simp only [argSlots, Nat.zero_add, Nat.reduceAdd]
 refine gA ?_
 refine ats_know 0 fun h0 => ?_; simp only [St.get, slotGet, Nat.reduceEqDiff, ↓reduceIte, if_true, fact, facts] at h0
 have hlen := h0.1
 refine gA ?_
 refine gA ?_
 (repeat refine ats_seq ?_); refine ats_loop (fun k : Nat => ⟨[(0, .l1 o), (1, .int 16), (5, .int (frP o k)), (6, .int k)], []⟩) (fun k => k ≤ o.length ∧ frP o k ≤ 16) (fun k => o.length - k) 0 ⟨Nat.zero_le _, show (1 : Int) ≤ 16 by decide⟩ (by
  refine And.intro ?_ rfl; simp only [leS, Nat.reduceEqDiff, ↓reduceIte, true_and, and_true]
  first | exact ⟨rfl, rfl⟩ | rfl) (fun k hk => ?_)
 obtain ⟨hk, hf⟩ := hk
 have hb := frP_bd (j := o.length) h.2 k hk
 rw [frP_full] at hb
 refine gA ?_
 refine gI (fun h1 => ?_) fun h1 => ?_
 ·have he := entry_le h (show k < o.length by omega)
  have ho := h.2 k (by omega)
  refine ats_skip ?_
  (repeat refine ats_seq ?_); refine ats_block ?_
  refine gB ?_
  refine gI (fun h2 => ?_) fun h2 => ?_
  ·refine gB ?_
   refine ats_ret (finI rfl ?_)
   unfold min17
   split <;> omega
  ·have hb1 := frP_bd (j := o.length) h.2 (k + 1) (by omega)
   have m1 : frP o k * o.getD k 0 ≤ 16 * 16 := Int.mul_le_mul (by omega) (by omega) (by omega) (by omega)
   rw [frP_full] at hb1
   simp only [frP] at hb1
   refine ats_skip ?_
   refine gB ?_
   refine gA ?_
   refine gI (fun h3 => ?_) fun h3 => ?_
   ·refine gB ?_
    refine ats_ret (finI rfl ?_)
    unfold min17
    split <;> omega
   ·refine ats_skip ?_
    refine gB ?_
    refine ⟨k + 1,  ⟨by omega, by simp only [frP]; omega⟩, by omega, .inl ⟨?_, rfl⟩⟩; simp only [leS, Nat.reduceEqDiff, ↓reduceIte, true_and, and_true]
    first | exact ⟨rfl, by omega⟩ | omega
 ·obtain rfl : k = o.length := by omega
  rw [frP_full] at hf ⊢
  refine ats_exit (lq_x ?_)
  refine gA ?_
  refine ats_ret (finI rfl ?_)
  unfold min17
  rw [if_pos (by omega)]
theorem min17_gt {a : Int} {m : Int} (h : m ≤ 16) : m < min17 a ↔ ¬ a ≤ m := by unfold min17; split <;> omega
theorem l06Code_ok (o : List Int) (m : Int) (h0 : 0 ≤ m) (h1 : m ≤ 1) : PureCall Try.prog 30 [.l1 o, .int m] (.int (oCode o (16 - m))) := by
 have hO := l06Orders_ok o
 by_cases h : PosO o
 ·rw [bd_true h] at hO
  have hS := size17_ok o h
  have hp := prodO_pos h
  have b : 1 ≤ min17 (prodO o) ∧ min17 (prodO o) ≤ 17 := by unfold min17; split <;> omega
  have hg := min17_gt (a := prodO o) (m := 16 - m) (by omega)
  unfold oCode
  rw [bd_true h, if_pos rfl]
  generalize min17 (prodO o) = z at *
  refine PureCall.intro (n := 15) (rs := [.tmp 4]) Try.call30 Try.func30 rfl rfl rfl (by simp only [List.length_cons, List.length_nil]; omega) (fun cx hcx => ats_of ?_); simp only [argSlots, Nat.zero_add, Nat.reduceAdd]
  refine gB ?_
  (repeat refine ats_seq ?_); refine ats_block ?_
  refine gC fun K hK => ?_
  first | refine fcall_data (hO) rfl ?_ | refine YR_intro (acall_data (hO) rfl) ?_
  simp only [go_sem, seval]
  refine hK _ ?_; clear hK K
  (repeat refine ats_seq ?_); refine ats_no rfl trivial ?_
  refine gC fun K hK => ?_
  first | refine fcall_data (hS) rfl ?_ | refine YR_intro (acall_data (hS) rfl) ?_
  simp only [go_sem, seval]
  (repeat refine aI (hb := ?_))
  refine hK _ ?_; clear hK K
  refine gI (fun hc2 => ?_) fun hc2 => ?_
  ·refine gB ?_
   refine ats_ret (finI rfl ?_)
   rw [if_neg (by omega)]
  ·refine ats_skip ?_
   refine gB ?_
   refine ats_ret (finI rfl ?_)
   rw [if_pos (by omega)]
 ·rw [bd_false h] at hO
  rw [oCode_bad h]
  refine PureCall.intro (n := 15) (rs := [.tmp 4]) Try.call30 Try.func30 rfl rfl rfl (by simp only [List.length_cons, List.length_nil]; omega) (fun cx hcx => ats_of ?_); simp only [argSlots, Nat.zero_add, Nat.reduceAdd]
  refine gB ?_
  (repeat refine ats_seq ?_); refine ats_block ?_
  refine gC fun K hK => ?_
  first | refine fcall_data (hO) rfl ?_ | refine YR_intro (acall_data (hO) rfl) ?_
  simp only [go_sem, seval]
  refine hK _ ?_; clear hK K
  (repeat refine ats_seq ?_); refine ats_yes rfl trivial ?_
  refine gB ?_
  refine ats_ret (finI rfl ?_)
  rfl
theorem ring_nil {P : Program} {f : Nat} {args : List AV} {c : Int} (h : PureCall P f args (.tup [.agg [.nil], .int c])) : PureCall P f args (.tup [.agg [.l3 []], .int c]) :=
 pure_le h (avLe_tup (avsLe_cons (avLe_agg (avsLe_cons avLe_nil3 (avsLe_rfl _))) (avsLe_rfl _)))
theorem specGrp_ok (o : List Int) : PureCall Try.prog 7 [.l1 o] (.tup [.agg [.l3 (grpR o).1], .int (grpR o).2]) := by
 have hc := l06Code_ok o 0 (by decide) (by decide)
 rw [show (16 : Int) - 0 = 16 from rfl] at hc
 unfold grpR
 rcases o_cases o 16 with ⟨h, hp, e⟩ | ⟨h, hp, e⟩ | ⟨h, e⟩
 ·rw [e] at hc ⊢
  rw [if_pos rfl]
  dsimp only
  have hG := l06Group_ok o h 0 (by omega)
  rw [show ((0 : Nat) : Int) = 0 from rfl] at hG
  generalize grpT o 0 = T at *
  refine PureCall.intro (n := 14) (rs := [.cell 2 28, .tmp 3]) Try.call7 Try.func7 rfl rfl rfl (by simp only [List.length_cons, List.length_nil]; omega) (fun cx hcx => ats_of ?_); simp only [argSlots, Nat.zero_add, Nat.reduceAdd]
  refine gB ?_
  refine gC fun K hK => ?_
  first | refine fcall_data (hc) rfl ?_ | refine YR_intro (acall_data (hc) rfl) ?_
  simp only [go_sem, seval]
  refine hK _ ?_; clear hK K
  refine gB ?_
  (repeat refine ats_seq ?_); refine ats_no rfl trivial ?_
  refine ats_skip ?_
  refine gC fun K hK => ?_
  first | refine fcall_fresh rfl (hG) ?_ | refine YR_intro (acall_fresh rfl (hG)) ?_
  simp only [go_sem, seval]
  refine hK _ ?_; clear hK K
  exact ats_ret ⟨.inr rfl, .tup [.agg [.l3 T], .int 0], by simp only [resL, resA, go_sem, seval], rfl⟩
 ·rw [e] at hc ⊢
  rw [if_neg (by decide)]
  refine ring_nil ?_
  refine PureCall.intro (n := 14) (rs := [.cell 2 28, .tmp 3]) Try.call7 Try.func7 rfl rfl rfl (by simp only [List.length_cons, List.length_nil]; omega) (fun cx hcx => ats_of ?_); simp only [argSlots, Nat.zero_add, Nat.reduceAdd]
  refine gB ?_
  refine gC fun K hK => ?_
  first | refine fcall_data (hc) rfl ?_ | refine YR_intro (acall_data (hc) rfl) ?_
  simp only [go_sem, seval]
  refine hK _ ?_; clear hK K
  refine gB ?_
  (repeat refine ats_seq ?_); refine ats_yes rfl trivial ?_
  refine gB ?_
  exact ats_ret ⟨.inr rfl, .tup [.agg [.nil], .int 3], by simp only [resL, resA, go_sem, seval], rfl⟩
 ·rw [e] at hc ⊢
  rw [if_neg (by decide)]
  refine ring_nil ?_
  refine PureCall.intro (n := 14) (rs := [.cell 2 28, .tmp 3]) Try.call7 Try.func7 rfl rfl rfl (by simp only [List.length_cons, List.length_nil]; omega) (fun cx hcx => ats_of ?_); simp only [argSlots, Nat.zero_add, Nat.reduceAdd]
  refine gB ?_
  refine gC fun K hK => ?_
  first | refine fcall_data (hc) rfl ?_ | refine YR_intro (acall_data (hc) rfl) ?_
  simp only [go_sem, seval]
  refine hK _ ?_; clear hK K
  refine gB ?_
  (repeat refine ats_seq ?_); refine ats_yes rfl trivial ?_
  refine gB ?_
  exact ats_ret ⟨.inr rfl, .tup [.agg [.nil], .int 1], by simp only [resL, resA, go_sem, seval], rfl⟩
theorem specNr_ok (o : List Int) (k : Int) : PureCall Try.prog 16 [.l1 o, .int k] (.tup [.agg [.l3 (nrR o k).1], .int (nrR o k).2]) := by
 have hc := l06Code_ok o 1 (by decide) (by decide)
 rw [show (16 : Int) - 1 = 15 from rfl] at hc
 have hI := l01In_ok k 0 1000
 unfold nrR
 have bad : ¬ (0 ≤ k ∧ k ≤ 1000) → oCode o 15 = 0 ∨ oCode o 15 = 3 → PureCall Try.prog 16 [.l1 o, .int k] (.tup [.agg [.l3 []], .int 2]) := fun hk e => by
  rw [show (decide (0 ≤ k) && decide (k ≤ 1000)) = false by rw [← Bool.decide_and]; exact decide_eq_false hk] at hI
  refine ring_nil ?_
  have e2 : ¬ oCode o 15 = 1 := by omega
  generalize oCode o 15 = c at *
  refine PureCall.intro (n := 28) (rs := [.cell 4 28, .tmp 5]) Try.call16 Try.func16 rfl rfl rfl (by simp only [List.length_cons, List.length_nil]; omega) (fun cx hcx => ats_of ?_); simp only [argSlots, Nat.zero_add, Nat.reduceAdd]
  refine gB ?_
  refine gC fun K hK => ?_
  first | refine fcall_data (hc) rfl ?_ | refine YR_intro (acall_data (hc) rfl) ?_
  simp only [go_sem, seval]
  refine hK _ ?_; clear hK K
  (repeat refine ats_seq ?_); refine ats_block ?_
  refine gB ?_
  refine gI (fun hc1 => ?_) fun hc1 => ?_
  ·omega
  ·refine gC fun K hK => ?_
   first | refine fcall_data (hI) rfl ?_ | refine YR_intro (acall_data (hI) rfl) ?_
   simp only [go_sem, seval]
   refine hK _ ?_; clear hK K
   (repeat refine ats_seq ?_); refine ats_yes rfl trivial ?_
   refine gB ?_
   exact ats_ret ⟨.inr rfl, .tup [.agg [.nil], .int 2], by simp only [resL, resA, go_sem, seval], rfl⟩
 rcases o_cases o 15 with ⟨h, hp, e⟩ | ⟨h, hp, e⟩ | ⟨h, e⟩
 ·by_cases hk : 0 ≤ k ∧ k ≤ 1000
  ·rw [show (decide (0 ≤ k) && decide (k ≤ 1000)) = true by rw [← Bool.decide_and]; exact decide_eq_true hk] at hI
   rw [if_neg (by omega), if_pos hk, if_pos e]
   rw [e] at hc
   dsimp only
   have hG := l06Near_ok o h k (by omega) hk.1 hk.2
   generalize nearT o k = T at *
   refine PureCall.intro (n := 28) (rs := [.cell 4 28, .tmp 5]) Try.call16 Try.func16 rfl rfl rfl (by simp only [List.length_cons, List.length_nil]; omega) (fun cx hcx => ats_of ?_); simp only [argSlots, Nat.zero_add, Nat.reduceAdd]
   refine gB ?_
   refine gC fun K hK => ?_
   first | refine fcall_data (hc) rfl ?_ | refine YR_intro (acall_data (hc) rfl) ?_
   simp only [go_sem, seval]
   refine hK _ ?_; clear hK K
   (repeat refine ats_seq ?_); refine ats_block ?_
   refine gB ?_
   (repeat refine ats_seq ?_); refine ats_no rfl trivial ?_
   refine gC fun K hK => ?_
   first | refine fcall_data (hI) rfl ?_ | refine YR_intro (acall_data (hI) rfl) ?_
   simp only [go_sem, seval]
   refine hK _ ?_; clear hK K
   (repeat refine ats_seq ?_); refine ats_no rfl trivial ?_
   refine gB ?_
   (repeat refine ats_seq ?_); refine ats_no rfl trivial ?_
   refine ats_skip ?_
   refine gC fun K hK => ?_
   first | refine fcall_fresh rfl (hG) ?_ | refine YR_intro (acall_fresh rfl (hG)) ?_
   simp only [go_sem, seval]
   refine hK _ ?_; clear hK K
   exact ats_ret ⟨.inr rfl, .tup [.agg [.l3 T], .int 0], by simp only [resL, resA, go_sem, seval], rfl⟩
  ·rw [if_neg (by omega), if_neg hk]
   exact bad hk (.inl e)
 ·by_cases hk : 0 ≤ k ∧ k ≤ 1000
  ·rw [show (decide (0 ≤ k) && decide (k ≤ 1000)) = true by rw [← Bool.decide_and]; exact decide_eq_true hk] at hI
   rw [if_neg (by omega), if_pos hk, if_neg (by omega)]
   rw [e] at hc
   refine ring_nil ?_
   refine PureCall.intro (n := 28) (rs := [.cell 4 28, .tmp 5]) Try.call16 Try.func16 rfl rfl rfl (by simp only [List.length_cons, List.length_nil]; omega) (fun cx hcx => ats_of ?_); simp only [argSlots, Nat.zero_add, Nat.reduceAdd]
   refine gB ?_
   refine gC fun K hK => ?_
   first | refine fcall_data (hc) rfl ?_ | refine YR_intro (acall_data (hc) rfl) ?_
   simp only [go_sem, seval]
   refine hK _ ?_; clear hK K
   (repeat refine ats_seq ?_); refine ats_block ?_
   refine gB ?_
   (repeat refine ats_seq ?_); refine ats_no rfl trivial ?_
   refine gC fun K hK => ?_
   first | refine fcall_data (hI) rfl ?_ | refine YR_intro (acall_data (hI) rfl) ?_
   simp only [go_sem, seval]
   refine hK _ ?_; clear hK K
   (repeat refine ats_seq ?_); refine ats_no rfl trivial ?_
   refine gB ?_
   (repeat refine ats_seq ?_); refine ats_yes rfl trivial ?_
   refine gB ?_
   exact ats_ret ⟨.inr rfl, .tup [.agg [.nil], .int 3], by simp only [resL, resA, go_sem, seval], rfl⟩
  ·rw [if_neg (by omega), if_neg hk]
   exact bad hk (.inr e)
 ·rw [if_pos e]
  rw [e] at hc
  refine ring_nil ?_
  refine PureCall.intro (n := 28) (rs := [.cell 4 28, .tmp 5]) Try.call16 Try.func16 rfl rfl rfl (by simp only [List.length_cons, List.length_nil]; omega) (fun cx hcx => ats_of ?_); simp only [argSlots, Nat.zero_add, Nat.reduceAdd]
  refine gB ?_
  refine gC fun K hK => ?_
  first | refine fcall_data (hc) rfl ?_ | refine YR_intro (acall_data (hc) rfl) ?_
  simp only [go_sem, seval]
  refine hK _ ?_; clear hK K
  (repeat refine ats_seq ?_); refine ats_block ?_
  refine gB ?_
  (repeat refine ats_seq ?_); refine ats_yes rfl trivial ?_
  refine gB ?_
  exact ats_ret ⟨.inr rfl, .tup [.agg [.nil], .int 1], by simp only [resL, resA, go_sem, seval], rfl⟩
theorem specTy_ok (o : List Int) : PureCall Try.prog 13 [.l1 o] (.tup [.agg [.l3 (nrR o 0).1], .int (nrR o 0).2]) := by
 have h := specNr_ok o 0
 generalize (nrR o 0).1 = T at *
 generalize (nrR o 0).2 = c at *
 refine PureCall.intro (n := 13) (rs := [.cell 2 28, .tmp 3]) Try.call13 Try.func13 rfl rfl rfl (by simp only [List.length_cons, List.length_nil]; omega) (fun cx hcx => ats_of ?_); simp only [argSlots, Nat.zero_add, Nat.reduceAdd]
 refine gB ?_
 refine gC fun K hK => ?_
 first | refine fcall_data (h) rfl ?_ | refine YR_intro (acall_data (h) rfl) ?_
 simp only [go_sem, seval]
 refine hK _ ?_; clear hK K
 refine gB ?_
 exact ats_ret ⟨.inr rfl, .tup [.agg [.l3 T], .int c], by simp only [resL, resA, go_sem, seval], rfl⟩
theorem specDg_ok (n : Int) : PureCall Try.prog 23 [.int n] (.tup [.agg [.l3 (if 1 ≤ n ∧ n ≤ 8 then dhgT n.toNat else [])], .int (if 1 ≤ n ∧ n ≤ 8 then 0 else 2)]) := by
 have hw := l01In_ok n 1 8
 by_cases hn : 1 ≤ n ∧ n ≤ 8
 ·rw [decide_eq_true hn.1, decide_eq_true hn.2] at hw
  rw [if_pos hn, if_pos hn]
  obtain ⟨m, rfl⟩ : ∃ m : Nat, n = m := ⟨n.toNat, by omega⟩
  have hD := l06DihedralGroup_ok m (by omega) (by omega)
  rw [Int.toNat_natCast]
  generalize dhgT m = T at *
  refine PureCall.intro (n := 11) (rs := [.cell 2 28, .tmp 3]) Try.call23 Try.func23 rfl rfl rfl (by simp only [List.length_cons, List.length_nil]; omega) (fun cx hcx => ats_of ?_); simp only [argSlots, Nat.zero_add, Nat.reduceAdd]
  refine gB ?_
  refine gC fun K hK => ?_
  first | refine fcall_data (hw) rfl ?_ | refine YR_intro (acall_data (hw) rfl) ?_
  simp only [go_sem, seval]
  refine hK _ ?_; clear hK K
  (repeat refine ats_seq ?_); refine ats_no rfl trivial ?_
  refine ats_skip ?_
  refine gC fun K hK => ?_
  first | refine fcall_fresh rfl (hD) ?_ | refine YR_intro (acall_fresh rfl (hD)) ?_
  simp only [go_sem, seval]
  refine hK _ ?_; clear hK K
  exact ats_ret ⟨.inr rfl, .tup [.agg [.l3 T], .int 0], by simp only [resL, resA, go_sem, seval], rfl⟩
 ·rw [show (decide (1 ≤ n) && decide (n ≤ 8)) = false by rw [← Bool.decide_and]; exact decide_eq_false hn] at hw
  rw [if_neg hn, if_neg hn]
  refine ring_nil ?_
  refine PureCall.intro (n := 11) (rs := [.cell 2 28, .tmp 3]) Try.call23 Try.func23 rfl rfl rfl (by simp only [List.length_cons, List.length_nil]; omega) (fun cx hcx => ats_of ?_); simp only [argSlots, Nat.zero_add, Nat.reduceAdd]
  refine gB ?_
  refine gC fun K hK => ?_
  first | refine fcall_data (hw) rfl ?_ | refine YR_intro (acall_data (hw) rfl) ?_
  simp only [go_sem, seval]
  refine hK _ ?_; clear hK K
  (repeat refine ats_seq ?_); refine ats_yes rfl trivial ?_
  refine gB ?_
  exact ats_ret ⟨.inr rfl, .tup [.agg [.nil], .int 2], by simp only [resL, resA, go_sem, seval], rfl⟩
end Go.Proofs.Ytmjcbgpbhlheoaa
namespace Go.Proofs.Ytmjcbgpbhlheoaa
open Go Go.Aw Go.Pl
attribute [local go_sem] pl_fin pl_stop pl_one pl_alt PK_ap pickO List.getElem?_toArray List.getElem?_cons_zero List.getElem?_cons_succ
theorem ordersCode_ok (o : List Int) (m : Int) (h0 : 0 ≤ m) (h1 : m ≤ 16) : PureCall Try.prog 28 [.l1 o, .int m] (.int (oCode o m)) := by
 have hg := groupSize_ok o
 by_cases h : PosO o
 ·have hp := prodO_pos h
  have b : 1 ≤ min17 (prodO o) ∧ min17 (prodO o) ≤ 17 := by unfold min17; split <;> omega
  have hgt := min17_gt (a := prodO o) (m := m) (by omega)
  unfold gsz at hg
  unfold oCode
  rw [bd_true h, if_pos rfl] at hg ⊢
  generalize min17 (prodO o) = z at *
  refine PureCall.intro (n := 13) (rs := [.tmp 4]) Try.call28 Try.func28 rfl rfl rfl (by simp only [List.length_cons, List.length_nil]; omega) (fun cx hcx => ats_of ?_); simp only [argSlots, Nat.zero_add, Nat.reduceAdd]
  refine gB ?_
  refine gC fun K hK => ?_
  first | refine fcall_data (hg) rfl ?_ | refine YR_intro (acall_data (hg) rfl) ?_
  simp only [go_sem, seval]
  refine hK _ ?_; clear hK K
  refine gB ?_
  refine gI (fun hc1 => ?_) fun hc1 => ?_
  ·omega
  ·refine ats_skip ?_
   refine gB ?_
   refine gI (fun hc2 => ?_) fun hc2 => ?_
   ·refine gB ?_
    refine ats_ret (finI rfl ?_)
    rw [if_neg (by omega)]
   ·refine ats_skip ?_
    refine gB ?_
    refine ats_ret (finI rfl ?_)
    rw [if_pos (by omega)]
 ·unfold gsz at hg
  rw [bd_false h] at hg
  rw [oCode_bad h]
  refine PureCall.intro (n := 13) (rs := [.tmp 4]) Try.call28 Try.func28 rfl rfl rfl (by simp only [List.length_cons, List.length_nil]; omega) (fun cx hcx => ats_of ?_); simp only [argSlots, Nat.zero_add, Nat.reduceAdd]
  refine gB ?_
  refine gC fun K hK => ?_
  first | refine fcall_data (hg) rfl ?_ | refine YR_intro (acall_data (hg) rfl) ?_
  simp only [go_sem, seval]
  refine hK _ ?_; clear hK K
  refine gB ?_
  (repeat refine ats_seq ?_); refine ats_yes rfl trivial ?_
  refine gB ?_
  refine ats_ret (finI rfl ?_)
  rfl
theorem fromTable_ok (n : Nat) (h1 : 1 ≤ n) (h16 : n ≤ 16) (f : Nat) (caps : List AV) (zf : Nat → Nat → Nat) (hd : areData caps = true) (hz : ∀ i, i < n → ∀ j, j < n → zf i j < n)
  (hf : ∀ i j : Nat, i < n → j < n → PureCall Try.prog f (.int i :: .int j :: caps) (.int (zf i j))) : FreshCall Try.prog 47 [.int n, .fn f caps] (.agg [.l3 (cubF n (it (fun x g => it (fun y g => updG g x y (zf x y) 1) n g) n zG))]) := by
 have hE := emptyCube_ok n h1 h16
 rw [cub0] at hE
 refine FreshCall.intro (n := 34) (rs := [.cell 4 28]) Try.call47 Try.func47 rfl rfl rfl (by simp only [List.length_cons, List.length_nil]; omega) (fun cx hcx => ats_of ?_); simp only [argSlots, Nat.zero_add, Nat.reduceAdd]
 refine gB ?_
 refine gC fun K hK => ?_
 refine fcall_own rfl (hE) rfl ?_; simp only [go_sem, seval]
 (repeat refine aI (hb := ?_))
 refine hK _ ?_; clear hK K
 refine gB ?_
 (repeat refine ats_seq ?_); refine ats_loop (fun i : Nat => ⟨[(0, .int n), (1, .fn f caps), (4, .bptr 0 0), (5, .bptr 2 0), (10, .int n), (11, .int i)], [(1, .t3 (cubF n (it (fun x g => it (fun y g => updG g x y (zf x y) 1) n g) i zG))), (0, .bx [.nil]), (2, .bx [.ref 1 []])]⟩) (fun i => i ≤ n) (fun i => n - i) 0 (Nat.zero_le _) (by refine And.intro ?_ rfl; simp only [leS, Nat.reduceEqDiff, ↓reduceIte, true_and, and_true]; repeat' (first | rfl | with_reducible refine And.intro ?_ ?_ | omega)) (fun i hi => ?_)
 obtain ⟨G, eG⟩ : ∃ G, it (fun x g => it (fun y g => updG g x y (zf x y) 1) n g) i zG = G := ⟨_, rfl⟩
 rw [eG]
 refine gB ?_
 refine gI (fun hc2 => ?_) fun hc2 => ?_
 ·refine ats_skip ?_
  (repeat refine ats_seq ?_); refine ats_block ?_
  refine gB ?_
  refine gB ?_
  (repeat refine ats_seq ?_); refine ats_loop (fun j : Nat => ⟨[(0, .int n), (1, .fn f caps), (4, .bptr 0 0), (5, .bptr 2 0), (6, .int i), (10, .int n), (11, .int i), (14, .int n), (15, .int j)], [(1, .t3 (cubF n (it (fun y g => updG g i y (zf i y) 1) j G))), (0, .bx [.nil]), (2, .bx [.ref 1 []])]⟩) (fun j => j ≤ n) (fun j => n - j) 0 (Nat.zero_le _) (by refine And.intro ?_ rfl; simp only [leS, Nat.reduceEqDiff, ↓reduceIte, true_and, and_true]; repeat' (first | rfl | with_reducible refine And.intro ?_ ?_ | omega)) (fun j hj => ?_)
  obtain ⟨G', eG'⟩ : ∃ G', it (fun y g => updG g i y (zf i y) 1) j G = G' := ⟨_, rfl⟩
  rw [eG']
  refine gB ?_
  refine gI (fun hc4 => ?_) fun hc4 => ?_
  ·have hA := hf i j (by omega) (by omega)
   have ha := hz i (by omega) j (by omega)
   have l1 := cubF_length n G'
   have l2 := cubF_mat (f := G') (show i < n by omega)
   have l3 := cubF_row (f := G') (show i < n by omega) (show j < n by omega)
   have sk := cubF_upd (n := n) (g := G') (i := i) (j := j) (k := zf i j) (v := 1) (by omega) (by omega)
   refine ats_skip ?_
   (repeat refine ats_seq ?_); refine ats_block ?_
   refine gB ?_
   (repeat refine ats_seq ?_)
   refine ats_plan [] (.one 0 (.one 1 (.one 2 (.one 3 (.one 4 (.one 5 (.one 6 (.one 7 (.one 8 (.one 9 (.one 10 (.one 11 (.one 12 (.alt 13 .fin .stop)))))))))))))) ⟨[(0, .int n), (1, .fn f caps), (4, .bptr 0 0), (5, .bptr 2 0), (6, .int i), (10, .int n), (11, .int i), (14, .int n), (15, .int j)], [(1, .t3 ((cubF n G').set i (((cubF n G').getD i []).set j ((((cubF n G').getD i []).getD j []).set (zf i j) 1)))), (0, .bx [.nil]), (2, .bx [.ref 1 []])]⟩ (fix0 hcx) mixed (by kernel_rfl) (fun K hK => ?_) ?_
   ·simp only [go_sem, seval, Option.getD_some, and_true, true_and, and_self, List.contains_cons, List.contains_nil, Bool.or_false, Bool.or_true]
    repeat' (first | exact hK _ (by refine And.intro ?_ rfl; simp only [leS, Nat.reduceEqDiff, ↓reduceIte, true_and, and_true])  | with_reducible refine And.intro ?_ ?_ | omega | ((refine YR_intro (acall_data hA (by simp only [areData, Aw.isData, hd, Bool.and_true])) ?_)) | (simp only [go_sem, seval, Option.getD_some, and_true, true_and, and_self, List.contains_cons, List.contains_nil, Bool.or_false, Bool.or_true]))
   rw [sk]
   refine gB ?_
   refine ⟨j + 1,  by omega, by omega, .inl ⟨by simp only [leS, Nat.reduceEqDiff, ↓reduceIte, true_and, and_true]; omega,  by rw [← eG']; rfl⟩⟩
  ·obtain rfl : j = n := by omega
   refine ats_exit (lq_x ?_)
   refine gB ?_
   refine ⟨i + 1,  by omega, by omega, .inl ⟨by simp only [leS, Nat.reduceEqDiff, ↓reduceIte, true_and, and_true]; omega,  by rw [← eG', ← eG]; rfl⟩⟩
 ·obtain rfl : i = n := by omega
  rw [← eG]
  refine ats_exit (lq_x ?_)
  refine gB ?_
  exact ats_ret (ownC (v := .agg [.ref 1 []]) (by simp only [go_sem, seval]) rfl (by simp))
theorem groupRing1_ok (o : List Int) (h : PosO o) (h16 : prodO o ≤ 16) (i j : Nat) (hi : i ≤ 16) (hj : j ≤ 16) : PureCall Try.prog 51 [.int i, .int j, .cptr [.l1 o] 0] (.int (ad o i j)) := by
 have hA := addElements16_ok o h h16 i j hi hj
 refine PureCall.intro (n := 10) (rs := [.tmp 5]) Try.call51 Try.func51 rfl rfl rfl (by simp only [List.length_cons, List.length_nil]; omega) (fun cx hcx => ats_of ?_); simp only [argSlots, Nat.zero_add, Nat.reduceAdd]
 refine gB ?_
 refine gC fun K hK => ?_
 (repeat refine aI (hb := ?_))
 first | refine fcall_data (hA) rfl ?_ | refine YR_intro (acall_data (hA) rfl) ?_
 simp only [go_sem, seval]
 (repeat refine aI (hb := ?_))
 refine hK _ ?_; clear hK K
 refine ats_ret (finI rfl ?_)
 rfl
theorem groupRing_ok (o : List Int) (h : PosO o) (h16 : prodO o ≤ 16) : PureCall Try.prog 29 [.l1 o] (.agg [.l3 (grpT o 0)]) := by
 have hg := groupSize_ok o
 have hp := prodO_pos h
 unfold gsz at hg
 rw [bd_true h, if_pos rfl] at hg
 obtain ⟨n, en⟩ : ∃ n : Nat, prodO o = n := ⟨(prodO o).toNat, by omega⟩
 have em : min17 (prodO o) = n := by unfold min17; rw [if_pos (by omega)]; exact en
 rw [em] at hg
 have hT := fromTable_ok n (by omega) (by omega) 51 [.cptr [.l1 o] 0] (ad o) rfl (fun i _ j _ => by have := ad_lt16 h i j; omega) (fun i j hi hj => groupRing1_ok o h h16 i j (by omega) (by omega))
 have e2 : cubF n (it (fun x g => it (fun y g => updG g x y (ad o x y) 1) n g) n zG) = grpT o 0 := by
  unfold grpT grpG
  rw [show (prodO o).toNat = n by omega]
  rfl
 rw [e2] at hT
 generalize grpT o 0 = T at *
 refine PureCall.intro (n := 7) (rs := [.cell 2 28]) Try.call29 Try.func29 rfl rfl rfl (by simp only [List.length_cons, List.length_nil]; omega) (fun cx hcx => ats_of ?_); simp only [argSlots, Nat.zero_add, Nat.reduceAdd]
 refine gB ?_
 refine gC fun K hK => ?_
 first | refine fcall_data (hg) rfl ?_ | refine YR_intro (acall_data (hg) rfl) ?_
 simp only [go_sem, seval]
 first | refine fcall_fresh rfl (hT) ?_ | refine YR_intro (acall_fresh rfl (hT)) ?_
 simp only [go_sem, seval]
 refine hK _ ?_; clear hK K
 exact ats_ret ⟨.inr rfl, .agg [.l3 T], by simp only [resL, resA, go_sem, seval], rfl⟩
theorem implGrp_ok (o : List Int) : PureCall Try.prog 6 [.l1 o] (.tup [.agg [.l3 (grpR o).1], .int (grpR o).2]) := by
 have hc := ordersCode_ok o 16 (by decide) (by decide)
 unfold grpR
 rcases o_cases o 16 with ⟨h, hp, e⟩ | ⟨h, hp, e⟩ | ⟨h, e⟩
 ·rw [e] at hc ⊢
  rw [if_pos rfl]
  dsimp only
  have hG := groupRing_ok o h hp
  generalize grpT o 0 = T at *
  refine PureCall.intro (n := 13) (rs := [.cell 2 28, .tmp 3]) Try.call6 Try.func6 rfl rfl rfl (by simp only [List.length_cons, List.length_nil]; omega) (fun cx hcx => ats_of ?_); simp only [argSlots, Nat.zero_add, Nat.reduceAdd]
  refine gB ?_
  refine gC fun K hK => ?_
  first | refine fcall_data (hc) rfl ?_ | refine YR_intro (acall_data (hc) rfl) ?_
  simp only [go_sem, seval]
  refine hK _ ?_; clear hK K
  refine gB ?_
  (repeat refine ats_seq ?_); refine ats_no rfl trivial ?_
  refine ats_skip ?_
  refine gC fun K hK => ?_
  first | refine fcall_data (hG) rfl ?_ | refine YR_intro (acall_data (hG) rfl) ?_
  simp only [go_sem, seval]
  refine hK _ ?_; clear hK K
  exact ats_ret ⟨.inr rfl, .tup [.agg [.l3 T], .int 0], by simp only [resL, resA, go_sem, seval], rfl⟩
 ·rw [e] at hc ⊢
  rw [if_neg (by decide)]
  refine ring_nil ?_
  refine PureCall.intro (n := 13) (rs := [.cell 2 28, .tmp 3]) Try.call6 Try.func6 rfl rfl rfl (by simp only [List.length_cons, List.length_nil]; omega) (fun cx hcx => ats_of ?_); simp only [argSlots, Nat.zero_add, Nat.reduceAdd]
  refine gB ?_
  refine gC fun K hK => ?_
  first | refine fcall_data (hc) rfl ?_ | refine YR_intro (acall_data (hc) rfl) ?_
  simp only [go_sem, seval]
  refine hK _ ?_; clear hK K
  refine gB ?_
  (repeat refine ats_seq ?_); refine ats_yes rfl trivial ?_
  refine gB ?_
  exact ats_ret ⟨.inr rfl, .tup [.agg [.nil], .int 3], by simp only [resL, resA, go_sem, seval], rfl⟩
 ·rw [e] at hc ⊢
  rw [if_neg (by decide)]
  refine ring_nil ?_
  refine PureCall.intro (n := 13) (rs := [.cell 2 28, .tmp 3]) Try.call6 Try.func6 rfl rfl rfl (by simp only [List.length_cons, List.length_nil]; omega) (fun cx hcx => ats_of ?_); simp only [argSlots, Nat.zero_add, Nat.reduceAdd]
  refine gB ?_
  refine gC fun K hK => ?_
  first | refine fcall_data (hc) rfl ?_ | refine YR_intro (acall_data (hc) rfl) ?_
  simp only [go_sem, seval]
  refine hK _ ?_; clear hK K
  refine gB ?_
  (repeat refine ats_seq ?_); refine ats_yes rfl trivial ?_
  refine gB ?_
  exact ats_ret ⟨.inr rfl, .tup [.agg [.nil], .int 1], by simp only [resL, resA, go_sem, seval], rfl⟩
end Go.Proofs.Ytmjcbgpbhlheoaa
