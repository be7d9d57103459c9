import Derived.Test.YtcmgjlgmajhekaaYz5
import Derived.Test.YtcmgjlgmajhekaaYz3
import Derived.Test.YtcmgjlgmajhekaaJz3
set_option linter.unusedSimpArgs false
set_option linter.unusedVariables false
namespace Go.Proofs.Ytcmgjlgmajhekaa
open Go Go.Aw Go.Pl
attribute [local go_sem] pl_fin pl_stop pl_one pl_alt PK_ap pickO List.getElem?_toArray List.getElem?_cons_zero List.getElem?_cons_succ
theorem cocycle9_ok (o : List Int) (m : Int) (w : Cu) (hlw : w.length ≤ 1048576) : PureCall Try.prog 8 [.agg [.l1 o, .int m, .l3 w], .agg [.l1 o, .int m, .l3 w]] (.bool true) := by
 have hl := likeInts_ok o o
 rw [decide_eq_true rfl] at hl
 refine PureCall.intro (n := 47) (rs := [.tmp 4]) Try.call8 Try.func8 rfl rfl rfl (by simp only [List.length_cons, List.length_nil]; omega) (fun cx hcx => ats_of ?_); simp only [argSlots, Nat.zero_add, Nat.reduceAdd]
 refine gB ?_
 (repeat refine ats_seq ?_); refine ats_go (fix0 hcx) fun K hK => ?_; simp only [go_sem, seval, decide_true, Bool.not_true]
 first | refine fcall_data (hl) rfl ?_ | refine YR_intro (acall_data (hl) rfl) ?_
 simp only [go_sem, seval]
 simp only [go_sem, seval, decide_true, Bool.not_true]
 (repeat refine aI (hb := ?_))
 refine hK _ ?_; clear hK K
 (repeat refine ats_seq ?_); refine ats_no rfl trivial ?_
 refine ats_skip ?_
 refine gB ?_
 (repeat refine ats_seq ?_); refine ats_loop (fun i : Nat => ⟨[(2, .bptr 0 0), (3, .bptr 1 0), (5, .int i)], [(0, .bx [.l1 o, .int m, .l3 w]), (1, .bx [.l1 o, .int m, .l3 w])]⟩) (fun i => i ≤ w.length) (fun i => w.length - i) 0 (Nat.zero_le _) (by refine And.intro ?_ rfl; simp only [leS, Nat.reduceEqDiff, ↓reduceIte, true_and, and_true]; repeat' (first | rfl | with_reducible refine And.intro ?_ ?_ | omega)) (fun i hi => ?_)
 refine gB ?_
 refine gI (fun h2 => ?_) fun h2 => ?_
 ·have hk := same9_ok (w.getD i []) (w.getD i [])
  rw [decide_eq_true rfl] at hk
  refine ats_skip ?_
  (repeat refine ats_seq ?_); refine ats_block ?_
  (repeat refine ats_seq ?_); refine ats_pick (fix0 hcx) mixed (by kernel_rfl) fun K hK => ?_; simp only [go_sem, seval]
  (repeat refine aI (hb := ?_))
  first | refine fcall_free rfl rfl (hk) ?_ | refine YR_intro (acall_free rfl rfl (hk)) ?_
  simp only [go_sem, seval]
  refine hK _ ?_; clear hK K
  (repeat refine ats_seq ?_); refine ats_no rfl trivial ?_
  refine ats_skip ?_
  refine gB ?_
  refine ⟨i + 1,  by omega, by omega, .inl ⟨by simp only [leS, Nat.reduceEqDiff, ↓reduceIte, true_and, and_true]; omega,  rfl⟩⟩
 ·refine ats_exit (lq_x ?_)
  refine gB ?_
  refine ats_ret (finB rfl ?_)
  rfl
theorem cbA_form (o : List Int) (m : Int) (q : List (List Int)) : ∃ (a : List Int) (b : Int) (w : Cu), cbA o m q = .tup [.agg [.l1 a, .int b, .l3 w], .int (cbCode o m q)] ∧ w.length ≤ 1048576 ∧ (cbCode o m q = 0 → a = o ∧ b = m ∧ w = cobW o m (prodO o).toNat q) := by
 by_cases h : cbCode o m q = 0
 ·rw [cbA_yes h, h]
  have := cbC_zero h
  exact ⟨_, _, _, rfl, by rw [cobW_len]; omega, fun _ => ⟨rfl, rfl, rfl⟩⟩
 ·unfold cbA
  rw [if_neg h]
  exact ⟨_, _, _, rfl, Nat.zero_le _, fun e => absurd e h⟩
theorem slM_zero {o : List Int} {m : Int} {w : Cu} {x : Int} (h : slC o m w x ≠ 0) : slM o m w x = [] := if_neg h
set_option maxRecDepth 100000 in
set_option maxHeartbeats 8000000 in
theorem fnCoboundaries_ok (c : List Int) (hb : ByteOk c) : PureCall Try.prog 3 [.lv (bsV c)] (.bool true) := by
 have hbig := big_ok c
 by_cases hlen : 4096 < c.length
 ·rw [decide_eq_true hlen] at hbig
  refine PureCall.intro (n := 213) (rs := [.tmp 2]) Try.call3 Try.func3 rfl rfl rfl (by simp only [List.length_cons, List.length_nil]; omega) (fun cx hcx => ats_of ?_); simp only [argSlots, Nat.zero_add, Nat.reduceAdd]
  refine gB ?_
  refine gC fun K hK => ?_
  refine fcall_data (hbig) (by first | rfl | simp only [areData, Aw.isData, areData_bsV, Bool.and_true]) ?_; simp only [go_sem, seval]
  refine hK _ ?_; clear hK K
  (repeat refine ats_seq ?_); refine ats_yes rfl trivial ?_
  refine gB ?_
  refine ats_ret (finB rfl ?_)
  rfl
 ·rw [decide_eq_false hlen] at hbig
  have hc : CodeOk c := ⟨by omega, hb⟩
  obtain ⟨o, m, f, lo, hD1⟩ := DrawCoboundaryOf_ok c hc.len hb
  obtain ⟨zo, zm, zW, lzo, lzW, hD2⟩ := DrawIsCoboundary_ok c hc.len hb
  obtain ⟨uo, um, uW, x, luo, luW, hD3⟩ := DrawSlantOf_ok c hc.len hb
  have a1 := (implCbo_ok o m f (by omega)).pure
  have b1 := specCbo_ok o m f (by omega)
  obtain ⟨ca, cb, cw, eA, lcw, hA⟩ := cbA_form o m f
  rw [eA] at a1 b1
  have k1 := cocycle9_ok ca cb cw lcw
  obtain ⟨cd, ecd⟩ : ∃ cd, cbCode o m f = cd := ⟨_, rfl⟩
  rw [ecd] at a1 b1 hA
  have a2 := implIco_ok zo zm zW (by omega)
  have b2 := specIco_ok zo zm zW (by omega)
  generalize icB zo zm zW = z1 at *
  generalize icC zo zm zW = z2 at *
  have a3 := (implSla_ok uo um uW x (by omega)).pure
  have b3 := specSla_ok uo um uW x (by omega)
  have k3 := same9_ok (slM uo um uW x) (slM uo um uW x)
  rw [decide_eq_true rfl] at k3
  have hRo := roll_ok c hc 4022
  have ok0 := rlS_ok (seed := 4022) hc
  generalize rlS c 4022 = s0 at *
  refine PureCall.intro (n := 213) (rs := [.tmp 2]) Try.call3 Try.func3 rfl rfl rfl (by simp only [List.length_cons, List.length_nil]; omega) (fun cx hcx => ats_of ?_); simp only [argSlots, Nat.zero_add, Nat.reduceAdd]
  refine gB ?_
  refine gC fun K hK => ?_
  refine fcall_data (hbig) (by first | rfl | simp only [areData, Aw.isData, areData_bsV, Bool.and_true]) ?_; simp only [go_sem, seval]
  refine hK _ ?_; clear hK K
  (repeat refine ats_seq ?_); refine ats_no rfl trivial ?_
  refine ats_skip ?_
  refine gC fun K hK => ?_
  refine fcall_data (hD1) (by first | rfl | simp only [areData, Aw.isData, areData_bsV, Bool.and_true]) ?_; simp only [go_sem, seval]
  refine hK _ ?_; clear hK K
  refine gC fun K hK => ?_
  first | refine fcall_data (a1) rfl ?_ | refine YR_intro (acall_data (a1) rfl) ?_
  simp only [go_sem, seval]
  refine hK _ ?_; clear hK K
  refine gC fun K hK => ?_
  first | refine fcall_data (b1) rfl ?_ | refine YR_intro (acall_data (b1) rfl) ?_
  simp only [go_sem, seval]
  refine hK _ ?_; clear hK K
  (repeat refine ats_seq ?_); refine ats_go (fix0 hcx) fun K hK => ?_; simp only [go_sem, seval, decide_true, Bool.not_true]
  first | refine YR_intro (fun _ => acall_data (k1) rfl) ?_ | refine YR_intro (acall_data (k1) rfl) ?_
  simp only [go_sem, seval]
  (try simp only [go_sem, seval, decide_true, Bool.not_true])
  refine hK _ ?_; clear hK K
  (repeat refine ats_seq ?_); refine ats_no rfl trivial ?_
  refine ats_skip ?_
  refine gB ?_
  (repeat refine ats_seq ?_)
  refine ats_upto ⟨[(0, .lv (bsV c)), (2, .bool false)], []⟩ ?_ ?_
  ·refine gI (fun h0 => ?_) fun h0 => ?_
   ·obtain ⟨e1, e2, e3'⟩ := hA h0
    subst h0
    obtain ⟨hp, h8, m1, m2, hq⟩ := cbC_zero ecd
    obtain ⟨n, hn⟩ : ∃ n : Nat, (n : Int) = prodO o := ⟨(prodO o).toNat, by have := prodO_pos hp; omega⟩
    have n1 := prodO_pos hp
    rw [nO hn] at hq e3'
    have hOk := cob_ok hp h8 m1 m2 hn hq
    have hIs : isCoc o m (cobW o m n f) = true := bd_true hOk
    have lW : (cobW o m n f).length = n := cobW_len
    have hBe := below_ok s0 ok0 n (by omega)
    have bBe := nx_bd s0 (n := (n : Int)) (by omega)
    obtain ⟨j, ej⟩ : ∃ j, nx s0 n = j := ⟨_, rfl⟩
    rw [ej] at hBe bBe
    obtain ⟨y, ey⟩ : ∃ y : Nat, j.1 = y := ⟨j.1.toNat, by omega⟩
    rw [ey] at hBe bBe
    have hy : y < n := by omega
    obtain ⟨r, r1, r2, hr, hmin⟩ := kxo_zero hp hn hy
    have iV := implIva_ok o m (cobW o m n f) y r hIs (by rw [lW]; exact hy) r1 (by rw [lW]; exact r2) hr hmin
    rw [cob_inv hp hn hy hr] at iV
    have iC := implIco_ok o m (cobW o m n f) (by omega)
    have iI := IsCocycle_ok o m (cobW o m n f)
    rw [hIs] at iI
    have eC : icC o m (cobW o m n f) = if smB m = true then 0 else 5 := by unfold icC; rw [if_pos hIs]
    have eB : icB o m (cobW o m n f) = smB m := by
     unfold icB
     rw [hIs, Bool.true_and, lW]
     cases hs : smB m with
     | false => rfl
     | true => rw [cob_is hp hn (smB_iff.1 hs) hq]; rfl
    rw [eC, eB] at iC
    have esm : (decide (m = 2) || decide (m = 3) || decide (m = 5) || decide (m = 7)) = smB m := rfl
    rw [← lW] at hBe
    generalize cobW o m n f = W at *
    subst e1 e2 e3'
    clear hA ecd hD1 b1 a1 k1 hOk hq hIs eC eB
    (repeat refine ats_seq ?_); refine AT.ghost (st' := ⟨[(0, .lv (bsV c)), (2, .bool false), (4, .int cb), (6, .bptr 7 0)], [(7, .bx [.l1 ca, .int cb, .l3 cw])]⟩) (ghost_to [1] [(0, 7)]) ?_
    (repeat refine ats_seq ?_)
    refine ats_plan [1, 5] (.one 0 (.alt 1 (.one 2 (.one 3 (.one 4 (.alt 5 (.one 6 .fin) .stop)))) (.alt 2 (.alt 1 (.one 3 (.one 4 (.alt 5 (.one 6 .fin) .stop))) (.alt 3 (.alt 1 (.one 4 (.alt 5 (.one 6 .fin) .stop)) (.alt 4 (.alt 1 (.alt 5 (.one 6 .fin) .stop) .stop) .stop)) .stop)) .stop))) ⟨[(0, .lv (bsV c)), (2, .bool false), (4, .int cb), (6, .bptr 7 0), (10, .int y)], [(0, srcB j.2), (7, .bx [.l1 ca, .int cb, .l3 cw])]⟩ (fix0 hcx) mixed (by kernel_rfl) (fun K hK => ?_) ?_
    ·simp only [go_sem, seval, Option.getD_some, and_true, true_and, and_self, List.contains_cons, List.contains_nil, Bool.or_false, Bool.or_true]
     repeat' (first | exact hK _ (by refine And.intro ?_ rfl; simp only [leS, Nat.reduceEqDiff, ↓reduceIte, true_and, and_true])  | with_reducible refine And.intro ?_ ?_ | omega | (refine fcall_box (hRo) (by simp [Aw.ids]) (by simp [find]) (by simp [closedT, killT_e, killAs, killA, outQ, Aw.ids]) (by simp [killAs, killA, outQ, Aw.ids]) (by simp [Aw.ids]) ?_; simp only [Aw.ids, List.map_cons, List.map_nil, List.filter_cons, List.filter_nil, List.contains_cons, List.contains_nil, Bool.or_false, Bool.or_true, Bool.not_true, Bool.not_false, Nat.reduceBEq, Bool.false_eq_true, if_true, if_false, List.cons_append, List.nil_append]; simp only [go_sem, seval, Option.getD_some, and_true, true_and, and_self, List.contains_cons, List.contains_nil, Bool.or_false, Bool.or_true]) | (refine fcall_box (hBe) (by simp [Aw.ids]) (by simp [find]) (by simp [closedT, killT_e, killAs, killA, outQ, Aw.ids]) (by simp [killAs, killA, outQ, Aw.ids]) (by simp [Aw.ids]) ?_; simp only [Aw.ids, List.map_cons, List.map_nil, List.filter_cons, List.filter_nil, List.contains_cons, List.contains_nil, Bool.or_false, Bool.or_true, Bool.not_true, Bool.not_false, Nat.reduceBEq, Bool.false_eq_true, if_true, if_false, List.cons_append, List.nil_append]; simp only [go_sem, seval, Option.getD_some, and_true, true_and, and_self, List.contains_cons, List.contains_nil, Bool.or_false, Bool.or_true]))
    refine gC fun K hK => ?_
    first | refine fcall_data (iV) rfl ?_ | refine YR_intro (acall_data (iV) rfl) ?_
    simp only [go_sem, seval]
    refine hK _ ?_; clear hK K
    cases hs : smB cb with
    | true =>
     rw [hs] at iC esm
     rw [if_pos rfl] at iC
     refine gC fun K hK => ?_
     first | refine fcall_data (iC) rfl ?_ | refine YR_intro (acall_data (iC) rfl) ?_
     simp only [go_sem, seval]
     refine hK _ ?_; clear hK K
     refine gB ?_
     rw [esm]
     (repeat refine ats_seq ?_); refine ats_go (fix0 hcx) fun K hK => ?_; simp only [go_sem, seval, decide_true, Bool.not_true]
     first | refine YR_intro (fun _ => acall_data (iI) rfl) ?_ | refine YR_intro (acall_data (iI) rfl) ?_
     simp only [go_sem, seval]
     (try simp only [go_sem, seval, decide_true, Bool.not_true])
     refine hK _ ?_; clear hK K
     (repeat refine ats_seq ?_); refine ats_no rfl trivial ?_
     refine ats_skip ?_
     refine ats_nil ?_; refine Or.inl ⟨rfl, ghost_to [0, 7] []⟩
    | false =>
     rw [hs] at iC esm
     rw [if_neg (by decide)] at iC
     refine gC fun K hK => ?_
     first | refine fcall_data (iC) rfl ?_ | refine YR_intro (acall_data (iC) rfl) ?_
     simp only [go_sem, seval]
     refine hK _ ?_; clear hK K
     refine gB ?_
     rw [esm]
     (repeat refine ats_seq ?_); refine ats_go (fix0 hcx) fun K hK => ?_; simp only [go_sem, seval, decide_true, Bool.not_true]
     first | refine YR_intro (fun _ => acall_data (iI) rfl) ?_ | refine YR_intro (acall_data (iI) rfl) ?_
     simp only [go_sem, seval]
     (try simp only [go_sem, seval, decide_true, Bool.not_true])
     refine hK _ ?_; clear hK K
     (repeat refine ats_seq ?_); refine ats_no rfl trivial ?_
     refine ats_skip ?_
     refine ats_nil ?_; refine Or.inl ⟨rfl, ghost_to [0, 7] []⟩
   ·refine ats_skip ?_
    refine ats_nil ?_; refine Or.inl ⟨rfl, ghost_to [0, 1] []⟩
  clear hRo a1 b1 k1 hD1 hA
  refine gC fun K hK => ?_
  refine fcall_data (hD2) (by first | rfl | simp only [areData, Aw.isData, areData_bsV, Bool.and_true]) ?_; simp only [go_sem, seval]
  refine hK _ ?_; clear hK K
  refine gC fun K hK => ?_
  first | refine fcall_data (a2) rfl ?_ | refine YR_intro (acall_data (a2) rfl) ?_
  simp only [go_sem, seval]
  refine hK _ ?_; clear hK K
  refine gC fun K hK => ?_
  first | refine fcall_data (b2) rfl ?_ | refine YR_intro (acall_data (b2) rfl) ?_
  simp only [go_sem, seval]
  refine hK _ ?_; clear hK K
  (repeat refine ats_seq ?_); refine ats_go (fix0 hcx) fun K hK => ?_; simp only [go_sem, seval, decide_true, Bool.not_true]
  (repeat refine aI (hb := ?_))
  refine hK _ ?_; clear hK K
  (repeat refine ats_seq ?_); refine ats_no rfl trivial ?_
  refine ats_skip ?_
  refine gC fun K hK => ?_
  refine fcall_data (hD3) (by first | rfl | simp only [areData, Aw.isData, areData_bsV, Bool.and_true]) ?_; simp only [go_sem, seval]
  refine hK _ ?_; clear hK K
  refine gC fun K hK => ?_
  first | refine fcall_data (a3) rfl ?_ | refine YR_intro (acall_data (a3) rfl) ?_
  simp only [go_sem, seval]
  refine hK _ ?_; clear hK K
  refine gC fun K hK => ?_
  first | refine fcall_data (b3) rfl ?_ | refine YR_intro (acall_data (b3) rfl) ?_
  simp only [go_sem, seval]
  refine hK _ ?_; clear hK K
  (repeat refine ats_seq ?_); refine ats_go (fix0 hcx) fun K hK => ?_; simp only [go_sem, seval, decide_true, Bool.not_true]
  first | refine YR_intro (fun _ => acall_data (k3) rfl) ?_ | refine YR_intro (acall_data (k3) rfl) ?_
  simp only [go_sem, seval]
  (try simp only [go_sem, seval, decide_true, Bool.not_true])
  refine hK _ ?_; clear hK K
  (repeat refine ats_seq ?_); refine ats_no rfl trivial ?_
  refine ats_skip ?_
  refine gB ?_
  refine gI (fun h5 => ?_) fun h5 => ?_
  ·rw [slM_zero h5]
   refine gB ?_
   refine ats_ret (finB rfl ?_)
   rfl
  ·have h0 : slC uo um uW x = 0 := by omega
   obtain ⟨hu, k, rfl, hk⟩ := slC_zero h0
   have hI : isCoc uo um uW = true := bd_true hu
   obtain ⟨n, en⟩ : ∃ n, uW.length = n := ⟨_, rfl⟩
   have z0 := fun y (hy : y < n) => sl_zero (m := um) hu.2.1 hk (show y < uW.length by omega)
   have eM : slM uo um uW k = matF n n (slV um uW k) := by
    unfold slM
    rw [if_pos h0, Int.toNat_natCast, en]
   obtain ⟨r, r1, r2, hr, hmin⟩ := kxo_zero hu.1.1 (by rw [← hu.1.2.2.2.2.1]) hk
   have iV := implIva_ok uo um uW k r hI hk r1 r2 hr hmin
   have iS := specIva_ok uo um uW k r hI hk r1 r2 hr hmin
   have n8 := hu.1.n8
   obtain ⟨F, eF⟩ : ∃ F, slV um uW k = F := ⟨_, rfl⟩
   rw [eF] at eM z0
   rw [eM]
   generalize ivS uo uW k r % um = iv at *
   have lM := matF_length n n F
   have r0 : (matF n n F).getD 0 [] = rowF n (F 0) := matF_get (by omega)
   have l0 := rowF_length n (F 0)
   refine ats_skip ?_
   (repeat refine ats_seq ?_); refine AT.ghost (st' := ⟨[(0, .lv (bsV c)), (2, .bool false), (21, .bptr 7 0), (22, .int k), (23, .l2 (matF n n F))], [(7, .bx [.l1 uo, .int um, .l3 uW])]⟩) (ghost_to [0] [(1, 7)]) ?_
   refine gB ?_
   (repeat refine ats_seq ?_); refine ats_loop (fun y : Nat => ⟨[(0, .lv (bsV c)), (2, .bool false), (21, .bptr 7 0), (22, .int k), (23, .l2 (matF n n F)), (27, .int y)], [(7, .bx [.l1 uo, .int um, .l3 uW])]⟩) (fun y => y ≤ n) (fun y => n - y) 0 (Nat.zero_le _) (by refine And.intro ?_ rfl; simp only [leS, Nat.reduceEqDiff, ↓reduceIte, true_and, and_true]; repeat' (first | rfl | with_reducible refine And.intro ?_ ?_ | omega)) (fun y hy => ?_)
   (repeat refine ats_seq ?_); refine ats_go (fix0 hcx) fun K hK => ?_; simp only [go_sem, seval, lM]
   (repeat refine aI (hb := ?_))
   refine hK _ ?_; clear hK K
   refine gI (fun h6 => ?_) fun h6 => ?_
   ·have hy : y < n := by omega
    have ry : (matF n n F).getD y [] = rowF n (F y) := matF_get hy
    have ly := rowF_length n (F y)
    have g1 : (rowF n (F 0)).getD y 0 = 0 := by rw [rowF_get hy]; exact (z0 y hy).1
    have g2 : (rowF n (F y)).getD 0 0 = 0 := by rw [rowF_get (by omega)]; exact (z0 y hy).2
    refine ats_skip ?_
    (repeat refine ats_seq ?_); refine ats_block ?_
    (repeat refine ats_seq ?_); refine ats_go (fix0 hcx) fun K hK => ?_; simp only [go_sem, seval, lM, r0, l0, ry, ly, g1, g2, decide_true, Bool.not_true]
    (repeat refine aI (hb := ?_))
    refine hK _ ?_; clear hK K
    (repeat refine ats_seq ?_); refine ats_no rfl trivial ?_
    refine ats_skip ?_
    refine gB ?_
    refine ⟨y + 1,  by omega, by omega, .inl ⟨by simp only [leS, Nat.reduceEqDiff, ↓reduceIte, true_and, and_true]; omega,  rfl⟩⟩
   ·refine ats_exit (lq_x ?_)
    refine gC fun K hK => ?_
    first | refine fcall_data (iV) rfl ?_ | refine YR_intro (acall_data (iV) rfl) ?_
    simp only [go_sem, seval]
    refine hK _ ?_; clear hK K
    refine gC fun K hK => ?_
    first | refine fcall_data (iS) rfl ?_ | refine YR_intro (acall_data (iS) rfl) ?_
    simp only [go_sem, seval]
    refine hK _ ?_; clear hK K
    (repeat refine ats_seq ?_); refine ats_go (fix0 hcx) fun K hK => ?_; simp only [go_sem, seval, decide_true]
    (repeat refine aI (hb := ?_))
    refine hK _ ?_; clear hK K
    refine ats_ret (finB rfl ?_)
    first | rfl | simp
end Go.Proofs.Ytcmgjlgmajhekaa
