import Derived.Test.YtafkbnicffieeaaEa
import Derived.Test.YtafkbnicffieeaaDs
set_option linter.unusedSimpArgs false
set_option linter.unusedVariables false
namespace Go.Proofs.Ytafkbnicffieeaa
open Go Go.Aw Go.Pl

noncomputable def inA (s : List (List Int)) (t : List Int) (a k : Int) : Int × Int := if isData s t then (if inC t a && kOk k then (dS (gI s t (cL s t.length) a.toNat k) t.length t.length 0 % 55441 * inv (wholeD s t.length) % 55441, 0) else (0, 2)) else (0, 1)
theorem specIn_ok (s : List (List Int)) (t : List Int) (a k : Int) : PureCall Try.prog 46 [.agg [.l2 s, .l1 t], .int a, .int k] (.tup [.int (inA s t a k).1, .int (inA s t a k).2]) := by
  have hk := l12Is_ok s t
  have hi : PureCall Try.prog 100 [.int a, .int 0, .int ((t.length : Int) - 1)] (.bool (inC t a)) := l01In_ok a 0 ((t.length : Int) - 1)
  have hi2 : PureCall Try.prog 100 [.int k, .int (-1000), .int 1000] (.bool (kOk k)) := l01In_ok k (-1000) 1000
  unfold inA
  refine PureCall.intro (n := 110) (rs := [.tmp 6, .tmp 7]) Try.call46 Try.func46 rfl rfl rfl (by simp only [List.length_cons, List.length_nil]; omega) (fun cx hcx => ats_of ?_); simp only [argSlots, Nat.zero_add, Nat.reduceAdd]
  (repeat refine ats_seq ?_); refine ats_go (by first | exact fix0 hcx | exact fix1 hcx rfl) fun K hK => ?_; simp only [go_sem, seval]; refine hK _ ?_; clear hK K
  cases h : isData s t with
  | false =>
    rw [h] at hk
    (repeat refine ats_seq ?_); refine ats_go (by first | exact fix0 hcx | exact fix1 hcx rfl) fun K hK => ?_; simp only [go_sem, seval]
    first | refine fcall_free rfl rfl (hk) ?_ | refine YR_intro (acall_free rfl rfl (hk)) ?_
    simp only [go_sem, seval]
    refine hK _ ?_; clear hK K
    (repeat refine ats_seq ?_); refine ats_yes rfl trivial ?_
    (repeat refine ats_seq ?_); refine ats_go (by first | exact fix0 hcx | exact fix1 hcx rfl) fun K hK => ?_; simp only [go_sem, seval]; refine hK _ ?_; clear hK K
    exact ats_ret (fin2 trivial trivial rfl)
  | true =>
    obtain ⟨hs, hst, hw, c, hc, hT, hR⟩ := isData_some h
    have hr := l13Ring_ok s t c hs hw hc
    obtain ⟨lc, hC⟩ := cj_in hc
    obtain ⟨rfl, -⟩ := cj_get hc
    have h16 := hs.2.1
    have h1 := hs.1
    have hm := hs.2.2.1
    have ls := hm.1
    have ht := hs.2.2.2
    have r0 := hm.row (show 0 < t.length by omega)
    rw [h] at hk
    (repeat refine ats_seq ?_); refine ats_go (by first | exact fix0 hcx | exact fix1 hcx rfl) fun K hK => ?_; simp only [go_sem, seval]
    first | refine fcall_free rfl rfl (hk) ?_ | refine YR_intro (acall_free rfl rfl (hk)) ?_
    simp only [go_sem, seval]
    refine hK _ ?_; clear hK K
    (repeat refine ats_seq ?_); refine ats_no rfl trivial ?_
    refine ats_skip ?_
    (repeat refine ats_seq ?_); refine ats_go (by first | exact fix0 hcx | exact fix1 hcx rfl) fun K hK => ?_; simp only [go_sem, seval]
    (repeat refine And.intro (by first | omega | (intro hq; first | omega | (simp at hq <;> omega) | (simp_all <;> omega))) ?_)
    first | refine fcall_free rfl rfl (hi) ?_ | refine YR_intro (acall_free rfl rfl (hi)) ?_
    simp only [go_sem, seval]
    first | refine YR_intro (fun _ => acall_free rfl rfl (hi2)) ?_ | refine YR_intro (acall_free rfl rfl (hi2)) ?_
    simp only [go_sem, seval]
    refine hK _ ?_; clear hK K
    (repeat refine ats_seq ?_); first | refine ats_ifn (p := _) rfl trivial (fun hcc => ?_) (fun hcc => ?_) | refine ats_ifp (p := _) rfl trivial (fun hcc => ?_) (fun hcc => ?_) | refine ats_cond rfl trivial (fun hcc => ?_) (fun hcc => ?_)
    · have e : (inC t a && kOk k) = false := by
        cases h1 : inC t a <;> cases h2 : kOk k <;> simp_all
      (repeat refine ats_seq ?_); refine ats_go (by first | exact fix0 hcx | exact fix1 hcx rfl) fun K hK => ?_; simp only [go_sem, seval]; refine hK _ ?_; clear hK K
      rw [e]
      exact ats_ret (fin2 trivial trivial rfl)
    · simp only [Bool.or_eq_false_iff, Bool.not_eq_false'] at hcc
      obtain ⟨ha, hk1⟩ := hcc
      have hai := inC_true ha
      have hkk := hk1
      simp only [kOk, Bool.and_eq_true, decide_eq_true_eq] at hkk
      refine ats_skip ?_
      (repeat refine ats_seq ?_); refine ats_go (by first | exact fix0 hcx | exact fix1 hcx rfl) fun K hK => ?_; simp only [go_sem, seval]
      first | refine fcall_data (hr) rfl ?_ | refine YR_intro (acall_data (hr) rfl) ?_
      simp only [go_sem, seval]
      refine hK _ ?_; clear hK K
      (repeat refine ats_seq ?_); refine ats_go (by first | exact fix0 hcx | exact fix1 hcx rfl) fun K hK => ?_; simp only [go_sem, seval]; refine hK _ ?_; clear hK K
      (repeat refine ats_seq ?_); refine ats_loop (fun j : Nat => ⟨[(1, .int a), (2, .int k), (3, .bptr 0 0), (8, .l3 (numD s t.length (cL s t.length))), (9, .int (dS (gI s t (cL s t.length) a.toNat k) t.length j 0 % 55441)), (10, .int j)], [(0, .bx [.l2 s, .l1 t])]⟩) (fun j => j ≤ t.length) (fun j => t.length - j) 0 (Nat.zero_le _) (by refine And.intro ?_ rfl; simp only [SlotsLe, St.get, slotGet, Nat.reduceEqDiff, ↓reduceIte, true_and, and_true, AV.int.injEq, AV.bool.injEq, AV.l1.injEq, AV.l2.injEq, AV.l3.injEq]; repeat' (first | rfl | omega | refine And.intro ?_ ?_)) (fun j hj => ?_)
      (repeat refine ats_seq ?_); refine ats_go (by first | exact fix0 hcx | exact fix1 hcx rfl) fun K hK => ?_; simp only [go_sem, seval]; refine hK _ ?_; clear hK K
      (repeat refine ats_seq ?_); first | refine ats_ifn (p := _) rfl trivial (fun hc4 => ?_) (fun hc4 => ?_) | refine ats_ifp (p := _) rfl trivial (fun hc4 => ?_) (fun hc4 => ?_) | refine ats_cond rfl trivial (fun hc4 => ?_) (fun hc4 => ?_)
      · have hm1 := numD_mat (s := s) (c := cL s t.length) (show j < t.length by omega)
        refine ats_skip ?_
        (repeat refine ats_seq ?_); refine ats_block ?_
        (repeat refine ats_seq ?_); refine ats_go (by first | exact fix0 hcx | exact fix1 hcx rfl) fun K hK => ?_; simp only [go_sem, seval]; refine hK _ ?_; clear hK K
        (repeat refine ats_seq ?_); refine ats_loop (fun l : Nat => ⟨[(1, .int a), (2, .int k), (3, .bptr 0 0), (8, .l3 (numD s t.length (cL s t.length))), (9, .int (dS (gI s t (cL s t.length) a.toNat k) t.length j l % 55441)), (10, .int j), (11, .int l)], [(0, .bx [.l2 s, .l1 t])]⟩) (fun l => l ≤ t.length) (fun l => t.length - l) 0 (Nat.zero_le _) (by refine And.intro ?_ rfl; simp only [SlotsLe, St.get, slotGet, Nat.reduceEqDiff, ↓reduceIte, true_and, and_true, AV.int.injEq, AV.bool.injEq, AV.l1.injEq, AV.l2.injEq, AV.l3.injEq]; repeat' (first | rfl | omega | refine And.intro ?_ ?_)) (fun l hl => ?_)
        (repeat refine ats_seq ?_); refine ats_go (by first | exact fix0 hcx | exact fix1 hcx rfl) fun K hK => ?_; simp only [go_sem, seval]; refine hK _ ?_; clear hK K
        (repeat refine ats_seq ?_); first | refine ats_ifn (p := _) rfl trivial (fun hc6 => ?_) (fun hc6 => ?_) | refine ats_ifp (p := _) rfl trivial (fun hc6 => ?_) (fun hc6 => ?_) | refine ats_cond rfl trivial (fun hc6 => ?_) (fun hc6 => ?_)
        · have hrow := numD_row (s := s) (c := cL s t.length) (show j < t.length by omega) (show l < t.length by omega)
          have rg : (rowF t.length (numV s t.length (cL s t.length) j l)).getD a.toNat 0 = numV s t.length (cL s t.length) j l a.toNat := rowF_get (by omega)
          have hit := dS_it (f := gI s t (cL s t.length) a.toNat k) (n := t.length) (j := j) (l := l)
          have pS : InP (dS (gI s t (cL s t.length) a.toNat k) t.length j l % 55441) := inP_md _
          refine ats_skip ?_
          (repeat refine ats_seq ?_); refine ats_block ?_
          (repeat refine ats_seq ?_); refine ats_go (by first | exact fix0 hcx | exact fix1 hcx rfl) fun K hK => ?_; simp only [go_sem, seval]
          simp only [numD_length, hm1, hrow, rowF_length, rg]
          (repeat refine And.intro (by first | omega | (intro hq; first | omega | (simp at hq <;> omega) | (simp_all <;> omega))) ?_)
          refine hK _ ?_; clear hK K
          (repeat refine ats_seq ?_); first | refine ats_ifn (p := _) rfl trivial (fun hc7 => ?_) (fun hc7 => ?_) | refine ats_ifp (p := _) rfl trivial (fun hc7 => ?_) (fun hc7 => ?_) | refine ats_cond rfl trivial (fun hc7 => ?_) (fun hc7 => ?_)
          · have e0 : gI s t (cL s t.length) a.toNat k j l = 0 := by unfold gI; rw [hc7]; simp
            rw [e0, Int.add_zero, emd] at hit
            refine ats_exit (bq_x ?_)
            (repeat refine ats_seq ?_); refine ats_go (by first | exact fix0 hcx | exact fix1 hcx rfl) fun K hK => ?_; simp only [go_sem, seval]; (repeat refine And.intro (by first | omega | (intro hq; first | omega | (simp at hq <;> omega) | (simp_all <;> omega))) ?_); refine hK _ ?_; clear hK K
            refine ⟨l + 1,  by omega, by omega, .inl ⟨by simp only [SlotsLe, St.get, slotGet, Nat.reduceEqDiff, ↓reduceIte, AV.int.injEq, AV.bool.injEq, AV.l1.injEq, AV.l2.injEq, AV.l3.injEq, true_and, and_true]; exact ⟨hit, by omega⟩,  rfl⟩⟩
          · have pj := ht j (by omega)
            have pl := ht l (by omega)
            have m1 := mulP pj (inv_InP pl)
            have pr1 := rs_InP (k := k) (inP_md (t.getD j 0 * inv (t.getD l 0)))
            have pN := numV_InP s t.length (cL s t.length) j l a.toNat
            have d1 := hm.inP (show 0 < t.length by omega) (show j < t.length by omega)
            have d2 := hm.inP (show 0 < t.length by omega) (show l < t.length by omega)
            have m2 := mulP pN d1
            have m3 := mulP (inP_md (numV s t.length (cL s t.length) j l a.toNat * e2 s 0 j)) d2
            have m4 := mulP (inP_md (numV s t.length (cL s t.length) j l a.toNat * e2 s 0 j % 55441 * e2 s 0 l)) pr1
            unfold InP at pS
            have eg : gI s t (cL s t.length) a.toNat k j l = numV s t.length (cL s t.length) j l a.toNat * e2 s 0 j % 55441 * e2 s 0 l % 55441 * rs (t.getD j 0 * inv (t.getD l 0) % 55441) k := rfl
            rw [eg] at hit
            simp only [e2] at m2 m3 m4 hit
            refine ats_skip ?_
            (repeat refine ats_seq ?_); refine ats_pick (fix0 hcx) mixed (by kernel_rfl) fun K hK => ?_; simp only [go_sem, seval]
            (repeat refine And.intro (by first | omega | (intro hq; first | omega | (simp at hq <;> omega) | (simp_all <;> omega))) ?_)
            first | refine fcall_data (l01Inv_ok _ pl) rfl ?_ | refine YR_intro (acall_data (l01Inv_ok _ pl) rfl) ?_
            simp only [go_sem, seval]
            try simp (disch := omega) only [tmP, tdP]
            (repeat refine And.intro (by first | omega | (intro hq; first | omega | (simp at hq <;> omega) | (simp_all <;> omega))) ?_)
            first | refine fcall_data (l15Raise_ok _ _ (inP_md _) (by omega) (by omega)) rfl ?_ | refine YR_intro (acall_data (l15Raise_ok _ _ (inP_md _) (by omega) (by omega)) rfl) ?_
            simp only [go_sem, seval]
            refine hK _ ?_; clear hK K
            (repeat refine ats_seq ?_); refine ats_pick (fix0 hcx) mixed (by kernel_rfl) fun K hK => ?_; simp only [go_sem, seval]
            simp only [numD_length, hm1, hrow, rowF_length, rg]
            try simp (disch := omega) only [tmP, tdP]
            (repeat refine And.intro (by first | omega | (intro hq; first | omega | (simp at hq <;> omega) | (simp_all <;> omega))) ?_)
            refine hK _ ?_; clear hK K
            (repeat refine ats_seq ?_); refine ats_go (by first | exact fix0 hcx | exact fix1 hcx rfl) fun K hK => ?_; simp only [go_sem, seval]; (repeat refine And.intro (by first | omega | (intro hq; first | omega | (simp at hq <;> omega) | (simp_all <;> omega))) ?_); refine hK _ ?_; clear hK K
            refine ⟨l + 1,  by omega, by omega, .inl ⟨by simp only [SlotsLe, St.get, slotGet, Nat.reduceEqDiff, ↓reduceIte, AV.int.injEq, AV.bool.injEq, AV.l1.injEq, AV.l2.injEq, AV.l3.injEq, true_and, and_true]; exact ⟨hit, by omega⟩,  rfl⟩⟩
        · obtain rfl : l = t.length := by omega
          rw [dS_row]
          refine ats_exit (lq_x ?_)
          (repeat refine ats_seq ?_); refine ats_go (by first | exact fix0 hcx | exact fix1 hcx rfl) fun K hK => ?_; simp only [go_sem, seval]; (repeat refine And.intro (by first | omega | (intro hq; first | omega | (simp at hq <;> omega) | (simp_all <;> omega))) ?_); refine hK _ ?_; clear hK K
          refine ⟨j + 1,  by omega, by omega, .inl ⟨by simp only [SlotsLe, St.get, slotGet, Nat.reduceEqDiff, ↓reduceIte, AV.int.injEq, AV.bool.injEq, AV.l1.injEq, AV.l2.injEq, AV.l3.injEq, true_and, and_true]; omega,  rfl⟩⟩
      · obtain rfl : j = t.length := by omega
        have pS : InP (dS (gI s t (cL s t.length) a.toNat k) t.length t.length 0 % 55441) := inP_md _
        have m5 := mulP pS (inv_InP (inP_md (sumTo (wG s) t.length)))
        have hinv : PureCall Try.prog 86 [.int (wholeD s t.length)] (.int (inv (wholeD s t.length))) := l01Inv_ok _ (inP_md _)
        have m6 : 0 ≤ dS (gI s t (cL s t.length) a.toNat k) t.length t.length 0 % 55441 * inv (wholeD s t.length) ∧ dS (gI s t (cL s t.length) a.toNat k) t.length t.length 0 % 55441 * inv (wholeD s t.length) ≤ 3073593600 := m5
        refine ats_exit (lq_x ?_)
        (repeat refine ats_seq ?_); refine ats_go (by first | exact fix0 hcx | exact fix1 hcx rfl) fun K hK => ?_; simp only [go_sem, seval]
        first | refine fcall_data (l12Whole_ok s t hs) rfl ?_ | refine YR_intro (acall_data (l12Whole_ok s t hs) rfl) ?_
        simp only [go_sem, seval]
        first | refine fcall_free rfl rfl (hinv) ?_ | refine YR_intro (acall_free rfl rfl (hinv)) ?_
        simp only [go_sem, seval]
        try simp (disch := omega) only [tmP, tdP]
        (repeat refine And.intro (by first | omega | (intro hq; first | omega | (simp at hq <;> omega) | (simp_all <;> omega))) ?_)
        refine hK _ ?_; clear hK K
        rw [ha, hk1]
        exact ats_ret (fin2 trivial trivial rfl)

theorem implIn_ok (s : List (List Int)) (t : List Int) (a k : Int) : PureCall Try.prog 47 [.agg [.l2 s, .l1 t], .int a, .int k] (.tup [.int (inA s t a k).1, .int (inA s t a k).2]) := by
  have hk := IsData_ok s t
  have hi2 : PureCall Try.prog 104 [.int k, .int (-1000), .int 1000] (.bool (kOk k)) := within_ok k (-1000) 1000
  unfold inA
  refine PureCall.intro (n := 103) (rs := [.tmp 6, .tmp 7]) Try.call47 Try.func47 rfl rfl rfl (by simp only [List.length_cons, List.length_nil]; omega) (fun cx hcx => ats_of ?_); simp only [argSlots, Nat.zero_add, Nat.reduceAdd]
  (repeat refine ats_seq ?_); refine ats_go (by first | exact fix0 hcx | exact fix1 hcx rfl) fun K hK => ?_; simp only [go_sem, seval]; refine hK _ ?_; clear hK K
  cases h : isData s t with
  | false =>
    rw [h] at hk
    (repeat refine ats_seq ?_); refine ats_go (by first | exact fix0 hcx | exact fix1 hcx rfl) fun K hK => ?_; simp only [go_sem, seval]
    first | refine fcall_free rfl rfl (hk) ?_ | refine YR_intro (acall_free rfl rfl (hk)) ?_
    simp only [go_sem, seval]
    refine hK _ ?_; clear hK K
    (repeat refine ats_seq ?_); refine ats_yes rfl trivial ?_
    (repeat refine ats_seq ?_); refine ats_go (by first | exact fix0 hcx | exact fix1 hcx rfl) fun K hK => ?_; simp only [go_sem, seval]; refine hK _ ?_; clear hK K
    exact ats_ret (fin2 trivial trivial rfl)
  | true =>
    obtain ⟨hs, hst, hw, c, hc, hT, hR⟩ := isData_some h
    have hr := ring_ok s t c hs hc
    have hi := isCharge_ok s t a hs
    obtain ⟨lc, hC⟩ := cj_in hc
    obtain ⟨rfl, -⟩ := cj_get hc
    have h16 := hs.2.1
    have h1 := hs.1
    have hm := hs.2.2.1
    have ls := hm.1
    have ht := hs.2.2.2
    have r0 := hm.row (show 0 < t.length by omega)
    rw [h] at hk
    (repeat refine ats_seq ?_); refine ats_go (by first | exact fix0 hcx | exact fix1 hcx rfl) fun K hK => ?_; simp only [go_sem, seval]
    first | refine fcall_free rfl rfl (hk) ?_ | refine YR_intro (acall_free rfl rfl (hk)) ?_
    simp only [go_sem, seval]
    refine hK _ ?_; clear hK K
    (repeat refine ats_seq ?_); refine ats_no rfl trivial ?_
    refine ats_skip ?_
    (repeat refine ats_seq ?_); refine ats_go (by first | exact fix0 hcx | exact fix1 hcx rfl) fun K hK => ?_; simp only [go_sem, seval]
    first | refine fcall_free rfl rfl (hi) ?_ | refine YR_intro (acall_free rfl rfl (hi)) ?_
    simp only [go_sem, seval]
    first | refine YR_intro (fun _ => acall_free rfl rfl (hi2)) ?_ | refine YR_intro (acall_free rfl rfl (hi2)) ?_
    simp only [go_sem, seval]
    refine hK _ ?_; clear hK K
    (repeat refine ats_seq ?_); first | refine ats_ifn (p := _) rfl trivial (fun hcc => ?_) (fun hcc => ?_) | refine ats_ifp (p := _) rfl trivial (fun hcc => ?_) (fun hcc => ?_) | refine ats_cond rfl trivial (fun hcc => ?_) (fun hcc => ?_)
    · have e : (inC t a && kOk k) = false := by
        cases h1 : inC t a <;> cases h2 : kOk k <;> simp_all
      (repeat refine ats_seq ?_); refine ats_go (by first | exact fix0 hcx | exact fix1 hcx rfl) fun K hK => ?_; simp only [go_sem, seval]; refine hK _ ?_; clear hK K
      rw [e]
      exact ats_ret (fin2 trivial trivial rfl)
    · simp only [Bool.or_eq_false_iff, Bool.not_eq_false'] at hcc
      obtain ⟨ha, hk1⟩ := hcc
      have hai := inC_true ha
      have hkk := hk1
      simp only [kOk, Bool.and_eq_true, decide_eq_true_eq] at hkk
      refine ats_skip ?_
      (repeat refine ats_seq ?_); refine ats_go (by first | exact fix0 hcx | exact fix1 hcx rfl) fun K hK => ?_; simp only [go_sem, seval]; refine hK _ ?_; clear hK K
      (repeat refine ats_seq ?_); refine ats_go (by first | exact fix0 hcx | exact fix1 hcx rfl) fun K hK => ?_; simp only [go_sem, seval]; refine hK _ ?_; clear hK K
      (repeat refine ats_seq ?_); refine ats_loop (fun i : Nat => ⟨[(1, .int a), (2, .int k), (3, .bptr 0 0), (8, .int 0), (9, .ref 1 []), (31, .l1 t), (32, .int t.length), (33, .int i)], [(0, .bx [.l2 s, .l1 t]), (1, .t1 (rowF i fun x => rs (t.getD x 0) k))]⟩) (fun i => i ≤ t.length) (fun i => t.length - i) 0 (Nat.zero_le _) (by refine And.intro ?_ rfl; simp only [SlotsLe, St.get, slotGet, Nat.reduceEqDiff, ↓reduceIte, true_and, and_true, AV.int.injEq, AV.bool.injEq, AV.l1.injEq, AV.l2.injEq, AV.l3.injEq]; repeat' (first | rfl | omega | refine And.intro ?_ ?_)) (fun i hi => ?_)
      have hl : (rowF i fun x => rs (t.getD x 0) k).length = i := rowF_length ..
      (repeat refine ats_seq ?_); refine ats_go (by first | exact fix0 hcx | exact fix1 hcx rfl) fun K hK => ?_; simp only [go_sem, seval]; refine hK _ ?_; clear hK K
      (repeat refine ats_seq ?_); first | refine ats_ifn (p := _) rfl trivial (fun hc4 => ?_) (fun hc4 => ?_) | refine ats_ifp (p := _) rfl trivial (fun hc4 => ?_) (fun hc4 => ?_) | refine ats_cond rfl trivial (fun hc4 => ?_) (fun hc4 => ?_)
      · have hp := ht i (by omega)
        refine ats_skip ?_
        (repeat refine ats_seq ?_); refine ats_block ?_
        (repeat refine ats_seq ?_); refine ats_go (by first | exact fix0 hcx | exact fix1 hcx rfl) fun K hK => ?_; simp only [go_sem, seval]; (repeat refine And.intro (by first | omega | (intro hq; first | omega | (simp at hq <;> omega) | (simp_all <;> omega))) ?_); refine hK _ ?_; clear hK K
        (repeat refine ats_seq ?_); refine ats_go (by first | exact fix0 hcx | exact fix1 hcx rfl) fun K hK => ?_; simp only [go_sem, seval]
        first | refine fcall_data (powerOf_ok _ _ hp (by omega) (by omega)) rfl ?_ | refine YR_intro (acall_data (powerOf_ok _ _ hp (by omega) (by omega)) rfl) ?_
        simp only [go_sem, seval]
        simp only [hl]
        (repeat refine And.intro (by first | omega | (intro hq; first | omega | (simp at hq <;> omega) | (simp_all <;> omega))) ?_)
        refine hK _ ?_; clear hK K
        (repeat refine ats_seq ?_); refine ats_go (by first | exact fix0 hcx | exact fix1 hcx rfl) fun K hK => ?_; simp only [go_sem, seval]; (repeat refine And.intro (by first | omega | (intro hq; first | omega | (simp at hq <;> omega) | (simp_all <;> omega))) ?_); refine hK _ ?_; clear hK K
        refine ⟨i + 1, by omega, by omega, .inr ⟨[2], by simp only [killL, List.map_cons, List.map_nil, killA, killAs, qOf, rmT, killH, killT, List.filter_cons, List.filter_nil, List.contains_cons, List.contains_nil, SlotsLe, St.get, slotGet, Nat.reduceEqDiff, Nat.reduceBEq, Bool.or_false, Bool.or_true, Bool.false_and, Bool.not_true, Bool.not_false, Bool.false_eq_true, ↓reduceIte, if_true, if_false, AV.int.injEq, AV.bool.injEq, AV.l1.injEq, AV.l2.injEq, AV.l3.injEq, true_and, and_true]; omega, by simp only [killL, List.map_cons, List.map_nil, killA, killAs, qOf, rmT, killH, killT, List.filter_cons, List.filter_nil, List.contains_cons, List.contains_nil, SlotsLe, St.get, slotGet, Nat.reduceEqDiff, Nat.reduceBEq, Bool.or_false, Bool.or_true, Bool.false_and, Bool.not_true, Bool.not_false, Bool.false_eq_true, ↓reduceIte, if_true, if_false, AV.int.injEq, AV.bool.injEq, AV.l1.injEq, AV.l2.injEq, AV.l3.injEq, true_and, and_true]; rw [rowF_succ]⟩⟩
      · obtain rfl : i = t.length := by omega
        have hlp : (rowF t.length fun x => rs (t.getD x 0) k).length = t.length := rowF_length ..
        refine ats_exit (lq_x ?_)
        (repeat refine ats_seq ?_); refine ats_go (by first | exact fix0 hcx | exact fix1 hcx rfl) fun K hK => ?_; simp only [go_sem, seval]
        first | refine fcall_fresh rfl (hr) ?_ | refine YR_intro (acall_fresh rfl (hr)) ?_
        simp only [go_sem, seval]
        simp only [numD_length]
        refine hK _ ?_; clear hK K
        (repeat refine ats_seq ?_); refine ats_loop (fun j : Nat => ⟨[(1, .int a), (3, .bptr 0 0), (8, .int (dS (hI s t (cL s t.length) a.toNat k) t.length j 0)), (9, .ref 1 []), (46, .l3 (numD s t.length (cL s t.length))), (47, .int t.length), (48, .int j)], [(0, .bx [.l2 s, .l1 t]), (1, .t1 (rowF t.length fun x => rs (t.getD x 0) k))]⟩) (fun j => j ≤ t.length) (fun j => t.length - j) 0 (Nat.zero_le _) (by refine And.intro ?_ rfl; simp only [SlotsLe, St.get, slotGet, Nat.reduceEqDiff, ↓reduceIte, true_and, and_true, AV.int.injEq, AV.bool.injEq, AV.l1.injEq, AV.l2.injEq, AV.l3.injEq]; repeat' (first | rfl | omega | refine And.intro ?_ ?_)) (fun j hj => ?_)
        (repeat refine ats_seq ?_); refine ats_go (by first | exact fix0 hcx | exact fix1 hcx rfl) fun K hK => ?_; simp only [go_sem, seval]; refine hK _ ?_; clear hK K
        (repeat refine ats_seq ?_); first | refine ats_ifn (p := _) rfl trivial (fun hc6 => ?_) (fun hc6 => ?_) | refine ats_ifp (p := _) rfl trivial (fun hc6 => ?_) (fun hc6 => ?_) | refine ats_cond rfl trivial (fun hc6 => ?_) (fun hc6 => ?_)
        · have hm1 := numD_mat (s := s) (c := cL s t.length) (show j < t.length by omega)
          refine ats_skip ?_
          (repeat refine ats_seq ?_); refine ats_block ?_
          (repeat refine ats_seq ?_); refine ats_go (by first | exact fix0 hcx | exact fix1 hcx rfl) fun K hK => ?_; simp only [go_sem, seval]
          simp only [numD_length]
          (repeat refine And.intro (by first | omega | (intro hq; first | omega | (simp at hq <;> omega) | (simp_all <;> omega))) ?_)
          refine hK _ ?_; clear hK K
          (repeat refine ats_seq ?_); refine ats_go (by first | exact fix0 hcx | exact fix1 hcx rfl) fun K hK => ?_; simp only [go_sem, seval]
          simp only [hm1]
          refine hK _ ?_; clear hK K
          (repeat refine ats_seq ?_); refine ats_loop (fun l : Nat => ⟨[(1, .int a), (3, .bptr 0 0), (8, .int (dS (hI s t (cL s t.length) a.toNat k) t.length j l)), (9, .ref 1 []), (12, .int j), (46, .l3 (numD s t.length (cL s t.length))), (47, .int t.length), (48, .int j), (53, .l2 ((numD s t.length (cL s t.length)).getD j [])), (54, .int t.length), (55, .int l)], [(0, .bx [.l2 s, .l1 t]), (1, .t1 (rowF t.length fun x => rs (t.getD x 0) k))]⟩) (fun l => l ≤ t.length) (fun l => t.length - l) 0 (Nat.zero_le _) (by refine And.intro ?_ rfl; simp only [SlotsLe, St.get, slotGet, Nat.reduceEqDiff, ↓reduceIte, true_and, and_true, AV.int.injEq, AV.bool.injEq, AV.l1.injEq, AV.l2.injEq, AV.l3.injEq]; repeat' (first | rfl | omega | refine And.intro ?_ ?_)) (fun l hl => ?_)
          (repeat refine ats_seq ?_); refine ats_go (by first | exact fix0 hcx | exact fix1 hcx rfl) fun K hK => ?_; simp only [go_sem, seval]; refine hK _ ?_; clear hK K
          (repeat refine ats_seq ?_); first | refine ats_ifn (p := _) rfl trivial (fun hc8 => ?_) (fun hc8 => ?_) | refine ats_ifp (p := _) rfl trivial (fun hc8 => ?_) (fun hc8 => ?_) | refine ats_cond rfl trivial (fun hc8 => ?_) (fun hc8 => ?_)
          · have hrow := numD_row (s := s) (c := cL s t.length) (show j < t.length by omega) (show l < t.length by omega)
            have rg : (rowF t.length (numV s t.length (cL s t.length) j l)).getD a.toNat 0 = numV s t.length (cL s t.length) j l a.toNat := rowF_get (by omega)
            have pj := ht j (by omega)
            have pl := ht l (by omega)
            have g1 : (rowF t.length fun x => rs (t.getD x 0) k).getD j 0 = rs (t.getD j 0) k := rowF_get (by omega)
            have g2 : (rowF t.length fun x => rs (t.getD x 0) k).getD l 0 = rs (t.getD l 0) k := rowF_get (by omega)
            have hd := divide_ok _ _ (rs_InP (k := k) pj) (rs_InP (k := k) pl)
            rw [rs_div pj pl] at hd
            have pr1 := rs_InP (k := k) (inP_md (t.getD j 0 * inv (t.getD l 0)))
            have pN := numV_InP s t.length (cL s t.length) j l a.toNat
            have d1 := hm.inP (show 0 < t.length by omega) (show j < t.length by omega)
            have d2 := hm.inP (show 0 < t.length by omega) (show l < t.length by omega)
            have m2 := mulP d1 d2
            have m3 := mulP (inP_md (e2 s 0 j * e2 s 0 l)) pr1
            have m4 := mulP pN (inP_md (e2 s 0 j * e2 s 0 l % 55441 * rs (t.getD j 0 * inv (t.getD l 0) % 55441) k))
            have sb := dS_le (f := hI s t (cL s t.length) a.toNat k) (n := t.length) (j := j) (l := l + 1) (fun _ _ _ _ => inP_md _) h16 (.inl (by omega)) (by omega)
            have hst := dS_step (f := hI s t (cL s t.length) a.toNat k) (n := t.length) (j := j) (l := l)
            have eh : hI s t (cL s t.length) a.toNat k j l = numV s t.length (cL s t.length) j l a.toNat * (e2 s 0 j * e2 s 0 l % 55441 * rs (t.getD j 0 * inv (t.getD l 0) % 55441) k % 55441) % 55441 := rfl
            rw [hst, eh] at sb
            simp only [e2] at m2 m3 m4 sb
            refine ats_skip ?_
            (repeat refine ats_seq ?_); refine ats_block ?_
            (repeat refine ats_seq ?_); refine ats_go (by first | exact fix0 hcx | exact fix1 hcx rfl) fun K hK => ?_; simp only [go_sem, seval]
            simp only [hm1, hrow]
            (repeat refine And.intro (by first | omega | (intro hq; first | omega | (simp at hq <;> omega) | (simp_all <;> omega))) ?_)
            refine hK _ ?_; clear hK K
            (repeat refine ats_seq ?_); refine ats_pick (fix0 hcx) mixed (by kernel_rfl) fun K hK => ?_; simp only [go_sem, seval]
            simp only [hlp, g1, g2]
            try simp (disch := omega) only [tmP, tdP]
            (repeat refine And.intro (by first | omega | (intro hq; first | omega | (simp at hq <;> omega) | (simp_all <;> omega))) ?_)
            first | refine fcall_data (hd) rfl ?_ | refine YR_intro (acall_data (hd) rfl) ?_
            simp only [go_sem, seval]
            try simp (disch := omega) only [tmP, tdP]
            (repeat refine And.intro (by first | omega | (intro hq; first | omega | (simp at hq <;> omega) | (simp_all <;> omega))) ?_)
            refine hK _ ?_; clear hK K
            (repeat refine ats_seq ?_); refine ats_go (by first | exact fix0 hcx | exact fix1 hcx rfl) fun K hK => ?_; simp only [go_sem, seval]
            simp only [rowF_length, rg]
            try simp (disch := omega) only [tmP, tdP]
            (repeat refine And.intro (by first | omega | (intro hq; first | omega | (simp at hq <;> omega) | (simp_all <;> omega))) ?_)
            refine hK _ ?_; clear hK K
            (repeat refine ats_seq ?_); refine ats_go (by first | exact fix0 hcx | exact fix1 hcx rfl) fun K hK => ?_; simp only [go_sem, seval]; (repeat refine And.intro (by first | omega | (intro hq; first | omega | (simp at hq <;> omega) | (simp_all <;> omega))) ?_); refine hK _ ?_; clear hK K
            refine ⟨l + 1,  by omega, by omega, .inl ⟨by simp only [SlotsLe, St.get, slotGet, Nat.reduceEqDiff, ↓reduceIte, AV.int.injEq, AV.bool.injEq, AV.l1.injEq, AV.l2.injEq, AV.l3.injEq, true_and, and_true]; exact ⟨by rw [hst]; rfl, by omega⟩,  rfl⟩⟩
          · obtain rfl : l = t.length := by omega
            rw [dS_row]
            refine ats_exit (lq_x ?_)
            (repeat refine ats_seq ?_); refine ats_go (by first | exact fix0 hcx | exact fix1 hcx rfl) fun K hK => ?_; simp only [go_sem, seval]; (repeat refine And.intro (by first | omega | (intro hq; first | omega | (simp at hq <;> omega) | (simp_all <;> omega))) ?_); refine hK _ ?_; clear hK K
            refine ⟨j + 1,  by omega, by omega, .inl ⟨by simp only [SlotsLe, St.get, slotGet, Nat.reduceEqDiff, ↓reduceIte, AV.int.injEq, AV.bool.injEq, AV.l1.injEq, AV.l2.injEq, AV.l3.injEq, true_and, and_true]; omega,  rfl⟩⟩
        · obtain rfl : j = t.length := by omega
          have sb := dS_le (f := hI s t (cL s t.length) a.toNat k) (n := t.length) (j := t.length) (l := 0) (fun _ _ _ _ => inP_md _) h16 (.inr ⟨rfl, rfl⟩) (by omega)
          have hd := divide_ok (dS (gI s t (cL s t.length) a.toNat k) t.length t.length 0 % 55441) (wholeD s t.length) (inP_md _) (inP_md _)
          rw [← dS_hI] at hd ⊢
          refine ats_exit (lq_x ?_)
          (repeat refine ats_seq ?_); refine ats_go (by first | exact fix0 hcx | exact fix1 hcx rfl) fun K hK => ?_; simp only [go_sem, seval]
          try simp (disch := omega) only [tmP, tdP]
          (repeat refine And.intro (by first | omega | (intro hq; first | omega | (simp at hq <;> omega) | (simp_all <;> omega))) ?_)
          first | refine fcall_data (dwhole_ok s t hs) rfl ?_ | refine YR_intro (acall_data (dwhole_ok s t hs) rfl) ?_
          simp only [go_sem, seval]
          first | refine fcall_free rfl rfl (hd) ?_ | refine YR_intro (acall_free rfl rfl (hd)) ?_
          simp only [go_sem, seval]
          refine hK _ ?_; clear hK K
          rw [ha, hk1]
          exact ats_ret (fin2 trivial trivial rfl)
end Go.Proofs.Ytafkbnicffieeaa
