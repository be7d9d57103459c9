import Derived.Test.YtejlokdophogcaaDl
set_option linter.unusedSimpArgs false
set_option linter.unusedVariables false
namespace Go.Proofs.Ytejlokdophogcaa
open Go Go.Aw Go.Pl

theorem inv_one {x : Int} (h : InP x) : 1 * inv x % 55441 = inv x := by
  have h1 := inv_InP h
  unfold InP at h1
  rw [Int.one_mul]
  omega

theorem l12Inverses_ok (xs : List Int) (h16 : xs.length ≤ 16) (hP : ∀ i, i < xs.length → InP (xs.getD i 0)) : FreshCall Try.prog 70 [.l1 xs] (.l1 (ivF xs)) := by
  refine FreshCall.intro (n := 21) (rs := [.tmp 2]) Try.call70 Try.func70 rfl rfl rfl (by simp only [List.length_cons, List.length_nil]; omega) (fun cx hcx => ats_of ?_); simp only [argSlots, Nat.zero_add, Nat.reduceAdd]
  (repeat refine ats_seq ?_); refine ats_go (by first | exact fix0 hcx | exact fix1 hcx rfl) fun K hK => ?_; simp only [go_sem, seval]; refine hK _ ?_; clear hK K
  (repeat refine ats_seq ?_); refine ats_go (by first | exact fix0 hcx | exact fix1 hcx rfl) fun K hK => ?_; simp only [go_sem, seval]; refine hK _ ?_; clear hK K
  (repeat refine ats_seq ?_); refine ats_go (by first | exact fix0 hcx | exact fix1 hcx rfl) fun K hK => ?_; simp only [go_sem, seval]; refine hK _ ?_; clear hK K
  (repeat refine ats_seq ?_); refine ats_loop (fun i : Nat => ⟨[(0, .l1 xs), (3, .ref 0 []), (4, .int i)], [(0, .t1 ((xs.take i).map fun x => 1 * inv x % 55441))]⟩) (fun i => i ≤ xs.length) (fun i => xs.length - i) 0 (Nat.zero_le _) (by refine And.intro ?_ rfl; simp only [SlotsLe, St.get, slotGet, Nat.reduceEqDiff, ↓reduceIte, true_and, and_true, AV.int.injEq, AV.bool.injEq, AV.l1.injEq, AV.l2.injEq, AV.l3.injEq]; repeat' (first | rfl | omega | refine And.intro ?_ ?_)) (fun i hi => ?_)
  have hl : ((xs.take i).map fun x => 1 * inv x % 55441).length = i := by rw [List.length_map, List.length_take]; omega
  (repeat refine ats_seq ?_); refine ats_go (by first | exact fix0 hcx | exact fix1 hcx rfl) fun K hK => ?_; simp only [go_sem, seval]; refine hK _ ?_; clear hK K
  (repeat refine ats_seq ?_); first | refine ats_ifn (p := _) rfl trivial (fun hli => ?_) (fun hli => ?_) | refine ats_ifp (p := _) rfl trivial (fun hli => ?_) (fun hli => ?_) | refine ats_cond rfl trivial (fun hli => ?_) (fun hli => ?_)
  · have hp : InP (xs.getD i 0) := hP i (by omega)
    refine ats_skip ?_
    (repeat refine ats_seq ?_); refine ats_block ?_
    (repeat refine ats_seq ?_); refine ats_go (by first | exact fix0 hcx | exact fix1 hcx rfl) fun K hK => ?_; simp only [go_sem, seval]
    (repeat refine And.intro (by first | omega | (intro hq; first | omega | (simp only [decide_eq_false_iff_not, decide_eq_true_eq, Bool.not_eq_false', Bool.not_eq_true', Bool.or_eq_false_iff, Bool.and_eq_true] at hq; omega))) ?_)
    first | refine fcall_data (l01Inv_ok _ hp) rfl ?_ | refine YR_intro (acall_data (l01Inv_ok _ hp) rfl) ?_
    simp only [go_sem, seval]
    rw [hl]
    (repeat refine And.intro (by first | omega | (intro hq; first | omega | (simp only [decide_eq_false_iff_not, decide_eq_true_eq, Bool.not_eq_false', Bool.not_eq_true', Bool.or_eq_false_iff, Bool.and_eq_true] at hq; omega))) ?_)
    refine hK _ ?_; clear hK K
    (repeat refine ats_seq ?_); refine ats_go (by first | exact fix0 hcx | exact fix1 hcx rfl) fun K hK => ?_; simp only [go_sem, seval]; (repeat refine And.intro (by first | omega | (intro hq; first | omega | (simp only [decide_eq_false_iff_not, decide_eq_true_eq, Bool.not_eq_false', Bool.not_eq_true', Bool.or_eq_false_iff, Bool.and_eq_true] at hq; omega))) ?_); refine hK _ ?_; clear hK K
    refine ⟨i + 1, by omega, by omega, .inr ⟨[1], by simp only [killL, List.map_cons, List.map_nil, killA, killAs, qOf, rmT, killH, killT, List.filter_cons, List.filter_nil, List.contains_cons, List.contains_nil, SlotsLe, St.get, slotGet, Nat.reduceEqDiff, Nat.reduceBEq, Bool.or_false, Bool.or_true, Bool.false_and, Bool.not_true, Bool.not_false, Bool.false_eq_true, ↓reduceIte, if_true, if_false, AV.int.injEq, AV.bool.injEq, AV.l1.injEq, AV.l2.injEq, AV.l3.injEq, true_and, and_true]; omega, by simp only [killL, List.map_cons, List.map_nil, killA, killAs, qOf, rmT, killH, killT, List.filter_cons, List.filter_nil, List.contains_cons, List.contains_nil, SlotsLe, St.get, slotGet, Nat.reduceEqDiff, Nat.reduceBEq, Bool.or_false, Bool.or_true, Bool.false_and, Bool.not_true, Bool.not_false, Bool.false_eq_true, ↓reduceIte, if_true, if_false, AV.int.injEq, AV.bool.injEq, AV.l1.injEq, AV.l2.injEq, AV.l3.injEq, true_and, and_true]; rw [take_map_succ (show i < xs.length by omega), inv_one hp]⟩⟩
  · obtain rfl : i = xs.length := by omega
    refine ats_exit (lq_x ?_)
    rw [List.take_length]
    (repeat refine ats_seq ?_); refine ats_go (by first | exact fix0 hcx | exact fix1 hcx rfl) fun K hK => ?_; simp only [go_sem, seval]; refine hK _ ?_; clear hK K
    exact ats_ret (ownV (is := [0]) rfl ⟨rfl, trivial⟩ rfl (by simp))

noncomputable def centA (s : List (List Int)) (t : List Int) : Int × Int := if isData s t then (gaussD s t t.length * inv (gaussD s (ivF t) t.length) % 55441, 0) else (0, 1)
theorem specCentral_ok (s : List (List Int)) (t : List Int) : PureCall Try.prog 24 [.agg [.l2 s, .l1 t]] (.tup [.int (centA s t).1, .int (centA s t).2]) := by
  have hk := l12Is_ok s t
  unfold centA
  refine PureCall.intro (n := 60) (rs := [.tmp 2, .tmp 3]) Try.call24 Try.func24 rfl rfl rfl (by simp only [List.length_cons, List.length_nil]; omega) (fun cx hcx => ats_of ?_); simp only [argSlots, Nat.zero_add, Nat.reduceAdd]
  (repeat refine ats_seq ?_); refine ats_go (by first | exact fix0 hcx | exact fix1 hcx rfl) fun K hK => ?_; simp only [go_sem, seval]; refine hK _ ?_; clear hK K
  cases h : isData s t with
  | false =>
    rw [h] at hk
    (repeat refine ats_seq ?_); refine ats_go (by first | exact fix0 hcx | exact fix1 hcx rfl) fun K hK => ?_; simp only [go_sem, seval]
    first | refine fcall_free rfl rfl (hk) ?_ | refine YR_intro (acall_free rfl rfl (hk)) ?_
    simp only [go_sem, seval]
    refine hK _ ?_; clear hK K
    (repeat refine ats_seq ?_); refine ats_yes rfl trivial ?_
    (repeat refine ats_seq ?_); refine ats_go (by first | exact fix0 hcx | exact fix1 hcx rfl) fun K hK => ?_; simp only [go_sem, seval]; refine hK _ ?_; clear hK K
    exact ats_ret (fin2 trivial trivial rfl)
  | true =>
    have hs := (isData_some h).1
    have h16 := hs.2.1
    have h1 := hs.1
    have hm := hs.2.2.1
    have ht := hs.2.2.2
    have ls := hm.1
    have r0 := hm.row (show 0 < t.length by omega)
    have bw : ∀ k, k < t.length → 0 ≤ wG s k ∧ wG s k ≤ 3073593600 := fun k hk => mulP (hm.inP (by omega) hk) (hm.inP (by omega) hk)
    rw [h] at hk
    (repeat refine ats_seq ?_); refine ats_go (by first | exact fix0 hcx | exact fix1 hcx rfl) fun K hK => ?_; simp only [go_sem, seval]
    first | refine fcall_free rfl rfl (hk) ?_ | refine YR_intro (acall_free rfl rfl (hk)) ?_
    simp only [go_sem, seval]
    refine hK _ ?_; clear hK K
    (repeat refine ats_seq ?_); refine ats_no rfl trivial ?_
    refine ats_skip ?_
    (repeat refine ats_seq ?_); refine ats_go (by first | exact fix0 hcx | exact fix1 hcx rfl) fun K hK => ?_; simp only [go_sem, seval]; refine hK _ ?_; clear hK K
    (repeat refine ats_seq ?_); refine ats_go (by first | exact fix0 hcx | exact fix1 hcx rfl) fun K hK => ?_; simp only [go_sem, seval]; refine hK _ ?_; clear hK K
    (repeat refine ats_seq ?_); refine ats_loop (fun k : Nat => ⟨[(1, .bptr 0 0), (3, .int 0), (4, .int (sumTo (gG s t) k % 55441)), (5, .int (sumTo (gG s (ivF t)) k % 55441)), (6, .int k)], [(0, .bx [.l2 s, .l1 t])]⟩) (fun k => k ≤ t.length) (fun k => t.length - k) 0 (Nat.zero_le _) (by refine And.intro ?_ rfl; simp only [SlotsLe, St.get, slotGet, Nat.reduceEqDiff, ↓reduceIte, true_and, and_true, AV.int.injEq, AV.bool.injEq, AV.l1.injEq, AV.l2.injEq, AV.l3.injEq]; repeat' (first | rfl | omega | refine And.intro ?_ ?_)) (fun k hk => ?_)
    have s1 := inP_md (sumTo (gG s t) k)
    have s2 := inP_md (sumTo (gG s (ivF t)) k)
    unfold InP at s1 s2
    (repeat refine ats_seq ?_); refine ats_go (by first | exact fix0 hcx | exact fix1 hcx rfl) fun K hK => ?_; simp only [go_sem, seval]; refine hK _ ?_; clear hK K
    (repeat refine ats_seq ?_); first | refine ats_ifn (p := _) rfl trivial (fun hlk => ?_) (fun hlk => ?_) | refine ats_ifp (p := _) rfl trivial (fun hlk => ?_) (fun hlk => ?_) | refine ats_cond rfl trivial (fun hlk => ?_) (fun hlk => ?_)
    · have hp : InP (t.getD k 0) := ht k (by omega)
      have cW := bw k (by omega)
      have cL := mulP (inP_md (wG s k)) hp
      have cI := mulP (inP_md (wG s k)) (inv_InP hp)
      have e1 : (sumTo (gG s t) k % 55441 + (s.getD 0 []).getD k 0 * (s.getD 0 []).getD k 0 % 55441 * t.getD k 0) % 55441 = sumTo (gG s t) (k + 1) % 55441 := sum_it (f := gG s t)
      have e2' : (sumTo (gG s (ivF t)) k % 55441 + (s.getD 0 []).getD k 0 * (s.getD 0 []).getD k 0 % 55441 * inv (t.getD k 0)) % 55441 = sumTo (gG s (ivF t)) (k + 1) % 55441 := by
        rw [← sum_it (f := gG s (ivF t))]
        unfold gG
        rw [ivF_get (by omega), inv_one hp]
      simp only [wG, e2] at cW cL cI
      refine ats_skip ?_
      (repeat refine ats_seq ?_); refine ats_block ?_
      (repeat refine ats_seq ?_); refine ats_pick (fix0 hcx) mixed (by kernel_rfl) fun K hK => ?_; simp only [go_sem, seval]; (try simp (disch := omega) only [tmP, tdP]); (repeat refine And.intro (by first | omega | (intro hq; first | omega | (simp only [decide_eq_false_iff_not, decide_eq_true_eq, Bool.not_eq_false', Bool.not_eq_true', Bool.or_eq_false_iff, Bool.and_eq_true] at hq; omega))) ?_); refine hK _ ?_; clear hK K
      (repeat refine ats_seq ?_); refine ats_go (by first | exact fix0 hcx | exact fix1 hcx rfl) fun K hK => ?_; simp only [go_sem, seval]
      try simp (disch := omega) only [tmP, tdP]
      (repeat refine And.intro (by first | omega | (intro hq; first | omega | (simp only [decide_eq_false_iff_not, decide_eq_true_eq, Bool.not_eq_false', Bool.not_eq_true', Bool.or_eq_false_iff, Bool.and_eq_true] at hq; omega))) ?_)
      refine hK _ ?_; clear hK K
      (repeat refine ats_seq ?_); refine ats_go (by first | exact fix0 hcx | exact fix1 hcx rfl) fun K hK => ?_; simp only [go_sem, seval]
      (repeat refine And.intro (by first | omega | (intro hq; first | omega | (simp only [decide_eq_false_iff_not, decide_eq_true_eq, Bool.not_eq_false', Bool.not_eq_true', Bool.or_eq_false_iff, Bool.and_eq_true] at hq; omega))) ?_)
      first | refine fcall_data (l01Inv_ok _ hp) rfl ?_ | refine YR_intro (acall_data (l01Inv_ok _ hp) rfl) ?_
      simp only [go_sem, seval]
      try simp (disch := omega) only [tmP, tdP]
      (repeat refine And.intro (by first | omega | (intro hq; first | omega | (simp only [decide_eq_false_iff_not, decide_eq_true_eq, Bool.not_eq_false', Bool.not_eq_true', Bool.or_eq_false_iff, Bool.and_eq_true] at hq; omega))) ?_)
      refine hK _ ?_; clear hK K
      (repeat refine ats_seq ?_); refine ats_go (by first | exact fix0 hcx | exact fix1 hcx rfl) fun K hK => ?_; simp only [go_sem, seval]; (repeat refine And.intro (by first | omega | (intro hq; first | omega | (simp only [decide_eq_false_iff_not, decide_eq_true_eq, Bool.not_eq_false', Bool.not_eq_true', Bool.or_eq_false_iff, Bool.and_eq_true] at hq; omega))) ?_); refine hK _ ?_; clear hK K
      rw [e1, e2']
      refine ⟨k + 1,  by omega, by omega, .inl ⟨by simp only [SlotsLe, St.get, slotGet, Nat.reduceEqDiff, ↓reduceIte, AV.int.injEq, AV.bool.injEq, AV.l1.injEq, AV.l2.injEq, AV.l3.injEq, true_and, and_true]; omega,  rfl⟩⟩
    · obtain rfl : k = t.length := by omega
      have pq := mulP (inP_md (sumTo (gG s t) t.length)) (inv_InP (inP_md (sumTo (gG s (ivF t)) t.length)))
      refine ats_exit (lq_x ?_)
      (repeat refine ats_seq ?_); refine ats_go (by first | exact fix0 hcx | exact fix1 hcx rfl) fun K hK => ?_; simp only [go_sem, seval]
      first | refine fcall_data (l01Inv_ok _ (inP_md _)) rfl ?_ | refine YR_intro (acall_data (l01Inv_ok _ (inP_md _)) rfl) ?_
      simp only [go_sem, seval]
      try simp (disch := omega) only [tmP, tdP]
      (repeat refine And.intro (by first | omega | (intro hq; first | omega | (simp only [decide_eq_false_iff_not, decide_eq_true_eq, Bool.not_eq_false', Bool.not_eq_true', Bool.or_eq_false_iff, Bool.and_eq_true] at hq; omega))) ?_)
      refine hK _ ?_; clear hK K
      exact ats_ret (fin2 trivial trivial rfl)
theorem implCentral_ok (s : List (List Int)) (t : List Int) : PureCall Try.prog 25 [.agg [.l2 s, .l1 t]] (.tup [.int (centA s t).1, .int (centA s t).2]) := by
  have hk := IsData_ok s t
  unfold centA
  refine PureCall.intro (n := 17) (rs := [.tmp 2, .tmp 3]) Try.call25 Try.func25 rfl rfl rfl (by simp only [List.length_cons, List.length_nil]; omega) (fun cx hcx => ats_of ?_); simp only [argSlots, Nat.zero_add, Nat.reduceAdd]
  (repeat refine ats_seq ?_); refine ats_go (by first | exact fix0 hcx | exact fix1 hcx rfl) fun K hK => ?_; simp only [go_sem, seval]; refine hK _ ?_; clear hK K
  cases h : isData s t with
  | false =>
    rw [h] at hk
    (repeat refine ats_seq ?_); refine ats_go (by first | exact fix0 hcx | exact fix1 hcx rfl) fun K hK => ?_; simp only [go_sem, seval]
    first | refine fcall_free rfl rfl (hk) ?_ | refine YR_intro (acall_free rfl rfl (hk)) ?_
    simp only [go_sem, seval]
    refine hK _ ?_; clear hK K
    (repeat refine ats_seq ?_); refine ats_yes rfl trivial ?_
    (repeat refine ats_seq ?_); refine ats_go (by first | exact fix0 hcx | exact fix1 hcx rfl) fun K hK => ?_; simp only [go_sem, seval]; refine hK _ ?_; clear hK K
    exact ats_ret (fin2 trivial trivial rfl)
  | true =>
    have hs := (isData_some h).1
    have h16 := hs.2.1
    have ht := hs.2.2.2
    have hI := inversesOf_ok t h16 ht
    have g1 := gauss_ok s t t hs rfl ht
    have g2 := gauss_ok s t (ivF t) hs (ivF_length t) (fun i hi => by rw [ivF_get hi]; exact inP_md _)
    rw [h] at hk
    (repeat refine ats_seq ?_); refine ats_go (by first | exact fix0 hcx | exact fix1 hcx rfl) fun K hK => ?_; simp only [go_sem, seval]
    first | refine fcall_free rfl rfl (hk) ?_ | refine YR_intro (acall_free rfl rfl (hk)) ?_
    simp only [go_sem, seval]
    refine hK _ ?_; clear hK K
    (repeat refine ats_seq ?_); refine ats_no rfl trivial ?_
    refine ats_skip ?_
    (repeat refine ats_seq ?_); refine ats_pick (fix0 hcx) mixed (by kernel_rfl) fun K hK => ?_; simp only [go_sem, seval]
    first | refine fcall_free rfl rfl (g1) ?_ | refine YR_intro (acall_free rfl rfl (g1)) ?_
    simp only [go_sem, seval]
    first | refine fcall_fresh rfl (hI) ?_ | refine YR_intro (acall_fresh rfl (hI)) ?_
    simp only [go_sem, seval]
    first | refine fcall_free rfl rfl (g2) ?_ | refine YR_intro (acall_free rfl rfl (g2)) ?_
    simp only [go_sem, seval]
    first | refine fcall_data (divide_ok _ _ (inP_md _) (inP_md _)) rfl ?_ | refine YR_intro (acall_data (divide_ok _ _ (inP_md _) (inP_md _)) rfl) ?_
    simp only [go_sem, seval]
    refine hK _ ?_; clear hK K
    exact ats_ret (fin2 trivial trivial rfl)
end Go.Proofs.Ytejlokdophogcaa
