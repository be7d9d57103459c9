import Derived.Test.YtaijdhkjemffhaaIe
import Derived.Test.YtaijdhkjemffhaaHy
set_option linter.unusedSimpArgs false
set_option linter.unusedVariables false
namespace Go.Proofs.Ytaijdhkjemffhaa
open Go Go.Aw Go.Pl
theorem fromT3 {P : Program} {f : FuncId} {args : List AV} {k : Nat} {T' : List (Nat × Tree)} {r : AV} {X : List Nat} (h : OwnCall P f args [(k, .r3 [])] T' r X) (ha : killAs (qOf [] [k]) args = args) : OwnCall P f args [(k, .t3 [])] T' r X := by
  refine ⟨h.enter, h.keep, fun us w S ι F ho hr => ?_⟩
  have hf : find [(k, Tree.t3 [])] k = some (.t3 []) := by simp [find]
  have hn : (F k).Nodup := by
    have := ho.nodup
    simpa [foot] using this
  have hm : ∀ b ∈ F k, b < w.heap.size := fun b hb => (ho.mine b (by simpa [foot] using hb)).1
  have key := ho.put (w' := w) [] k (.r3 []) (ι k) (F k) (qOf [] [k]) ho.keep (Nat.le_refl _) (fun _ _ _ => rfl) hn
    (fun x hx => ⟨hm x hx, .inl ⟨k, .inl rfl, by simp [Aw.ids], hx⟩⟩) (fun r hr => by simp at hr)
    (fun p hp _ => by
      have : p = [] := by simpa [qOf] using hp
      subst this
      exact ⟨rfl, rfl, fun u h => h⟩)
    (fun _ => by
      have ht := ho.trees (k, .t3 []) (by simp)
      simp only [treeRep, O3] at ht
      obtain ⟨us, f0, fs, k1, k2, k3⟩ := ht
      cases us with
      | cons _ _ => cases fs <;> exact k2.elim
      | nil =>
        cases fs with
        | cons _ _ => exact k2.elim
        | nil =>
          simp only [List.flatten_nil, List.append_nil] at k3
          simp only [treeRep]
          exact ⟨[], by rw [k3]; exact k1, trivial⟩)
  have e1 : updF ι k (ι k) = ι := by funext i; unfold updF; split <;> simp_all
  have e2 : updF F k (F k) = F := by funext i; unfold updF; split <;> simp_all
  have e3 : putT (killH (qOf [] [k]) (rmT [] [(k, Tree.t3 [])])) k (.r3 []) = [(k, .r3 [])] := by simp [rmT, killH, putT, killT]
  rw [e1, e2, e3] at key
  have hr2 : reps (mem (ownCx w [(k, .t3 [])] F S 0 (fun _ => undef)) w [(k, .r3 [])] ι F) args us := by
    have h1 : reps (mem (ownCx w [(k, .t3 [])] F S 0 (fun _ => undef)) w [(k, .r3 [])] ι F) (killAs (qOf [] [k]) args) us := by
      rw [reps_all2] at hr ⊢
      have : ∀ (vs : List AV) (us : List Value), All2 (rep (mem (ownCx w [(k, .t3 [])] F S 0 (fun _ => undef)) w [(k, .t3 [])] ι F)) vs us → All2 (rep (mem (ownCx w [(k, .t3 [])] F S 0 (fun _ => undef)) w [(k, .r3 [])] ι F)) (killAs (qOf [] [k]) vs) us := by
        intro vs
        induction vs with
        | nil => intro us h; cases us with
          | nil => trivial
          | cons _ _ => exact h.elim
        | cons a vs ih =>
          intro us h
          cases us with
          | nil => exact h.elim
          | cons u us => exact ⟨key.2 _ _ h.1, ih _ h.2⟩
      exact this _ _ hr
    rw [ha] at h1
    exact h1
  exact h.runs us w S ι F key.1 hr2
noncomputable def cbA (o : List Int) (m : Int) (w : List (List (List Int))) : AV := if isCoc o m w = true then (if manyB o m = true then .tup [.int 0, .int 3] else .tup [.int (cntP o m w m.toNat (o.length * o.length) (m.toNat ^ (o.length * o.length)) : Nat), .int 0]) else .tup [.int 0, .int 1]
theorem isCoc_ok {o : List Int} {m : Int} {w : List (List (List Int))} (h : isCoc o m w = true) : CocOk o m w := by
  unfold isCoc at h
  exact bd_iff.1 h
theorem cntP_le {o : List Int} {m : Int} {w : List (List (List Int))} {M d : Nat} : ∀ c, cntP o m w M d c ≤ c
  | 0 => Nat.le_refl _
  | c + 1 => by
    have := cntP_le (o := o) (m := m) (w := w) (M := M) (d := d) c
    unfold cntP
    split <;> omega
theorem many_no {o : List Int} {M : Nat} (h : manyB o M = false) : o.length ≤ 3 ∧ M ^ (o.length * o.length) ≤ 20000 := by
  unfold manyB at h
  simp only [Bool.or_eq_false_iff, decide_eq_false_iff_not, Int.toNat_natCast] at h
  omega
theorem cdL_num {M d c : Nat} (h : 0 < M) : (cdL M d c).length = d ∧ NumL M (cdL M d c) := by
  have hl : (cdL M d c).length = d := rowF_length ..
  refine ⟨hl, fun j hj => ?_⟩
  rw [hl] at hj
  unfold cdL
  rw [rowF_get hj]
  unfold dgt
  have := Nat.mod_lt (c / M ^ (d - 1 - j)) h
  omega
theorem sp_cd {o : List Int} {M : Nat} {w : List (List (List Int))} (hc : CocOk o M w) (hk : chk o = true) {c : Nat} : sOk o M w (cdL M (o.length * o.length) c) = pOk o M w (cdL M (o.length * o.length) c) := by
  have M0 : 0 < M := by have := hc.1.2.2.1; omega
  obtain ⟨h1, h2⟩ := cdL_num (c := c) (d := o.length * o.length) M0
  exact sOk_pOk hc.1 hc.2.1 hk h1 (fun j hj => h2 j (by omega))
theorem runA_cnt {o : List Int} {M : Nat} {w : List (List (List Int))} (hc : CocOk o M w) (hk : chk o = true) : ∀ n, (runA o M w false [] ((List.range n).map (cdL M (o.length * o.length)))).length = cntP o M w M (o.length * o.length) n
  | 0 => rfl
  | n + 1 => by
    rw [List.range_succ, List.map_append, runA_app]
    show (addS o M w false _ _).length = _
    unfold addS cntP
    rw [if_neg (fun h => by cases h.1), List.length_append, runA_cnt hc hk n, sp_cd hc hk]
    cases pOk o M w (cdL M (o.length * o.length) n) <;> simp
theorem implCb_ok (o : List Int) (m : Int) (w : List (List (List Int))) (hl : o.length ≤ 1048576) : PureCall Try.prog 8 [.agg [.l1 o, .int m, .l3 w]] (cbA o m w) := by
  have hk := IsCocycle_ok o m w
  unfold cbA
  cases h : isCoc o m w with
  | false =>
    rw [h] at hk
    rw [if_neg (by decide)]
    refine PureCall.intro (n := 15) (rs := [.tmp 2, .tmp 3]) Try.call8 Try.func8 rfl rfl rfl (by simp only [List.length_cons, List.length_nil]; omega) (fun cx hcx => ats_of ?_); simp only [argSlots, Nat.zero_add, Nat.reduceAdd]
    (repeat refine ats_seq ?_); refine ats_go (fix0 hcx) fun K hK => ?_; simp only [go_sem, seval]; (repeat refine And.intro (by first | omega | (intro hq; first | omega | (simp at hq <;> omega) | (simp_all <;> omega))) ?_); refine hK _ ?_; clear hK K
    (repeat refine ats_seq ?_); refine ats_go (fix0 hcx) fun K hK => ?_; simp only [go_sem, seval]
    first | refine fcall_data (hk) rfl ?_ | refine YR_intro (acall_data (hk) rfl) ?_
    simp only [go_sem, seval]
    (repeat refine And.intro (by first | omega | (intro hq; first | omega | (simp at hq <;> omega) | (simp_all <;> omega))) ?_)
    refine hK _ ?_; clear hK K
    (repeat refine ats_seq ?_); refine ats_yes rfl trivial ?_
    (repeat refine ats_seq ?_); refine ats_go (fix0 hcx) fun K hK => ?_; simp only [go_sem, seval]; (repeat refine And.intro (by first | omega | (intro hq; first | omega | (simp at hq <;> omega) | (simp_all <;> omega))) ?_); refine hK _ ?_; clear hK K
    exact ats_ret (fin2 trivial trivial rfl)
  | true =>
    rw [h] at hk
    rw [if_pos rfl]
    have hc := isCoc_ok h
    obtain ⟨M, rfl⟩ : ∃ M : Nat, m = M := ⟨m.toNat, by have := hc.1.2.2.1; omega⟩
    have hE := eachC_ok o M w hc hl
    have cl := cntP_le (o := o) (m := M) (w := w) (M := M) (d := o.length * o.length) (M ^ (o.length * o.length))
    rw [Int.toNat_natCast]
    obtain ⟨K, eK⟩ : ∃ K, cntP o M w M (o.length * o.length) (M ^ (o.length * o.length)) = K := ⟨_, rfl⟩
    rw [eK] at hE ⊢
    cases hm : manyB o M with
    | true =>
      rw [hm, if_pos rfl] at hE
      rw [if_pos rfl]
      simp only [Bool.not_true] at hE
      refine PureCall.intro (n := 15) (rs := [.tmp 2, .tmp 3]) Try.call8 Try.func8 rfl rfl rfl (by simp only [List.length_cons, List.length_nil]; omega) (fun cx hcx => ats_of ?_); simp only [argSlots, Nat.zero_add, Nat.reduceAdd]
      (repeat refine ats_seq ?_); refine ats_go (fix0 hcx) fun K hK => ?_; simp only [go_sem, seval]; (repeat refine And.intro (by first | omega | (intro hq; first | omega | (simp at hq <;> omega) | (simp_all <;> omega))) ?_); refine hK _ ?_; clear hK K
      (repeat refine ats_seq ?_); refine ats_go (fix0 hcx) fun K hK => ?_; simp only [go_sem, seval]
      first | refine fcall_data (hk) rfl ?_ | refine YR_intro (acall_data (hk) rfl) ?_
      simp only [go_sem, seval]
      (repeat refine And.intro (by first | omega | (intro hq; first | omega | (simp at hq <;> omega) | (simp_all <;> omega))) ?_)
      refine hK _ ?_; clear hK K
      (repeat refine ats_seq ?_); refine ats_no rfl trivial ?_
      refine ats_skip ?_
      (repeat refine ats_seq ?_); refine ats_go (fix0 hcx) fun K hK => ?_; simp only [go_sem, seval]; (repeat refine And.intro (by first | omega | (intro hq; first | omega | (simp at hq <;> omega) | (simp_all <;> omega))) ?_); refine hK _ ?_; clear hK K
      (repeat refine ats_seq ?_); refine AT.ghost (st' := ⟨[(1, .bptr 1 0), (4, .bptr 0 0)], [(0, .bx [.int (0 : Nat)]), (1, .bx [.l1 o, .int M, .l3 w])]⟩) (ghost_trans (ghost_drop []) (ghost_can [(0, 1)] (by simp only [killL, killA, killAs, qOf, rmT, killH, killT, List.filter_cons, List.filter_nil, List.contains_cons, List.contains_nil, Bool.or_false, Bool.or_true, Bool.false_and, Bool.not_true, Bool.not_false, Bool.false_eq_true, if_true, if_false, rnLs, rnL, rn, rns, sw, SlotsLe, St.get, slotGet, List.map_cons, List.map_nil, seval, AV.int.injEq, AV.bool.injEq, AV.l1.injEq, AV.l2.injEq, AV.l3.injEq, true_and, and_true]) (by simp only [killL, killA, killAs, qOf, rmT, killH, killT, List.filter_cons, List.filter_nil, List.contains_cons, List.contains_nil, Bool.or_false, Bool.or_true, Bool.false_and, Bool.not_true, Bool.not_false, Bool.false_eq_true, if_true, if_false, sortH, insH, rnHs, rnH, rnT, rn, rns, sw, List.map_cons, List.map_nil, seval]))) ?_
      (repeat refine ats_seq ?_); refine ats_go (fix0 hcx) fun K hK => ?_; simp only [go_sem, seval]
      (repeat refine And.intro (by first | omega | (intro hq; first | omega | (simp at hq <;> omega) | (simp_all <;> omega))) ?_)
      refine fcall_box (hE) (by simp [Aw.ids]) (by simp [find]) (by simp [closedT, killT, killAs, killA, outQ, Aw.ids]) (by simp [killAs, killA, outQ, Aw.ids]) (by simp [Aw.ids]) ?_; simp only [Aw.ids, List.map_cons, List.map_nil, List.filter_cons, List.filter_nil, List.contains_cons, List.contains_nil, Bool.or_false, Bool.or_true, Bool.not_true, Bool.not_false, Nat.reduceBEq, Bool.false_eq_true, if_true, if_false, List.cons_append, List.nil_append]; simp only [go_sem, seval]
      (repeat refine And.intro (by first | omega | (intro hq; first | omega | (simp at hq <;> omega) | (simp_all <;> omega))) ?_)
      refine hK _ ?_; clear hK K
      (repeat refine ats_seq ?_); refine ats_go (fix0 hcx) fun K hK => ?_; simp only [go_sem, seval]; (repeat refine And.intro (by first | omega | (intro hq; first | omega | (simp at hq <;> omega) | (simp_all <;> omega))) ?_); refine hK _ ?_; clear hK K
      (repeat refine ats_seq ?_); refine ats_yes rfl trivial ?_
      (repeat refine ats_seq ?_); refine ats_go (fix0 hcx) fun K hK => ?_; simp only [go_sem, seval]; (repeat refine And.intro (by first | omega | (intro hq; first | omega | (simp at hq <;> omega) | (simp_all <;> omega))) ?_); refine hK _ ?_; clear hK K
      exact ats_ret (fin2 trivial trivial rfl)
    | false =>
      have hn := many_no hm
      rw [hm, if_neg (by decide)] at hE
      rw [if_neg (by decide)]
      simp only [Bool.not_false] at hE
      refine PureCall.intro (n := 15) (rs := [.tmp 2, .tmp 3]) Try.call8 Try.func8 rfl rfl rfl (by simp only [List.length_cons, List.length_nil]; omega) (fun cx hcx => ats_of ?_); simp only [argSlots, Nat.zero_add, Nat.reduceAdd]
      (repeat refine ats_seq ?_); refine ats_go (fix0 hcx) fun K hK => ?_; simp only [go_sem, seval]; (repeat refine And.intro (by first | omega | (intro hq; first | omega | (simp at hq <;> omega) | (simp_all <;> omega))) ?_); refine hK _ ?_; clear hK K
      (repeat refine ats_seq ?_); refine ats_go (fix0 hcx) fun K hK => ?_; simp only [go_sem, seval]
      first | refine fcall_data (hk) rfl ?_ | refine YR_intro (acall_data (hk) rfl) ?_
      simp only [go_sem, seval]
      (repeat refine And.intro (by first | omega | (intro hq; first | omega | (simp at hq <;> omega) | (simp_all <;> omega))) ?_)
      refine hK _ ?_; clear hK K
      (repeat refine ats_seq ?_); refine ats_no rfl trivial ?_
      refine ats_skip ?_
      (repeat refine ats_seq ?_); refine ats_go (fix0 hcx) fun K hK => ?_; simp only [go_sem, seval]; (repeat refine And.intro (by first | omega | (intro hq; first | omega | (simp at hq <;> omega) | (simp_all <;> omega))) ?_); refine hK _ ?_; clear hK K
      (repeat refine ats_seq ?_); refine AT.ghost (st' := ⟨[(1, .bptr 1 0), (4, .bptr 0 0)], [(0, .bx [.int (0 : Nat)]), (1, .bx [.l1 o, .int M, .l3 w])]⟩) (ghost_trans (ghost_drop []) (ghost_can [(0, 1)] (by simp only [killL, killA, killAs, qOf, rmT, killH, killT, List.filter_cons, List.filter_nil, List.contains_cons, List.contains_nil, Bool.or_false, Bool.or_true, Bool.false_and, Bool.not_true, Bool.not_false, Bool.false_eq_true, if_true, if_false, rnLs, rnL, rn, rns, sw, SlotsLe, St.get, slotGet, List.map_cons, List.map_nil, seval, AV.int.injEq, AV.bool.injEq, AV.l1.injEq, AV.l2.injEq, AV.l3.injEq, true_and, and_true]) (by simp only [killL, killA, killAs, qOf, rmT, killH, killT, List.filter_cons, List.filter_nil, List.contains_cons, List.contains_nil, Bool.or_false, Bool.or_true, Bool.false_and, Bool.not_true, Bool.not_false, Bool.false_eq_true, if_true, if_false, sortH, insH, rnHs, rnH, rnT, rn, rns, sw, List.map_cons, List.map_nil, seval]))) ?_
      (repeat refine ats_seq ?_); refine ats_go (fix0 hcx) fun K hK => ?_; simp only [go_sem, seval]
      (repeat refine And.intro (by first | omega | (intro hq; first | omega | (simp at hq <;> omega) | (simp_all <;> omega))) ?_)
      refine fcall_box (hE) (by simp [Aw.ids]) (by simp [find]) (by simp [closedT, killT, killAs, killA, outQ, Aw.ids]) (by simp [killAs, killA, outQ, Aw.ids]) (by simp [Aw.ids]) ?_; simp only [Aw.ids, List.map_cons, List.map_nil, List.filter_cons, List.filter_nil, List.contains_cons, List.contains_nil, Bool.or_false, Bool.or_true, Bool.not_true, Bool.not_false, Nat.reduceBEq, Bool.false_eq_true, if_true, if_false, List.cons_append, List.nil_append]; simp only [go_sem, seval]
      (repeat refine And.intro (by first | omega | (intro hq; first | omega | (simp at hq <;> omega) | (simp_all <;> omega))) ?_)
      refine hK _ ?_; clear hK K
      (repeat refine ats_seq ?_); refine ats_go (fix0 hcx) fun K hK => ?_; simp only [go_sem, seval]; (repeat refine And.intro (by first | omega | (intro hq; first | omega | (simp at hq <;> omega) | (simp_all <;> omega))) ?_); refine hK _ ?_; clear hK K
      (repeat refine ats_seq ?_); refine ats_no rfl trivial ?_
      refine ats_skip ?_
      (repeat refine ats_seq ?_); refine ats_go (fix0 hcx) fun K hK => ?_; simp only [go_sem, seval]; (repeat refine And.intro (by first | omega | (intro hq; first | omega | (simp at hq <;> omega) | (simp_all <;> omega))) ?_); refine hK _ ?_; clear hK K
      exact ats_ret (fin2 trivial trivial rfl)
theorem specCb_ok (o : List Int) (m : Int) (w : List (List (List Int))) (hl : o.length ≤ 1048576) : PureCall Try.prog 6 [.agg [.l1 o, .int m, .l3 w]] (cbA o m w) := by
  have hk := l17Is_ok o m w
  unfold cbA
  cases h : isCoc o m w with
  | false =>
    rw [h] at hk
    rw [if_neg (by decide)]
    refine PureCall.intro (n := 14) (rs := [.tmp 2, .tmp 3]) Try.call6 Try.func6 rfl rfl rfl (by simp only [List.length_cons, List.length_nil]; omega) (fun cx hcx => ats_of ?_); simp only [argSlots, Nat.zero_add, Nat.reduceAdd]
    (repeat refine ats_seq ?_); refine ats_go (fix0 hcx) fun K hK => ?_; simp only [go_sem, seval]; (repeat refine And.intro (by first | omega | (intro hq; first | omega | (simp at hq <;> omega) | (simp_all <;> omega))) ?_); refine hK _ ?_; clear hK K
    (repeat refine ats_seq ?_); refine ats_go (fix0 hcx) fun K hK => ?_; simp only [go_sem, seval]
    first | refine fcall_data (hk) rfl ?_ | refine YR_intro (acall_data (hk) rfl) ?_
    simp only [go_sem, seval]
    (repeat refine And.intro (by first | omega | (intro hq; first | omega | (simp at hq <;> omega) | (simp_all <;> omega))) ?_)
    refine hK _ ?_; clear hK K
    (repeat refine ats_seq ?_); refine ats_yes rfl trivial ?_
    (repeat refine ats_seq ?_); refine ats_go (fix0 hcx) fun K hK => ?_; simp only [go_sem, seval]; (repeat refine And.intro (by first | omega | (intro hq; first | omega | (simp at hq <;> omega) | (simp_all <;> omega))) ?_); refine hK _ ?_; clear hK K
    exact ats_ret (fin2 trivial trivial rfl)
  | true =>
    rw [h] at hk
    rw [if_pos rfl]
    have hc := isCoc_ok h
    obtain ⟨M, rfl⟩ : ∃ M : Nat, m = M := ⟨m.toNat, by have := hc.1.2.2.1; omega⟩
    have hM := l18Many_ok o M w (by have := hc.1.2.2.1; omega) (by have := hc.1.2.2.2.1; omega) hl
    rw [Int.toNat_natCast]
    cases hm : manyB o M with
    | true =>
      rw [hm] at hM
      rw [if_pos rfl]
      refine PureCall.intro (n := 14) (rs := [.tmp 2, .tmp 3]) Try.call6 Try.func6 rfl rfl rfl (by simp only [List.length_cons, List.length_nil]; omega) (fun cx hcx => ats_of ?_); simp only [argSlots, Nat.zero_add, Nat.reduceAdd]
      (repeat refine ats_seq ?_); refine ats_go (fix0 hcx) fun K hK => ?_; simp only [go_sem, seval]; (repeat refine And.intro (by first | omega | (intro hq; first | omega | (simp at hq <;> omega) | (simp_all <;> omega))) ?_); refine hK _ ?_; clear hK K
      (repeat refine ats_seq ?_); refine ats_go (fix0 hcx) fun K hK => ?_; simp only [go_sem, seval]
      first | refine fcall_data (hk) rfl ?_ | refine YR_intro (acall_data (hk) rfl) ?_
      simp only [go_sem, seval]
      (repeat refine And.intro (by first | omega | (intro hq; first | omega | (simp at hq <;> omega) | (simp_all <;> omega))) ?_)
      refine hK _ ?_; clear hK K
      (repeat refine ats_seq ?_); refine ats_no rfl trivial ?_
      refine ats_skip ?_
      (repeat refine ats_seq ?_); refine ats_go (fix0 hcx) fun K hK => ?_; simp only [go_sem, seval]
      first | refine fcall_data (hM) rfl ?_ | refine YR_intro (acall_data (hM) rfl) ?_
      simp only [go_sem, seval]
      (repeat refine And.intro (by first | omega | (intro hq; first | omega | (simp at hq <;> omega) | (simp_all <;> omega))) ?_)
      refine hK _ ?_; clear hK K
      (repeat refine ats_seq ?_); refine ats_yes rfl trivial ?_
      (repeat refine ats_seq ?_); refine ats_go (fix0 hcx) fun K hK => ?_; simp only [go_sem, seval]; (repeat refine And.intro (by first | omega | (intro hq; first | omega | (simp at hq <;> omega) | (simp_all <;> omega))) ?_); refine hK _ ?_; clear hK K
      exact ats_ret (fin2 trivial trivial rfl)
    | false =>
      rw [hm] at hM
      rw [if_neg (by decide)]
      have hn := many_no hm
      have hck := chk_ok hc.1.1 hc.1.2.1 hn.1
      have M0 : 0 < M := by have := hc.1.2.2.1; omega
      have hA := fromT3 (allL_ok o M w hc hck hn.1 false (o.length * o.length) [] [] (by simp) (fun j hj => absurd hj (Nat.not_lt_zero _)) (fun _ => rfl) (by simp only [List.length_nil]; omega)) (by simp [killAs, killA, qOf])
      have hcnt := runA_cnt hc hck (M ^ (o.length * o.length))
      have hx : extA M (o.length * o.length) [] = (List.range (M ^ (o.length * o.length))).map (cdL M (o.length * o.length)) := by rw [extA_eq M0]; simp
      have cl := cntP_le (o := o) (m := M) (w := w) (M := M) (d := o.length * o.length) (M ^ (o.length * o.length))
      rw [hx] at hA
      obtain ⟨R, eR⟩ : ∃ R, runA o M w false [] ((List.range (M ^ (o.length * o.length))).map (cdL M (o.length * o.length))) = R := ⟨_, rfl⟩
      rw [eR] at hA hcnt
      rw [← hcnt]
      refine PureCall.intro (n := 14) (rs := [.tmp 2, .tmp 3]) Try.call6 Try.func6 rfl rfl rfl (by simp only [List.length_cons, List.length_nil]; omega) (fun cx hcx => ats_of ?_); simp only [argSlots, Nat.zero_add, Nat.reduceAdd]
      (repeat refine ats_seq ?_); refine ats_go (fix0 hcx) fun K hK => ?_; simp only [go_sem, seval]; (repeat refine And.intro (by first | omega | (intro hq; first | omega | (simp at hq <;> omega) | (simp_all <;> omega))) ?_); refine hK _ ?_; clear hK K
      (repeat refine ats_seq ?_); refine ats_go (fix0 hcx) fun K hK => ?_; simp only [go_sem, seval]
      first | refine fcall_data (hk) rfl ?_ | refine YR_intro (acall_data (hk) rfl) ?_
      simp only [go_sem, seval]
      (repeat refine And.intro (by first | omega | (intro hq; first | omega | (simp at hq <;> omega) | (simp_all <;> omega))) ?_)
      refine hK _ ?_; clear hK K
      (repeat refine ats_seq ?_); refine ats_no rfl trivial ?_
      refine ats_skip ?_
      (repeat refine ats_seq ?_); refine ats_go (fix0 hcx) fun K hK => ?_; simp only [go_sem, seval]
      first | refine fcall_data (hM) rfl ?_ | refine YR_intro (acall_data (hM) rfl) ?_
      simp only [go_sem, seval]
      (repeat refine And.intro (by first | omega | (intro hq; first | omega | (simp at hq <;> omega) | (simp_all <;> omega))) ?_)
      refine hK _ ?_; clear hK K
      (repeat refine ats_seq ?_); refine ats_no rfl trivial ?_
      refine ats_skip ?_
      (repeat refine ats_seq ?_); refine AT.ghost (st' := ⟨[(1, .bptr 3 0)], [(3, .bx [.l1 o, .int M, .l3 w])]⟩) (ghost_trans (ghost_drop []) (ghost_can [(0, 3)] (by simp only [killL, killA, killAs, qOf, rmT, killH, killT, List.filter_cons, List.filter_nil, List.contains_cons, List.contains_nil, Bool.or_false, Bool.or_true, Bool.false_and, Bool.not_true, Bool.not_false, Bool.false_eq_true, if_true, if_false, rnLs, rnL, rn, rns, sw, SlotsLe, St.get, slotGet, List.map_cons, List.map_nil, seval, AV.int.injEq, AV.bool.injEq, AV.l1.injEq, AV.l2.injEq, AV.l3.injEq, true_and, and_true]) (by simp only [killL, killA, killAs, qOf, rmT, killH, killT, List.filter_cons, List.filter_nil, List.contains_cons, List.contains_nil, Bool.or_false, Bool.or_true, Bool.false_and, Bool.not_true, Bool.not_false, Bool.false_eq_true, if_true, if_false, sortH, insH, rnHs, rnH, rnT, rn, rns, sw, List.map_cons, List.map_nil, seval]))) ?_
      (repeat refine ats_seq ?_); refine ats_go (fix0 hcx) fun K hK => ?_; simp only [go_sem, seval]
      (repeat refine And.intro (by first | omega | (intro hq; first | omega | (simp at hq <;> omega) | (simp_all <;> omega))) ?_)
      refine fcall_zbox [4] (hA) (by simp [frzAs, frzA, find]) (by simp only [killL, killA, killAs, qOf, rmT, killH, killT, List.map_cons, List.map_nil, List.filter_cons, List.filter_nil, List.contains_cons, List.contains_nil, Bool.or_false, Bool.or_true, Bool.false_and, Bool.not_true, Bool.not_false, Bool.false_eq_true, if_true, if_false, seval]; rfl) (by simp [Aw.ids]) (by simp [find]) (by simp [closedT, killT, killAs, killA, outQ, Aw.ids]) (by simp [killAs, killA, outQ, Aw.ids]) (by simp [Aw.ids]) ?_; simp only [Aw.ids, List.map_cons, List.map_nil, List.filter_cons, List.filter_nil, List.contains_cons, List.contains_nil, Bool.or_false, Bool.or_true, Bool.not_true, Bool.not_false, Nat.reduceBEq, Bool.false_eq_true, if_true, if_false, List.cons_append, List.nil_append, List.append_nil]; simp only [go_sem, seval]
      (repeat refine And.intro (by first | omega | (intro hq; first | omega | (simp at hq <;> omega) | (simp_all <;> omega))) ?_)
      refine hK _ ?_; clear hK K
      exact ats_ret (fin2 trivial trivial rfl)
noncomputable def cbN (o : List Int) (m : Int) (w : List (List (List Int))) : Int := if isCoc o m w = true then (if manyB o m = true then 0 else (cntP o m w m.toNat (o.length * o.length) (m.toNat ^ (o.length * o.length)) : Nat)) else 0
noncomputable def cbK (o : List Int) (m : Int) (w : List (List (List Int))) : Int := if isCoc o m w = true then (if manyB o m = true then 3 else 0) else 1
theorem cbA_eq (o : List Int) (m : Int) (w : List (List (List Int))) : cbA o m w = .tup [.int (cbN o m w), .int (cbK o m w)] := by
  unfold cbA cbN cbK
  split
  · split <;> rfl
  · rfl
theorem implCount_ok (o : List Int) (m : Int) (w : List (List (List Int))) (hl : o.length ≤ 1048576) : PureCall Try.prog 8 [.agg [.l1 o, .int m, .l3 w]] (.tup [.int (cbN o m w), .int (cbK o m w)]) := by
  rw [← cbA_eq]
  exact implCb_ok o m w hl
theorem specCount_ok (o : List Int) (m : Int) (w : List (List (List Int))) (hl : o.length ≤ 1048576) : PureCall Try.prog 6 [.agg [.l1 o, .int m, .l3 w]] (.tup [.int (cbN o m w), .int (cbK o m w)]) := by
  rw [← cbA_eq]
  exact specCb_ok o m w hl
end Go.Proofs.Ytaijdhkjemffhaa
