import Derived.Test.YtakhnoenhmpfpaaGreatGib
import Derived.Test.YtakhnoenhmpfpaaGreatPl4
set_option linter.unusedSimpArgs false
set_option linter.unusedVariables false
namespace Go.Proofs.YtakhnoenhmpfpaaGreat
open Go Go.Aw Go.Pl
attribute [local go_sem] pl_fin pl_stop pl_one pl_alt PK_ap pickO List.getElem?_toArray List.getElem?_cons_zero List.getElem?_cons_succ
def argM (st : Option (List (List Int))) : AV := match st with
  | none => .nil
  | some L => .l2 L
noncomputable def mapsO (n : Nat) (s : List (List Int)) (t : List Int) (s' : List (List Int)) (t' : List Int) (most : Nat) : Option (List (List Int)) :=
  match refF n s t s' t' (2 * n + 2) 0 ((List.replicate n (0 : Int)).set 0 60) ((List.replicate n (0 : Int)).set 0 60) with
  | none => none
  | some (l, r) => seekO n s t s' t' most (n - 1) [0] l r none
theorem mapsO_eq {n : Nat} {s : List (List Int)} {t : List Int} {s' : List (List Int)} {t' : List Int} (hs : SymX n s) (hs' : SymX n s') (h1 : 1 ≤ n) (h16 : n ≤ 16) (ht : t.getD 0 0 = t'.getD 0 0) (h00 : e2 s 0 0 = e2 s' 0 0) {most : Nat} (hm : 0 < most) :
    (mapsO n s t s' t' most).getD [] = (extX n s t s' t' (n - 1) [0]).take most := by
  have hc0 := start_ok (n := n) (f := (List.replicate n (0 : Int)).set 0 60) rfl h1
  have hcons : ConsX n s t s' t' [0] := by
    refine ⟨QOk.one (y := 0) (by omega), by simp, fun i hi => ?_, fun i hi k hk => ?_⟩
    · have : i = 0 := by simpa using hi
      subst this
      exact ht
    · have : i = 0 := by simpa using hi
      have : k = 0 := by simpa using hk
      subst_vars
      exact h00
  have hiso := fun q hq => ext_iso (t := t) (t' := t') hs hs' (n - 1) [0] (by simp; omega) hcons q hq
  have hkp : ∀ q ∈ extX n s t s' t' (n - 1) [0], KP n ((List.replicate n (0 : Int)).set 0 60) ((List.replicate n (0 : Int)).set 0 60) q := fun q hq => start_KP rfl h1 (hiso q hq).1.p (by rw [(hiso q hq).2 0 (by simp)]; rfl)
  unfold mapsO
  cases hr : refF n s t s' t' (2 * n + 2) 0 ((List.replicate n (0 : Int)).set 0 60) ((List.replicate n (0 : Int)).set 0 60) with
  | none =>
    have he : extX n s t s' t' (n - 1) [0] = [] := by
      refine List.eq_nil_iff_forall_not_mem.2 fun q hq => ?_
      obtain ⟨f', g', e, _⟩ := ref_iso (hiso q hq).1 h16 (2 * n + 2) 0 _ _ hc0 hc0 (hkp q hq)
      rw [hr] at e
      cases e
    rw [he]
    simp
  | some lr =>
    obtain ⟨l, r⟩ := lr
    obtain ⟨g1, g2⟩ := ref_col h16 _ _ _ _ _ _ hc0 hc0 hr
    show (seekO n s t s' t' most (n - 1) [0] l r none).getD [] = _
    rw [seekO_eq]
    have := seek_eq hs hs' h16 (most := most) (n - 1) [0] l r [] (by simp; omega) hcons g1 g2 (fun q hq => by
      obtain ⟨f', g', e, hK⟩ := ref_iso (hiso q hq).1 h16 (2 * n + 2) 0 _ _ hc0 hc0 (hkp q hq)
      rw [hr] at e
      cases e
      exact hK) (by simp) (fun _ => by simpa using hm)
    simpa using this
set_option maxHeartbeats 4000000 in
theorem l12Maps_ok (n : Nat) (s : List (List Int)) (t : List Int) (s' : List (List Int)) (t' : List Int) (hs : Shape s t) (hs' : Shape s' t') (hn : t.length = n) (hn' : t'.length = n) (most : Nat) (hm : 0 < most) (hmo : most ≤ 5000) :
    PureCall Tryz.prog 16 [.agg [.l2 s, .l1 t], .agg [.l2 s', .l1 t'], .int most] (argM (mapsO n s t s' t' most)) := by
  have h16 : n ≤ 16 := by rw [← hn]; exact hs.2.1
  have h1 : 1 ≤ n := by rw [← hn]; exact hs.1
  have hc0 := start_ok (n := n) (f := (List.replicate n (0 : Int)).set 0 60) rfl h1
  have hrf := l12Refine_ok n s t s' t' _ _ hs hs' hn hn' hc0 hc0
  have lr0 : (List.replicate n (0 : Int)).length = n := by simp
  refine PureCall.intro (n := 42) (rs := [.tmp 6]) Tryz.call16 Tryz.func16 rfl rfl rfl (by simp only [List.length_cons, List.length_nil]; omega) (fun cx hcx => ats_of ?_); simp only [argSlots, Nat.zero_add, Nat.reduceAdd]
  (repeat refine ats_seq ?_); refine ats_go (fix0 hcx) fun K hK => ?_; simp only [go_sem, seval]; (repeat refine And.intro (by first | omega | (intro hq; first | omega | (simp at hq <;> omega) | (simp_all <;> omega))) ?_); refine hK _ ?_; clear hK K
  (repeat refine ats_seq ?_)
  refine ats_planG [] (.one 0 (.one 1 (.one 2 (.one 4 (.one 5 (.one 6 (.alt 3 (.one 8 (.alt 7 (.one 9 .fin) .stop)) (.alt 7 (.alt 3 (.one 8 (.one 9 .fin)) .stop) .stop)))))))) ⟨[(2, .int most), (3, .bptr 0 0), (4, .bptr 1 0), (7, .ref 2 []), (8, .ref 3 [])], [(0, .bx [.l2 s, .l1 t]), (1, .bx [.l2 s', .l1 t']), (2, .t1 (List.replicate t.length 0)), (3, .t1 (List.replicate t'.length 0))]⟩ (fix0 hcx) mixed (by kernel_rfl) (fun K hK => ?_) ?_
  · simp only [go_sem, seval, Option.getD_some, and_true, true_and, and_self, List.contains_cons, List.contains_nil, Bool.or_false, Bool.or_true]
    repeat' (first | (refine hK _ (ghost_can [] ?_ ?_); (focus (simp only [rnLs, rnL, rn, rns, sw, SlotsLe, St.get, slotGet, List.map_cons, List.map_nil, seval, AV.int.injEq, AV.bool.injEq, AV.l1.injEq, AV.l2.injEq, AV.l3.injEq, true_and, and_true]; done)); (focus (simp only [sortH, insH, rnHs, rnH, rnT, rn, rns, sw, List.map_cons, List.map_nil, seval]; done))) | (refine hK _ (ghost_can [(2, 3)] ?_ ?_); (focus (simp only [rnLs, rnL, rn, rns, sw, SlotsLe, St.get, slotGet, List.map_cons, List.map_nil, seval, AV.int.injEq, AV.bool.injEq, AV.l1.injEq, AV.l2.injEq, AV.l3.injEq, true_and, and_true]; done)); (focus (simp only [sortH, insH, rnHs, rnH, rnT, rn, rns, sw, List.map_cons, List.map_nil, seval]; done))) | omega | refine And.intro ?_ ?_)
  rw [hn, hn']
  (repeat refine ats_seq ?_); refine ats_go (fix0 hcx) fun K hK => ?_; simp only [go_sem, seval]
  simp only [lr0]
  (repeat refine And.intro (by first | omega | (intro hq; first | omega | (simp at hq <;> omega) | (simp_all <;> omega))) ?_)
  refine hK _ ?_; clear hK K
  (repeat refine ats_seq ?_); refine ats_go (fix0 hcx) fun K hK => ?_; simp only [go_sem, seval]
  simp only [lr0]
  (repeat refine And.intro (by first | omega | (intro hq; first | omega | (simp at hq <;> omega) | (simp_all <;> omega))) ?_)
  refine hK _ ?_; clear hK K
  (repeat refine ats_seq ?_); refine AT.ghost (ghost_frz [2, 3]) ?_; simp only [frzV, find, killA, killAs, qOf, rmT, killH, killT, List.map_cons, List.map_nil, List.filter_cons, List.filter_nil, List.contains_cons, List.contains_nil, Bool.or_false, Bool.or_true, Bool.false_and, Bool.not_true, Bool.not_false, Bool.false_eq_true, if_true, if_false, seval]
  unfold mapsO
  cases hr : refF n s t s' t' (2 * n + 2) 0 ((List.replicate n (0 : Int)).set 0 60) ((List.replicate n (0 : Int)).set 0 60) with
  | none =>
    rw [hr] at hrf
    simp only [rfA] at hrf
    (repeat refine ats_seq ?_); refine ats_go (fix0 hcx) fun K hK => ?_; simp only [go_sem, seval]
    first | refine fcall_data (hrf) rfl ?_ | refine YR_intro (acall_data (hrf) rfl) ?_
    simp only [go_sem, seval]
    (repeat refine And.intro (by first | omega | (intro hq; first | omega | (simp at hq <;> omega) | (simp_all <;> omega))) ?_)
    refine hK _ ?_; clear hK K
    (repeat refine ats_seq ?_); refine ats_go (fix0 hcx) fun K hK => ?_; simp only [go_sem, seval]; (repeat refine And.intro (by first | omega | (intro hq; first | omega | (simp at hq <;> omega) | (simp_all <;> omega))) ?_); refine hK _ ?_; clear hK K
    (repeat refine ats_seq ?_); refine ats_yes rfl trivial ?_
    (repeat refine ats_seq ?_); refine ats_go (fix0 hcx) fun K hK => ?_; simp only [go_sem, seval]; (repeat refine And.intro (by first | omega | (intro hq; first | omega | (simp at hq <;> omega) | (simp_all <;> omega))) ?_); refine hK _ ?_; clear hK K
    exact ats_ret (finV rfl ⟨rfl, trivial⟩ rfl)
  | some lr =>
    obtain ⟨l, r⟩ := lr
    obtain ⟨g1, g2⟩ := ref_col h16 _ _ _ _ _ _ hc0 hc0 hr
    have hsk := l12Seek_ok n s t s' t' hs hs' hn hn' most hmo (n - 1) [0] l r none (by simp; omega) (QOk.one (y := 0) (by omega)) g1 g2 (by simp) (fun _ => by simpa using hm)
    rw [hr] at hrf
    simp only [rfA] at hrf
    (repeat refine ats_seq ?_); refine ats_go (fix0 hcx) fun K hK => ?_; simp only [go_sem, seval]
    first | refine fcall_data (hrf) rfl ?_ | refine YR_intro (acall_data (hrf) rfl) ?_
    simp only [go_sem, seval]
    (repeat refine And.intro (by first | omega | (intro hq; first | omega | (simp at hq <;> omega) | (simp_all <;> omega))) ?_)
    refine hK _ ?_; clear hK K
    (repeat refine ats_seq ?_); refine ats_go (fix0 hcx) fun K hK => ?_; simp only [go_sem, seval]; (repeat refine And.intro (by first | omega | (intro hq; first | omega | (simp at hq <;> omega) | (simp_all <;> omega))) ?_); refine hK _ ?_; clear hK K
    (repeat refine ats_seq ?_); refine ats_no rfl trivial ?_
    refine ats_skip ?_
    show ATs _ _ _ _ (fun e st => Aw.Ends e ∧ ∃ v, resL Tryz.prog st [.tmp 6] v ∧ view1 st.H v = some (argM (seekO n s t s' t' most (n - 1) [0] l r none))) _
    obtain ⟨so, eso⟩ : ∃ so, seekO n s t s' t' most (n - 1) [0] l r none = so := ⟨_, rfl⟩
    rw [eso] at hsk ⊢
    rcases so with _ | L
    · simp only [TS, argS, argM] at hsk ⊢
      (repeat refine ats_seq ?_); refine ats_go (fix0 hcx) fun K hK => ?_; simp only [go_sem, seval]
      refine fcall_zbox [2] (hsk) (by simp [frzAs, frzA, find]) (by simp only [killL, killA, killAs, qOf, rmT, killH, killT, List.map_cons, List.map_nil, List.filter_cons, List.filter_nil, List.contains_cons, List.contains_nil, Bool.or_false, Bool.or_true, Bool.false_and, Bool.not_true, Bool.not_false, Bool.false_eq_true, if_true, if_false, seval]; rfl) (by simp [Aw.ids]) (by simp [find]) (by simp [closedT, killT, killAs, killA, outQ, Aw.ids]) (by simp [killAs, killA, outQ, Aw.ids]) (by simp [Aw.ids]) ?_; simp only [Aw.ids, List.map_cons, List.map_nil, List.filter_cons, List.filter_nil, List.contains_cons, List.contains_nil, Bool.or_false, Bool.or_true, Bool.not_true, Bool.not_false, Nat.reduceBEq, Bool.false_eq_true, if_true, if_false, List.cons_append, List.nil_append, List.append_nil]; simp only [go_sem, seval]
      (repeat refine And.intro (by first | omega | (intro hq; first | omega | (simp at hq <;> omega) | (simp_all <;> omega))) ?_)
      refine hK _ ?_; clear hK K
      exact ats_ret (finV rfl ⟨rfl, trivial⟩ rfl)
    · simp only [TS, argS, argM] at hsk ⊢
      (repeat refine ats_seq ?_); refine ats_go (fix0 hcx) fun K hK => ?_; simp only [go_sem, seval]
      refine fcall_zbox [2] (hsk) (by simp [frzAs, frzA, find]) (by simp only [killL, killA, killAs, qOf, rmT, killH, killT, List.map_cons, List.map_nil, List.filter_cons, List.filter_nil, List.contains_cons, List.contains_nil, Bool.or_false, Bool.or_true, Bool.false_and, Bool.not_true, Bool.not_false, Bool.false_eq_true, if_true, if_false, seval]; rfl) (by simp [Aw.ids]) (by simp [find]) (by simp [closedT, killT, killAs, killA, outQ, Aw.ids]) (by simp [killAs, killA, outQ, Aw.ids]) (by simp [Aw.ids]) ?_; simp only [Aw.ids, List.map_cons, List.map_nil, List.filter_cons, List.filter_nil, List.contains_cons, List.contains_nil, Bool.or_false, Bool.or_true, Bool.not_true, Bool.not_false, Nat.reduceBEq, Bool.false_eq_true, if_true, if_false, List.cons_append, List.nil_append, List.append_nil]; simp only [go_sem, seval]
      (repeat refine And.intro (by first | omega | (intro hq; first | omega | (simp at hq <;> omega) | (simp_all <;> omega))) ?_)
      refine hK _ ?_; clear hK K
      exact ats_ret (finV rfl ⟨rfl, trivial⟩ rfl)
end Go.Proofs.YtakhnoenhmpfpaaGreat
