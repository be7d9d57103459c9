import Derived.Test.YtakhnoenhmpfpaaGreatGk
import Derived.Test.YtakhnoenhmpfpaaGreatGl
import Derived.Test.YtakhnoenhmpfpaaGreatGn
import Derived.Test.YtakhnoenhmpfpaaGreatDf
set_option linter.unusedSimpArgs false
set_option linter.unusedVariables false
namespace Go.Proofs.YtakhnoenhmpfpaaGreat
open Go Go.Aw Go.Pl
noncomputable def syB (s : List (List Int)) (t : List Int) : AV := if isData s t then (if (syE s t).length ≤ 1000 then .tup [argM (mapsO t.length s t s t 1001), .int 0] else .tup [.nil, .int 3]) else .tup [.nil, .int 1]
theorem mapsO_sy {s : List (List Int)} {t : List Int} (h : isData s t = true) : (mapsO t.length s t s t 1001).getD [] = (syE s t).take 1001 :=
  mapsO_eq (data_sym h) (data_sym h) (isData_some h).1.1 (isData_some h).1.2.1 rfl rfl (by omega)
theorem syB_le (s : List (List Int)) (t : List Int) : AvLe (syB s t) (syA s t) := by
  unfold syB syA
  cases h : isData s t with
  | false => exact avLe_rfl _
  | true =>
    simp only [if_true]
    split
    · rename_i hl
      have e := mapsO_sy h
      rw [List.take_of_length_le (by omega)] at e
      rw [← e]
      cases mapsO t.length s t s t 1001 with
      | none => exact avLe_tup (avsLe_cons avLe_nil2 (avsLe_rfl _))
      | some L => exact avLe_rfl _
    · exact avLe_rfl _
theorem specSyB_ok (s : List (List Int)) (t : List Int) : PureCall Tryz.prog 5 [.agg [.l2 s, .l1 t]] (syB s t) := by
  have hk := l12Is_ok s t
  unfold syB
  refine PureCall.intro (n := 15) (rs := [.tmp 2, .tmp 3]) Tryz.call5 Tryz.func5 rfl rfl rfl (by simp only [List.length_cons, List.length_nil]; omega) (fun cx hcx => ats_of ?_); simp only [argSlots, Nat.zero_add, Nat.reduceAdd]
  (repeat refine ats_seq ?_); refine ats_go (fix0 hcx) fun K hK => ?_; simp only [go_sem, seval]; (repeat refine And.intro (by first | omega | (intro hq; first | omega | (simp at hq <;> omega) | (simp_all <;> omega))) ?_); refine hK _ ?_; clear hK K
  cases h : isData s t with
  | false =>
    rw [h] at hk
    (repeat refine ats_seq ?_); refine ats_go (fix0 hcx) fun K hK => ?_; simp only [go_sem, seval]
    first | refine fcall_free rfl rfl (hk) ?_ | refine YR_intro (acall_free rfl rfl (hk)) ?_
    simp only [go_sem, seval]
    refine hK _ ?_; clear hK K
    (repeat refine ats_seq ?_); refine ats_yes rfl trivial ?_
    (repeat refine ats_seq ?_); refine ats_go (fix0 hcx) fun K hK => ?_; simp only [go_sem, seval]; refine hK _ ?_; clear hK K
    exact ats_ret (fin2 trivial trivial rfl)
  | true =>
    have hs := (isData_some h).1
    have hm := l12Maps_ok t.length s t s t hs hs rfl rfl 1001 (by omega) (by omega)
    have e := mapsO_sy h
    have hlt := List.length_take (i := 1001) (l := syE s t)
    rw [← e] at hlt
    rw [h] at hk
    obtain ⟨o, eo⟩ : ∃ o, mapsO t.length s t s t 1001 = o := ⟨_, rfl⟩
    rw [eo] at hm e hlt ⊢
    (repeat refine ats_seq ?_); refine ats_go (fix0 hcx) fun K hK => ?_; simp only [go_sem, seval]
    first | refine fcall_free rfl rfl (hk) ?_ | refine YR_intro (acall_free rfl rfl (hk)) ?_
    simp only [go_sem, seval]
    refine hK _ ?_; clear hK K
    (repeat refine ats_seq ?_); refine ats_no rfl trivial ?_
    refine ats_skip ?_
    (repeat refine ats_seq ?_); refine ats_go (fix0 hcx) fun K hK => ?_; simp only [go_sem, seval]
    rcases o with _ | L
    · simp only [argM, Option.getD_none, List.length_nil] at hm hlt ⊢
      have e1 : (syE s t).length ≤ 1000 := by omega
      first | refine fcall_data (hm) rfl ?_ | refine YR_intro (acall_data (hm) rfl) ?_
      simp only [go_sem, seval]
      (repeat refine And.intro (by first | omega | (intro hq; first | omega | (simp at hq <;> omega) | (simp_all <;> omega))) ?_)
      refine hK _ ?_; clear hK K
      rw [if_pos e1]
      (repeat refine ats_seq ?_); refine ats_go (fix0 hcx) fun K hK => ?_; simp only [go_sem, seval]; (repeat refine And.intro (by first | omega | (intro hq; first | omega | (simp at hq <;> omega) | (simp_all <;> omega))) ?_); refine hK _ ?_; clear hK K
      (repeat refine ats_seq ?_); first | refine ats_ifn (p := _) rfl trivial (fun h2 => ?_) (fun h2 => ?_) | refine ats_ifp (p := _) rfl trivial (fun h2 => ?_) (fun h2 => ?_) | refine ats_cond rfl trivial (fun h2 => ?_) (fun h2 => ?_)
      · first | omega | simp at h2
      · refine ats_skip ?_
        (repeat refine ats_seq ?_); refine ats_go (fix0 hcx) fun K hK => ?_; simp only [go_sem, seval]; refine hK _ ?_; clear hK K
        exact ats_ret (fin2 trivial trivial rfl)
    · simp only [argM, Option.getD_some] at hm hlt ⊢
      first | refine fcall_data (hm) rfl ?_ | refine YR_intro (acall_data (hm) rfl) ?_
      simp only [go_sem, seval]
      (repeat refine And.intro (by first | omega | (intro hq; first | omega | (simp at hq <;> omega) | (simp_all <;> omega))) ?_)
      refine hK _ ?_; clear hK K
      (repeat refine ats_seq ?_); refine ats_go (fix0 hcx) fun K hK => ?_; simp only [go_sem, seval]; (repeat refine And.intro (by first | omega | (intro hq; first | omega | (simp at hq <;> omega) | (simp_all <;> omega))) ?_); refine hK _ ?_; clear hK K
      (repeat refine ats_seq ?_); first | refine ats_ifn (p := _) rfl trivial (fun h2 => ?_) (fun h2 => ?_) | refine ats_ifp (p := _) rfl trivial (fun h2 => ?_) (fun h2 => ?_) | refine ats_cond rfl trivial (fun h2 => ?_) (fun h2 => ?_)
      · have e3 : ¬ (syE s t).length ≤ 1000 := by omega
        rw [if_neg e3]
        (repeat refine ats_seq ?_); refine ats_go (fix0 hcx) fun K hK => ?_; simp only [go_sem, seval]; refine hK _ ?_; clear hK K
        exact ats_ret (fin2 trivial trivial rfl)
      · have e3 : (syE s t).length ≤ 1000 := by omega
        rw [if_pos e3]
        refine ats_skip ?_
        (repeat refine ats_seq ?_); refine ats_go (fix0 hcx) fun K hK => ?_; simp only [go_sem, seval]; refine hK _ ?_; clear hK K
        exact ats_ret (fin2 trivial trivial rfl)
theorem specSy_ok (s : List (List Int)) (t : List Int) : PureCall Tryz.prog 5 [.agg [.l2 s, .l1 t]] (syA s t) := pure_le (specSyB_ok s t) (syB_le s t)
end Go.Proofs.YtakhnoenhmpfpaaGreat
