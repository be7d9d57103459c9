import Derived.Test.YtakhnoenhmpfpaaGreatGj
import Derived.Test.YtakhnoenhmpfpaaGreatHd
set_option linter.unusedSimpArgs false
set_option linter.unusedVariables false
namespace Go.Proofs.YtakhnoenhmpfpaaGreat
open Go Go.Aw Go.Pl
noncomputable def syE (s : List (List Int)) (t : List Int) : List (List Int) := extX t.length s t s t (t.length - 1) [0]
noncomputable def syA (s : List (List Int)) (t : List Int) : AV := if isData s t then (if (syE s t).length ≤ 1000 then .tup [.l2 (syE s t), .int 0] else .tup [.nil, .int 3]) else .tup [.nil, .int 1]
theorem ext_len {n : Nat} {s : List (List Int)} {t : List Int} {s' : List (List Int)} {t' : List Int} : ∀ d p, p.length + d = n → ∀ q ∈ extX n s t s' t' d p, q.length = n
  | 0, p, hl, q, hq => by
    simp only [extX, List.mem_singleton] at hq
    subst hq
    omega
  | d + 1, p, hl, q, hq => by
    simp only [extX, List.mem_flatMap, List.mem_range] at hq
    obtain ⟨y, hy, hq⟩ := hq
    split at hq
    · exact ext_len d _ (by simp; omega) q hq
    · cases hq
theorem totLe' {α : Type} {n : α → Nat} {B : Nat} : ∀ (xs : List α), (∀ x ∈ xs, n x ≤ B) → tot n xs ≤ xs.length * B
  | [], _ => by simp [tot]
  | x :: xs, h => by
    have h1 := h x (by simp)
    have h2 := totLe' xs (fun y hy => h y (by simp [hy]))
    simp only [tot, List.length_cons, Nat.succ_mul]
    omega
theorem syA_shape (s : List (List Int)) (t : List Int) : ∃ (u : Option (List (List Int))) (c : Int), syA s t = .tup [optM u, .int c] ∧ ∀ v, u = some v → tot2 v ≤ 1048576 := by
  unfold syA
  cases h : isData s t with
  | false => exact ⟨none, 1, rfl, fun _ h => by cases h⟩
  | true =>
    have h16 := (isData_some h).1.2.1
    have h1 := (isData_some h).1.1
    simp only [if_true]
    split
    · rename_i hl
      refine ⟨some (syE s t), 0, rfl, fun v hv => ?_⟩
      cases hv
      have h3 := totLe' (n := List.length) (B := 16) (syE s t) (fun q hq => by rw [ext_len _ _ (by simp; omega) q hq]; exact h16)
      show tot List.length _ ≤ _
      omega
    · exact ⟨none, 3, rfl, fun _ h => by cases h⟩
theorem data_sym {s : List (List Int)} {t : List Int} (h : isData s t = true) : SymX t.length s := (isData_some h).2.1.1
theorem symX_res {s : List (List Int)} {t : List Int} (h : isData s t = true) : symX t.length s t t.length [] [] = (syE s t).take 1001 := by
  have h1 := (isData_some h).1.1
  rw [symX_eq t.length [] [] (by simp) (by simp), List.nil_append, extI_first (data_sym h) (data_sym h) h1 rfl rfl]
  rfl
set_option maxHeartbeats 4000000 in
theorem implSymmetries_ok (s : List (List Int)) (t : List Int) (h : isData s t = true) : FreshCall Tryz.prog 20 [.agg [.l2 s, .l1 t]] (.l2 ((syE s t).take 1001)) := by
  have hs := (isData_some h).1
  have hsy := sym_ok t.length s t hs rfl t.length [] [] (by simp) QOk.nil (by simp) (by simp)
  rw [symX_res h] at hsy
  simp only [TE] at hsy
  refine FreshCall.intro (n := 12) (rs := [.tmp 2]) Tryz.call20 Tryz.func20 rfl rfl rfl (by simp only [List.length_cons, List.length_nil]; omega) (fun cx hcx => ats_of ?_); simp only [argSlots, Nat.zero_add, Nat.reduceAdd]
  (repeat refine ats_seq ?_); refine ats_go (fix0 hcx) fun K hK => ?_; simp only [go_sem, seval]; (repeat refine And.intro (by first | omega | (intro hq; first | omega | (simp at hq <;> omega) | (simp_all <;> omega))) ?_); refine hK _ ?_; clear hK K
  (repeat refine ats_seq ?_); refine ats_go (fix0 hcx) fun K hK => ?_; simp only [go_sem, seval]; (repeat refine And.intro (by first | omega | (intro hq; first | omega | (simp at hq <;> omega) | (simp_all <;> omega))) ?_); refine hK _ ?_; clear hK K
  (repeat refine ats_seq ?_); refine ats_go (fix0 hcx) fun K hK => ?_; simp only [go_sem, seval]; (repeat refine And.intro (by first | omega | (intro hq; first | omega | (simp at hq <;> omega) | (simp_all <;> omega))) ?_); refine hK _ ?_; clear hK K
  (repeat refine ats_seq ?_); refine ats_go (fix0 hcx) fun K hK => ?_; simp only [go_sem, seval]; (repeat refine And.intro (by first | omega | (intro hq; first | omega | (simp at hq <;> omega) | (simp_all <;> omega))) ?_); refine hK _ ?_; clear hK K
  (repeat refine ats_seq ?_); refine ats_go (fix0 hcx) fun K hK => ?_; simp only [go_sem, seval]
  refine fcall_box (hsy) (by simp [Aw.ids]) (by simp [find]) (by simp [closedT, killT, killAs, killA, outQ, Aw.ids]) (by simp [killAs, killA, outQ, Aw.ids]) (by simp [Aw.ids]) ?_; simp only [Aw.ids, List.map_cons, List.map_nil, List.filter_cons, List.filter_nil, List.contains_cons, List.contains_nil, Bool.or_false, Bool.or_true, Bool.not_true, Bool.not_false, Nat.reduceBEq, Bool.false_eq_true, if_true, if_false, List.cons_append, List.nil_append]; simp only [go_sem, seval]
  (repeat refine And.intro (by first | omega | (intro hq; first | omega | (simp at hq <;> omega) | (simp_all <;> omega))) ?_)
  refine hK _ ?_; clear hK K
  (repeat refine ats_seq ?_); refine ats_go (fix0 hcx) fun K hK => ?_; simp only [go_sem, seval]; (repeat refine And.intro (by first | omega | (intro hq; first | omega | (simp at hq <;> omega) | (simp_all <;> omega))) ?_); refine hK _ ?_; clear hK K
  exact ats_ret (ownV (is := [1]) rfl ⟨rfl, trivial⟩ rfl (by simp))
theorem implSy_ok (s : List (List Int)) (t : List Int) : FreshCall Tryz.prog 7 [.agg [.l2 s, .l1 t]] (syA s t) := by
  have hk := IsData_ok s t
  unfold syA
  refine FreshCall.intro (n := 14) (rs := [.tmp 2, .tmp 3]) Tryz.call7 Tryz.func7 rfl rfl rfl (by simp only [List.length_cons, List.length_nil]; omega) (fun cx hcx => ats_of ?_); simp only [argSlots, Nat.zero_add, Nat.reduceAdd]
  (repeat refine ats_seq ?_); refine ats_go (fix0 hcx) fun K hK => ?_; simp only [go_sem, seval]; (repeat refine And.intro (by first | omega | (intro hq; first | omega | (simp at hq <;> omega) | (simp_all <;> omega))) ?_); refine hK _ ?_; clear hK K
  cases h : isData s t with
  | false =>
    rw [h] at hk
    (repeat refine ats_seq ?_); refine ats_go (fix0 hcx) fun K hK => ?_; simp only [go_sem, seval]
    first | refine fcall_free rfl rfl (hk) ?_ | refine YR_intro (acall_free rfl rfl (hk)) ?_
    simp only [go_sem, seval]
    refine hK _ ?_; clear hK K
    (repeat refine ats_seq ?_); refine ats_yes rfl trivial ?_
    (repeat refine ats_seq ?_); refine ats_go (fix0 hcx) fun K hK => ?_; simp only [go_sem, seval]; refine hK _ ?_; clear hK K
    exact ats_ret (own2 (is := []) trivial trivial rfl (by simp))
  | true =>
    have hsy := implSymmetries_ok s t h
    rw [h] at hk
    (repeat refine ats_seq ?_); refine ats_go (fix0 hcx) fun K hK => ?_; simp only [go_sem, seval]
    first | refine fcall_free rfl rfl (hk) ?_ | refine YR_intro (acall_free rfl rfl (hk)) ?_
    simp only [go_sem, seval]
    refine hK _ ?_; clear hK K
    (repeat refine ats_seq ?_); refine ats_no rfl trivial ?_
    refine ats_skip ?_
    (repeat refine ats_seq ?_); refine ats_go (fix0 hcx) fun K hK => ?_; simp only [go_sem, seval]
    refine fcall_own rfl (hsy) rfl ?_; simp only [go_sem, seval]
    (repeat refine And.intro (by first | omega | (intro hq; first | omega | (simp at hq <;> omega) | (simp_all <;> omega))) ?_)
    refine hK _ ?_; clear hK K
    have hlt := List.length_take (i := 1001) (l := syE s t)
    (repeat refine ats_seq ?_); refine ats_go (fix0 hcx) fun K hK => ?_; simp only [go_sem, seval]; (repeat refine And.intro (by first | omega | (intro hq; first | omega | (simp at hq <;> omega) | (simp_all <;> omega))) ?_); refine hK _ ?_; clear hK K
    (repeat refine ats_seq ?_); first | refine ats_ifn (p := _) rfl trivial (fun h2 => ?_) (fun h2 => ?_) | refine ats_ifp (p := _) rfl trivial (fun h2 => ?_) (fun h2 => ?_) | refine ats_cond rfl trivial (fun h2 => ?_) (fun h2 => ?_)
    · have e : ¬ (syE s t).length ≤ 1000 := by omega
      (repeat refine ats_seq ?_); refine ats_go (fix0 hcx) fun K hK => ?_; simp only [go_sem, seval]; refine hK _ ?_; clear hK K
      rw [if_neg e]
      exact ats_ret (own2 (is := []) trivial trivial rfl (by simp))
    · have e : (syE s t).length ≤ 1000 := by omega
      have e2 : (syE s t).take 1001 = syE s t := List.take_of_length_le (by omega)
      rw [if_pos e, e2]
      refine ats_skip ?_
      (repeat refine ats_seq ?_); refine ats_go (fix0 hcx) fun K hK => ?_; simp only [go_sem, seval]; refine hK _ ?_; clear hK K
      exact ats_ret (own2 (is := [1]) trivial trivial rfl (by simp))
end Go.Proofs.YtakhnoenhmpfpaaGreat
