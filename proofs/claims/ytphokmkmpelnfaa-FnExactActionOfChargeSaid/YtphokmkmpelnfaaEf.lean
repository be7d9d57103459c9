import Derived.Test.YtphokmkmpelnfaaDs
import Derived.Test.YtphokmkmpelnfaaPlM
set_option linter.unusedSimpArgs false
set_option linter.unusedVariables false
namespace Go.Proofs.Ytphokmkmpelnfaa
open Go Go.Aw Go.Pl

def aloneV (xs : List Int) : Int := if sumTo (fun i => xs.getD i 0) xs.length = 1 then fidx (fun y => decide (y = 1)) xs else -1
theorem l14Alone_ok (xs : List Int) (h16 : xs.length ≤ 16) (hp : ∀ i, i < xs.length → InP (xs.getD i 0)) : PureCall Try.prog 48 [.l1 xs] (.int (aloneV xs)) := by
  have sl := fun k (hk : k ≤ xs.length) => sumTo_le (f := fun i => xs.getD i 0) (B := 55440) (n := k) (fun x hx => hp x (by omega))
  refine PureCall.intro (n := 21) (rs := [.tmp 2]) Try.call48 Try.func48 rfl rfl rfl (by simp only [List.length_cons, List.length_nil]; omega) (fun cx hcx => ats_of ?_); simp only [argSlots, Nat.zero_add, Nat.reduceAdd]
  (repeat refine ats_seq ?_); refine ats_go (by first | exact fix0 hcx | exact fix1 hcx rfl) fun K hK => ?_; simp only [go_sem, seval]; refine hK _ ?_; clear hK K
  (repeat refine ats_seq ?_); refine ats_go (by first | exact fix0 hcx | exact fix1 hcx rfl) fun K hK => ?_; simp only [go_sem, seval]; refine hK _ ?_; clear hK K
  (repeat refine ats_seq ?_); refine ats_go (by first | exact fix0 hcx | exact fix1 hcx rfl) fun K hK => ?_; simp only [go_sem, seval]; refine hK _ ?_; clear hK K
  (repeat refine ats_seq ?_); refine ats_loop (fun i : Nat => ⟨[(0, .l1 xs), (3, .int (sumTo (fun i => xs.getD i 0) i)), (4, .int i)], []⟩) (fun i => i ≤ xs.length) (fun i => xs.length - i) 0 (Nat.zero_le _) (by refine And.intro ?_ rfl; simp only [SlotsLe, St.get, slotGet, Nat.reduceEqDiff, ↓reduceIte, true_and, and_true, AV.int.injEq, AV.bool.injEq, AV.l1.injEq, AV.l2.injEq, AV.l3.injEq]; repeat' (first | rfl | omega | refine And.intro ?_ ?_)) (fun i hi => ?_)
  (repeat refine ats_seq ?_); refine ats_go (by first | exact fix0 hcx | exact fix1 hcx rfl) fun K hK => ?_; simp only [go_sem, seval]; refine hK _ ?_; clear hK K
  (repeat refine ats_seq ?_); first | refine ats_ifn (p := _) rfl trivial (fun hc2 => ?_) (fun hc2 => ?_) | refine ats_ifp (p := _) rfl trivial (fun hc2 => ?_) (fun hc2 => ?_) | refine ats_cond rfl trivial (fun hc2 => ?_) (fun hc2 => ?_)
  · have s1 := sl i (by omega)
    have s2 := sl (i + 1) (by omega)
    simp only [sumTo] at s2
    refine ats_skip ?_
    (repeat refine ats_seq ?_); refine ats_block ?_
    (repeat refine ats_seq ?_); refine ats_go (by first | exact fix0 hcx | exact fix1 hcx rfl) fun K hK => ?_; simp only [go_sem, seval]; (repeat refine And.intro (by first | omega | (intro hq; first | omega | (simp at hq <;> omega) | (simp_all <;> omega))) ?_); refine hK _ ?_; clear hK K
    (repeat refine ats_seq ?_); refine ats_go (by first | exact fix0 hcx | exact fix1 hcx rfl) fun K hK => ?_; simp only [go_sem, seval]; (repeat refine And.intro (by first | omega | (intro hq; first | omega | (simp at hq <;> omega) | (simp_all <;> omega))) ?_); refine hK _ ?_; clear hK K
    refine ⟨i + 1,  by omega, by omega, .inl ⟨by simp only [SlotsLe, St.get, slotGet, Nat.reduceEqDiff, ↓reduceIte, AV.int.injEq, AV.bool.injEq, AV.l1.injEq, AV.l2.injEq, AV.l3.injEq, true_and, and_true]; exact ⟨rfl, by omega⟩,  rfl⟩⟩
  · obtain rfl : i = xs.length := by omega
    refine ats_exit (lq_x ?_)
    (repeat refine ats_seq ?_); refine ats_go (by first | exact fix0 hcx | exact fix1 hcx rfl) fun K hK => ?_; simp only [go_sem, seval]; refine hK _ ?_; clear hK K
    (repeat refine ats_seq ?_); first | refine ats_ifn (p := _) rfl trivial (fun hc3 => ?_) (fun hc3 => ?_) | refine ats_ifp (p := _) rfl trivial (fun hc3 => ?_) (fun hc3 => ?_) | refine ats_cond rfl trivial (fun hc3 => ?_) (fun hc3 => ?_)
    · (repeat refine ats_seq ?_); refine ats_go (by first | exact fix0 hcx | exact fix1 hcx rfl) fun K hK => ?_; simp only [go_sem, seval]; refine hK _ ?_; clear hK K
      refine ats_ret (finI rfl ?_)
      unfold aloneV
      rw [if_neg hc3]
    · refine ats_skip ?_
      (repeat refine ats_seq ?_); refine ats_go (by first | exact fix0 hcx | exact fix1 hcx rfl) fun K hK => ?_; simp only [go_sem, seval]
      first | refine fcall_data (l01Index_ok xs 1) rfl ?_ | refine YR_intro (acall_data (l01Index_ok xs 1) rfl) ?_
      simp only [go_sem, seval]
      refine hK _ ?_; clear hK K
      refine ats_ret (finI rfl ?_)
      unfold aloneV
      rw [if_pos hc3]

def icSum (s : List (List Int)) (t : List Int) (i : Nat) : Int := sumTo (numV s t.length (cL s t.length) i (cN s t.length i)) t.length
def isIc (s : List (List Int)) (t : List Int) (i : Nat) : Bool := decide (icSum s t i = 1)
def icL (s : List (List Int)) (t : List Int) (m : Nat) : List Int := ((List.range m).filter (isIc s t)).map fun (i : Nat) => (i : Int)
theorem icL_yes {s : List (List Int)} {t : List Int} {m : Nat} (h : isIc s t m = true) : icL s t (m + 1) = icL s t m ++ [(m : Int)] := by simp [icL, List.range_succ, List.filter_append, h]
theorem icL_no {s : List (List Int)} {t : List Int} {m : Nat} (h : isIc s t m = false) : icL s t (m + 1) = icL s t m := by simp [icL, List.range_succ, List.filter_append, h]
theorem icL_le (s : List (List Int)) (t : List Int) (m : Nat) : (icL s t m).length ≤ m := by
  have := List.length_filter_le (isIc s t) (List.range m)
  simp only [List.length_range] at this
  simp only [icL, List.length_map]
  exact this
theorem fidx_zero {xs : List Int} (h0 : 0 < xs.length) (h : xs.getD 0 0 = 1) : fidx (fun y => decide (y = 1)) xs = 0 := fidx_some (d := 0) (k := 0) h0 (fun i hi => absurd hi (Nat.not_lt_zero i)) (by simp only [h, decide_true])
noncomputable def icsA (s : List (List Int)) (t : List Int) : AV := if isData s t then .tup [.l1 (icL s t t.length), .int 0] else .tup [.nil, .int 1]
theorem icsA_shape (s : List (List Int)) (t : List Int) : ∃ (u : Option (List Int)) (c : Int), icsA s t = .tup [optA u, .int c] ∧ ∀ v, u = some v → v.length ≤ 1048576 := by
  unfold icsA
  cases h : isData s t with
  | false => exact ⟨none, 1, rfl, fun _ h => by cases h⟩
  | true =>
    have h16 := (isData_some h).1.2.1
    have lc := icL_le s t t.length
    exact ⟨some (icL s t t.length), 0, rfl, fun v hv => by cases hv; omega⟩
theorem alone_ic {s : List (List Int)} {t : List Int} (h : isData s t = true) {i : Nat} (hi : i < t.length) : decide (aloneV (rowF t.length (numV s t.length (cL s t.length) i (cN s t.length i))) = 0) = isIc s t i := by
  have h0 := num_conj h hi
  have es : sumTo (fun j => (rowF t.length (numV s t.length (cL s t.length) i (cN s t.length i))).getD j 0) (rowF t.length (numV s t.length (cL s t.length) i (cN s t.length i))).length = icSum s t i := by
    rw [rowF_length]
    exact sum_congr fun j hj => rowF_get hj
  unfold isIc aloneV
  rw [es]
  by_cases hs : icSum s t i = 1
  · rw [if_pos hs, fidx_zero (by rw [rowF_length]; omega) (by rw [rowF_get (by omega), h0])]
    simp only [hs, decide_true]
  · rw [if_neg hs, decide_eq_false hs]
    rfl
theorem icA_ic {s : List (List Int)} {t : List Int} (h : isData s t = true) {i : Nat} (hi : i < t.length) : icA s t i = (isIc s t i, 0) := by
  have ha : inC t (i : Int) = true := by
    simp only [inC, Bool.and_eq_true, decide_eq_true_eq]
    omega
  have e : sumTo (numV s t.length (cL s t.length) ((i : Int).toNat) ((cL s t.length).getD ((i : Int).toNat) 0).toNat) t.length = icSum s t i := by
    rw [Int.toNat_natCast, cL_cN hi]; rfl
  unfold icA
  rw [h, ha, e]
  simp only [if_true]
  unfold isIc
  by_cases hs : icSum s t i = 1
  · rw [Int.toNat_natCast, inv_dim h hi hs]
    simp
  · simp [hs]

end Go.Proofs.Ytphokmkmpelnfaa
