import Derived.Test.YtikbecmheibggaaGreatGb
import Derived.Test.YtikbecmheibggaaGreatGd
import Derived.Test.YtikbecmheibggaaGreatDj
import Derived.Test.YtikbecmheibggaaGreatHd
set_option linter.unusedSimpArgs false
set_option linter.unusedVariables false
namespace Go.Proofs.YtikbecmheibggaaGreat
open Go Go.Aw Go.Pl
theorem isBound_ok (x : Int) : PureCall Tryz.prog 28 [.int x] (.bool (decide (1 ≤ x) && decide (x ≤ 3))) := by
  have hw := within_ok x 1 3
  refine PureCall.intro (n := 5) (rs := [.tmp 2]) Tryz.call28 Tryz.func28 rfl rfl rfl (by simp only [List.length_cons, List.length_nil]; omega) (fun cx hcx => ats_of ?_); simp only [argSlots, Nat.zero_add, Nat.reduceAdd]
  (repeat refine ats_seq ?_); refine ats_go (by first | exact fix0 hcx | exact fix1 hcx rfl) fun K hK => ?_; simp only [go_sem, seval]; refine hK _ ?_; clear hK K
  (repeat refine ats_seq ?_); refine ats_go (by first | exact fix0 hcx | exact fix1 hcx rfl) fun K hK => ?_; simp only [go_sem, seval]
  first | refine fcall_data (hw) rfl ?_ | refine YR_intro (acall_data (hw) rfl) ?_
  simp only [go_sem, seval]
  refine hK _ ?_; clear hK K
  refine ats_ret (finB rfl ?_)
  rfl
theorem l14Many_ok (b f : Nat) (hb : b ≤ 3) (hf : f ≤ 16) : PureCall Tryz.prog 23 [.int b, .int f] (.bool (decide (50000 < (b + 1) ^ f))) := by
  obtain ⟨pw, epw⟩ : ∃ pw : Nat → Nat, pw = fun j => (b + 1) ^ j := ⟨_, rfl⟩
  have p0 : pw 0 = 1 := by rw [epw]; rfl
  have ps : ∀ j, pw (j + 1) = pw j * (b + 1) := fun j => by rw [epw]; exact Nat.pow_succ ..
  have psI : ∀ j, ((pw j : Nat) : Int) * ((b : Int) + 1) = ((pw (j + 1) : Nat) : Int) := fun j => by rw [ps]; push_cast; rfl
  have pm : ∀ j, pw j ≤ pw (j + 1) := fun j => by rw [ps]; exact Nat.le_mul_of_pos_right _ (Nat.succ_pos _)
  have pm2 : ∀ i j, i ≤ j → pw i ≤ pw j := fun i j h => by
    induction j with
    | zero => rw [show i = 0 by omega]; exact Nat.le_refl _
    | succ j ih =>
      by_cases e : i = j + 1
      · rw [e]; exact Nat.le_refl _
      · exact Nat.le_trans (ih (by omega)) (pm j)
  have p4 : ∀ j, pw (j + 1) ≤ pw j * 4 := fun j => by rw [ps]; exact Nat.mul_le_mul_left _ (by omega)
  have ek : (b + 1) ^ f = pw f := by rw [epw]
  rw [ek]
  refine PureCall.intro (n := 16) (rs := [.tmp 4]) Tryz.call23 Tryz.func23 rfl rfl rfl (by simp only [List.length_cons, List.length_nil]; omega) (fun cx hcx => ats_of ?_); simp only [argSlots, Nat.zero_add, Nat.reduceAdd]
  (repeat refine ats_seq ?_); refine ats_go (by first | exact fix0 hcx | exact fix1 hcx rfl) fun K hK => ?_; simp only [go_sem, seval]; (repeat refine And.intro (by first | omega | (intro hq; first | omega | (simp at hq <;> omega) | (simp_all <;> omega))) ?_); refine hK _ ?_; clear hK K
  (repeat refine ats_seq ?_); refine ats_go (by first | exact fix0 hcx | exact fix1 hcx rfl) fun K hK => ?_; simp only [go_sem, seval]; (repeat refine And.intro (by first | omega | (intro hq; first | omega | (simp at hq <;> omega) | (simp_all <;> omega))) ?_); refine hK _ ?_; clear hK K
  (repeat refine ats_seq ?_); refine ats_loop (fun j : Nat => ⟨[(0, .int b), (1, .int ((f : Int) - j)), (5, .int (pw j))], []⟩) (fun j => j ≤ f ∧ pw j ≤ 50000) (fun j => f - j) 0 ⟨Nat.zero_le _, by omega⟩ (by
    rw [p0]
    refine And.intro ?_ rfl; simp only [SlotsLe, St.get, slotGet, Nat.reduceEqDiff, ↓reduceIte, AV.int.injEq, AV.bool.injEq, AV.l1.injEq, AV.l2.injEq, AV.l3.injEq, true_and, and_true]
    first | exact ⟨by omega, rfl⟩ | omega) (fun j hj => ?_)
  obtain ⟨hj, pj⟩ := hj
  have pj4 := p4 j
  (repeat refine ats_seq ?_); refine ats_go (by first | exact fix0 hcx | exact fix1 hcx rfl) fun K hK => ?_; simp only [go_sem, seval]; (repeat refine And.intro (by first | omega | (intro hq; first | omega | (simp at hq <;> omega) | (simp_all <;> omega))) ?_); refine hK _ ?_; clear hK K
  (repeat refine ats_seq ?_); first | refine ats_ifn (p := _) rfl trivial (fun hc2 => ?_) (fun hc2 => ?_) | refine ats_ifp (p := _) rfl trivial (fun hc2 => ?_) (fun hc2 => ?_) | refine ats_cond rfl trivial (fun hc2 => ?_) (fun hc2 => ?_)
  · have pj1 := pm2 (j + 1) f (by omega)
    refine ats_skip ?_
    (repeat refine ats_seq ?_); refine ats_block ?_
    (repeat refine ats_seq ?_); refine ats_go (by first | exact fix0 hcx | exact fix1 hcx rfl) fun K hK => ?_; simp only [go_sem, seval]
    simp only [psI]
    (repeat refine And.intro (by first | omega | (intro hq; first | omega | (simp at hq <;> omega) | (simp_all <;> omega))) ?_)
    refine hK _ ?_; clear hK K
    (repeat refine ats_seq ?_); refine ats_go (by first | exact fix0 hcx | exact fix1 hcx rfl) fun K hK => ?_; simp only [go_sem, seval]; (repeat refine And.intro (by first | omega | (intro hq; first | omega | (simp at hq <;> omega) | (simp_all <;> omega))) ?_); refine hK _ ?_; clear hK K
    (repeat refine ats_seq ?_); first | refine ats_ifn (p := _) rfl trivial (fun hc3 => ?_) (fun hc3 => ?_) | refine ats_ifp (p := _) rfl trivial (fun hc3 => ?_) (fun hc3 => ?_) | refine ats_cond rfl trivial (fun hc3 => ?_) (fun hc3 => ?_)
    · (repeat refine ats_seq ?_); refine ats_go (by first | exact fix0 hcx | exact fix1 hcx rfl) fun K hK => ?_; simp only [go_sem, seval]; (repeat refine And.intro (by first | omega | (intro hq; first | omega | (simp at hq <;> omega) | (simp_all <;> omega))) ?_); refine hK _ ?_; clear hK K
      refine ats_ret (finB rfl ?_)
      simp
      omega
    · refine ats_skip ?_
      (repeat refine ats_seq ?_); refine ats_go (by first | exact fix0 hcx | exact fix1 hcx rfl) fun K hK => ?_; simp only [go_sem, seval]; (repeat refine And.intro (by first | omega | (intro hq; first | omega | (simp at hq <;> omega) | (simp_all <;> omega))) ?_); refine hK _ ?_; clear hK K
      refine ⟨j + 1,  ⟨by omega, by omega⟩, by omega, .inl ⟨by simp only [SlotsLe, St.get, slotGet, Nat.reduceEqDiff, ↓reduceIte, AV.int.injEq, AV.bool.injEq, AV.l1.injEq, AV.l2.injEq, AV.l3.injEq, true_and, and_true]; omega,  rfl⟩⟩
  · obtain rfl : j = f := by omega
    refine ats_exit (lq_x ?_)
    (repeat refine ats_seq ?_); refine ats_go (by first | exact fix0 hcx | exact fix1 hcx rfl) fun K hK => ?_; simp only [go_sem, seval]; (repeat refine And.intro (by first | omega | (intro hq; first | omega | (simp at hq <;> omega) | (simp_all <;> omega))) ?_); refine hK _ ?_; clear hK K
    refine ats_ret (finB rfl ?_)
    simp
    omega
noncomputable def lagL (s : List (List Int)) (t : List Int) (B m : Nat) : List (List Int) := ((List.range m).map (vOf t B)).filter fun u => bd (LagP s t u)
theorem lagL_succ {s : List (List Int)} {t : List Int} {B m : Nat} : lagL s t B (m + 1) = visW s t (vOf t B m) (lagL s t B m) := by
  unfold lagL visW
  rw [List.range_succ, List.map_append, List.filter_append]
  by_cases h : bd (LagP s t (vOf t B m)) = true
  · rw [if_pos h]; simp [h]
  · rw [if_neg h]; simp [h]
theorem lagL_len {s : List (List Int)} {t : List Int} {B m : Nat} : (lagL s t B m).length ≤ m := by
  unfold lagL
  have := List.length_filter_le (fun u => bd (LagP s t u)) ((List.range m).map (vOf t B))
  rw [List.length_map, List.length_range] at this
  exact this
theorem totLe {α : Type} {n : α → Nat} {B : Nat} : ∀ (xs : List α), (∀ x ∈ xs, n x ≤ B) → tot n xs ≤ xs.length * B
  | [], _ => by simp [tot]
  | x :: xs, h => by
    have h1 := h x (by simp)
    have h2 := totLe xs (fun y hy => h y (by simp [hy]))
    simp only [tot, List.length_cons, Nat.succ_mul]
    omega
theorem lagL_tot {s : List (List Int)} {t : List Int} {B : Nat} (h16 : t.length ≤ 16) : ∀ m, m ≤ 50000 → tot2 (lagL s t B m) ≤ 17 * m := by
  intro m hm
  have h1 := totLe (n := List.length) (B := 16) (lagL s t B m) (fun x hx => by
    unfold lagL at hx
    obtain ⟨c, _, rfl⟩ := List.mem_map.1 (List.mem_filter.1 hx).1
    unfold vOf
    rw [rowF_length]
    exact h16)
  have h2 := lagL_len (s := s) (t := t) (B := B) (m := m)
  show tot List.length _ ≤ _
  omega
noncomputable def lvA (s : List (List Int)) (t : List Int) (x : Int) : AV := if isData s t then (if 1 ≤ x ∧ x ≤ 3 then (if (x.toNat + 1) ^ cb t t.length ≤ 50000 then .tup [.l2 (lagL s t (x.toNat + 1) ((x.toNat + 1) ^ cb t t.length)), .int 0] else .tup [.nil, .int 3]) else .tup [.nil, .int 2]) else .tup [.nil, .int 1]
theorem lvA_shape (s : List (List Int)) (t : List Int) (x : Int) : ∃ (u : Option (List (List Int))) (c : Int), lvA s t x = .tup [optM u, .int c] ∧ ∀ v, u = some v → tot2 v ≤ 1048576 := by
  unfold lvA
  cases h : isData s t with
  | false => exact ⟨none, 1, rfl, fun _ h => by cases h⟩
  | true =>
    have h16 := (isData_some h).1.2.1
    simp only [if_true]
    split
    · split
      · rename_i h2
        exact ⟨some _, 0, rfl, fun u hv => by cases hv; have h3 := lagL_tot (s := s) (B := x.toNat + 1) h16 _ h2; omega⟩
      · exact ⟨none, 3, rfl, fun _ h => by cases h⟩
    · exact ⟨none, 2, rfl, fun _ h => by cases h⟩
set_option maxHeartbeats 4000000 in
theorem implLv_ok (s : List (List Int)) (t : List Int) (x : Int) : FreshCall Tryz.prog 15 [.agg [.l2 s, .l1 t], .int x] (lvA s t x) := by
  have hk := IsData_ok s t
  have hb := isBound_ok x
  unfold lvA
  refine FreshCall.intro (n := 43) (rs := [.tmp 4, .tmp 5]) Tryz.call15 Tryz.func15 rfl rfl rfl (by simp only [List.length_cons, List.length_nil]; omega) (fun cx hcx => ats_of ?_); simp only [argSlots, Nat.zero_add, Nat.reduceAdd]
  (repeat refine ats_seq ?_); refine ats_go (by first | exact fix0 hcx | exact fix1 hcx rfl) fun K hK => ?_; simp only [go_sem, seval]; (repeat refine And.intro (by first | omega | (intro hq; first | omega | (simp at hq <;> omega) | (simp_all <;> omega))) ?_); refine hK _ ?_; clear hK K
  cases h : isData s t with
  | false =>
    rw [h] at hk
    (repeat refine ats_seq ?_); refine ats_go (by first | exact fix0 hcx | exact fix1 hcx rfl) fun K hK => ?_; simp only [go_sem, seval]
    first | refine fcall_free rfl rfl (hk) ?_ | refine YR_intro (acall_free rfl rfl (hk)) ?_
    simp only [go_sem, seval]
    refine hK _ ?_; clear hK K
    (repeat refine ats_seq ?_); refine ats_yes rfl trivial ?_
    (repeat refine ats_seq ?_); refine ats_go (by first | exact fix0 hcx | exact fix1 hcx rfl) fun K hK => ?_; simp only [go_sem, seval]; refine hK _ ?_; clear hK K
    exact ats_ret (own2 (is := []) trivial trivial rfl (by simp))
  | true =>
    have hs := (isData_some h).1
    have h16 := hs.2.1
    have h1 := hs.1
    rw [h] at hk
    (repeat refine ats_seq ?_); refine ats_go (by first | exact fix0 hcx | exact fix1 hcx rfl) fun K hK => ?_; simp only [go_sem, seval]
    first | refine fcall_free rfl rfl (hk) ?_ | refine YR_intro (acall_free rfl rfl (hk)) ?_
    simp only [go_sem, seval]
    refine hK _ ?_; clear hK K
    (repeat refine ats_seq ?_); refine ats_no rfl trivial ?_
    refine ats_skip ?_
    (repeat refine ats_seq ?_); refine ats_go (by first | exact fix0 hcx | exact fix1 hcx rfl) fun K hK => ?_; simp only [go_sem, seval]
    first | refine fcall_data (hb) rfl ?_ | refine YR_intro (acall_data (hb) rfl) ?_
    simp only [go_sem, seval]
    refine hK _ ?_; clear hK K
    by_cases h13 : 1 ≤ x ∧ x ≤ 3
    · obtain ⟨b, rfl⟩ : ∃ b : Nat, x = b := ⟨x.toNat, by omega⟩
      have hV := fun c (hc : c < (b + 1) ^ cb t t.length) (hc2 : (b + 1) ^ cb t t.length ≤ 50000) => visitor_ok s t hs (b + 1) c (lagL s t (b + 1) c) (Nat.le_trans lagL_len (by omega))
      have he := eachChoice_ok 36 s t (plc t t.length) (cb t t.length) b (Nat.le_trans (cb_le _) h16) (by omega) (lagL s t (b + 1)) (fun h2 c hc => by rw [lagL_succ]; exact hV c hc h2)
      have lp := plc_length (t := t) t.length
      rw [if_pos h13, Int.toNat_natCast]
      (repeat refine ats_seq ?_); first | refine ats_ifn (p := _) rfl trivial (fun hc2 => ?_) (fun hc2 => ?_) | refine ats_ifp (p := _) rfl trivial (fun hc2 => ?_) (fun hc2 => ?_) | refine ats_cond rfl trivial (fun hc2 => ?_) (fun hc2 => ?_)
      · simp at hc2
        omega
      · refine ats_skip ?_
        (repeat refine ats_seq ?_); refine ats_go (by first | exact fix0 hcx | exact fix1 hcx rfl) fun K hK => ?_; simp only [go_sem, seval]; (repeat refine And.intro (by first | omega | (intro hq; first | omega | (simp at hq <;> omega) | (simp_all <;> omega))) ?_); refine hK _ ?_; clear hK K
        (repeat refine ats_seq ?_); refine ats_go (by first | exact fix0 hcx | exact fix1 hcx rfl) fun K hK => ?_; simp only [go_sem, seval]; (repeat refine And.intro (by first | omega | (intro hq; first | omega | (simp at hq <;> omega) | (simp_all <;> omega))) ?_); refine hK _ ?_; clear hK K
        (repeat refine ats_seq ?_); refine ats_loop (fun i : Nat => ⟨[(1, .int b), (2, .bptr 0 0), (6, .bptr 3 0), (7, .bptr 4 0), (8, .int i)], [(0, .bx [.l2 s, .l1 t]), (1, .t1 (plc t i)), (2, .t2 []), (3, .bx [.ref 1 []]), (4, .bx [.ref 2 []])]⟩) (fun i => 1 ≤ i ∧ i ≤ t.length) (fun i => t.length - i) 1 ⟨by omega, h1⟩ (by
          rw [plc_one]
          refine And.intro ?_ rfl; simp only [SlotsLe, St.get, slotGet, Nat.reduceEqDiff, ↓reduceIte, AV.int.injEq, AV.bool.injEq, AV.l1.injEq, AV.l2.injEq, AV.l3.injEq, true_and, and_true]
          rfl) (fun i hi => ?_)
        obtain ⟨hi1, hi⟩ := hi
        have lpi := plc_length (t := t) i
        have cpi := cb_le (t := t) i
        (repeat refine ats_seq ?_); refine ats_go (by first | exact fix0 hcx | exact fix1 hcx rfl) fun K hK => ?_; simp only [go_sem, seval]; (repeat refine And.intro (by first | omega | (intro hq; first | omega | (simp at hq <;> omega) | (simp_all <;> omega))) ?_); refine hK _ ?_; clear hK K
        (repeat refine ats_seq ?_); first | refine ats_ifn (p := _) rfl trivial (fun hc4 => ?_) (fun hc4 => ?_) | refine ats_ifp (p := _) rfl trivial (fun hc4 => ?_) (fun hc4 => ?_) | refine ats_cond rfl trivial (fun hc4 => ?_) (fun hc4 => ?_)
        · have ep : plc t (i + 1) = if t.getD i 0 = 1 then plc t i ++ [(i : Int)] else plc t i := by
            rw [plc_succ]
            have : fr t i = decide (t.getD i 0 = 1) := by unfold fr; simp [hi1]
            rw [this]
            by_cases c : t.getD i 0 = 1
            · rw [if_pos c, if_pos (decide_eq_true c)]
            · rw [if_neg c, if_neg (fun h => c (of_decide_eq_true h))]
          refine ats_skip ?_
          (repeat refine ats_seq ?_); refine ats_block ?_
          (repeat refine ats_seq ?_); refine ats_go (by first | exact fix0 hcx | exact fix1 hcx rfl) fun K hK => ?_; simp only [go_sem, seval]; (repeat refine And.intro (by first | omega | (intro hq; first | omega | (simp at hq <;> omega) | (simp_all <;> omega))) ?_); refine hK _ ?_; clear hK K
          (repeat refine ats_seq ?_); first | refine ats_ifn (p := _) rfl trivial (fun hc5 => ?_) (fun hc5 => ?_) | refine ats_ifp (p := _) rfl trivial (fun hc5 => ?_) (fun hc5 => ?_) | refine ats_cond rfl trivial (fun hc5 => ?_) (fun hc5 => ?_)
          · rw [if_pos hc5] at ep
            (repeat refine ats_seq ?_); refine ats_go (by first | exact fix0 hcx | exact fix1 hcx rfl) fun K hK => ?_; simp only [go_sem, seval]; (repeat refine And.intro (by first | omega | (intro hq; first | omega | (simp at hq <;> omega) | (simp_all <;> omega))) ?_); refine hK _ ?_; clear hK K
            (repeat refine ats_seq ?_); refine ats_go (by first | exact fix0 hcx | exact fix1 hcx rfl) fun K hK => ?_; simp only [go_sem, seval]; (repeat refine And.intro (by first | omega | (intro hq; first | omega | (simp at hq <;> omega) | (simp_all <;> omega))) ?_); refine hK _ ?_; clear hK K
            refine ⟨i + 1, ⟨by omega, by omega⟩, by omega, .inr ⟨[5], by simp only [killL, List.map_cons, List.map_nil, killA, killAs, qOf, rmT, killH, killT, List.filter_cons, List.filter_nil, List.contains_cons, List.contains_nil, SlotsLe, St.get, slotGet, Nat.reduceEqDiff, Nat.reduceBEq, Bool.or_false, Bool.or_true, Bool.false_and, Bool.not_true, Bool.not_false, Bool.false_eq_true, ↓reduceIte, if_true, if_false, AV.int.injEq, AV.bool.injEq, AV.l1.injEq, AV.l2.injEq, AV.l3.injEq, true_and, and_true]; omega, by simp only [killL, List.map_cons, List.map_nil, killA, killAs, qOf, rmT, killH, killT, List.filter_cons, List.filter_nil, List.contains_cons, List.contains_nil, SlotsLe, St.get, slotGet, Nat.reduceEqDiff, Nat.reduceBEq, Bool.or_false, Bool.or_true, Bool.false_and, Bool.not_true, Bool.not_false, Bool.false_eq_true, ↓reduceIte, if_true, if_false, AV.int.injEq, AV.bool.injEq, AV.l1.injEq, AV.l2.injEq, AV.l3.injEq, true_and, and_true]; rw [ep]⟩⟩
          · rw [if_neg hc5] at ep
            refine ats_skip ?_
            (repeat refine ats_seq ?_); refine ats_go (by first | exact fix0 hcx | exact fix1 hcx rfl) fun K hK => ?_; simp only [go_sem, seval]; (repeat refine And.intro (by first | omega | (intro hq; first | omega | (simp at hq <;> omega) | (simp_all <;> omega))) ?_); refine hK _ ?_; clear hK K
            refine ⟨i + 1,  ⟨by omega, by omega⟩, by omega, .inl ⟨by simp only [SlotsLe, St.get, slotGet, Nat.reduceEqDiff, ↓reduceIte, AV.int.injEq, AV.bool.injEq, AV.l1.injEq, AV.l2.injEq, AV.l3.injEq, true_and, and_true]; omega,  by rw [ep]⟩⟩
        · obtain rfl : i = t.length := by omega
          have cpl := cb_le (t := t) t.length
          have e00 : lagL s t (b + 1) 0 = [] := rfl
          simp only [TW, e00] at he
          refine ats_exit (lq_x ?_)
          by_cases hsm : (b + 1) ^ cb t t.length ≤ 50000
          · rw [if_pos hsm]
            simp only [if_pos hsm, decide_eq_true hsm] at he
            (repeat refine ats_seq ?_); refine ats_go (by first | exact fix0 hcx | exact fix1 hcx rfl) fun K hK => ?_; simp only [go_sem, seval]
            simp only [lpi]
            (repeat refine And.intro (by first | omega | (intro hq; first | omega | (simp at hq <;> omega) | (simp_all <;> omega))) ?_)
            refine fcall_box (he) (by simp [Aw.ids]) (by simp [find]) (by simp [closedT, killT, killAs, killA, outQ, Aw.ids]) (by simp [killAs, killA, outQ, Aw.ids]) (by simp [Aw.ids]) ?_; simp only [Aw.ids, List.map_cons, List.map_nil, List.filter_cons, List.filter_nil, List.contains_cons, List.contains_nil, Bool.or_false, Bool.or_true, Bool.not_true, Bool.not_false, Nat.reduceBEq, Bool.false_eq_true, if_true, if_false, List.cons_append, List.nil_append]; simp only [go_sem, seval]
            (repeat refine And.intro (by first | omega | (intro hq; first | omega | (simp at hq <;> omega) | (simp_all <;> omega))) ?_)
            refine hK _ ?_; clear hK K
            (repeat refine ats_seq ?_); refine ats_go (by first | exact fix0 hcx | exact fix1 hcx rfl) fun K hK => ?_; simp only [go_sem, seval]; (repeat refine And.intro (by first | omega | (intro hq; first | omega | (simp at hq <;> omega) | (simp_all <;> omega))) ?_); refine hK _ ?_; clear hK K
            (repeat refine ats_seq ?_); refine ats_no rfl trivial ?_
            refine ats_skip ?_
            (repeat refine ats_seq ?_); refine ats_go (by first | exact fix0 hcx | exact fix1 hcx rfl) fun K hK => ?_; simp only [go_sem, seval]; refine hK _ ?_; clear hK K
            exact ats_ret (own2 (is := [2]) trivial trivial rfl (by simp))
          · rw [if_neg hsm]
            simp only [if_neg hsm, decide_eq_false hsm] at he
            (repeat refine ats_seq ?_); refine ats_go (by first | exact fix0 hcx | exact fix1 hcx rfl) fun K hK => ?_; simp only [go_sem, seval]
            simp only [lpi]
            (repeat refine And.intro (by first | omega | (intro hq; first | omega | (simp at hq <;> omega) | (simp_all <;> omega))) ?_)
            refine fcall_box (he) (by simp [Aw.ids]) (by simp [find]) (by simp [closedT, killT, killAs, killA, outQ, Aw.ids]) (by simp [killAs, killA, outQ, Aw.ids]) (by simp [Aw.ids]) ?_; simp only [Aw.ids, List.map_cons, List.map_nil, List.filter_cons, List.filter_nil, List.contains_cons, List.contains_nil, Bool.or_false, Bool.or_true, Bool.not_true, Bool.not_false, Nat.reduceBEq, Bool.false_eq_true, if_true, if_false, List.cons_append, List.nil_append]; simp only [go_sem, seval]
            (repeat refine And.intro (by first | omega | (intro hq; first | omega | (simp at hq <;> omega) | (simp_all <;> omega))) ?_)
            refine hK _ ?_; clear hK K
            (repeat refine ats_seq ?_); refine ats_go (by first | exact fix0 hcx | exact fix1 hcx rfl) fun K hK => ?_; simp only [go_sem, seval]; (repeat refine And.intro (by first | omega | (intro hq; first | omega | (simp at hq <;> omega) | (simp_all <;> omega))) ?_); refine hK _ ?_; clear hK K
            (repeat refine ats_seq ?_); refine ats_yes rfl trivial ?_
            (repeat refine ats_seq ?_); refine ats_go (by first | exact fix0 hcx | exact fix1 hcx rfl) fun K hK => ?_; simp only [go_sem, seval]; refine hK _ ?_; clear hK K
            exact ats_ret (own2 (is := []) trivial trivial rfl (by simp))
    · rw [if_neg h13]
      (repeat refine ats_seq ?_); first | refine ats_ifn (p := _) rfl trivial (fun hc2 => ?_) (fun hc2 => ?_) | refine ats_ifp (p := _) rfl trivial (fun hc2 => ?_) (fun hc2 => ?_) | refine ats_cond rfl trivial (fun hc2 => ?_) (fun hc2 => ?_)
      · (repeat refine ats_seq ?_); refine ats_go (by first | exact fix0 hcx | exact fix1 hcx rfl) fun K hK => ?_; simp only [go_sem, seval]; refine hK _ ?_; clear hK K
        exact ats_ret (own2 (is := []) trivial trivial rfl (by simp))
      · simp at hc2
        omega
def argV (st : Option (List (List Int))) : AV := match st with
  | none => .nil
  | some L => .l2 L
theorem vectors_run {s : List (List Int)} {t : List Int} (h1 : 1 ≤ t.length) (b : Nat) : (runV s t (extV t (b + 1) (t.length - 1) [1]) none).getD [] = lagL s t (b + 1) ((b + 1) ^ cb t t.length) := by
  rw [runV_filter, all_eq (by omega) h1]
  rfl
noncomputable def lvB (s : List (List Int)) (t : List Int) (x : Int) : AV := if isData s t then (if 1 ≤ x ∧ x ≤ 3 then (if (x.toNat + 1) ^ cb t t.length ≤ 50000 then .tup [argV (runV s t (extV t (x.toNat + 1) (t.length - 1) [1]) none), .int 0] else .tup [.nil, .int 3]) else .tup [.nil, .int 2]) else .tup [.nil, .int 1]
theorem lvB_le (s : List (List Int)) (t : List Int) (x : Int) : AvLe (lvB s t x) (lvA s t x) := by
  unfold lvB lvA
  cases h : isData s t with
  | false => exact avLe_rfl _
  | true =>
    have h1 := (isData_some h).1.1
    simp only [if_true]
    split
    · split
      · have e := vectors_run (s := s) h1 x.toNat
        rw [← e]
        cases hr : runV s t (extV t (x.toNat + 1) (t.length - 1) [1]) none with
        | none => exact avLe_tup (avsLe_cons avLe_nil2 (avsLe_rfl _))
        | some L => exact avLe_rfl _
      · exact avLe_rfl _
    · exact avLe_rfl _
set_option maxHeartbeats 4000000 in
theorem specLvB_ok (s : List (List Int)) (t : List Int) (x : Int) : PureCall Tryz.prog 14 [.agg [.l2 s, .l1 t], .int x] (lvB s t x) := by
  have hk := l12Is_ok s t
  have hb := l01In_ok x 1 3
  unfold lvB
  refine PureCall.intro (n := 38) (rs := [.tmp 4, .tmp 5]) Tryz.call14 Tryz.func14 rfl rfl rfl (by simp only [List.length_cons, List.length_nil]; omega) (fun cx hcx => ats_of ?_); simp only [argSlots, Nat.zero_add, Nat.reduceAdd]
  (repeat refine ats_seq ?_); refine ats_go (by first | exact fix0 hcx | exact fix1 hcx rfl) fun K hK => ?_; simp only [go_sem, seval]; (repeat refine And.intro (by first | omega | (intro hq; first | omega | (simp at hq <;> omega) | (simp_all <;> omega))) ?_); refine hK _ ?_; clear hK K
  (repeat refine ats_seq ?_); refine ats_block ?_
  cases h : isData s t with
  | false =>
    rw [h] at hk
    (repeat refine ats_seq ?_); refine ats_go (by first | exact fix0 hcx | exact fix1 hcx rfl) fun K hK => ?_; simp only [go_sem, seval]
    first | refine fcall_free rfl rfl (hk) ?_ | refine YR_intro (acall_free rfl rfl (hk)) ?_
    simp only [go_sem, seval]
    refine hK _ ?_; clear hK K
    (repeat refine ats_seq ?_); refine ats_yes rfl trivial ?_
    (repeat refine ats_seq ?_); refine ats_go (by first | exact fix0 hcx | exact fix1 hcx rfl) fun K hK => ?_; simp only [go_sem, seval]; refine hK _ ?_; clear hK K
    exact ats_ret (fin2 trivial trivial rfl)
  | true =>
    have hs := (isData_some h).1
    have h16 := hs.2.1
    have h1 := hs.1
    rw [h] at hk
    (repeat refine ats_seq ?_); refine ats_go (by first | exact fix0 hcx | exact fix1 hcx rfl) fun K hK => ?_; simp only [go_sem, seval]
    first | refine fcall_free rfl rfl (hk) ?_ | refine YR_intro (acall_free rfl rfl (hk)) ?_
    simp only [go_sem, seval]
    refine hK _ ?_; clear hK K
    (repeat refine ats_seq ?_); refine ats_no rfl trivial ?_
    (repeat refine ats_seq ?_); refine ats_go (by first | exact fix0 hcx | exact fix1 hcx rfl) fun K hK => ?_; simp only [go_sem, seval]
    first | refine fcall_data (hb) rfl ?_ | refine YR_intro (acall_data (hb) rfl) ?_
    simp only [go_sem, seval]
    refine hK _ ?_; clear hK K
    by_cases h13 : 1 ≤ x ∧ x ≤ 3
    · obtain ⟨b, rfl⟩ : ∃ b : Nat, x = b := ⟨x.toNat, by omega⟩
      have hm := l14Many_ok b (cb t t.length) (by omega) (Nat.le_trans (cb_le _) h16)
      rw [if_pos h13, Int.toNat_natCast]
      (repeat refine ats_seq ?_); first | refine ats_ifn (p := _) rfl trivial (fun hc2 => ?_) (fun hc2 => ?_) | refine ats_ifp (p := _) rfl trivial (fun hc2 => ?_) (fun hc2 => ?_) | refine ats_cond rfl trivial (fun hc2 => ?_) (fun hc2 => ?_)
      · simp at hc2
        omega
      · refine ats_skip ?_
        (repeat refine ats_seq ?_); refine ats_go (by first | exact fix0 hcx | exact fix1 hcx rfl) fun K hK => ?_; simp only [go_sem, seval]; (repeat refine And.intro (by first | omega | (intro hq; first | omega | (simp at hq <;> omega) | (simp_all <;> omega))) ?_); refine hK _ ?_; clear hK K
        (repeat refine ats_seq ?_); refine ats_go (by first | exact fix0 hcx | exact fix1 hcx rfl) fun K hK => ?_; simp only [go_sem, seval]; (repeat refine And.intro (by first | omega | (intro hq; first | omega | (simp at hq <;> omega) | (simp_all <;> omega))) ?_); refine hK _ ?_; clear hK K
        (repeat refine ats_seq ?_); refine ats_loop (fun i : Nat => ⟨[(1, .int b), (2, .bptr 0 0), (6, .int (cb t i)), (7, .int i)], [(0, .bx [.l2 s, .l1 t])]⟩) (fun i => 1 ≤ i ∧ i ≤ t.length) (fun i => t.length - i) 1 ⟨by omega, h1⟩ (by
          have e : cb t 1 = 0 := by rw [← plc_length, plc_one]; rfl
          rw [e]
          refine And.intro ?_ rfl; simp only [SlotsLe, St.get, slotGet, Nat.reduceEqDiff, ↓reduceIte, AV.int.injEq, AV.bool.injEq, AV.l1.injEq, AV.l2.injEq, AV.l3.injEq, true_and, and_true]
          exact ⟨rfl, rfl⟩) (fun i hi => ?_)
        obtain ⟨hi1, hi⟩ := hi
        have cpi := cb_le (t := t) i
        (repeat refine ats_seq ?_); refine ats_go (by first | exact fix0 hcx | exact fix1 hcx rfl) fun K hK => ?_; simp only [go_sem, seval]; (repeat refine And.intro (by first | omega | (intro hq; first | omega | (simp at hq <;> omega) | (simp_all <;> omega))) ?_); refine hK _ ?_; clear hK K
        (repeat refine ats_seq ?_); first | refine ats_ifn (p := _) rfl trivial (fun hc4 => ?_) (fun hc4 => ?_) | refine ats_ifp (p := _) rfl trivial (fun hc4 => ?_) (fun hc4 => ?_) | refine ats_cond rfl trivial (fun hc4 => ?_) (fun hc4 => ?_)
        · have ep : cb t (i + 1) = cb t i + if t.getD i 0 = 1 then 1 else 0 := by
            rw [cb_succ]
            have : fr t i = decide (t.getD i 0 = 1) := by unfold fr; simp [hi1]
            rw [this]
            by_cases c : t.getD i 0 = 1
            · rw [if_pos c, if_pos (decide_eq_true c)]
            · rw [if_neg c, if_neg (fun h => c (of_decide_eq_true h))]
          refine ats_skip ?_
          (repeat refine ats_seq ?_); refine ats_block ?_
          (repeat refine ats_seq ?_); refine ats_go (by first | exact fix0 hcx | exact fix1 hcx rfl) fun K hK => ?_; simp only [go_sem, seval]; (repeat refine And.intro (by first | omega | (intro hq; first | omega | (simp at hq <;> omega) | (simp_all <;> omega))) ?_); refine hK _ ?_; clear hK K
          (repeat refine ats_seq ?_); first | refine ats_ifn (p := _) rfl trivial (fun hc5 => ?_) (fun hc5 => ?_) | refine ats_ifp (p := _) rfl trivial (fun hc5 => ?_) (fun hc5 => ?_) | refine ats_cond rfl trivial (fun hc5 => ?_) (fun hc5 => ?_)
          · rw [if_pos hc5] at ep
            (repeat refine ats_seq ?_); refine ats_go (by first | exact fix0 hcx | exact fix1 hcx rfl) fun K hK => ?_; simp only [go_sem, seval]; (repeat refine And.intro (by first | omega | (intro hq; first | omega | (simp at hq <;> omega) | (simp_all <;> omega))) ?_); refine hK _ ?_; clear hK K
            (repeat refine ats_seq ?_); refine ats_go (by first | exact fix0 hcx | exact fix1 hcx rfl) fun K hK => ?_; simp only [go_sem, seval]; (repeat refine And.intro (by first | omega | (intro hq; first | omega | (simp at hq <;> omega) | (simp_all <;> omega))) ?_); refine hK _ ?_; clear hK K
            refine ⟨i + 1,  ⟨by omega, by omega⟩, by omega, .inl ⟨by simp only [SlotsLe, St.get, slotGet, Nat.reduceEqDiff, ↓reduceIte, AV.int.injEq, AV.bool.injEq, AV.l1.injEq, AV.l2.injEq, AV.l3.injEq, true_and, and_true]; exact ⟨by omega, by omega⟩,  rfl⟩⟩
          · rw [if_neg hc5] at ep
            refine ats_skip ?_
            (repeat refine ats_seq ?_); refine ats_go (by first | exact fix0 hcx | exact fix1 hcx rfl) fun K hK => ?_; simp only [go_sem, seval]; (repeat refine And.intro (by first | omega | (intro hq; first | omega | (simp at hq <;> omega) | (simp_all <;> omega))) ?_); refine hK _ ?_; clear hK K
            refine ⟨i + 1,  ⟨by omega, by omega⟩, by omega, .inl ⟨by simp only [SlotsLe, St.get, slotGet, Nat.reduceEqDiff, ↓reduceIte, AV.int.injEq, AV.bool.injEq, AV.l1.injEq, AV.l2.injEq, AV.l3.injEq, true_and, and_true]; exact ⟨by omega, by omega⟩,  rfl⟩⟩
        · obtain rfl : i = t.length := by omega
          refine ats_exit (lq_x ?_)
          (repeat refine ats_seq ?_); refine ats_go (by first | exact fix0 hcx | exact fix1 hcx rfl) fun K hK => ?_; simp only [go_sem, seval]
          first | refine fcall_data (hm) rfl ?_ | refine YR_intro (acall_data (hm) rfl) ?_
          simp only [go_sem, seval]
          (repeat refine And.intro (by first | omega | (intro hq; first | omega | (simp at hq <;> omega) | (simp_all <;> omega))) ?_)
          refine hK _ ?_; clear hK K
          by_cases hsm : (b + 1) ^ cb t t.length ≤ 50000
          · have hv := vectors_ok s t hs b (by omega) (t.length - 1) [1] none (by simp; omega) (by simp) (by
              rw [all_eq (by omega) h1, List.length_map, List.length_range]
              simp only [Option.getD_none, List.length_nil]
              omega)
            rw [if_pos hsm]
            obtain ⟨S, eS⟩ : ∃ S, runV s t (extV t (b + 1) (t.length - 1) [1]) none = S := ⟨_, rfl⟩
            rw [eS] at hv ⊢
            (repeat refine ats_seq ?_); first | refine ats_ifn (p := _) rfl trivial (fun hc6 => ?_) (fun hc6 => ?_) | refine ats_ifp (p := _) rfl trivial (fun hc6 => ?_) (fun hc6 => ?_) | refine ats_cond rfl trivial (fun hc6 => ?_) (fun hc6 => ?_)
            · first | omega | (simp at hc6; omega)
            · refine ats_skip ?_
              rcases S with _ | L
              · simp only [TU, argU, argV] at hv ⊢
                (repeat refine ats_seq ?_); refine ats_go (by first | exact fix0 hcx | exact fix1 hcx rfl) fun K hK => ?_; simp only [go_sem, seval]
                refine fcall_zbox [1] (hv) (by simp [frzAs, frzA, find]) (by simp only [killL, killA, killAs, qOf, rmT, killH, killT, List.map_cons, List.map_nil, List.filter_cons, List.filter_nil, List.contains_cons, List.contains_nil, Bool.or_false, Bool.or_true, Bool.false_and, Bool.not_true, Bool.not_false, Bool.false_eq_true, if_true, if_false, seval]; rfl) (by simp [Aw.ids]) (by simp [find]) (by simp [closedT, killT, killAs, killA, outQ, Aw.ids]) (by simp [killAs, killA, outQ, Aw.ids]) (by simp [Aw.ids]) ?_; simp only [Aw.ids, List.map_cons, List.map_nil, List.filter_cons, List.filter_nil, List.contains_cons, List.contains_nil, Bool.or_false, Bool.or_true, Bool.not_true, Bool.not_false, Nat.reduceBEq, Bool.false_eq_true, if_true, if_false, List.cons_append, List.nil_append, List.append_nil]; simp only [go_sem, seval]
                (repeat refine And.intro (by first | omega | (intro hq; first | omega | (simp at hq <;> omega) | (simp_all <;> omega))) ?_)
                refine hK _ ?_; clear hK K
                exact ats_ret (fin2 trivial trivial rfl)
              · simp only [TU, argU, argV] at hv ⊢
                (repeat refine ats_seq ?_); refine ats_go (by first | exact fix0 hcx | exact fix1 hcx rfl) fun K hK => ?_; simp only [go_sem, seval]
                refine fcall_zbox [1] (hv) (by simp [frzAs, frzA, find]) (by simp only [killL, killA, killAs, qOf, rmT, killH, killT, List.map_cons, List.map_nil, List.filter_cons, List.filter_nil, List.contains_cons, List.contains_nil, Bool.or_false, Bool.or_true, Bool.false_and, Bool.not_true, Bool.not_false, Bool.false_eq_true, if_true, if_false, seval]; rfl) (by simp [Aw.ids]) (by simp [find]) (by simp [closedT, killT, killAs, killA, outQ, Aw.ids]) (by simp [killAs, killA, outQ, Aw.ids]) (by simp [Aw.ids]) ?_; simp only [Aw.ids, List.map_cons, List.map_nil, List.filter_cons, List.filter_nil, List.contains_cons, List.contains_nil, Bool.or_false, Bool.or_true, Bool.not_true, Bool.not_false, Nat.reduceBEq, Bool.false_eq_true, if_true, if_false, List.cons_append, List.nil_append, List.append_nil]; simp only [go_sem, seval]
                (repeat refine And.intro (by first | omega | (intro hq; first | omega | (simp at hq <;> omega) | (simp_all <;> omega))) ?_)
                refine hK _ ?_; clear hK K
                exact ats_ret (fin2 trivial trivial rfl)
          · rw [if_neg hsm]
            (repeat refine ats_seq ?_); first | refine ats_ifn (p := _) rfl trivial (fun hc6 => ?_) (fun hc6 => ?_) | refine ats_ifp (p := _) rfl trivial (fun hc6 => ?_) (fun hc6 => ?_) | refine ats_cond rfl trivial (fun hc6 => ?_) (fun hc6 => ?_)
            · (repeat refine ats_seq ?_); refine ats_go (by first | exact fix0 hcx | exact fix1 hcx rfl) fun K hK => ?_; simp only [go_sem, seval]; refine hK _ ?_; clear hK K
              exact ats_ret (fin2 trivial trivial rfl)
            · first | omega | (simp at hc6; omega)
    · rw [if_neg h13]
      (repeat refine ats_seq ?_); first | refine ats_ifn (p := _) rfl trivial (fun hc2 => ?_) (fun hc2 => ?_) | refine ats_ifp (p := _) rfl trivial (fun hc2 => ?_) (fun hc2 => ?_) | refine ats_cond rfl trivial (fun hc2 => ?_) (fun hc2 => ?_)
      · (repeat refine ats_seq ?_); refine ats_go (by first | exact fix0 hcx | exact fix1 hcx rfl) fun K hK => ?_; simp only [go_sem, seval]; refine hK _ ?_; clear hK K
        exact ats_ret (fin2 trivial trivial rfl)
      · simp at hc2
        omega
theorem specLv_ok (s : List (List Int)) (t : List Int) (x : Int) : PureCall Tryz.prog 14 [.agg [.l2 s, .l1 t], .int x] (lvA s t x) := pure_le (specLvB_ok s t x) (lvB_le s t x)
end Go.Proofs.YtikbecmheibggaaGreat
