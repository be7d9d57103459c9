/-
  The program's texts: a list joined, a matrix's rows in one, a ring's text.
-/
import Derived.Test.YtgaclhdmhipagaaDoorTa
import Derived.Test.YtgaclhdmhipagaaDoorTb
import Derived.Test.YtgaclhdmhipagaaDoorLib6
import Derived.Test.YtgaclhdmhipagaaDoorWx2
set_option linter.unusedSimpArgs false
set_option linter.unusedVariables false
namespace Go.Proofs.YtgaclhdmhipagaaDoor
open Go Go.Aw Go.Pl Go.RowKit
def strL (l : List (List UInt8)) : List AV := l.map fun x => .str (bs x)
theorem strL_data (l : List (List UInt8)) : areData (strL l) = true := strs_data l
theorem strL_snoc (l : List (List UInt8)) (x : List UInt8) : strL l ++ [.str (bs x)] = strL (l ++ [x]) := by
  unfold strL
  rw [List.map_append]; rfl
theorem strL_len (l : List (List UInt8)) : (strL l).length = l.length := List.length_map ..
theorem strL_kill (q : Nat → List Nat → Bool) (l : List (List UInt8)) : killAs q (strL l) = strL l := killAs_data (strL_data l)
theorem decimal_ok (n : Int) (h0 : 0 ≤ n) (h1 : n ≤ 1000) : PureCall Tryd.prog 38 [.int n] (.str (bs (dec n))) := by
  have h := formatInt_ok n h0 h1
  refine PureCall.intro (n := 5) (rs := [.tmp 2]) Tryd.call38 Tryd.func38 rfl rfl rfl (by simp only [List.length_cons, List.length_nil]; omega) (fun cx hcx => ats_of ?_); simp only [argSlots, Nat.zero_add, Nat.reduceAdd]
  (repeat refine ats_seq ?_); refine ats_go (fix0 hcx) fun K hK => ?_; simp only [go_sem, seval]; (repeat refine aI (hb := ?_)); refine hK _ ?_; clear hK K
  (repeat refine ats_seq ?_); refine ats_go (fix0 hcx) fun K hK => ?_; simp only [go_sem, seval]
  (repeat refine aI (hb := ?_))
  first | refine fcall_data (h) rfl ?_ | refine YR_intro (acall_data (h) rfl) ?_
  simp only [go_sem, seval]
  (repeat refine aI (hb := ?_))
  refine hK _ ?_; clear hK K
  exact ats_ret (finV rfl ⟨rfl, trivial⟩ rfl)
theorem joined_ok (xs : List Int) (hl : xs.length ≤ 1000) (hb : ∀ x ∈ xs, 0 ≤ x ∧ x ≤ 1000) : PureCall Tryd.prog 23 [.l1 xs, .str (bs [32])] (.str (bs (seqT xs))) := by
  have hj := join_ok (xs.map dec) [32] (by rw [List.length_map]; omega) (by have := seq_len hb; unfold seqT at this; omega)
  have hD := strL_data (xs.map dec)
  refine PureCall.intro (n := 24) (rs := [.tmp 4]) Tryd.call23 Tryd.func23 rfl rfl rfl (by simp only [List.length_cons, List.length_nil]; omega) (fun cx hcx => ats_of ?_); simp only [argSlots, Nat.zero_add, Nat.reduceAdd]
  (repeat refine ats_seq ?_); refine ats_go (fix0 hcx) fun K hK => ?_; simp only [go_sem, seval]; (repeat refine aI (hb := ?_)); refine hK _ ?_; clear hK K
  (repeat refine ats_seq ?_); refine ats_go (fix0 hcx) fun K hK => ?_; simp only [go_sem, seval]; (repeat refine aI (hb := ?_)); refine hK _ ?_; clear hK K
  (repeat refine ats_seq ?_); refine ats_go (fix0 hcx) fun K hK => ?_; simp only [go_sem, seval]; (repeat refine aI (hb := ?_)); refine hK _ ?_; clear hK K
  (repeat refine ats_seq ?_); refine ats_loop (fun i : Nat => ⟨[(1, .str (bs [32])), (5, .ref 0 []), (9, .l1 xs), (10, .int xs.length), (11, .int i)], [(0, .lv (strL ((xs.take i).map dec)))]⟩) (fun i => i ≤ xs.length) (fun i => xs.length - i) 0 (Nat.zero_le _) (by refine And.intro ?_ rfl; simp only [leS, Nat.reduceEqDiff, ↓reduceIte, true_and, and_true]; repeat' (first | rfl | with_reducible refine And.intro ?_ ?_ | omega)) (fun i hi => ?_)
  (repeat refine ats_seq ?_); refine ats_go (fix0 hcx) fun K hK => ?_; simp only [go_sem, seval]; (repeat refine aI (hb := ?_)); refine hK _ ?_; clear hK K
  (repeat refine ats_seq ?_); first | refine ats_ifn (p := _) rfl trivial (fun hc2 => ?_) (fun hc2 => ?_) | refine ats_ifp (p := _) rfl trivial (fun hc2 => ?_) (fun hc2 => ?_) | refine ats_cond rfl trivial (fun hc2 => ?_) (fun hc2 => ?_)
  · refine ats_skip ?_
    (repeat refine ats_seq ?_); refine ats_block ?_
    have hi' : i < xs.length := by omega
    have hx := hb (xs.getD i 0) (by rw [List.getD_eq_getElem?_getD, List.getElem?_eq_getElem hi']; exact List.getElem_mem hi')
    have hd := decimal_ok (xs.getD i 0) hx.1 hx.2
    have en : strL ((xs.take i).map dec) ++ [.str (bs (dec (xs.getD i 0)))] = strL ((xs.take (i + 1)).map dec) := by
      rw [strL_snoc, take_next (d := 0) hi', List.map_append]; rfl
    have hlen : (strL ((xs.take i).map dec)).length ≤ 1000 := by
      rw [strL_len, List.length_map, List.length_take]; omega
    (repeat refine ats_seq ?_); refine ats_go (fix0 hcx) fun K hK => ?_; simp only [go_sem, seval]; (repeat refine aI (hb := ?_)); refine hK _ ?_; clear hK K
    (repeat refine ats_seq ?_); refine ats_go (fix0 hcx) fun K hK => ?_; simp only [go_sem, seval]
    first | refine fcall_data (hd) rfl ?_ | refine YR_intro (acall_data (hd) rfl) ?_
    simp only [go_sem, seval]
    simp only [en, strL_data, true_and]
    (repeat refine aI (hb := ?_))
    refine hK _ ?_; clear hK K
    (repeat refine ats_seq ?_); refine ats_go (fix0 hcx) fun K hK => ?_; simp only [go_sem, seval]; (repeat refine aI (hb := ?_)); refine hK _ ?_; clear hK K
    refine ⟨i + 1, by omega, by omega, .inr ⟨[1], by simp only [killL, List.map_cons, List.map_nil, killA, killAs, qOf, rmT, killH, killT, List.filter_cons, List.filter_nil, List.contains_cons, List.contains_nil, SlotsLe, St.get, slotGet, Nat.reduceEqDiff, Nat.reduceBEq, Bool.or_false, Bool.or_true, Bool.false_and, Bool.not_true, Bool.not_false, Bool.false_eq_true, ↓reduceIte, if_true, if_false, AV.int.injEq, AV.bool.injEq, AV.l1.injEq, AV.l2.injEq, AV.l3.injEq, true_and, and_true]; omega, by simp only [killL, List.map_cons, List.map_nil, killA, killAs, qOf, rmT, killH, killT, List.filter_cons, List.filter_nil, List.contains_cons, List.contains_nil, SlotsLe, St.get, slotGet, Nat.reduceEqDiff, Nat.reduceBEq, Bool.or_false, Bool.or_true, Bool.false_and, Bool.not_true, Bool.not_false, Bool.false_eq_true, ↓reduceIte, if_true, if_false, AV.int.injEq, AV.bool.injEq, AV.l1.injEq, AV.l2.injEq, AV.l3.injEq, true_and, and_true]; rw [strL_kill]⟩⟩
  · refine ats_exit (lq_x ?_)
    obtain rfl : i = xs.length := by omega
    rw [List.take_length]
    (repeat refine ats_seq ?_); refine ats_go (fix0 hcx) fun K hK => ?_; simp only [go_sem, seval]
    refine fcall_free (by simp only [views, view, viewB, view1, viewT, find, strL_data, isData, if_true, seval]; rfl) rfl hj ?_
    simp only [go_sem, seval]
    refine hK _ ?_; clear hK K
    exact ats_ret (finV rfl ⟨rfl, trivial⟩ rfl)
theorem growI_ok (n : Nat) (h1 : 1 ≤ n) (h2 : n ≤ 1048576) : FreshCall Tryd.prog 39 [.nil, .int (n : Int)] (.l1 []) := by
  refine FreshCall.intro (n := 27) (rs := [.tmp 4]) Tryd.call39 Tryd.func39 rfl rfl rfl (by simp only [List.length_cons, List.length_nil]; omega) (fun cx hcx => ats_of ?_); simp only [argSlots, Nat.zero_add, Nat.reduceAdd]
  (repeat refine ats_seq ?_); refine ats_go (fix0 hcx) fun K hK => ?_; simp only [go_sem, seval]; (repeat refine aI (hb := ?_)); refine hK _ ?_; clear hK K
  (repeat refine ats_seq ?_); refine ats_go (fix0 hcx) fun K hK => ?_; simp only [go_sem, seval]; (repeat refine aI (hb := ?_)); refine hK _ ?_; clear hK K
  (repeat refine ats_seq ?_); first | refine ats_ifn (p := _) rfl trivial (fun hc0 => ?_) (fun hc0 => ?_) | refine ats_ifp (p := _) rfl trivial (fun hc0 => ?_) (fun hc0 => ?_) | refine ats_cond rfl trivial (fun hc0 => ?_) (fun hc0 => ?_)
  · omega
  · refine ats_skip ?_
    (repeat refine ats_seq ?_); refine ats_go (fix0 hcx) fun K hK => ?_; simp only [go_sem, seval]; (repeat refine aI (hb := ?_)); refine hK _ ?_; clear hK K
    (repeat refine ats_seq ?_); refine ats_go (fix0 hcx) fun K hK => ?_; simp only [go_sem, seval]; (repeat refine aI (hb := ?_)); refine hK _ ?_; clear hK K
    (repeat refine ats_seq ?_); first | refine ats_ifn (p := _) rfl trivial (fun hc => ?_) (fun hc => ?_) | refine ats_ifp (p := _) rfl trivial (fun hc => ?_) (fun hc => ?_) | refine ats_cond rfl trivial (fun hc => ?_) (fun hc => ?_)
    · (repeat refine ats_seq ?_); refine ats_go (fix0 hcx) fun K hK => ?_; simp only [go_sem, seval]; (repeat refine aI (hb := ?_)); refine hK _ ?_; clear hK K
      refine ats_cutT 0 0 (t' := .t1 []) rfl rfl rfl rfl ?_
      (repeat refine ats_seq ?_); refine ats_go (fix0 hcx) fun K hK => ?_; simp only [go_sem, seval]; (repeat refine aI (hb := ?_)); refine hK _ ?_; clear hK K
      exact ats_ret (ownV (is := [0]) rfl ⟨rfl, trivial⟩ rfl (by simp))
    · first | omega | simp_all
theorem concatI_ok (m : List (List Int)) (h1 : 1 ≤ m.flatten.length) (h2 : m.flatten.length ≤ 1000000) (hl : m.length ≤ 1000) : FreshCall Tryd.prog 24 [.l2 m] (.l1 m.flatten) := by
  have hg := growI_ok m.flatten.length h1 (by omega)
  have hpart : ∀ i, i < m.length → (m.take (i + 1)).flatten = (m.take i).flatten ++ m.getD i [] := by
    intro i hi
    rw [take_next (d := []) hi, List.flatten_append]; simp
  have hle : ∀ i, (m.take i).flatten.length ≤ 1000000 := by
    intro i
    have := congrArg (fun l => l.flatten.length) (List.take_append_drop i m)
    simp only [List.flatten_append, List.length_append] at this
    omega
  refine FreshCall.intro (n := 36) (rs := [.tmp 2]) Tryd.call24 Tryd.func24 rfl rfl rfl (by simp only [List.length_cons, List.length_nil]; omega) (fun cx hcx => ats_of ?_); simp only [argSlots, Nat.zero_add, Nat.reduceAdd]
  (repeat refine ats_seq ?_); refine ats_go (fix0 hcx) fun K hK => ?_; simp only [go_sem, seval]; (repeat refine aI (hb := ?_)); refine hK _ ?_; clear hK K
  (repeat refine ats_seq ?_); refine ats_go (fix0 hcx) fun K hK => ?_; simp only [go_sem, seval]; (repeat refine aI (hb := ?_)); refine hK _ ?_; clear hK K
  (repeat refine ats_seq ?_); refine ats_go (fix0 hcx) fun K hK => ?_; simp only [go_sem, seval]; (repeat refine aI (hb := ?_)); refine hK _ ?_; clear hK K
  (repeat refine ats_seq ?_); refine ats_loop (fun i : Nat => ⟨[(0, .l2 m), (3, .int ((m.take i).flatten.length : Nat)), (9, .l2 m), (10, .int m.length), (11, .int i)], []⟩) (fun i => i ≤ m.length) (fun i => m.length - i) 0 (Nat.zero_le _) (by refine And.intro ?_ rfl; simp only [leS, Nat.reduceEqDiff, ↓reduceIte, true_and, and_true]; repeat' (first | rfl | with_reducible refine And.intro ?_ ?_ | omega)) (fun i hi => ?_)
  (repeat refine ats_seq ?_); refine ats_go (fix0 hcx) fun K hK => ?_; simp only [go_sem, seval]; (repeat refine aI (hb := ?_)); refine hK _ ?_; clear hK K
  (repeat refine ats_seq ?_); first | refine ats_ifn (p := _) rfl trivial (fun hc2 => ?_) (fun hc2 => ?_) | refine ats_ifp (p := _) rfl trivial (fun hc2 => ?_) (fun hc2 => ?_) | refine ats_cond rfl trivial (fun hc2 => ?_) (fun hc2 => ?_)
  · refine ats_skip ?_
    (repeat refine ats_seq ?_); refine ats_block ?_
    have hi' : i < m.length := by omega
    have e1 := congrArg List.length (hpart i hi')
    rw [List.length_append] at e1
    have e2 := hle i
    have e3 := hle (i + 1)
    (repeat refine ats_seq ?_); refine ats_go (fix0 hcx) fun K hK => ?_; simp only [go_sem, seval]; (repeat refine aI (hb := ?_)); refine hK _ ?_; clear hK K
    (repeat refine ats_seq ?_); refine ats_go (fix0 hcx) fun K hK => ?_; simp only [go_sem, seval]; (repeat refine aI (hb := ?_)); refine hK _ ?_; clear hK K
    (repeat refine ats_seq ?_); refine ats_go (fix0 hcx) fun K hK => ?_; simp only [go_sem, seval]; (repeat refine aI (hb := ?_)); refine hK _ ?_; clear hK K
    (repeat refine ats_seq ?_); first | refine ats_ifn (p := _) rfl trivial (fun hc3 => ?_) (fun hc3 => ?_) | refine ats_ifp (p := _) rfl trivial (fun hc3 => ?_) (fun hc3 => ?_) | refine ats_cond rfl trivial (fun hc3 => ?_) (fun hc3 => ?_)
    · omega
    · refine ats_skip ?_
      (repeat refine ats_seq ?_); refine ats_go (fix0 hcx) fun K hK => ?_; simp only [go_sem, seval]; (repeat refine aI (hb := ?_)); refine hK _ ?_; clear hK K
      refine ⟨i + 1,  by omega, by omega, .inl ⟨by simp only [leS, Nat.reduceEqDiff, ↓reduceIte, true_and, and_true]; (first | omega | (refine ⟨?_, ?_⟩ <;> omega)),  rfl⟩⟩
  · refine ats_exit (lq_x ?_)
    obtain rfl : i = m.length := by omega
    rw [List.take_length]
    (repeat refine ats_seq ?_); refine ats_go (fix0 hcx) fun K hK => ?_; simp only [go_sem, seval]
    refine fcall_own rfl (hg) rfl ?_; simp only [go_sem, seval]
    refine hK _ ?_; clear hK K
    (repeat refine ats_seq ?_); refine ats_go (fix0 hcx) fun K hK => ?_; simp only [go_sem, seval]; (repeat refine aI (hb := ?_)); refine hK _ ?_; clear hK K
    (repeat refine ats_seq ?_); refine ats_loop (fun i : Nat => ⟨[(6, .ref 0 []), (25, .l2 m), (26, .int m.length), (27, .int i)], [(0, .t1 (m.take i).flatten)]⟩) (fun i => i ≤ m.length) (fun i => m.length - i) 0 (Nat.zero_le _) (by refine And.intro ?_ rfl; simp only [leS, Nat.reduceEqDiff, ↓reduceIte, true_and, and_true]; repeat' (first | rfl | with_reducible refine And.intro ?_ ?_ | omega)) (fun i hi => ?_)
    (repeat refine ats_seq ?_); refine ats_go (fix0 hcx) fun K hK => ?_; simp only [go_sem, seval]; (repeat refine aI (hb := ?_)); refine hK _ ?_; clear hK K
    (repeat refine ats_seq ?_); first | refine ats_ifn (p := _) rfl trivial (fun hc4 => ?_) (fun hc4 => ?_) | refine ats_ifp (p := _) rfl trivial (fun hc4 => ?_) (fun hc4 => ?_) | refine ats_cond rfl trivial (fun hc4 => ?_) (fun hc4 => ?_)
    · refine ats_skip ?_
      (repeat refine ats_seq ?_); refine ats_block ?_
      have hi' : i < m.length := by omega
      have e0 := (hpart i hi').symm
      have e1 := congrArg List.length (hpart i hi')
      rw [List.length_append] at e1
      have e2 := hle i
      have e3 := hle (i + 1)
      (repeat refine ats_seq ?_); refine ats_go (fix0 hcx) fun K hK => ?_; simp only [go_sem, seval]; (repeat refine aI (hb := ?_)); refine hK _ ?_; clear hK K
      (repeat refine ats_seq ?_); refine ats_go (fix0 hcx) fun K hK => ?_; simp only [go_sem, seval, e0]
      (repeat refine aI (hb := ?_))
      refine hK _ ?_; clear hK K
      (repeat refine ats_seq ?_); refine ats_go (fix0 hcx) fun K hK => ?_; simp only [go_sem, seval]; (repeat refine aI (hb := ?_)); refine hK _ ?_; clear hK K
      refine ⟨i + 1,  by omega, by omega, .inl ⟨by simp only [leS, Nat.reduceEqDiff, ↓reduceIte, true_and, and_true]; omega,  rfl⟩⟩
    · refine ats_exit (lq_x ?_)
      obtain rfl : i = m.length := by omega
      rw [List.take_length]
      (repeat refine ats_seq ?_); refine ats_go (fix0 hcx) fun K hK => ?_; simp only [go_sem, seval]; (repeat refine aI (hb := ?_)); refine hK _ ?_; clear hK K
      exact ats_ret (ownV (is := [0]) rfl ⟨rfl, trivial⟩ rfl (by simp))
theorem cub_flat {t : List (List (List Int))} (hc : Cube t) {i : Nat} (hi : i < t.length) : 1 ≤ (t.getD i []).flatten.length ∧ (t.getD i []).flatten.length ≤ 272 := by
  have h16 := hc.2.1
  have h0 := hc.1
  have hm := hc.mat hi
  constructor
  · have h1 := matA_nil (m := t.getD i []) (n := t.length) hc.1 hm (fun j hj => hc.row hi hj) (j := 0) (k := 1) (by omega) (by omega)
    have h2 : matA (t.getD i []) 0 1 ≠ [] := fun e => by have := h1.1 e; omega
    have h3 : (t.getD i []).flatten ≠ [] := by
      intro e
      apply h2
      unfold matA
      rw [List.take_zero, List.flatten_nil, List.nil_append]
      have hr : ∀ m : List (List Int), 0 < m.length → m.getD 0 [] ∈ m := by
        intro m h
        rw [List.getD_eq_getElem?_getD, List.getElem?_eq_getElem h]
        exact List.getElem_mem h
      have := (List.flatten_eq_nil_iff.1 e) _ (hr _ (by omega))
      rw [this]; rfl
    cases h : (t.getD i []).flatten with
    | nil => exact absurd h h3
    | cons a l => simp
  · have := matA_len hm (fun j hj => hc.row hi hj) t.length 0 (Nat.le_refl _)
    rw [← hm, matA_end, hm] at this
    have h3 := Nat.mul_le_mul h16 h16
    omega
theorem ringText_ok (t : List (List (List Int))) (hc : Cube t) : PureCall Tryd.prog 14 [.agg [.l3 t]] (.str (bs (cubT t))) := by
  have h16 := hc.2.1
  have hj := join_ok (t.map matT) [47] (by rw [List.length_map]; omega) (by have := cubA_len hc t.length; rw [cubA_end] at this; unfold cubT at this; omega)
  have hD := strL_data (t.map matT)
  refine PureCall.intro (n := 23) (rs := [.tmp 2]) Tryd.call14 Tryd.func14 rfl rfl rfl (by simp only [List.length_cons, List.length_nil]; omega) (fun cx hcx => ats_of ?_); simp only [argSlots, Nat.zero_add, Nat.reduceAdd]
  (repeat refine ats_seq ?_); refine ats_go (fix0 hcx) fun K hK => ?_; simp only [go_sem, seval]; (repeat refine aI (hb := ?_)); refine hK _ ?_; clear hK K
  (repeat refine ats_seq ?_); refine ats_go (fix0 hcx) fun K hK => ?_; simp only [go_sem, seval]; (repeat refine aI (hb := ?_)); refine hK _ ?_; clear hK K
  (repeat refine ats_seq ?_); refine ats_go (fix0 hcx) fun K hK => ?_; simp only [go_sem, seval]; (repeat refine aI (hb := ?_)); refine hK _ ?_; clear hK K
  (repeat refine ats_seq ?_); refine ats_loop (fun i : Nat => ⟨[(3, .ref 1 []), (8, .l3 t), (9, .int t.length), (10, .int i)], [(0, .bx [.l3 t]), (1, .lv (strL ((t.take i).map matT)))]⟩) (fun i => i ≤ t.length) (fun i => t.length - i) 0 (Nat.zero_le _) (by refine And.intro ?_ rfl; simp only [leS, Nat.reduceEqDiff, ↓reduceIte, true_and, and_true]; repeat' (first | rfl | with_reducible refine And.intro ?_ ?_ | omega)) (fun i hi => ?_)
  (repeat refine ats_seq ?_); refine ats_go (fix0 hcx) fun K hK => ?_; simp only [go_sem, seval]; (repeat refine aI (hb := ?_)); refine hK _ ?_; clear hK K
  (repeat refine ats_seq ?_); first | refine ats_ifn (p := _) rfl trivial (fun hc2 => ?_) (fun hc2 => ?_) | refine ats_ifp (p := _) rfl trivial (fun hc2 => ?_) (fun hc2 => ?_) | refine ats_cond rfl trivial (fun hc2 => ?_) (fun hc2 => ?_)
  · refine ats_skip ?_
    (repeat refine ats_seq ?_); refine ats_block ?_
    have hi' : i < t.length := by omega
    obtain ⟨hf1, hf2⟩ := cub_flat hc hi'
    have hcat := concatI_ok (t.getD i []) hf1 (by omega) (by have := hc.mat hi'; omega)
    have hjo := joined_ok (t.getD i []).flatten (by omega) (fun x hx => by
      obtain ⟨r, hr, hxr⟩ := List.mem_flatten.1 hx
      exact inM_mem hc hi' r hr x hxr)
    have hjo' : PureCall Tryd.prog 23 [.l1 (t.getD i []).flatten, .str (bs [32])] (.str (bs (matT (t.getD i [])))) := hjo
    have en : strL ((t.take i).map matT) ++ [.str (bs (matT (t.getD i [])))] = strL ((t.take (i + 1)).map matT) := by
      rw [strL_snoc, take_next (d := []) hi', List.map_append]; rfl
    have hlen : (strL ((t.take i).map matT)).length ≤ 1000 := by
      rw [strL_len, List.length_map, List.length_take]; omega
    (repeat refine ats_seq ?_); refine ats_go (fix0 hcx) fun K hK => ?_; simp only [go_sem, seval]; (repeat refine aI (hb := ?_)); refine hK _ ?_; clear hK K
    (repeat refine ats_seq ?_); refine ats_go (fix0 hcx) fun K hK => ?_; simp only [go_sem, seval]
    refine fcall_own rfl (hcat) rfl ?_; simp only [go_sem, seval]
    first | refine fcall_free rfl rfl (hjo') ?_ | refine YR_intro (acall_free rfl rfl (hjo')) ?_
    simp only [go_sem, seval]
    simp only [en, strL_data, true_and]
    (repeat refine aI (hb := ?_))
    refine hK _ ?_; clear hK K
    (repeat refine ats_seq ?_); refine ats_go (fix0 hcx) fun K hK => ?_; simp only [go_sem, seval]; (repeat refine aI (hb := ?_)); refine hK _ ?_; clear hK K
    refine ⟨i + 1, by omega, by omega, .inr ⟨[2, 3], by simp only [killL, List.map_cons, List.map_nil, killA, killAs, qOf, rmT, killH, killT, List.filter_cons, List.filter_nil, List.contains_cons, List.contains_nil, SlotsLe, St.get, slotGet, Nat.reduceEqDiff, Nat.reduceBEq, Bool.or_false, Bool.or_true, Bool.false_and, Bool.not_true, Bool.not_false, Bool.false_eq_true, ↓reduceIte, if_true, if_false, AV.int.injEq, AV.bool.injEq, AV.l1.injEq, AV.l2.injEq, AV.l3.injEq, true_and, and_true]; omega, by simp only [killL, List.map_cons, List.map_nil, killA, killAs, qOf, rmT, killH, killT, List.filter_cons, List.filter_nil, List.contains_cons, List.contains_nil, SlotsLe, St.get, slotGet, Nat.reduceEqDiff, Nat.reduceBEq, Bool.or_false, Bool.or_true, Bool.false_and, Bool.not_true, Bool.not_false, Bool.false_eq_true, ↓reduceIte, if_true, if_false, AV.int.injEq, AV.bool.injEq, AV.l1.injEq, AV.l2.injEq, AV.l3.injEq, true_and, and_true]; rw [strL_kill]⟩⟩
  · refine ats_exit (lq_x ?_)
    obtain rfl : i = t.length := by omega
    rw [List.take_length]
    (repeat refine ats_seq ?_); refine ats_go (fix0 hcx) fun K hK => ?_; simp only [go_sem, seval]
    refine fcall_free (by simp only [views, view, viewB, view1, viewT, find, strL_data, isData, if_true, seval]; rfl) rfl hj ?_
    simp only [go_sem, seval]
    refine hK _ ?_; clear hK K
    exact ats_ret (finV rfl ⟨rfl, trivial⟩ rfl)
theorem implRt0_ok (t : List (List (List Int))) : PureCall Tryd.prog 7 [.agg [.l3 t]] (if isRing t then .tup [.str (bs (cubT t)), .int 0] else .tup [.str (bs []), .int 1]) := by
  have hR := IsRing_ok t
  cases hr : isRing t with
  | false =>
    rw [hr] at hR
    simp only [Bool.false_eq_true, if_false]
    refine PureCall.intro (n := 9) (rs := [.tmp 2, .tmp 3]) Tryd.call7 Tryd.func7 rfl rfl rfl (by simp only [List.length_cons, List.length_nil]; omega) (fun cx hcx => ats_of ?_); simp only [argSlots, Nat.zero_add, Nat.reduceAdd]
    (repeat refine ats_seq ?_); refine ats_go (fix0 hcx) fun K hK => ?_; simp only [go_sem, seval]; (repeat refine aI (hb := ?_)); refine hK _ ?_; clear hK K
    (repeat refine ats_seq ?_); refine ats_go (fix0 hcx) fun K hK => ?_; simp only [go_sem, seval]
    first | refine fcall_data (hR) rfl ?_ | refine YR_intro (acall_data (hR) rfl) ?_
    simp only [go_sem, seval]
    refine hK _ ?_; clear hK K
    (repeat refine ats_seq ?_); refine ats_yes rfl trivial ?_
    (repeat refine ats_seq ?_); refine ats_go (fix0 hcx) fun K hK => ?_; simp only [go_sem, seval]; (repeat refine aI (hb := ?_)); refine hK _ ?_; clear hK K
    exact ats_ret (fin2 trivial trivial rfl)
  | true =>
    rw [hr] at hR
    have hx := ringText_ok t (isRing_true hr).1
    simp only [if_true]
    refine PureCall.intro (n := 9) (rs := [.tmp 2, .tmp 3]) Tryd.call7 Tryd.func7 rfl rfl rfl (by simp only [List.length_cons, List.length_nil]; omega) (fun cx hcx => ats_of ?_); simp only [argSlots, Nat.zero_add, Nat.reduceAdd]
    (repeat refine ats_seq ?_); refine ats_go (fix0 hcx) fun K hK => ?_; simp only [go_sem, seval]; (repeat refine aI (hb := ?_)); refine hK _ ?_; clear hK K
    (repeat refine ats_seq ?_); refine ats_go (fix0 hcx) fun K hK => ?_; simp only [go_sem, seval]
    first | refine fcall_data (hR) rfl ?_ | refine YR_intro (acall_data (hR) rfl) ?_
    simp only [go_sem, seval]
    refine hK _ ?_; clear hK K
    (repeat refine ats_seq ?_); refine ats_no rfl trivial ?_
    refine ats_skip ?_
    (repeat refine ats_seq ?_); refine ats_go (fix0 hcx) fun K hK => ?_; simp only [go_sem, seval]
    first | refine fcall_data (hx) rfl ?_ | refine YR_intro (acall_data (hx) rfl) ?_
    simp only [go_sem, seval]
    refine hK _ ?_; clear hK K
    exact ats_ret (fin2 trivial trivial rfl)
noncomputable def txtR (t : List (List (List Int))) : List UInt8 := if isRing t then cubT t else []
noncomputable def codR (t : List (List (List Int))) : Int := if isRing t then 0 else 1
theorem implRt_ok (t : List (List (List Int))) : PureCall Tryd.prog 7 [.agg [.l3 t]] (.tup [.str (bs (txtR t)), .int (codR t)]) := by
  have h := implRt0_ok t
  unfold txtR codR
  cases hr : isRing t <;> simpa [hr] using h
theorem specRt_ok (t : List (List (List Int))) : PureCall Tryd.prog 5 [.agg [.l3 t]] (.tup [.str (bs (txtR t)), .int (codR t)]) := by
  have h := specRt0_ok t
  unfold txtR codR
  cases hr : isRing t <;> simpa [hr] using h
end Go.Proofs.YtgaclhdmhipagaaDoor
