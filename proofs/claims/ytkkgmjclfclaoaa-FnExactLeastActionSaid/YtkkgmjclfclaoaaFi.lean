/-
  The reference's LeastAction.
-/
import Derived.Test.YtkkgmjclfclaoaaPlV
import Derived.Test.YtkkgmjclfclaoaaLib6
import Derived.Test.YtkkgmjclfclaoaaEr
import Derived.Test.YtkkgmjclfclaoaaDc
set_option linter.unusedSimpArgs false
set_option linter.unusedVariables false
namespace Go.Proofs.Ytkkgmjclfclaoaa
open Go Go.Aw Go.Pl

theorem l01Less_ok (xs ys : List Int) (hl : xs.length = ys.length) : PureCall Try.prog 117 [.l1 xs, .l1 ys] (.bool (lt1 xs ys)) := by
  refine PureCall.intro (n := 41) (rs := [.tmp 4]) Try.call117 Try.func117 rfl rfl rfl (by simp only [List.length_cons, List.length_nil]; omega) (fun cx hcx => ats_of ?_); simp only [argSlots, Nat.zero_add, Nat.reduceAdd]
  (repeat refine ats_seq ?_); refine ats_go (by first | exact fix0 hcx | exact fix1 hcx rfl) fun K hK => ?_; simp only [go_sem, seval]; refine hK _ ?_; clear hK K
  refine ats_know 0 fun h0 => ?_; simp only [St.get, slotGet, Nat.reduceEqDiff, ↓reduceIte, if_true, fact, facts] at h0
  have hlen := h0.1
  (repeat refine ats_seq ?_); refine ats_go (by first | exact fix0 hcx | exact fix1 hcx rfl) fun K hK => ?_; simp only [go_sem, seval]; refine hK _ ?_; clear hK K
  (repeat refine ats_seq ?_); refine ats_loop (fun k : Nat => ⟨[(0, .l1 xs), (1, .l1 ys), (5, .int k)], []⟩) (fun k => k ≤ xs.length ∧ xs.take k = ys.take k) (fun k => xs.length - k) 0 ⟨Nat.zero_le _, rfl⟩ (by
    refine And.intro ?_ rfl; simp only [SlotsLe, St.get, slotGet, Nat.reduceEqDiff, ↓reduceIte, AV.int.injEq, AV.bool.injEq, AV.l1.injEq, AV.l2.injEq, AV.l3.injEq, true_and, and_true]
    rfl) (fun k hk => ?_)
  obtain ⟨hk, hT⟩ := hk
  (repeat refine ats_seq ?_); refine ats_go (by first | exact fix0 hcx | exact fix1 hcx rfl) fun K hK => ?_; simp only [go_sem, seval]; (repeat refine And.intro (by first | omega | (intro hq; first | omega | (simp at hq <;> omega) | (simp_all <;> omega))) ?_); refine hK _ ?_; clear hK K
  (repeat refine ats_seq ?_); first | refine ats_ifn (p := _) rfl trivial (fun h1 => ?_) (fun h1 => ?_) | refine ats_ifp (p := _) rfl trivial (fun h1 => ?_) (fun h1 => ?_) | refine ats_cond rfl trivial (fun h1 => ?_) (fun h1 => ?_)
  · have h1' : k < xs.length ∧ k < ys.length := by simp at h1; omega
    refine ats_skip ?_
    (repeat refine ats_seq ?_); refine ats_block ?_
    (repeat refine ats_seq ?_); refine ats_pick (fix0 hcx) mixed (by kernel_rfl) fun K hK => ?_; simp only [go_sem, seval]; (repeat refine And.intro (by first | omega | (intro hq; first | omega | (simp at hq <;> omega) | (simp_all <;> omega))) ?_); refine hK _ ?_; clear hK K
    (repeat refine ats_seq ?_); first | refine ats_ifn (p := _) rfl trivial (fun h2 => ?_) (fun h2 => ?_) | refine ats_ifp (p := _) rfl trivial (fun h2 => ?_) (fun h2 => ?_) | refine ats_cond rfl trivial (fun h2 => ?_) (fun h2 => ?_)
    · (repeat refine ats_seq ?_); refine ats_pick (fix0 hcx) mixed (by kernel_rfl) fun K hK => ?_; simp only [go_sem, seval]; (repeat refine And.intro (by first | omega | (intro hq; first | omega | (simp at hq <;> omega) | (simp_all <;> omega))) ?_); refine hK _ ?_; clear hK K
      refine ats_ret (finB rfl ?_)
      have hd := lex_diff (lt := lt0) (d := 0) k xs ys hT h1'.1 h1'.2 (by simpa using h2)
      exact hd.2.symm
    · refine ats_skip ?_
      (repeat refine ats_seq ?_); refine ats_go (by first | exact fix0 hcx | exact fix1 hcx rfl) fun K hK => ?_; simp only [go_sem, seval]; (repeat refine And.intro (by first | omega | (intro hq; first | omega | (simp at hq <;> omega) | (simp_all <;> omega))) ?_); refine hK _ ?_; clear hK K
      refine ⟨k + 1,  ⟨by omega, take_succ_eq (d := 0) (by omega) (by omega) hT (by simpa using h2)⟩, by omega, .inl ⟨?_, rfl⟩⟩; simp only [SlotsLe, St.get, slotGet, Nat.reduceEqDiff, ↓reduceIte, AV.int.injEq, AV.bool.injEq, AV.l1.injEq, AV.l2.injEq, AV.l3.injEq, true_and, and_true]
      omega
  · have h1' : k = xs.length := by simp at h1; omega
    subst h1'
    have e : xs = ys := by
      have h := hT
      rw [List.take_of_length_le (by omega), List.take_of_length_le (by omega)] at h
      exact h
    refine ats_exit (lq_x ?_)
    (repeat refine ats_seq ?_); refine ats_go (by first | exact fix0 hcx | exact fix1 hcx rfl) fun K hK => ?_; simp only [go_sem, seval]; refine hK _ ?_; clear hK K
    refine ats_ret (finB rfl ?_)
    subst e
    have hirr := (lex_tot tot0 xs.length).irr xs ⟨rfl, fun _ _ => trivial⟩
    show _ = lexB lt0 xs xs
    rw [hirr]
    simp

set_option maxHeartbeats 4000000 in
theorem l09Before_ok (k n : Nat) (a b : List (List (List Int))) (ha : Sh k n a) (hb : Sh k n b) (hk16 : k ≤ 16) (hn16 : n ≤ 16) : PureCall Try.prog 94 [.agg [.l3 a], .agg [.l3 b]] (.bool (lt3 a b)) := by
  have la := ha.1
  have lb := hb.1
  refine PureCall.intro (n := 59) (rs := [.tmp 4]) Try.call94 Try.func94 rfl rfl rfl (by simp only [List.length_cons, List.length_nil]; omega) (fun cx hcx => ats_of ?_); simp only [argSlots, Nat.zero_add, Nat.reduceAdd]
  (repeat refine ats_seq ?_); refine ats_go (by first | exact fix0 hcx | exact fix1 hcx rfl) fun K hK => ?_; simp only [go_sem, seval]; refine hK _ ?_; clear hK K
  (repeat refine ats_seq ?_); refine ats_go (by first | exact fix0 hcx | exact fix1 hcx rfl) fun K hK => ?_; simp only [go_sem, seval]; refine hK _ ?_; clear hK K
  (repeat refine ats_seq ?_); refine ats_loop (fun i : Nat => ⟨[(2, .bptr 0 0), (3, .bptr 1 0), (5, .int i)], [(0, .bx [.l3 a]), (1, .bx [.l3 b])]⟩) (fun i => i ≤ k ∧ a.take i = b.take i) (fun i => k - i) 0 ⟨Nat.zero_le _, rfl⟩ (by
    refine And.intro ?_ rfl; simp only [SlotsLe, St.get, slotGet, Nat.reduceEqDiff, ↓reduceIte, AV.int.injEq, AV.bool.injEq, AV.l1.injEq, AV.l2.injEq, AV.l3.injEq, true_and, and_true]
    rfl) (fun i hi => ?_)
  obtain ⟨hi, hT⟩ := hi
  (repeat refine ats_seq ?_); refine ats_go (by first | exact fix0 hcx | exact fix1 hcx rfl) fun K hK => ?_; simp only [go_sem, seval]; (repeat refine And.intro (by first | omega | (intro hq; first | omega | (simp at hq <;> omega) | (simp_all <;> omega))) ?_); refine hK _ ?_; clear hK K
  (repeat refine ats_seq ?_); first | refine ats_ifn (p := _) rfl trivial (fun h1 => ?_) (fun h1 => ?_) | refine ats_ifp (p := _) rfl trivial (fun h1 => ?_) (fun h1 => ?_) | refine ats_cond rfl trivial (fun h1 => ?_) (fun h1 => ?_)
  · have hai := LS.get ha (d := []) (show i < k by omega)
    have hbi := LS.get hb (d := []) (show i < k by omega)
    have lai := hai.1
    have lbi := hbi.1
    refine ats_skip ?_
    (repeat refine ats_seq ?_); refine ats_block ?_
    (repeat refine ats_seq ?_); refine ats_go (by first | exact fix0 hcx | exact fix1 hcx rfl) fun K hK => ?_; simp only [go_sem, seval]; (repeat refine And.intro (by first | omega | (intro hq; first | omega | (simp at hq <;> omega) | (simp_all <;> omega))) ?_); refine hK _ ?_; clear hK K
    (repeat refine ats_seq ?_); refine ats_loop (fun j : Nat => ⟨[(2, .bptr 0 0), (3, .bptr 1 0), (5, .int i), (6, .int j)], [(0, .bx [.l3 a]), (1, .bx [.l3 b])]⟩) (fun j => j ≤ n ∧ (a.getD i []).take j = (b.getD i []).take j) (fun j => n - j) 0 ⟨Nat.zero_le _, rfl⟩ (by
      refine And.intro ?_ rfl; simp only [SlotsLe, St.get, slotGet, Nat.reduceEqDiff, ↓reduceIte, AV.int.injEq, AV.bool.injEq, AV.l1.injEq, AV.l2.injEq, AV.l3.injEq, true_and, and_true]
      rfl) (fun j hj => ?_)
    obtain ⟨hj, hU⟩ := hj
    (repeat refine ats_seq ?_); refine ats_go (by first | exact fix0 hcx | exact fix1 hcx rfl) fun K hK => ?_; simp only [go_sem, seval]; (repeat refine And.intro (by first | omega | (intro hq; first | omega | (simp at hq <;> omega) | (simp_all <;> omega))) ?_); refine hK _ ?_; clear hK K
    (repeat refine ats_seq ?_); first | refine ats_ifn (p := _) rfl trivial (fun h2 => ?_) (fun h2 => ?_) | refine ats_ifp (p := _) rfl trivial (fun h2 => ?_) (fun h2 => ?_) | refine ats_cond rfl trivial (fun h2 => ?_) (fun h2 => ?_)
    · have haj := (LS.get hai (d := []) (show j < n by omega)).1
      have hbj := (LS.get hbi (d := []) (show j < n by omega)).1
      have hs := l01Same_ok ((a.getD i []).getD j []) ((b.getD i []).getD j [])
      have hle := l01Less_ok ((a.getD i []).getD j []) ((b.getD i []).getD j []) (by rw [haj, hbj])
      refine ats_skip ?_
      (repeat refine ats_seq ?_); refine ats_block ?_
      (repeat refine ats_seq ?_); refine ats_pick (fix0 hcx) mixed (by kernel_rfl) fun K hK => ?_; simp only [go_sem, seval]
      (repeat refine And.intro (by first | omega | (intro hq; first | omega | (simp at hq <;> omega) | (simp_all <;> omega))) ?_)
      first | refine fcall_data (hs) rfl ?_ | refine YR_intro (acall_data (hs) rfl) ?_
      simp only [go_sem, seval]
      (repeat refine And.intro (by first | omega | (intro hq; first | omega | (simp at hq <;> omega) | (simp_all <;> omega))) ?_)
      refine hK _ ?_; clear hK K
      (repeat refine ats_seq ?_); first | refine ats_ifn (p := _) rfl trivial (fun h3 => ?_) (fun h3 => ?_) | refine ats_ifp (p := _) rfl trivial (fun h3 => ?_) (fun h3 => ?_) | refine ats_cond rfl trivial (fun h3 => ?_) (fun h3 => ?_)
      · have d1 := lex_diff (lt := lt1) (d := []) j (a.getD i []) (b.getD i []) hU (by omega) (by omega) h3
        have d2 := lex_diff (lt := lt2) (d := []) i a b hT (by omega) (by omega) d1.1
        have e : lt3 a b = lt1 ((a.getD i []).getD j []) ((b.getD i []).getD j []) := by
          show lexB lt2 a b = _
          rw [d2.2]
          show lexB lt1 _ _ = _
          rw [d1.2]
        rw [e]
        (repeat refine ats_seq ?_); refine ats_pick (fix0 hcx) mixed (by kernel_rfl) fun K hK => ?_; simp only [go_sem, seval]
        (repeat refine And.intro (by first | omega | (intro hq; first | omega | (simp at hq <;> omega) | (simp_all <;> omega))) ?_)
        first | refine fcall_data (hle) rfl ?_ | refine YR_intro (acall_data (hle) rfl) ?_
        simp only [go_sem, seval]
        (repeat refine And.intro (by first | omega | (intro hq; first | omega | (simp at hq <;> omega) | (simp_all <;> omega))) ?_)
        refine hK _ ?_; clear hK K
        refine ats_ret (finB rfl ?_)
        rfl
      · refine ats_skip ?_
        (repeat refine ats_seq ?_); refine ats_go (by first | exact fix0 hcx | exact fix1 hcx rfl) fun K hK => ?_; simp only [go_sem, seval]; (repeat refine And.intro (by first | omega | (intro hq; first | omega | (simp at hq <;> omega) | (simp_all <;> omega))) ?_); refine hK _ ?_; clear hK K
        refine ⟨j + 1,  ⟨by omega, take_succ_eq (d := []) (by omega) (by omega) hU h3⟩, by omega, .inl ⟨?_, rfl⟩⟩; simp only [SlotsLe, St.get, slotGet, Nat.reduceEqDiff, ↓reduceIte, AV.int.injEq, AV.bool.injEq, AV.l1.injEq, AV.l2.injEq, AV.l3.injEq, true_and, and_true]
        omega
    · have hjn : j = n := by omega
      have e : a.getD i [] = b.getD i [] := by
        have h := hU
        rw [List.take_of_length_le (by omega), List.take_of_length_le (by omega)] at h
        exact h
      refine ats_exit (lq_x ?_)
      (repeat refine ats_seq ?_); refine ats_go (by first | exact fix0 hcx | exact fix1 hcx rfl) fun K hK => ?_; simp only [go_sem, seval]; (repeat refine And.intro (by first | omega | (intro hq; first | omega | (simp at hq <;> omega) | (simp_all <;> omega))) ?_); refine hK _ ?_; clear hK K
      refine ⟨i + 1,  ⟨by omega, take_succ_eq (d := []) (by omega) (by omega) hT e⟩, by omega, .inl ⟨?_, rfl⟩⟩; simp only [SlotsLe, St.get, slotGet, Nat.reduceEqDiff, ↓reduceIte, AV.int.injEq, AV.bool.injEq, AV.l1.injEq, AV.l2.injEq, AV.l3.injEq, true_and, and_true]
      omega
  · have e : a = b := by
      have h := hT
      rw [List.take_of_length_le (by omega), List.take_of_length_le (by omega)] at h
      exact h
    refine ats_exit (lq_x ?_)
    (repeat refine ats_seq ?_); refine ats_go (by first | exact fix0 hcx | exact fix1 hcx rfl) fun K hK => ?_; simp only [go_sem, seval]; refine hK _ ?_; clear hK K
    refine ats_ret (finB rfl ?_)
    subst e
    exact ((tot3L k n).irr a ha).symm

set_option maxHeartbeats 8000000 in
theorem l09Least_ok (a : List (List (List Int))) (n : Nat) (en : (a.getD 0 []).length = n) (hm : ∀ i, i < a.length → MatOk n (a.getD i [])) (h16 : n ≤ 16) (ha : 0 < a.length) (ha16 : a.length ≤ 16) :
    ∀ d p M, p.length + d = n → QOk n p → p.Nodup → Sh a.length n M → PureCall Try.prog 52 [.agg [.l3 a], .agg [.l3 M], .l1 p] (.agg [.l3 (ordS (visS a) n d p M)])
  | 0, p, M, hd, hp, hnd, hM => by
    have hsz := l09Size_ok a ha
    rw [en] at hsz
    have hso := l09Some_ok a p n hm h16 ha ha16 hp (by omega)
    have hbe := l09Before_ok a.length n (paL a p a.length) M (paL_Sh ⟨by omega, hp, hnd⟩) hM ha16 h16
    show PureCall _ _ _ (.agg [.l3 (visS a p M)])
    refine PureCall.intro (n := 42) (rs := [.cell 6 43]) Try.call52 Try.func52 rfl rfl rfl (by simp only [List.length_cons, List.length_nil]; omega) (fun cx hcx => ats_of ?_); simp only [argSlots, Nat.zero_add, Nat.reduceAdd]
    (repeat refine ats_seq ?_); refine ats_go (by first | exact fix0 hcx | exact fix1 hcx rfl) fun K hK => ?_; simp only [go_sem, seval]; refine hK _ ?_; clear hK K
    (repeat refine ats_seq ?_); refine ats_go (by first | exact fix0 hcx | exact fix1 hcx rfl) fun K hK => ?_; simp only [go_sem, seval]
    first | refine fcall_data (hsz) rfl ?_ | refine YR_intro (acall_data (hsz) rfl) ?_
    simp only [go_sem, seval]
    refine hK _ ?_; clear hK K
    (repeat refine ats_seq ?_); refine ats_go (by first | exact fix0 hcx | exact fix1 hcx rfl) fun K hK => ?_; simp only [go_sem, seval]; (repeat refine And.intro (by first | omega | (intro hq; first | omega | (simp at hq <;> omega) | (simp_all <;> omega))) ?_); refine hK _ ?_; clear hK K
    (repeat refine ats_seq ?_); first | refine ats_ifn (p := _) rfl trivial (fun h1 => ?_) (fun h1 => ?_) | refine ats_ifp (p := _) rfl trivial (fun h1 => ?_) (fun h1 => ?_) | refine ats_cond rfl trivial (fun h1 => ?_) (fun h1 => ?_)
    · (repeat refine ats_seq ?_); refine ats_go (by first | exact fix0 hcx | exact fix1 hcx rfl) fun K hK => ?_; simp only [go_sem, seval]
      first | refine fcall_fresh rfl (hso) ?_ | refine YR_intro (acall_fresh rfl (hso)) ?_
      simp only [go_sem, seval]
      (repeat refine And.intro (by first | omega | (intro hq; first | omega | (simp at hq <;> omega) | (simp_all <;> omega))) ?_)
      refine hK _ ?_; clear hK K
      (repeat refine ats_seq ?_); refine ats_go (by first | exact fix0 hcx | exact fix1 hcx rfl) fun K hK => ?_; simp only [go_sem, seval]
      first | refine fcall_data (hbe) rfl ?_ | refine YR_intro (acall_data (hbe) rfl) ?_
      simp only [go_sem, seval]
      refine hK _ ?_; clear hK K
      cases hlt : lt3 (paL a p a.length) M with
      | true =>
        have e : visS a p M = paL a p a.length := by unfold visS; rw [hlt]; rfl
        rw [e]
        (repeat refine ats_seq ?_); first | refine ats_ifn (p := _) rfl trivial (fun h2 => ?_) (fun h2 => ?_) | refine ats_ifp (p := _) rfl trivial (fun h2 => ?_) (fun h2 => ?_) | refine ats_cond rfl trivial (fun h2 => ?_) (fun h2 => ?_)
        · (repeat refine ats_seq ?_); refine ats_go (by first | exact fix0 hcx | exact fix1 hcx rfl) fun K hK => ?_; simp only [go_sem, seval]; (repeat refine And.intro (by first | omega | (intro hq; first | omega | (simp at hq <;> omega) | (simp_all <;> omega))) ?_); refine hK _ ?_; clear hK K
          exact ats_ret (finC (v := .agg [.l3 (paL a p a.length)]) (by simp only [go_sem, seval]) rfl)
        · simp [hlt] at h2
      | false =>
        have e : visS a p M = M := by unfold visS; rw [hlt]; rfl
        rw [e]
        (repeat refine ats_seq ?_); first | refine ats_ifn (p := _) rfl trivial (fun h2 => ?_) (fun h2 => ?_) | refine ats_ifp (p := _) rfl trivial (fun h2 => ?_) (fun h2 => ?_) | refine ats_cond rfl trivial (fun h2 => ?_) (fun h2 => ?_)
        · simp [hlt] at h2
        · refine ats_skip ?_
          (repeat refine ats_seq ?_); refine ats_go (by first | exact fix0 hcx | exact fix1 hcx rfl) fun K hK => ?_; simp only [go_sem, seval]; (repeat refine And.intro (by first | omega | (intro hq; first | omega | (simp at hq <;> omega) | (simp_all <;> omega))) ?_); refine hK _ ?_; clear hK K
          exact ats_ret (finC (v := .agg [.l3 M]) (by simp only [go_sem, seval]) rfl)
    · omega
  | d + 1, p, M, hd, hp, hnd, hM => by
    have hsz := l09Size_ok a ha
    rw [en] at hsz
    rw [ordS_succ]
    refine PureCall.intro (n := 42) (rs := [.cell 6 43]) Try.call52 Try.func52 rfl rfl rfl (by simp only [List.length_cons, List.length_nil]; omega) (fun cx hcx => ats_of ?_); simp only [argSlots, Nat.zero_add, Nat.reduceAdd]
    (repeat refine ats_seq ?_); refine ats_go (by first | exact fix0 hcx | exact fix1 hcx rfl) fun K hK => ?_; simp only [go_sem, seval]; refine hK _ ?_; clear hK K
    (repeat refine ats_seq ?_); refine ats_go (by first | exact fix0 hcx | exact fix1 hcx rfl) fun K hK => ?_; simp only [go_sem, seval]
    first | refine fcall_data (hsz) rfl ?_ | refine YR_intro (acall_data (hsz) rfl) ?_
    simp only [go_sem, seval]
    refine hK _ ?_; clear hK K
    (repeat refine ats_seq ?_); refine ats_go (by first | exact fix0 hcx | exact fix1 hcx rfl) fun K hK => ?_; simp only [go_sem, seval]; (repeat refine And.intro (by first | omega | (intro hq; first | omega | (simp at hq <;> omega) | (simp_all <;> omega))) ?_); refine hK _ ?_; clear hK K
    (repeat refine ats_seq ?_); first | refine ats_ifn (p := _) rfl trivial (fun h1 => ?_) (fun h1 => ?_) | refine ats_ifp (p := _) rfl trivial (fun h1 => ?_) (fun h1 => ?_) | refine ats_cond rfl trivial (fun h1 => ?_) (fun h1 => ?_)
    · omega
    · refine ats_skip ?_
      (repeat refine ats_seq ?_); refine ats_go (by first | exact fix0 hcx | exact fix1 hcx rfl) fun K hK => ?_; simp only [go_sem, seval]; (repeat refine And.intro (by first | omega | (intro hq; first | omega | (simp at hq <;> omega) | (simp_all <;> omega))) ?_); refine hK _ ?_; clear hK K
      (repeat refine ats_seq ?_); refine ats_loop (fun x : Nat => ⟨[(2, .l1 p), (3, .bptr 0 0), (4, .bptr 1 0), (6, .bptr 2 0), (7, .int n), (9, .int x)], [(0, .bx [.l3 a]), (1, .bx [.l3 (ordF (visS a) n d p M x)]), (2, .bx [.nil])]⟩) (fun x => x ≤ n) (fun x => n - x) 0 (Nat.zero_le _) (by
        refine And.intro ?_ rfl; simp only [SlotsLe, St.get, slotGet, Nat.reduceEqDiff, ↓reduceIte, AV.int.injEq, AV.bool.injEq, AV.l1.injEq, AV.l2.injEq, AV.l3.injEq, true_and, and_true]
        rfl) (fun x hx => ?_)
      obtain ⟨Mx, es⟩ : ∃ Mx, ordF (visS a) n d p M x = Mx := ⟨_, rfl⟩
      have hMx := ordF_keep (vis := visS a) (G := Sh a.length n) (fun p M hl hq hn hM => by unfold visS; split; exact paL_Sh ⟨hl, hq, hn⟩; exact hM) hd hp hnd hM x hx
      rw [es] at hMx
      rw [es]
      (repeat refine ats_seq ?_); refine ats_go (by first | exact fix0 hcx | exact fix1 hcx rfl) fun K hK => ?_; simp only [go_sem, seval]; (repeat refine And.intro (by first | omega | (intro hq; first | omega | (simp at hq <;> omega) | (simp_all <;> omega))) ?_); refine hK _ ?_; clear hK K
      (repeat refine ats_seq ?_); first | refine ats_ifn (p := _) rfl trivial (fun h2 => ?_) (fun h2 => ?_) | refine ats_ifp (p := _) rfl trivial (fun h2 => ?_) (fun h2 => ?_) | refine ats_cond rfl trivial (fun h2 => ?_) (fun h2 => ?_)
      · have hh := l01Has_ok p x
        refine ats_skip ?_
        (repeat refine ats_seq ?_); refine ats_block ?_
        (repeat refine ats_seq ?_); refine ats_go (by first | exact fix0 hcx | exact fix1 hcx rfl) fun K hK => ?_; simp only [go_sem, seval]
        (repeat refine And.intro (by first | omega | (intro hq; first | omega | (simp at hq <;> omega) | (simp_all <;> omega))) ?_)
        first | refine fcall_data (hh) rfl ?_ | refine YR_intro (acall_data (hh) rfl) ?_
        simp only [go_sem, seval]
        (repeat refine And.intro (by first | omega | (intro hq; first | omega | (simp at hq <;> omega) | (simp_all <;> omega))) ?_)
        refine hK _ ?_; clear hK K
        (repeat refine ats_seq ?_); first | refine ats_ifn (p := _) rfl trivial (fun h3 => ?_) (fun h3 => ?_) | refine ats_ifp (p := _) rfl trivial (fun h3 => ?_) (fun h3 => ?_) | refine ats_cond rfl trivial (fun h3 => ?_) (fun h3 => ?_)
        · have hno : ¬ hasI p x = true := by
            have h4 : (p.any fun y => decide (y = (x : Int))) = false := by simpa only [Bool.not_eq_true'] using h3
            unfold hasI
            rw [h4]
            decide
          have hw := l01Own_ok p (by omega)
          have ih := l09Least_ok a n en hm h16 ha ha16 d (p ++ [(x : Int)]) Mx (by rw [List.length_append, List.length_cons, List.length_nil]; omega) (hp.app (QOk.one (by omega))) (nodup_snoc hnd hno) hMx
          have e3 : ordF (visS a) n d p M (x + 1) = ordS (visS a) n d (p ++ [(x : Int)]) Mx := by rw [ordF_step, if_neg hno, es]
          (repeat refine ats_seq ?_)
          refine ats_plan [3, 7] (.alt 0 (.alt 1 (.alt 2 (.alt 3 (.one 4 (.alt 5 (.alt 6 (.alt 7 (.alt 8 .fin .stop) .stop) .stop) .stop)) (.alt 4 (.alt 3 (.alt 5 (.alt 6 (.alt 7 (.alt 8 .fin .stop) .stop) .stop) .stop) (.alt 5 (.alt 3 (.alt 6 (.alt 7 (.alt 8 .fin .stop) .stop) .stop) .stop) .stop)) .stop)) (.alt 4 (.alt 2 (.alt 3 (.alt 5 (.alt 6 (.alt 7 (.alt 8 .fin .stop) .stop) .stop) .stop) (.alt 5 (.alt 3 (.alt 6 (.alt 7 (.alt 8 .fin .stop) .stop) .stop) .stop) .stop)) (.alt 5 (.one 2 (.alt 3 (.alt 6 (.alt 7 (.alt 8 .fin .stop) .stop) .stop) .stop)) .stop)) .stop)) (.alt 2 (.alt 1 (.alt 3 (.one 4 (.alt 5 (.alt 6 (.alt 7 (.alt 8 .fin .stop) .stop) .stop) .stop)) (.alt 4 (.alt 3 (.alt 5 (.alt 6 (.alt 7 (.alt 8 .fin .stop) .stop) .stop) .stop) (.alt 5 (.alt 3 (.alt 6 (.alt 7 (.alt 8 .fin .stop) .stop) .stop) .stop) .stop)) .stop)) (.alt 3 (.one 4 (.alt 1 (.alt 5 (.alt 6 (.alt 7 (.alt 8 .fin .stop) .stop) .stop) .stop) (.alt 5 (.alt 1 (.alt 6 (.alt 7 (.alt 8 .fin .stop) .stop) .stop) (.alt 6 (.one 1 (.alt 7 (.alt 8 .fin .stop) .stop)) .stop)) .stop))) (.alt 4 (.alt 1 (.alt 3 (.alt 5 (.alt 6 (.alt 7 (.alt 8 .fin .stop) .stop) .stop) .stop) (.alt 5 (.alt 3 (.alt 6 (.alt 7 (.alt 8 .fin .stop) .stop) .stop) .stop) .stop)) (.alt 3 (.alt 1 (.alt 5 (.alt 6 (.alt 7 (.alt 8 .fin .stop) .stop) .stop) .stop) (.alt 5 (.alt 1 (.alt 6 (.alt 7 (.alt 8 .fin .stop) .stop) .stop) (.alt 6 (.one 1 (.alt 7 (.alt 8 .fin .stop) .stop)) .stop)) .stop)) (.alt 5 (.alt 1 (.alt 3 (.alt 6 (.alt 7 (.alt 8 .fin .stop) .stop) .stop) .stop) (.alt 3 (.alt 1 (.alt 6 (.alt 7 (.alt 8 .fin .stop) .stop) .stop) (.alt 6 (.one 1 (.alt 7 (.alt 8 .fin .stop) .stop)) .stop)) .stop)) .stop))) .stop))) (.alt 4 (.alt 1 (.alt 2 (.alt 3 (.alt 5 (.alt 6 (.alt 7 (.alt 8 .fin .stop) .stop) .stop) .stop) (.alt 5 (.alt 3 (.alt 6 (.alt 7 (.alt 8 .fin .stop) .stop) .stop) .stop) .stop)) (.alt 5 (.one 2 (.alt 3 (.alt 6 (.alt 7 (.alt 8 .fin .stop) .stop) .stop) .stop)) .stop)) (.alt 2 (.alt 1 (.alt 3 (.alt 5 (.alt 6 (.alt 7 (.alt 8 .fin .stop) .stop) .stop) .stop) (.alt 5 (.alt 3 (.alt 6 (.alt 7 (.alt 8 .fin .stop) .stop) .stop) .stop) .stop)) (.alt 3 (.alt 1 (.alt 5 (.alt 6 (.alt 7 (.alt 8 .fin .stop) .stop) .stop) .stop) (.alt 5 (.alt 1 (.alt 6 (.alt 7 (.alt 8 .fin .stop) .stop) .stop) (.alt 6 (.one 1 (.alt 7 (.alt 8 .fin .stop) .stop)) .stop)) .stop)) (.alt 5 (.alt 1 (.alt 3 (.alt 6 (.alt 7 (.alt 8 .fin .stop) .stop) .stop) .stop) (.alt 3 (.alt 1 (.alt 6 (.alt 7 (.alt 8 .fin .stop) .stop) .stop) (.alt 6 (.one 1 (.alt 7 (.alt 8 .fin .stop) .stop)) .stop)) .stop)) .stop))) (.alt 5 (.one 2 (.alt 1 (.alt 3 (.alt 6 (.alt 7 (.alt 8 .fin .stop) .stop) .stop) .stop) (.alt 3 (.alt 1 (.alt 6 (.alt 7 (.alt 8 .fin .stop) .stop) .stop) (.alt 6 (.one 1 (.alt 7 (.alt 8 .fin .stop) .stop)) .stop)) .stop))) .stop))) .stop))) (.alt 1 (.alt 0 (.alt 2 (.alt 3 (.one 4 (.alt 5 (.alt 6 (.alt 7 (.alt 8 .fin .stop) .stop) .stop) .stop)) (.alt 4 (.alt 3 (.alt 5 (.alt 6 (.alt 7 (.alt 8 .fin .stop) .stop) .stop) .stop) (.alt 5 (.alt 3 (.alt 6 (.alt 7 (.alt 8 .fin .stop) .stop) .stop) .stop) .stop)) .stop)) (.alt 4 (.alt 2 (.alt 3 (.alt 5 (.alt 6 (.alt 7 (.alt 8 .fin .stop) .stop) .stop) .stop) (.alt 5 (.alt 3 (.alt 6 (.alt 7 (.alt 8 .fin .stop) .stop) .stop) .stop) .stop)) (.alt 5 (.one 2 (.alt 3 (.alt 6 (.alt 7 (.alt 8 .fin .stop) .stop) .stop) .stop)) .stop)) .stop)) (.alt 2 (.alt 0 (.alt 3 (.one 4 (.alt 5 (.alt 6 (.alt 7 (.alt 8 .fin .stop) .stop) .stop) .stop)) (.alt 4 (.alt 3 (.alt 5 (.alt 6 (.alt 7 (.alt 8 .fin .stop) .stop) .stop) .stop) (.alt 5 (.alt 3 (.alt 6 (.alt 7 (.alt 8 .fin .stop) .stop) .stop) .stop) .stop)) .stop)) (.alt 3 (.one 4 (.alt 0 (.alt 5 (.alt 6 (.alt 7 (.alt 8 .fin .stop) .stop) .stop) .stop) (.alt 5 (.alt 0 (.alt 6 (.alt 7 (.alt 8 .fin .stop) .stop) .stop) (.alt 6 (.one 0 (.alt 7 (.alt 8 .fin .stop) .stop)) .stop)) .stop))) (.alt 4 (.alt 0 (.alt 3 (.alt 5 (.alt 6 (.alt 7 (.alt 8 .fin .stop) .stop) .stop) .stop) (.alt 5 (.alt 3 (.alt 6 (.alt 7 (.alt 8 .fin .stop) .stop) .stop) .stop) .stop)) (.alt 3 (.alt 0 (.alt 5 (.alt 6 (.alt 7 (.alt 8 .fin .stop) .stop) .stop) .stop) (.alt 5 (.alt 0 (.alt 6 (.alt 7 (.alt 8 .fin .stop) .stop) .stop) (.alt 6 (.one 0 (.alt 7 (.alt 8 .fin .stop) .stop)) .stop)) .stop)) (.alt 5 (.alt 0 (.alt 3 (.alt 6 (.alt 7 (.alt 8 .fin .stop) .stop) .stop) .stop) (.alt 3 (.alt 0 (.alt 6 (.alt 7 (.alt 8 .fin .stop) .stop) .stop) (.alt 6 (.one 0 (.alt 7 (.alt 8 .fin .stop) .stop)) .stop)) .stop)) .stop))) .stop))) (.alt 4 (.alt 0 (.alt 2 (.alt 3 (.alt 5 (.alt 6 (.alt 7 (.alt 8 .fin .stop) .stop) .stop) .stop) (.alt 5 (.alt 3 (.alt 6 (.alt 7 (.alt 8 .fin .stop) .stop) .stop) .stop) .stop)) (.alt 5 (.one 2 (.alt 3 (.alt 6 (.alt 7 (.alt 8 .fin .stop) .stop) .stop) .stop)) .stop)) (.alt 2 (.alt 0 (.alt 3 (.alt 5 (.alt 6 (.alt 7 (.alt 8 .fin .stop) .stop) .stop) .stop) (.alt 5 (.alt 3 (.alt 6 (.alt 7 (.alt 8 .fin .stop) .stop) .stop) .stop) .stop)) (.alt 3 (.alt 0 (.alt 5 (.alt 6 (.alt 7 (.alt 8 .fin .stop) .stop) .stop) .stop) (.alt 5 (.alt 0 (.alt 6 (.alt 7 (.alt 8 .fin .stop) .stop) .stop) (.alt 6 (.one 0 (.alt 7 (.alt 8 .fin .stop) .stop)) .stop)) .stop)) (.alt 5 (.alt 0 (.alt 3 (.alt 6 (.alt 7 (.alt 8 .fin .stop) .stop) .stop) .stop) (.alt 3 (.alt 0 (.alt 6 (.alt 7 (.alt 8 .fin .stop) .stop) .stop) (.alt 6 (.one 0 (.alt 7 (.alt 8 .fin .stop) .stop)) .stop)) .stop)) .stop))) (.alt 5 (.one 2 (.alt 0 (.alt 3 (.alt 6 (.alt 7 (.alt 8 .fin .stop) .stop) .stop) .stop) (.alt 3 (.alt 0 (.alt 6 (.alt 7 (.alt 8 .fin .stop) .stop) .stop) (.alt 6 (.one 0 (.alt 7 (.alt 8 .fin .stop) .stop)) .stop)) .stop))) .stop))) .stop))) (.alt 2 (.alt 0 (.alt 1 (.alt 3 (.one 4 (.alt 5 (.alt 6 (.alt 7 (.alt 8 .fin .stop) .stop) .stop) .stop)) (.alt 4 (.alt 3 (.alt 5 (.alt 6 (.alt 7 (.alt 8 .fin .stop) .stop) .stop) .stop) (.alt 5 (.alt 3 (.alt 6 (.alt 7 (.alt 8 .fin .stop) .stop) .stop) .stop) .stop)) .stop)) (.alt 3 (.one 4 (.alt 1 (.alt 5 (.alt 6 (.alt 7 (.alt 8 .fin .stop) .stop) .stop) .stop) (.alt 5 (.alt 1 (.alt 6 (.alt 7 (.alt 8 .fin .stop) .stop) .stop) (.alt 6 (.one 1 (.alt 7 (.alt 8 .fin .stop) .stop)) .stop)) .stop))) (.alt 4 (.alt 1 (.alt 3 (.alt 5 (.alt 6 (.alt 7 (.alt 8 .fin .stop) .stop) .stop) .stop) (.alt 5 (.alt 3 (.alt 6 (.alt 7 (.alt 8 .fin .stop) .stop) .stop) .stop) .stop)) (.alt 3 (.alt 1 (.alt 5 (.alt 6 (.alt 7 (.alt 8 .fin .stop) .stop) .stop) .stop) (.alt 5 (.alt 1 (.alt 6 (.alt 7 (.alt 8 .fin .stop) .stop) .stop) (.alt 6 (.one 1 (.alt 7 (.alt 8 .fin .stop) .stop)) .stop)) .stop)) (.alt 5 (.alt 1 (.alt 3 (.alt 6 (.alt 7 (.alt 8 .fin .stop) .stop) .stop) .stop) (.alt 3 (.alt 1 (.alt 6 (.alt 7 (.alt 8 .fin .stop) .stop) .stop) (.alt 6 (.one 1 (.alt 7 (.alt 8 .fin .stop) .stop)) .stop)) .stop)) .stop))) .stop))) (.alt 1 (.alt 0 (.alt 3 (.one 4 (.alt 5 (.alt 6 (.alt 7 (.alt 8 .fin .stop) .stop) .stop) .stop)) (.alt 4 (.alt 3 (.alt 5 (.alt 6 (.alt 7 (.alt 8 .fin .stop) .stop) .stop) .stop) (.alt 5 (.alt 3 (.alt 6 (.alt 7 (.alt 8 .fin .stop) .stop) .stop) .stop) .stop)) .stop)) (.alt 3 (.one 4 (.alt 0 (.alt 5 (.alt 6 (.alt 7 (.alt 8 .fin .stop) .stop) .stop) .stop) (.alt 5 (.alt 0 (.alt 6 (.alt 7 (.alt 8 .fin .stop) .stop) .stop) (.alt 6 (.one 0 (.alt 7 (.alt 8 .fin .stop) .stop)) .stop)) .stop))) (.alt 4 (.alt 0 (.alt 3 (.alt 5 (.alt 6 (.alt 7 (.alt 8 .fin .stop) .stop) .stop) .stop) (.alt 5 (.alt 3 (.alt 6 (.alt 7 (.alt 8 .fin .stop) .stop) .stop) .stop) .stop)) (.alt 3 (.alt 0 (.alt 5 (.alt 6 (.alt 7 (.alt 8 .fin .stop) .stop) .stop) .stop) (.alt 5 (.alt 0 (.alt 6 (.alt 7 (.alt 8 .fin .stop) .stop) .stop) (.alt 6 (.one 0 (.alt 7 (.alt 8 .fin .stop) .stop)) .stop)) .stop)) (.alt 5 (.alt 0 (.alt 3 (.alt 6 (.alt 7 (.alt 8 .fin .stop) .stop) .stop) .stop) (.alt 3 (.alt 0 (.alt 6 (.alt 7 (.alt 8 .fin .stop) .stop) .stop) (.alt 6 (.one 0 (.alt 7 (.alt 8 .fin .stop) .stop)) .stop)) .stop)) .stop))) .stop))) (.alt 3 (.one 4 (.alt 0 (.alt 1 (.alt 5 (.alt 6 (.alt 7 (.alt 8 .fin .stop) .stop) .stop) .stop) (.alt 5 (.alt 1 (.alt 6 (.alt 7 (.alt 8 .fin .stop) .stop) .stop) (.alt 6 (.one 1 (.alt 7 (.alt 8 .fin .stop) .stop)) .stop)) .stop)) (.alt 1 (.alt 0 (.alt 5 (.alt 6 (.alt 7 (.alt 8 .fin .stop) .stop) .stop) .stop) (.alt 5 (.alt 0 (.alt 6 (.alt 7 (.alt 8 .fin .stop) .stop) .stop) (.alt 6 (.one 0 (.alt 7 (.alt 8 .fin .stop) .stop)) .stop)) .stop)) (.alt 5 (.alt 0 (.alt 1 (.alt 6 (.alt 7 (.alt 8 .fin .stop) .stop) .stop) (.alt 6 (.one 1 (.alt 7 (.alt 8 .fin .stop) .stop)) .stop)) (.alt 1 (.alt 0 (.alt 6 (.alt 7 (.alt 8 .fin .stop) .stop) .stop) (.alt 6 (.one 0 (.alt 7 (.alt 8 .fin .stop) .stop)) .stop)) (.alt 6 (.one 0 (.one 1 (.alt 7 (.alt 8 .fin .stop) .stop))) .stop))) .stop)))) (.alt 4 (.alt 0 (.alt 1 (.alt 3 (.alt 5 (.alt 6 (.alt 7 (.alt 8 .fin .stop) .stop) .stop) .stop) (.alt 5 (.alt 3 (.alt 6 (.alt 7 (.alt 8 .fin .stop) .stop) .stop) .stop) .stop)) (.alt 3 (.alt 1 (.alt 5 (.alt 6 (.alt 7 (.alt 8 .fin .stop) .stop) .stop) .stop) (.alt 5 (.alt 1 (.alt 6 (.alt 7 (.alt 8 .fin .stop) .stop) .stop) (.alt 6 (.one 1 (.alt 7 (.alt 8 .fin .stop) .stop)) .stop)) .stop)) (.alt 5 (.alt 1 (.alt 3 (.alt 6 (.alt 7 (.alt 8 .fin .stop) .stop) .stop) .stop) (.alt 3 (.alt 1 (.alt 6 (.alt 7 (.alt 8 .fin .stop) .stop) .stop) (.alt 6 (.one 1 (.alt 7 (.alt 8 .fin .stop) .stop)) .stop)) .stop)) .stop))) (.alt 1 (.alt 0 (.alt 3 (.alt 5 (.alt 6 (.alt 7 (.alt 8 .fin .stop) .stop) .stop) .stop) (.alt 5 (.alt 3 (.alt 6 (.alt 7 (.alt 8 .fin .stop) .stop) .stop) .stop) .stop)) (.alt 3 (.alt 0 (.alt 5 (.alt 6 (.alt 7 (.alt 8 .fin .stop) .stop) .stop) .stop) (.alt 5 (.alt 0 (.alt 6 (.alt 7 (.alt 8 .fin .stop) .stop) .stop) (.alt 6 (.one 0 (.alt 7 (.alt 8 .fin .stop) .stop)) .stop)) .stop)) (.alt 5 (.alt 0 (.alt 3 (.alt 6 (.alt 7 (.alt 8 .fin .stop) .stop) .stop) .stop) (.alt 3 (.alt 0 (.alt 6 (.alt 7 (.alt 8 .fin .stop) .stop) .stop) (.alt 6 (.one 0 (.alt 7 (.alt 8 .fin .stop) .stop)) .stop)) .stop)) .stop))) (.alt 3 (.alt 0 (.alt 1 (.alt 5 (.alt 6 (.alt 7 (.alt 8 .fin .stop) .stop) .stop) .stop) (.alt 5 (.alt 1 (.alt 6 (.alt 7 (.alt 8 .fin .stop) .stop) .stop) (.alt 6 (.one 1 (.alt 7 (.alt 8 .fin .stop) .stop)) .stop)) .stop)) (.alt 1 (.alt 0 (.alt 5 (.alt 6 (.alt 7 (.alt 8 .fin .stop) .stop) .stop) .stop) (.alt 5 (.alt 0 (.alt 6 (.alt 7 (.alt 8 .fin .stop) .stop) .stop) (.alt 6 (.one 0 (.alt 7 (.alt 8 .fin .stop) .stop)) .stop)) .stop)) (.alt 5 (.alt 0 (.alt 1 (.alt 6 (.alt 7 (.alt 8 .fin .stop) .stop) .stop) (.alt 6 (.one 1 (.alt 7 (.alt 8 .fin .stop) .stop)) .stop)) (.alt 1 (.alt 0 (.alt 6 (.alt 7 (.alt 8 .fin .stop) .stop) .stop) (.alt 6 (.one 0 (.alt 7 (.alt 8 .fin .stop) .stop)) .stop)) (.alt 6 (.one 0 (.one 1 (.alt 7 (.alt 8 .fin .stop) .stop))) .stop))) .stop))) (.alt 5 (.alt 0 (.alt 1 (.alt 3 (.alt 6 (.alt 7 (.alt 8 .fin .stop) .stop) .stop) .stop) (.alt 3 (.alt 1 (.alt 6 (.alt 7 (.alt 8 .fin .stop) .stop) .stop) (.alt 6 (.one 1 (.alt 7 (.alt 8 .fin .stop) .stop)) .stop)) .stop)) (.alt 1 (.alt 0 (.alt 3 (.alt 6 (.alt 7 (.alt 8 .fin .stop) .stop) .stop) .stop) (.alt 3 (.alt 0 (.alt 6 (.alt 7 (.alt 8 .fin .stop) .stop) .stop) (.alt 6 (.one 0 (.alt 7 (.alt 8 .fin .stop) .stop)) .stop)) .stop)) (.alt 3 (.alt 0 (.alt 1 (.alt 6 (.alt 7 (.alt 8 .fin .stop) .stop) .stop) (.alt 6 (.one 1 (.alt 7 (.alt 8 .fin .stop) .stop)) .stop)) (.alt 1 (.alt 0 (.alt 6 (.alt 7 (.alt 8 .fin .stop) .stop) .stop) (.alt 6 (.one 0 (.alt 7 (.alt 8 .fin .stop) .stop)) .stop)) (.alt 6 (.one 0 (.one 1 (.alt 7 (.alt 8 .fin .stop) .stop))) .stop))) .stop))) .stop)))) .stop)))) (.alt 4 (.alt 0 (.alt 1 (.alt 2 (.alt 3 (.alt 5 (.alt 6 (.alt 7 (.alt 8 .fin .stop) .stop) .stop) .stop) (.alt 5 (.alt 3 (.alt 6 (.alt 7 (.alt 8 .fin .stop) .stop) .stop) .stop) .stop)) (.alt 5 (.one 2 (.alt 3 (.alt 6 (.alt 7 (.alt 8 .fin .stop) .stop) .stop) .stop)) .stop)) (.alt 2 (.alt 1 (.alt 3 (.alt 5 (.alt 6 (.alt 7 (.alt 8 .fin .stop) .stop) .stop) .stop) (.alt 5 (.alt 3 (.alt 6 (.alt 7 (.alt 8 .fin .stop) .stop) .stop) .stop) .stop)) (.alt 3 (.alt 1 (.alt 5 (.alt 6 (.alt 7 (.alt 8 .fin .stop) .stop) .stop) .stop) (.alt 5 (.alt 1 (.alt 6 (.alt 7 (.alt 8 .fin .stop) .stop) .stop) (.alt 6 (.one 1 (.alt 7 (.alt 8 .fin .stop) .stop)) .stop)) .stop)) (.alt 5 (.alt 1 (.alt 3 (.alt 6 (.alt 7 (.alt 8 .fin .stop) .stop) .stop) .stop) (.alt 3 (.alt 1 (.alt 6 (.alt 7 (.alt 8 .fin .stop) .stop) .stop) (.alt 6 (.one 1 (.alt 7 (.alt 8 .fin .stop) .stop)) .stop)) .stop)) .stop))) (.alt 5 (.one 2 (.alt 1 (.alt 3 (.alt 6 (.alt 7 (.alt 8 .fin .stop) .stop) .stop) .stop) (.alt 3 (.alt 1 (.alt 6 (.alt 7 (.alt 8 .fin .stop) .stop) .stop) (.alt 6 (.one 1 (.alt 7 (.alt 8 .fin .stop) .stop)) .stop)) .stop))) .stop))) (.alt 1 (.alt 0 (.alt 2 (.alt 3 (.alt 5 (.alt 6 (.alt 7 (.alt 8 .fin .stop) .stop) .stop) .stop) (.alt 5 (.alt 3 (.alt 6 (.alt 7 (.alt 8 .fin .stop) .stop) .stop) .stop) .stop)) (.alt 5 (.one 2 (.alt 3 (.alt 6 (.alt 7 (.alt 8 .fin .stop) .stop) .stop) .stop)) .stop)) (.alt 2 (.alt 0 (.alt 3 (.alt 5 (.alt 6 (.alt 7 (.alt 8 .fin .stop) .stop) .stop) .stop) (.alt 5 (.alt 3 (.alt 6 (.alt 7 (.alt 8 .fin .stop) .stop) .stop) .stop) .stop)) (.alt 3 (.alt 0 (.alt 5 (.alt 6 (.alt 7 (.alt 8 .fin .stop) .stop) .stop) .stop) (.alt 5 (.alt 0 (.alt 6 (.alt 7 (.alt 8 .fin .stop) .stop) .stop) (.alt 6 (.one 0 (.alt 7 (.alt 8 .fin .stop) .stop)) .stop)) .stop)) (.alt 5 (.alt 0 (.alt 3 (.alt 6 (.alt 7 (.alt 8 .fin .stop) .stop) .stop) .stop) (.alt 3 (.alt 0 (.alt 6 (.alt 7 (.alt 8 .fin .stop) .stop) .stop) (.alt 6 (.one 0 (.alt 7 (.alt 8 .fin .stop) .stop)) .stop)) .stop)) .stop))) (.alt 5 (.one 2 (.alt 0 (.alt 3 (.alt 6 (.alt 7 (.alt 8 .fin .stop) .stop) .stop) .stop) (.alt 3 (.alt 0 (.alt 6 (.alt 7 (.alt 8 .fin .stop) .stop) .stop) (.alt 6 (.one 0 (.alt 7 (.alt 8 .fin .stop) .stop)) .stop)) .stop))) .stop))) (.alt 2 (.alt 0 (.alt 1 (.alt 3 (.alt 5 (.alt 6 (.alt 7 (.alt 8 .fin .stop) .stop) .stop) .stop) (.alt 5 (.alt 3 (.alt 6 (.alt 7 (.alt 8 .fin .stop) .stop) .stop) .stop) .stop)) (.alt 3 (.alt 1 (.alt 5 (.alt 6 (.alt 7 (.alt 8 .fin .stop) .stop) .stop) .stop) (.alt 5 (.alt 1 (.alt 6 (.alt 7 (.alt 8 .fin .stop) .stop) .stop) (.alt 6 (.one 1 (.alt 7 (.alt 8 .fin .stop) .stop)) .stop)) .stop)) (.alt 5 (.alt 1 (.alt 3 (.alt 6 (.alt 7 (.alt 8 .fin .stop) .stop) .stop) .stop) (.alt 3 (.alt 1 (.alt 6 (.alt 7 (.alt 8 .fin .stop) .stop) .stop) (.alt 6 (.one 1 (.alt 7 (.alt 8 .fin .stop) .stop)) .stop)) .stop)) .stop))) (.alt 1 (.alt 0 (.alt 3 (.alt 5 (.alt 6 (.alt 7 (.alt 8 .fin .stop) .stop) .stop) .stop) (.alt 5 (.alt 3 (.alt 6 (.alt 7 (.alt 8 .fin .stop) .stop) .stop) .stop) .stop)) (.alt 3 (.alt 0 (.alt 5 (.alt 6 (.alt 7 (.alt 8 .fin .stop) .stop) .stop) .stop) (.alt 5 (.alt 0 (.alt 6 (.alt 7 (.alt 8 .fin .stop) .stop) .stop) (.alt 6 (.one 0 (.alt 7 (.alt 8 .fin .stop) .stop)) .stop)) .stop)) (.alt 5 (.alt 0 (.alt 3 (.alt 6 (.alt 7 (.alt 8 .fin .stop) .stop) .stop) .stop) (.alt 3 (.alt 0 (.alt 6 (.alt 7 (.alt 8 .fin .stop) .stop) .stop) (.alt 6 (.one 0 (.alt 7 (.alt 8 .fin .stop) .stop)) .stop)) .stop)) .stop))) (.alt 3 (.alt 0 (.alt 1 (.alt 5 (.alt 6 (.alt 7 (.alt 8 .fin .stop) .stop) .stop) .stop) (.alt 5 (.alt 1 (.alt 6 (.alt 7 (.alt 8 .fin .stop) .stop) .stop) (.alt 6 (.one 1 (.alt 7 (.alt 8 .fin .stop) .stop)) .stop)) .stop)) (.alt 1 (.alt 0 (.alt 5 (.alt 6 (.alt 7 (.alt 8 .fin .stop) .stop) .stop) .stop) (.alt 5 (.alt 0 (.alt 6 (.alt 7 (.alt 8 .fin .stop) .stop) .stop) (.alt 6 (.one 0 (.alt 7 (.alt 8 .fin .stop) .stop)) .stop)) .stop)) (.alt 5 (.alt 0 (.alt 1 (.alt 6 (.alt 7 (.alt 8 .fin .stop) .stop) .stop) (.alt 6 (.one 1 (.alt 7 (.alt 8 .fin .stop) .stop)) .stop)) (.alt 1 (.alt 0 (.alt 6 (.alt 7 (.alt 8 .fin .stop) .stop) .stop) (.alt 6 (.one 0 (.alt 7 (.alt 8 .fin .stop) .stop)) .stop)) (.alt 6 (.one 0 (.one 1 (.alt 7 (.alt 8 .fin .stop) .stop))) .stop))) .stop))) (.alt 5 (.alt 0 (.alt 1 (.alt 3 (.alt 6 (.alt 7 (.alt 8 .fin .stop) .stop) .stop) .stop) (.alt 3 (.alt 1 (.alt 6 (.alt 7 (.alt 8 .fin .stop) .stop) .stop) (.alt 6 (.one 1 (.alt 7 (.alt 8 .fin .stop) .stop)) .stop)) .stop)) (.alt 1 (.alt 0 (.alt 3 (.alt 6 (.alt 7 (.alt 8 .fin .stop) .stop) .stop) .stop) (.alt 3 (.alt 0 (.alt 6 (.alt 7 (.alt 8 .fin .stop) .stop) .stop) (.alt 6 (.one 0 (.alt 7 (.alt 8 .fin .stop) .stop)) .stop)) .stop)) (.alt 3 (.alt 0 (.alt 1 (.alt 6 (.alt 7 (.alt 8 .fin .stop) .stop) .stop) (.alt 6 (.one 1 (.alt 7 (.alt 8 .fin .stop) .stop)) .stop)) (.alt 1 (.alt 0 (.alt 6 (.alt 7 (.alt 8 .fin .stop) .stop) .stop) (.alt 6 (.one 0 (.alt 7 (.alt 8 .fin .stop) .stop)) .stop)) (.alt 6 (.one 0 (.one 1 (.alt 7 (.alt 8 .fin .stop) .stop))) .stop))) .stop))) .stop)))) (.alt 5 (.one 2 (.alt 0 (.alt 1 (.alt 3 (.alt 6 (.alt 7 (.alt 8 .fin .stop) .stop) .stop) .stop) (.alt 3 (.alt 1 (.alt 6 (.alt 7 (.alt 8 .fin .stop) .stop) .stop) (.alt 6 (.one 1 (.alt 7 (.alt 8 .fin .stop) .stop)) .stop)) .stop)) (.alt 1 (.alt 0 (.alt 3 (.alt 6 (.alt 7 (.alt 8 .fin .stop) .stop) .stop) .stop) (.alt 3 (.alt 0 (.alt 6 (.alt 7 (.alt 8 .fin .stop) .stop) .stop) (.alt 6 (.one 0 (.alt 7 (.alt 8 .fin .stop) .stop)) .stop)) .stop)) (.alt 3 (.alt 0 (.alt 1 (.alt 6 (.alt 7 (.alt 8 .fin .stop) .stop) .stop) (.alt 6 (.one 1 (.alt 7 (.alt 8 .fin .stop) .stop)) .stop)) (.alt 1 (.alt 0 (.alt 6 (.alt 7 (.alt 8 .fin .stop) .stop) .stop) (.alt 6 (.one 0 (.alt 7 (.alt 8 .fin .stop) .stop)) .stop)) (.alt 6 (.one 0 (.one 1 (.alt 7 (.alt 8 .fin .stop) .stop))) .stop))) .stop)))) .stop)))) .stop)))) ⟨[(2, .l1 p), (3, .bptr 0 0), (4, .bptr 1 0), (6, .bptr 2 0), (7, .int n), (9, .int x)], [(0, .bx [.l3 a]), (1, .bx [.l3 (ordS (visS a) n d (p ++ [(x : Int)]) Mx)]), (2, .bx [.nil])]⟩ (fix0 hcx) mixed (by kernel_rfl) (fun K hK => ?_) ?_
          · simp only [go_sem, seval, pl_fin, pl_stop, pl_one, pl_alt, PK_ap, pickO, List.getElem?_toArray, List.getElem?_cons_zero, List.getElem?_cons_succ, Option.getD_some, and_true, true_and, and_self, List.contains_cons, List.contains_nil, Bool.or_false, Bool.or_true]
            repeat' (first | exact hK _ (by refine And.intro ?_ rfl; simp only [SlotsLe, St.get, slotGet, Nat.reduceEqDiff, ↓reduceIte, AV.int.injEq, AV.bool.injEq, AV.l1.injEq, AV.l2.injEq, AV.l3.injEq, true_and, and_true])  | omega | refine And.intro ?_ ?_ | (refine fcall_own rfl (hw) rfl ?_; simp only [go_sem, seval, pl_fin, pl_stop, pl_one, pl_alt, PK_ap, pickO, List.getElem?_toArray, List.getElem?_cons_zero, List.getElem?_cons_succ, Option.getD_some, and_true, true_and, and_self, List.contains_cons, List.contains_nil, Bool.or_false, Bool.or_true]) | ((refine fcall_gone [3, 4] ih (by simp [frzAs, frzA, find]) rfl ?_; simp only [go_sem, seval, pl_fin, pl_stop, pl_one, pl_alt, PK_ap, pickO, List.getElem?_toArray, List.getElem?_cons_zero, List.getElem?_cons_succ, Option.getD_some, and_true, true_and, and_self, List.contains_cons, List.contains_nil, Bool.or_false, Bool.or_true])))
          (repeat refine ats_seq ?_); refine ats_go (by first | exact fix0 hcx | exact fix1 hcx rfl) fun K hK => ?_; simp only [go_sem, seval]; (repeat refine And.intro (by first | omega | (intro hq; first | omega | (simp at hq <;> omega) | (simp_all <;> omega))) ?_); refine hK _ ?_; clear hK K
          refine ⟨x + 1,  by omega, by omega, .inl ⟨by simp only [SlotsLe, St.get, slotGet, Nat.reduceEqDiff, ↓reduceIte, AV.int.injEq, AV.bool.injEq, AV.l1.injEq, AV.l2.injEq, AV.l3.injEq, true_and, and_true]; omega,  by rw [e3]⟩⟩
        · have hyes : hasI p x = true := by
            unfold hasI
            simpa only [Bool.not_eq_false'] using h3
          have e3 : ordF (visS a) n d p M (x + 1) = Mx := by rw [ordF_step, if_pos hyes, es]
          refine ats_skip ?_
          (repeat refine ats_seq ?_); refine ats_go (by first | exact fix0 hcx | exact fix1 hcx rfl) fun K hK => ?_; simp only [go_sem, seval]; (repeat refine And.intro (by first | omega | (intro hq; first | omega | (simp at hq <;> omega) | (simp_all <;> omega))) ?_); refine hK _ ?_; clear hK K
          refine ⟨x + 1,  by omega, by omega, .inl ⟨by simp only [SlotsLe, St.get, slotGet, Nat.reduceEqDiff, ↓reduceIte, AV.int.injEq, AV.bool.injEq, AV.l1.injEq, AV.l2.injEq, AV.l3.injEq, true_and, and_true]; omega,  by rw [e3]⟩⟩
      · obtain rfl : x = n := by omega
        rw [es]
        refine ats_exit (lq_x ?_)
        (repeat refine ats_seq ?_); refine ats_go (by first | exact fix0 hcx | exact fix1 hcx rfl) fun K hK => ?_; simp only [go_sem, seval]; (repeat refine And.intro (by first | omega | (intro hq; first | omega | (simp at hq <;> omega) | (simp_all <;> omega))) ?_); refine hK _ ?_; clear hK K
        exact ats_ret (finC (v := .agg [.l3 Mx]) (by simp only [go_sem, seval]) rfl)
end Go.Proofs.Ytkkgmjclfclaoaa
