/-
  Isomorphisms of actions in the reference.
-/
import Derived.Test.YtbddekioaigbhaaGs
import Derived.Test.YtbddekioaigbhaaGq
import Derived.Test.YtbddekioaigbhaaWn
import Derived.Test.YtbddekioaigbhaaDr
import Derived.Test.YtbddekioaigbhaaDc
set_option linter.unusedSimpArgs false
set_option linter.unusedVariables false
namespace Go.Proofs.Ytbddekioaigbhaa
open Go Go.Aw Go.Pl

def mpA (r : Option (List Int)) : AV := match r with
  | none => .nil
  | some q => .l1 q
theorem mapsA_len {k n : Nat} {a b : List (List (List Int))} : ∀ d p q, mapsA k n a b d p = some q → q.length = p.length + d
  | 0, p, q, h => by
    rw [mapsA] at h
    cases h
    rfl
  | d + 1, p, q, h => by
    rw [mapsA] at h
    split at h
    · cases h
    · obtain ⟨y, _, hy⟩ := List.exists_of_findSome?_eq_some h
      split at hy
      · cases hy
      · split at hy
        · have := mapsA_len d _ _ hy
          simp at this
          omega
        · cases hy

set_option maxRecDepth 20000 in
set_option maxHeartbeats 16000000 in
theorem l09Maps_ok (k n : Nat) (a b : List (List (List Int))) (ha : ∀ i, i < k → MatOk n (a.getD i [])) (la : a.length = k) (hb : ∀ i, i < k → MatOk n (b.getD i [])) (lb : b.length = k) (hk : 0 < k) (hk16 : k ≤ 16) (en : (a.getD 0 []).length = n) (en' : (b.getD 0 []).length = n) (h1n : 1 ≤ n) (hn16 : n ≤ 16) : ∀ d p, p.length + d = n → QOk n p →
    PureCall Try.prog 33 [.agg [.l3 a], .agg [.l3 b], .l1 p] (mpA (mapsA k n a b d p)) := by
  intro d
  induction d with
  | zero =>
    intro p hl hq
    have hsz := l09Size_ok a (by omega)
    rw [en] at hsz
    rw [mapsA]
    refine PureCall.intro (n := 67) (rs := [.tmp 6]) Try.call33 Try.func33 rfl rfl rfl (by simp only [List.length_cons, List.length_nil]; omega) (fun cx hcx => ats_of ?_); simp only [argSlots, Nat.zero_add, Nat.reduceAdd]
    (repeat refine ats_seq ?_); refine ats_go (by first | exact fix0 hcx | exact fix1 hcx rfl) fun K hK => ?_; simp only [go_sem, seval]; (repeat refine And.intro (by first | omega | (intro hq; first | omega | (simp at hq <;> omega) | (simp_all <;> omega))) ?_); refine hK _ ?_; clear hK K
    (repeat refine ats_seq ?_); refine ats_go (by first | exact fix0 hcx | exact fix1 hcx rfl) fun K hK => ?_; simp only [go_sem, seval]
    first | refine fcall_data (hsz) rfl ?_ | refine YR_intro (acall_data (hsz) rfl) ?_
    simp only [go_sem, seval]
    (repeat refine And.intro (by first | omega | (intro hq; first | omega | (simp at hq <;> omega) | (simp_all <;> omega))) ?_)
    refine hK _ ?_; clear hK K
    (repeat refine ats_seq ?_); refine ats_go (by first | exact fix0 hcx | exact fix1 hcx rfl) fun K hK => ?_; simp only [go_sem, seval]; (repeat refine And.intro (by first | omega | (intro hq; first | omega | (simp at hq <;> omega) | (simp_all <;> omega))) ?_); refine hK _ ?_; clear hK K
    (repeat refine ats_seq ?_); first | refine ats_ifn (p := _) rfl trivial (fun h1 => ?_) (fun h1 => ?_) | refine ats_ifp (p := _) rfl trivial (fun h1 => ?_) (fun h1 => ?_) | refine ats_cond rfl trivial (fun h1 => ?_) (fun h1 => ?_)
    · (repeat refine ats_seq ?_); refine ats_go (by first | exact fix0 hcx | exact fix1 hcx rfl) fun K hK => ?_; simp only [go_sem, seval]; (repeat refine And.intro (by first | omega | (intro hq; first | omega | (simp at hq <;> omega) | (simp_all <;> omega))) ?_); refine hK _ ?_; clear hK K
      exact ats_ret (finV rfl ⟨rfl, trivial⟩ rfl)
    · omega
  | succ d ih =>
    intro p hl hq
    have hsz := l09Size_ok a (by omega)
    rw [en] at hsz
    have hmk := l09Marks_ok k n a b p ha la hb lb hk hk16 en en' h1n hn16 hq (by omega)
    have hcol := fun f' g' h => refG_col (fun f x => lookM_SL k n (a := a) (f := f) (x := x)) (fun f x => lookM_SL k n (a := b) (f := f) (x := x)) hn16 (2 * n + 2) 0 (i1 n p) (i2 n p) f' g' (i_ok hn16 (by omega)).1 (i_ok hn16 (by omega)).2 h
    rw [mapsA]
    refine PureCall.intro (n := 67) (rs := [.tmp 6]) Try.call33 Try.func33 rfl rfl rfl (by simp only [List.length_cons, List.length_nil]; omega) (fun cx hcx => ats_of ?_); simp only [argSlots, Nat.zero_add, Nat.reduceAdd]
    (repeat refine ats_seq ?_); refine ats_go (by first | exact fix0 hcx | exact fix1 hcx rfl) fun K hK => ?_; simp only [go_sem, seval]; (repeat refine And.intro (by first | omega | (intro hq; first | omega | (simp at hq <;> omega) | (simp_all <;> omega))) ?_); refine hK _ ?_; clear hK K
    (repeat refine ats_seq ?_); refine ats_go (by first | exact fix0 hcx | exact fix1 hcx rfl) fun K hK => ?_; simp only [go_sem, seval]
    first | refine fcall_data (hsz) rfl ?_ | refine YR_intro (acall_data (hsz) rfl) ?_
    simp only [go_sem, seval]
    (repeat refine And.intro (by first | omega | (intro hq; first | omega | (simp at hq <;> omega) | (simp_all <;> omega))) ?_)
    refine hK _ ?_; clear hK K
    (repeat refine ats_seq ?_); refine ats_go (by first | exact fix0 hcx | exact fix1 hcx rfl) fun K hK => ?_; simp only [go_sem, seval]; (repeat refine And.intro (by first | omega | (intro hq; first | omega | (simp at hq <;> omega) | (simp_all <;> omega))) ?_); refine hK _ ?_; clear hK K
    (repeat refine ats_seq ?_); first | refine ats_ifn (p := _) rfl trivial (fun h1 => ?_) (fun h1 => ?_) | refine ats_ifp (p := _) rfl trivial (fun h1 => ?_) (fun h1 => ?_) | refine ats_cond rfl trivial (fun h1 => ?_) (fun h1 => ?_)
    · omega
    · refine ats_skip ?_
      cases hr : refG n (lookM k n a) (lookM k n b) (2 * n + 2) 0 (i1 n p) (i2 n p) with
      | none =>
        rw [hr] at hmk
        simp only [mkA] at hmk
        simp only
        (repeat refine ats_seq ?_); refine ats_go (by first | exact fix0 hcx | exact fix1 hcx rfl) fun K hK => ?_; simp only [go_sem, seval]
        first | refine fcall_data (hmk) rfl ?_ | refine YR_intro (acall_data (hmk) rfl) ?_
        simp only [go_sem, seval]
        (repeat refine And.intro (by first | omega | (intro hq; first | omega | (simp at hq <;> omega) | (simp_all <;> omega))) ?_)
        refine hK _ ?_; clear hK K
        (repeat refine ats_seq ?_); refine ats_go (by first | exact fix0 hcx | exact fix1 hcx rfl) fun K hK => ?_; simp only [go_sem, seval]; (repeat refine And.intro (by first | omega | (intro hq; first | omega | (simp at hq <;> omega) | (simp_all <;> omega))) ?_); refine hK _ ?_; clear hK K
        (repeat refine ats_seq ?_); refine ats_yes rfl trivial ?_
        (repeat refine ats_seq ?_); refine ats_go (by first | exact fix0 hcx | exact fix1 hcx rfl) fun K hK => ?_; simp only [go_sem, seval]; (repeat refine And.intro (by first | omega | (intro hq; first | omega | (simp at hq <;> omega) | (simp_all <;> omega))) ?_); refine hK _ ?_; clear hK K
        exact ats_ret (finV rfl ⟨rfl, trivial⟩ rfl)
      | some fg =>
        obtain ⟨f, g⟩ := fg
        obtain ⟨hf, hg⟩ := hcol f g hr
        have lf := hf.1
        have lg := hg.1
        rw [hr] at hmk
        simp only [mkA] at hmk
        simp only
        obtain ⟨E, hE⟩ : ∃ E : Nat → Option (List Int), E = fun z => (List.range z).findSome? fun (y : Nat) => if hasI p y = true ∨ f.getD p.length 0 ≠ g.getD y 0 then none else if bd (OkA k a b p y) = true then mapsA k n a b d (p ++ [(y : Int)]) else none := ⟨_, rfl⟩
        have hEs : ∀ y, E (y + 1) = (E y).or (if hasI p y = true ∨ f.getD p.length 0 ≠ g.getD y 0 then none else if bd (OkA k a b p y) = true then mapsA k n a b d (p ++ [(y : Int)]) else none) := fun y => by
          rw [hE]
          have key : ∀ F : Nat → Option (List Int), (List.range (y + 1)).findSome? F = ((List.range y).findSome? F).or (F y) := fun F => by
            rw [List.range_succ, List.findSome?_append]
            congr 1
            rw [List.findSome?_cons]
            cases F y <;> rfl
          exact key _
        have hEm : ∀ y q, E y = some q → ∀ z, E (y + z) = some q := fun y q h z => by
          induction z with
          | zero => exact h
          | succ z ih => rw [← Nat.add_assoc, hEs, ih]; rfl
        show ATs _ _ _ _ (fun e st => Aw.Ends e ∧ ∃ v, resL Try.prog st [.tmp 6] v ∧ view1 st.H v = some (mpA ((List.range n).findSome? fun (y : Nat) => if hasI p y = true ∨ f.getD p.length 0 ≠ g.getD y 0 then none else if bd (OkA k a b p y) = true then mapsA k n a b d (p ++ [(y : Int)]) else none))) _
        have hEn : ((List.range n).findSome? fun (y : Nat) => if hasI p y = true ∨ f.getD p.length 0 ≠ g.getD y 0 then none else if bd (OkA k a b p y) = true then mapsA k n a b d (p ++ [(y : Int)]) else none) = E n := by rw [hE]
        rw [hEn]
        (repeat refine ats_seq ?_); refine ats_go (by first | exact fix0 hcx | exact fix1 hcx rfl) fun K hK => ?_; simp only [go_sem, seval]
        first | refine fcall_data (hmk) rfl ?_ | refine YR_intro (acall_data (hmk) rfl) ?_
        simp only [go_sem, seval]
        (repeat refine And.intro (by first | omega | (intro hq; first | omega | (simp at hq <;> omega) | (simp_all <;> omega))) ?_)
        refine hK _ ?_; clear hK K
        (repeat refine ats_seq ?_); refine ats_go (by first | exact fix0 hcx | exact fix1 hcx rfl) fun K hK => ?_; simp only [go_sem, seval]; (repeat refine And.intro (by first | omega | (intro hq; first | omega | (simp at hq <;> omega) | (simp_all <;> omega))) ?_); refine hK _ ?_; clear hK K
        (repeat refine ats_seq ?_); refine ats_no rfl trivial ?_
        refine ats_skip ?_
        (repeat refine ats_seq ?_); refine ats_go (by first | exact fix0 hcx | exact fix1 hcx rfl) fun K hK => ?_; simp only [go_sem, seval]; (repeat refine And.intro (by first | omega | (intro hq; first | omega | (simp at hq <;> omega) | (simp_all <;> omega))) ?_); refine hK _ ?_; clear hK K
        (repeat refine ats_seq ?_); refine ats_loop (fun y : Nat => ⟨[(2, .l1 p), (3, .bptr 0 0), (4, .bptr 1 0), (7, .int n), (8, .l2 [f, g]), (9, .int y)], [(0, .bx [.l3 a]), (1, .bx [.l3 b])]⟩) (fun y => y ≤ n ∧ E y = none) (fun y => n - y) 0 ⟨Nat.zero_le _, by rw [hE]; rfl⟩ (by
          refine And.intro ?_ rfl; simp only [SlotsLe, St.get, slotGet, Nat.reduceEqDiff, ↓reduceIte, AV.int.injEq, AV.bool.injEq, AV.l1.injEq, AV.l2.injEq, AV.l3.injEq, true_and, and_true]
          try rfl) (fun y hy => ?_)
        obtain ⟨hy, hEy⟩ := hy
        have hEy1 := hEs y
        rw [hEy, Option.none_or] at hEy1
        (repeat refine ats_seq ?_); refine ats_go (by first | exact fix0 hcx | exact fix1 hcx rfl) fun K hK => ?_; simp only [go_sem, seval]; (repeat refine And.intro (by first | omega | (intro hq; first | omega | (simp at hq <;> omega) | (simp_all <;> omega))) ?_); refine hK _ ?_; clear hK K
        (repeat refine ats_seq ?_); first | refine ats_ifn (p := _) rfl trivial (fun h2 => ?_) (fun h2 => ?_) | refine ats_ifp (p := _) rfl trivial (fun h2 => ?_) (fun h2 => ?_) | refine ats_cond rfl trivial (fun h2 => ?_) (fun h2 => ?_)
        · have hh := l01Has_ok p y
          refine ats_skip ?_
          (repeat refine ats_seq ?_); refine ats_block ?_
          (repeat refine ats_seq ?_); refine ats_pick (fix0 hcx) mixed (by kernel_rfl) fun K hK => ?_; simp only [go_sem, seval]
          (repeat refine And.intro (by first | omega | (intro hq; first | omega | (simp at hq <;> omega) | (simp_all <;> omega))) ?_)
          first | refine fcall_data (hh) rfl ?_ | refine YR_intro (acall_data (hh) rfl) ?_
          simp only [go_sem, seval]
          (repeat refine And.intro (by first | omega | (intro hq; first | omega | (simp at hq <;> omega) | (simp_all <;> omega))) ?_)
          refine hK _ ?_; clear hK K
          (repeat refine ats_seq ?_); first | refine ats_ifn (p := _) rfl trivial (fun h3 => ?_) (fun h3 => ?_) | refine ats_ifp (p := _) rfl trivial (fun h3 => ?_) (fun h3 => ?_) | refine ats_cond rfl trivial (fun h3 => ?_) (fun h3 => ?_)
          · have hcond : hasI p y = true ∨ f.getD p.length 0 ≠ g.getD y 0 := by
              unfold hasI
              simp only [Bool.or_eq_true, Bool.or_eq_false_iff, Bool.and_eq_true, Bool.and_eq_false_iff, decide_eq_true_eq, decide_eq_false_iff_not, Bool.not_eq_true', Bool.not_eq_false'] at h3
              exact h3
            rw [if_pos hcond] at hEy1
            refine ats_exit (bq_x ?_)
            (repeat refine ats_seq ?_); refine ats_go (by first | exact fix0 hcx | exact fix1 hcx rfl) fun K hK => ?_; simp only [go_sem, seval]; (repeat refine And.intro (by first | omega | (intro hq; first | omega | (simp at hq <;> omega) | (simp_all <;> omega))) ?_); refine hK _ ?_; clear hK K
            refine ⟨y + 1,  ⟨by omega, hEy1⟩, by omega, .inl ⟨by simp only [SlotsLe, St.get, slotGet, Nat.reduceEqDiff, ↓reduceIte, AV.int.injEq, AV.bool.injEq, AV.l1.injEq, AV.l2.injEq, AV.l3.injEq, true_and, and_true]; (try omega),  rfl⟩⟩
          · have hcond : ¬ (hasI p y = true ∨ f.getD p.length 0 ≠ g.getD y 0) := fun h => by
              unfold hasI at h
              simp only [Bool.or_eq_false_iff, Bool.not_eq_false', decide_eq_true_eq] at h3
              rcases h with h | h
              · rw [h3.1] at h; cases h
              · exact h h3.2
            rw [if_neg hcond] at hEy1
            have hno : hasI p y = false := by
              cases c : hasI p y with
              | false => rfl
              | true => exact absurd (.inl c) hcond
            have hw := l01Own_ok p (by omega)
            have hfit := l09Fits_ok k n p.length a b (p ++ [(y : Int)]) ha hb la lb (hq.app (QOk.one (show y < n by omega))) (by simp) (by omega) hn16 hk16
            have ihy := ih (p ++ [(y : Int)]) (by simp; omega) (hq.app (QOk.one (show y < n by omega)))
            refine ats_skip ?_
            (repeat refine ats_seq ?_); refine ats_go (by first | exact fix0 hcx | exact fix1 hcx rfl) fun K hK => ?_; simp only [go_sem, seval]
            refine fcall_own rfl (hw) rfl ?_; simp only [go_sem, seval]
            (repeat refine And.intro (by first | omega | (intro hq; first | omega | (simp at hq <;> omega) | (simp_all <;> omega))) ?_)
            refine hK _ ?_; clear hK K
            (repeat refine ats_seq ?_); refine AT.ghost (ghost_frz [2, 3]) ?_; simp only [frzV, find, killA, killAs, qOf, rmT, killH, killT, List.map_cons, List.map_nil, List.filter_cons, List.filter_nil, List.contains_cons, List.contains_nil, Bool.or_false, Bool.or_true, Bool.false_and, Bool.not_true, Bool.not_false, Bool.false_eq_true, if_true, if_false, seval]
            (repeat refine ats_seq ?_); refine ats_go (by first | exact fix0 hcx | exact fix1 hcx rfl) fun K hK => ?_; simp only [go_sem, seval]
            first | refine fcall_data (hfit) rfl ?_ | refine YR_intro (acall_data (hfit) rfl) ?_
            simp only [go_sem, seval]
            (repeat refine And.intro (by first | omega | (intro hq; first | omega | (simp at hq <;> omega) | (simp_all <;> omega))) ?_)
            refine hK _ ?_; clear hK K
            by_cases c : fitsP k p.length a b (p ++ [(y : Int)])
            · have hok : OkA k a b p y := okA_iff.2 ⟨hno, c⟩
              rw [bd_true c]
              rw [if_pos (bd_true hok)] at hEy1
              (repeat refine ats_seq ?_); refine ats_yes rfl trivial ?_
              cases hm : mapsA k n a b d (p ++ [(y : Int)]) with
              | none =>
                rw [hm] at ihy hEy1
                simp only [mpA] at ihy
                (repeat refine ats_seq ?_); refine ats_go (by first | exact fix0 hcx | exact fix1 hcx rfl) fun K hK => ?_; simp only [go_sem, seval]
                first | refine fcall_data (ihy) rfl ?_ | refine YR_intro (acall_data (ihy) rfl) ?_
                simp only [go_sem, seval]
                (repeat refine And.intro (by first | omega | (intro hq; first | omega | (simp at hq <;> omega) | (simp_all <;> omega))) ?_)
                refine hK _ ?_; clear hK K
                (repeat refine ats_seq ?_); refine ats_go (by first | exact fix0 hcx | exact fix1 hcx rfl) fun K hK => ?_; simp only [go_sem, seval]; (repeat refine And.intro (by first | omega | (intro hq; first | omega | (simp at hq <;> omega) | (simp_all <;> omega))) ?_); refine hK _ ?_; clear hK K
                (repeat refine ats_seq ?_); refine ats_no rfl trivial ?_
                refine ats_skip ?_
                (repeat refine ats_seq ?_); refine ats_go (by first | exact fix0 hcx | exact fix1 hcx rfl) fun K hK => ?_; simp only [go_sem, seval]; (repeat refine And.intro (by first | omega | (intro hq; first | omega | (simp at hq <;> omega) | (simp_all <;> omega))) ?_); refine hK _ ?_; clear hK K
                refine ⟨y + 1,  ⟨by omega, hEy1⟩, by omega, .inl ⟨by simp only [SlotsLe, St.get, slotGet, Nat.reduceEqDiff, ↓reduceIte, AV.int.injEq, AV.bool.injEq, AV.l1.injEq, AV.l2.injEq, AV.l3.injEq, true_and, and_true]; (try omega),  rfl⟩⟩
              | some q =>
                rw [hm] at ihy hEy1
                simp only [mpA] at ihy
                have lq := mapsA_len d _ q hm
                simp only [List.length_append, List.length_cons, List.length_nil] at lq
                have hfin : E n = some q := by
                  have := hEm (y + 1) q hEy1 (n - (y + 1))
                  rw [show y + 1 + (n - (y + 1)) = n by omega] at this
                  exact this
                rw [hfin]
                (repeat refine ats_seq ?_); refine ats_go (by first | exact fix0 hcx | exact fix1 hcx rfl) fun K hK => ?_; simp only [go_sem, seval]
                first | refine fcall_data (ihy) rfl ?_ | refine YR_intro (acall_data (ihy) rfl) ?_
                simp only [go_sem, seval]
                (repeat refine And.intro (by first | omega | (intro hq; first | omega | (simp at hq <;> omega) | (simp_all <;> omega))) ?_)
                refine hK _ ?_; clear hK K
                (repeat refine ats_seq ?_); refine ats_go (by first | exact fix0 hcx | exact fix1 hcx rfl) fun K hK => ?_; simp only [go_sem, seval]; (repeat refine And.intro (by first | omega | (intro hq; first | omega | (simp at hq <;> omega) | (simp_all <;> omega))) ?_); refine hK _ ?_; clear hK K
                (repeat refine ats_seq ?_); first | refine ats_ifn (p := _) rfl trivial (fun h5 => ?_) (fun h5 => ?_) | refine ats_ifp (p := _) rfl trivial (fun h5 => ?_) (fun h5 => ?_) | refine ats_cond rfl trivial (fun h5 => ?_) (fun h5 => ?_)
                · (repeat refine ats_seq ?_); refine ats_go (by first | exact fix0 hcx | exact fix1 hcx rfl) fun K hK => ?_; simp only [go_sem, seval]; (repeat refine And.intro (by first | omega | (intro hq; first | omega | (simp at hq <;> omega) | (simp_all <;> omega))) ?_); refine hK _ ?_; clear hK K
                  exact ats_ret (finV rfl ⟨rfl, trivial⟩ rfl)
                · omega
            · have hok : ¬ OkA k a b p y := fun h => c (okA_iff.1 h).2
              rw [bd_false c]
              rw [if_neg (by rw [bd_false hok]; decide)] at hEy1
              (repeat refine ats_seq ?_); refine ats_no rfl trivial ?_
              refine ats_skip ?_
              (repeat refine ats_seq ?_); refine ats_go (by first | exact fix0 hcx | exact fix1 hcx rfl) fun K hK => ?_; simp only [go_sem, seval]; (repeat refine And.intro (by first | omega | (intro hq; first | omega | (simp at hq <;> omega) | (simp_all <;> omega))) ?_); refine hK _ ?_; clear hK K
              refine ⟨y + 1,  ⟨by omega, hEy1⟩, by omega, .inl ⟨by simp only [SlotsLe, St.get, slotGet, Nat.reduceEqDiff, ↓reduceIte, AV.int.injEq, AV.bool.injEq, AV.l1.injEq, AV.l2.injEq, AV.l3.injEq, true_and, and_true]; (try omega),  rfl⟩⟩
        · obtain rfl : y = n := by omega
          rw [hEy]
          refine ats_exit (lq_x ?_)
          (repeat refine ats_seq ?_); refine ats_go (by first | exact fix0 hcx | exact fix1 hcx rfl) fun K hK => ?_; simp only [go_sem, seval]; (repeat refine And.intro (by first | omega | (intro hq; first | omega | (simp at hq <;> omega) | (simp_all <;> omega))) ?_); refine hK _ ?_; clear hK K
          exact ats_ret (finV rfl ⟨rfl, trivial⟩ rfl)
end Go.Proofs.Ytbddekioaigbhaa
