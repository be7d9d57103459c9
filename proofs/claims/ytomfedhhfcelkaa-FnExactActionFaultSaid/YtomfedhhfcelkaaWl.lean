import Derived.Test.YtomfedhhfcelkaaWk
import Derived.Test.YtomfedhhfcelkaaW5
import Derived.Test.YtomfedhhfcelkaaW2
set_option linter.unusedSimpArgs false
set_option linter.unusedVariables false
namespace Go.Proofs.Ytomfedhhfcelkaa
open Go Go.Aw Go.Pl

theorem own_nil {w : World} {fp : List Nat} {v : Value} (h : ownR w fp .nil v) : ownR w fp (.l1 []) v := by
  simp only [ownR] at h ⊢
  exact ⟨.inl ⟨h.2, rfl, h.1⟩, by simp⟩
theorem fresh_nil {P : Program} {f : FuncId} {ds : List AV} {c : Int} (h : FreshCall P f ds (.tup [.nil, .int c])) : FreshCall P f ds (.tup [.l1 [], .int c]) :=
  ⟨h.enter, fun vs w S hS hd => (h.runs vs w S hS hd).mono fun e w' ⟨v, fp, h1, h2, h3, h4, h5⟩ => ⟨v, fp, h1, h2, by
    simp only [ownR] at h3 ⊢
    obtain ⟨us, hu, hr⟩ := h3
    refine ⟨us, hu, ?_⟩
    simp only [ownRs] at hr ⊢
    obtain ⟨u, us', f1, g, e1, e2, e3, e4⟩ := hr
    exact ⟨u, us', f1, g, e1, e2, own_nil e3, e4⟩, h4, h5⟩⟩
theorem rep_nil {m : Mem} {v : Value} (h : rep m .nil v) : rep m (.l1 []) v := by
  simp only [rep] at h ⊢
  exact ⟨.inl ⟨⟨none, h⟩, rfl⟩, by simp⟩
theorem pure_nil {P : Program} {f : FuncId} {ds : List AV} {c : Int} (h : PureCall P f ds (.tup [.nil, .int c])) : PureCall P f ds (.tup [.l1 [], .int c]) :=
  ⟨h.enter, fun vs w S hS hd => (h.runs vs w S hS hd).mono fun e w' ⟨v, h1, h2, h3⟩ => ⟨v, h1, h2, by
    unfold Rd at h3 ⊢
    simp only [rep] at h3 ⊢
    obtain ⟨us, hu, hr⟩ := h3
    refine ⟨us, hu, ?_⟩
    simp only [reps] at hr ⊢
    obtain ⟨u, us', e1, e2, e3⟩ := hr
    exact ⟨u, us', e1, rep_nil e2, e3⟩⟩⟩

theorem afF_small {t a : List (List (List Int))} {u : List Int} (h : (afF t a).1 = some u) : u.length ≤ 1048576 := by
  unfold afF at h
  split at h
  · split at h
    · cases h
    · rename_i v hv
      cases h
      unfold actF orE at hv
      cases h1 : actA a with
      | some x => rw [h1] at hv; cases hv; unfold actA at h1; split at h1 <;> cases h1; simp
      | none =>
        rw [h1] at hv
        simp only at hv
        cases h2 : (first t.length fun i => first t.length (actG t a i)) with
        | some x =>
          rw [h2] at hv; cases hv
          exact first_all (P := fun u => u.length ≤ 1048576) h2 fun i x hx => first_all (P := fun u => u.length ≤ 1048576) hx fun k y hy => by
            unfold actG at hy; split at hy <;> cases hy; simp
        | none =>
          rw [h2] at hv
          exact first_all (P := fun u => u.length ≤ 1048576) hv fun i x hx => by
            unfold actH at hx; split at hx <;> cases hx; simp
  · cases h

theorem szs_cost {α : Type} {f : α → Int → Int} {n : α → Nat} {p : α → Prop} (B : Int) (hf : ∀ x l, 0 ≤ l → l ≤ B → ¬ f x l < 0 → p x ∧ f x l ≤ l - (n x : Nat)) : ∀ (xs : List α) (l : Int), 0 ≤ l → l ≤ B → ¬ szs f xs l < 0 → (∀ x ∈ xs, p x) ∧ szs f xs l ≤ l - (tot n xs : Nat)
  | [], l, _, _, _ => by simp [szs, tot]
  | x :: xs, l, h0, hB, h => by
    simp only [szs] at h ⊢
    by_cases h1 : f x l < 0
    · rw [if_pos h1] at h; exact absurd (by decide) h
    · rw [if_neg h1] at h ⊢
      obtain ⟨k1, k2⟩ := hf x l h0 hB h1
      obtain ⟨j1, j2⟩ := szs_cost B hf xs (f x l) (by omega) (by omega) h
      refine ⟨fun y hy => ?_, by simp only [tot]; omega⟩
      rcases List.mem_cons.1 hy with rfl | hy
      · exact k1
      · exact j1 y hy
theorem sz0_cost {α : Type} {f : α → Int → Int} {n : α → Nat} {p : α → Prop} (B : Int) (hf : ∀ x l, 0 ≤ l → l ≤ B → ¬ f x l < 0 → p x ∧ f x l ≤ l - (n x : Nat)) (xs : List α) (l : Int) (hB : l ≤ B) (h : ¬ sz0 f xs l < 0) : ((xs.length : Int) ≤ B ∧ ∀ x ∈ xs, p x) ∧ sz0 f xs l ≤ l - (tot n xs : Nat) := by
  unfold sz0 at h ⊢
  by_cases h1 : l - xs.length < 0
  · rw [if_pos h1] at h; exact absurd (by decide) h
  · rw [if_neg h1] at h ⊢
    obtain ⟨j1, j2⟩ := szs_cost B hf xs (l - xs.length) (by omega) (by omega) h
    exact ⟨⟨by omega, j1⟩, by omega⟩
theorem sz3_small {t : List (List (List Int))} {l : Int} (hl : l ≤ 1048576) (h : ¬ sz3 t l < 0) (_h0 : 0 ≤ l) : Small3 t ∧ (tot3 t : Nat) ≤ l := by
  have c1 : ∀ (x : List Int) (l : Int), 0 ≤ l → l ≤ 1048576 → ¬ sz1 x l < 0 → (x.length : Int) ≤ 1048576 ∧ sz1 x l ≤ l - (x.length : Nat) := fun x l _ hl h => by
    unfold sz1 at h ⊢
    by_cases h1 : l - x.length < 0
    · rw [if_pos h1] at h; exact absurd (by decide) h
    · rw [if_neg h1]; omega
  have c2 := fun (x : List (List Int)) (l : Int) (_ : 0 ≤ l) (hl : l ≤ 1048576) (h : ¬ sz2 x l < 0) => sz0_cost (n := List.length) (p := fun x => (x.length : Int) ≤ 1048576) 1048576 c1 x l hl h
  have c3 := sz0_cost (f := sz2) (n := tot List.length) (p := fun x => (x.length : Int) ≤ 1048576 ∧ ∀ y ∈ x, (y.length : Int) ≤ 1048576) 1048576 c2 t l hl h
  have hpos := (sz3_ok t l _h0).resolve_left (fun e => h (by rw [e]; decide))
  obtain ⟨⟨k1, k2⟩, k3⟩ := c3
  refine ⟨⟨by omega, fun x hx => ⟨by have := (k2 x hx).1; omega, fun y hy => by have := (k2 x hx).2 y hy; omega⟩⟩, ?_⟩
  have : sz3 t l ≤ l - (tot3 t : Nat) := k3
  omega

theorem law_ok (t a : List (List (List Int))) : PureCall Try.prog 3 [.agg [.l3 t], .agg [.l3 a]] (.bool true) := by
  have hs1 := szRing_ok t 1048576 (by decide)
  have ho1 := sz3_ok t 1048576 (by decide)
  refine PureCall.intro (n := 119) (rs := [.tmp 4]) Try.call3 Try.func3 rfl rfl rfl (by simp only [List.length_cons, List.length_nil]; omega) (fun cx hcx => ats_of ?_)
  simp only [argSlots, Nat.zero_add, Nat.reduceAdd]
  repeat refine ats_seq ?_
  refine ats_go (by first | exact fix0 hcx | exact fix1 hcx rfl) fun K hK => ?_
  simp only [go_sem, Nat.reduceLT, Nat.reduceBNe, Nat.reduceBEq, Nat.reduceEqDiff, Nat.reduceAdd, Nat.reduceSub, Nat.reduceLeDiff, Int.reduceLE, Int.reduceLT, Int.reduceToNat, Int.reduceNeg, Int.reduceEq, ↓reduceIte, reduceCtorEq]
  refine hK _ ?_
  clear hK K
  repeat refine ats_seq ?_
  refine ats_go (by first | exact fix0 hcx | exact fix1 hcx rfl) fun K hK => ?_
  simp only [go_sem, Nat.reduceLT, Nat.reduceBNe, Nat.reduceBEq, Nat.reduceEqDiff, Nat.reduceAdd, Nat.reduceSub, Nat.reduceLeDiff, Int.reduceLE, Int.reduceLT, Int.reduceToNat, Int.reduceNeg, Int.reduceEq, ↓reduceIte, reduceCtorEq]
  refine hK _ ?_
  clear hK K
  repeat refine ats_seq ?_
  refine ats_go (by first | exact fix0 hcx | exact fix1 hcx rfl) fun K hK => ?_
  simp only [go_sem, Nat.reduceLT, Nat.reduceBNe, Nat.reduceBEq, Nat.reduceEqDiff, Nat.reduceAdd, Nat.reduceSub, Nat.reduceLeDiff, Int.reduceLE, Int.reduceLT, Int.reduceToNat, Int.reduceNeg, Int.reduceEq, ↓reduceIte, reduceCtorEq]
  first | refine fcall_free rfl rfl (hs1) ?_ | refine YR_intro (acall_free rfl rfl (hs1)) ?_
  simp only [go_sem, Nat.reduceLT, Nat.reduceBNe, Nat.reduceBEq, Nat.reduceEqDiff, Nat.reduceAdd, Nat.reduceSub, Nat.reduceLeDiff, Int.reduceLE, Int.reduceLT, Int.reduceToNat, Int.reduceNeg, Int.reduceEq, ↓reduceIte, reduceCtorEq]
  refine hK _ ?_
  clear hK K
  repeat refine ats_seq ?_
  refine ats_go (by first | exact fix0 hcx | exact fix1 hcx rfl) fun K hK => ?_
  simp only [go_sem, Nat.reduceLT, Nat.reduceBNe, Nat.reduceBEq, Nat.reduceEqDiff, Nat.reduceAdd, Nat.reduceSub, Nat.reduceLeDiff, Int.reduceLE, Int.reduceLT, Int.reduceToNat, Int.reduceNeg, Int.reduceEq, ↓reduceIte, reduceCtorEq]
  refine hK _ ?_
  clear hK K
  repeat refine ats_seq ?_
  first | refine ats_ifn (p := _) rfl trivial (fun h1 => ?_) (fun h1 => ?_) | refine ats_ifp (p := _) rfl trivial (fun h1 => ?_) (fun h1 => ?_) | refine ats_cond rfl trivial (fun h1 => ?_) (fun h1 => ?_)
  · repeat refine ats_seq ?_
    refine ats_go (by first | exact fix0 hcx | exact fix1 hcx rfl) fun K hK => ?_
    simp only [go_sem, Nat.reduceLT, Nat.reduceBNe, Nat.reduceBEq, Nat.reduceEqDiff, Nat.reduceAdd, Nat.reduceSub, Nat.reduceLeDiff, Int.reduceLE, Int.reduceLT, Int.reduceToNat, Int.reduceNeg, Int.reduceEq, ↓reduceIte, reduceCtorEq]
    refine hK _ ?_
    clear hK K
    refine ats_ret (finB rfl ?_)
    rfl
  · have hs2 := szAction_ok a (sz3 t 1048576) (by omega)
    have ho2 := sz3_ok a (sz3 t 1048576) (by omega)
    refine ats_skip ?_
    repeat refine ats_seq ?_
    refine ats_go (by first | exact fix0 hcx | exact fix1 hcx rfl) fun K hK => ?_
    simp only [go_sem, Nat.reduceLT, Nat.reduceBNe, Nat.reduceBEq, Nat.reduceEqDiff, Nat.reduceAdd, Nat.reduceSub, Nat.reduceLeDiff, Int.reduceLE, Int.reduceLT, Int.reduceToNat, Int.reduceNeg, Int.reduceEq, ↓reduceIte, reduceCtorEq]
    first | refine fcall_free rfl rfl (hs2) ?_ | refine YR_intro (acall_free rfl rfl (hs2)) ?_
    simp only [go_sem, Nat.reduceLT, Nat.reduceBNe, Nat.reduceBEq, Nat.reduceEqDiff, Nat.reduceAdd, Nat.reduceSub, Nat.reduceLeDiff, Int.reduceLE, Int.reduceLT, Int.reduceToNat, Int.reduceNeg, Int.reduceEq, ↓reduceIte, reduceCtorEq]
    refine hK _ ?_
    clear hK K
    repeat refine ats_seq ?_
    refine ats_go (by first | exact fix0 hcx | exact fix1 hcx rfl) fun K hK => ?_
    simp only [go_sem, Nat.reduceLT, Nat.reduceBNe, Nat.reduceBEq, Nat.reduceEqDiff, Nat.reduceAdd, Nat.reduceSub, Nat.reduceLeDiff, Int.reduceLE, Int.reduceLT, Int.reduceToNat, Int.reduceNeg, Int.reduceEq, ↓reduceIte, reduceCtorEq]
    refine hK _ ?_
    clear hK K
    repeat refine ats_seq ?_
    first | refine ats_ifn (p := _) rfl trivial (fun h2 => ?_) (fun h2 => ?_) | refine ats_ifp (p := _) rfl trivial (fun h2 => ?_) (fun h2 => ?_) | refine ats_cond rfl trivial (fun h2 => ?_) (fun h2 => ?_)
    · repeat refine ats_seq ?_
      refine ats_go (by first | exact fix0 hcx | exact fix1 hcx rfl) fun K hK => ?_
      simp only [go_sem, Nat.reduceLT, Nat.reduceBNe, Nat.reduceBEq, Nat.reduceEqDiff, Nat.reduceAdd, Nat.reduceSub, Nat.reduceLeDiff, Int.reduceLE, Int.reduceLT, Int.reduceToNat, Int.reduceNeg, Int.reduceEq, ↓reduceIte, reduceCtorEq]
      refine hK _ ?_
      clear hK K
      refine ats_ret (finB rfl ?_)
      rfl
    · obtain ⟨smt, tt⟩ := sz3_small (by decide) h1 (by decide)
      obtain ⟨sma, ta⟩ := sz3_small (by omega) h2 (by omega)
      have kt := toRing_ok t smt
      have ka := toAction_ok a sma
      have hr : ∃ u c, PureCall Try.prog 16 [.agg [.l3 t], .agg [.l3 a]] (.tup [.l1 u, .int c]) ∧ FreshCall Try.prog 19 [.agg [.l3 t], .agg [.l3 a]] (.tup [.l1 u, .int c]) ∧ u.length ≤ 1048576 := by
        have ks := specActionFault_ok t a
        have ki := implActionFault_ok t a
        unfold afA at ks ki
        cases h : (afF t a).1 with
        | none => rw [h] at ks ki; exact ⟨[], _, pure_nil ks, fresh_nil ki, by simp⟩
        | some u => rw [h] at ks ki; exact ⟨u, _, ks, ki, afF_small h⟩
      obtain ⟨u, c, ks, ki, hul⟩ := hr
      refine ats_skip ?_
      repeat refine ats_seq ?_
      refine ats_pick (fix0 hcx) mixed (by kernel_rfl) fun K hK => ?_
      simp only [go_sem, Nat.reduceLT, Nat.reduceBNe, Nat.reduceBEq, Nat.reduceEqDiff, Nat.reduceAdd, Nat.reduceSub, Nat.reduceLeDiff, Int.reduceLE, Int.reduceLT, Int.reduceToNat, Int.reduceNeg, Int.reduceEq, ↓reduceIte, reduceCtorEq]
      first | refine fcall_fresh rfl (kt) ?_ | refine YR_intro (acall_fresh rfl (kt)) ?_
      simp only [go_sem, Nat.reduceLT, Nat.reduceBNe, Nat.reduceBEq, Nat.reduceEqDiff, Nat.reduceAdd, Nat.reduceSub, Nat.reduceLeDiff, Int.reduceLE, Int.reduceLT, Int.reduceToNat, Int.reduceNeg, Int.reduceEq, ↓reduceIte, reduceCtorEq]
      first | refine fcall_fresh rfl (ka) ?_ | refine YR_intro (acall_fresh rfl (ka)) ?_
      simp only [go_sem, Nat.reduceLT, Nat.reduceBNe, Nat.reduceBEq, Nat.reduceEqDiff, Nat.reduceAdd, Nat.reduceSub, Nat.reduceLeDiff, Int.reduceLE, Int.reduceLT, Int.reduceToNat, Int.reduceNeg, Int.reduceEq, ↓reduceIte, reduceCtorEq]
      first | refine fcall_data (ks) rfl ?_ | refine YR_intro (acall_data (ks) rfl) ?_
      simp only [go_sem, Nat.reduceLT, Nat.reduceBNe, Nat.reduceBEq, Nat.reduceEqDiff, Nat.reduceAdd, Nat.reduceSub, Nat.reduceLeDiff, Int.reduceLE, Int.reduceLT, Int.reduceToNat, Int.reduceNeg, Int.reduceEq, ↓reduceIte, reduceCtorEq]
      refine hK _ ?_
      clear hK K
      repeat refine ats_seq ?_
      refine ats_go (by first | exact fix0 hcx | exact fix1 hcx rfl) fun K hK => ?_
      simp only [go_sem, Nat.reduceLT, Nat.reduceBNe, Nat.reduceBEq, Nat.reduceEqDiff, Nat.reduceAdd, Nat.reduceSub, Nat.reduceLeDiff, Int.reduceLE, Int.reduceLT, Int.reduceToNat, Int.reduceNeg, Int.reduceEq, ↓reduceIte, reduceCtorEq]
      refine fcall_own rfl (kt) rfl ?_
      simp only [go_sem, Nat.reduceLT, Nat.reduceBNe, Nat.reduceBEq, Nat.reduceEqDiff, Nat.reduceAdd, Nat.reduceSub, Nat.reduceLeDiff, Int.reduceLE, Int.reduceLT, Int.reduceToNat, Int.reduceNeg, Int.reduceEq, ↓reduceIte, reduceCtorEq]
      refine hK _ ?_
      clear hK K
      repeat refine ats_seq ?_
      refine ats_go (by first | exact fix0 hcx | exact fix1 hcx rfl) fun K hK => ?_
      simp only [go_sem, Nat.reduceLT, Nat.reduceBNe, Nat.reduceBEq, Nat.reduceEqDiff, Nat.reduceAdd, Nat.reduceSub, Nat.reduceLeDiff, Int.reduceLE, Int.reduceLT, Int.reduceToNat, Int.reduceNeg, Int.reduceEq, ↓reduceIte, reduceCtorEq]
      refine fcall_own rfl (ka) rfl ?_
      simp only [go_sem, Nat.reduceLT, Nat.reduceBNe, Nat.reduceBEq, Nat.reduceEqDiff, Nat.reduceAdd, Nat.reduceSub, Nat.reduceLeDiff, Int.reduceLE, Int.reduceLT, Int.reduceToNat, Int.reduceNeg, Int.reduceEq, ↓reduceIte, reduceCtorEq]
      refine hK _ ?_
      clear hK K
      repeat refine ats_seq ?_
      refine ats_go (by first | exact fix0 hcx | exact fix1 hcx rfl) fun K hK => ?_
      simp only [go_sem, Nat.reduceLT, Nat.reduceBNe, Nat.reduceBEq, Nat.reduceEqDiff, Nat.reduceAdd, Nat.reduceSub, Nat.reduceLeDiff, Int.reduceLE, Int.reduceLT, Int.reduceToNat, Int.reduceNeg, Int.reduceEq, ↓reduceIte, reduceCtorEq]
      refine fcall_own rfl (ki) rfl ?_
      simp only [go_sem, Nat.reduceLT, Nat.reduceBNe, Nat.reduceBEq, Nat.reduceEqDiff, Nat.reduceAdd, Nat.reduceSub, Nat.reduceLeDiff, Int.reduceLE, Int.reduceLT, Int.reduceToNat, Int.reduceNeg, Int.reduceEq, ↓reduceIte, reduceCtorEq]
      refine hK _ ?_
      clear hK K
      have keq : PureCall Try.prog 20 [.l1 u, .l1 u] (.bool true) := by simpa using eqInt64S_ok u u
      have keR : PureCall Try.prog 21 [.agg [.l3 t], .agg [.l3 t]] (.bool true) := by simpa using eqRing_ok t t
      have keA : PureCall Try.prog 22 [.agg [.l3 a], .agg [.l3 a]] (.bool true) := by simpa using eqAction_ok a a
      repeat refine ats_seq ?_
      refine ats_go (by first | exact fix0 hcx | exact fix1 hcx rfl) fun K hK => ?_
      simp only [go_sem, Nat.reduceLT, Nat.reduceBNe, Nat.reduceBEq, Nat.reduceEqDiff, Nat.reduceAdd, Nat.reduceSub, Nat.reduceLeDiff, Int.reduceLE, Int.reduceLT, Int.reduceToNat, Int.reduceNeg, Int.reduceEq, ↓reduceIte, reduceCtorEq]
      first | refine fcall_free rfl rfl (keq) ?_ | refine YR_intro (acall_free rfl rfl (keq)) ?_
      simp only [go_sem, Nat.reduceLT, Nat.reduceBNe, Nat.reduceBEq, Nat.reduceEqDiff, Nat.reduceAdd, Nat.reduceSub, Nat.reduceLeDiff, Int.reduceLE, Int.reduceLT, Int.reduceToNat, Int.reduceNeg, Int.reduceEq, ↓reduceIte, reduceCtorEq]
      refine hK _ ?_
      clear hK K
      repeat refine ats_seq ?_
      first | refine ats_ifn (p := _) rfl trivial (fun hx => ?_) (fun hx => ?_) | refine ats_ifp (p := _) rfl trivial (fun hx => ?_) (fun hx => ?_) | refine ats_cond rfl trivial (fun hx => ?_) (fun hx => ?_)
      · simp at hx
      refine ats_skip ?_
      repeat refine ats_seq ?_
      refine ats_pick (fix0 hcx) mixed (by kernel_rfl) fun K hK => ?_
      simp only [go_sem, Nat.reduceLT, Nat.reduceBNe, Nat.reduceBEq, Nat.reduceEqDiff, Nat.reduceAdd, Nat.reduceSub, Nat.reduceLeDiff, Int.reduceLE, Int.reduceLT, Int.reduceToNat, Int.reduceNeg, Int.reduceEq, ↓reduceIte, reduceCtorEq]
      first | refine fcall_fresh rfl (kt) ?_ | refine YR_intro (acall_fresh rfl (kt)) ?_
      simp only [go_sem, Nat.reduceLT, Nat.reduceBNe, Nat.reduceBEq, Nat.reduceEqDiff, Nat.reduceAdd, Nat.reduceSub, Nat.reduceLeDiff, Int.reduceLE, Int.reduceLT, Int.reduceToNat, Int.reduceNeg, Int.reduceEq, ↓reduceIte, reduceCtorEq]
      first | refine fcall_free rfl rfl (keR) ?_ | refine YR_intro (acall_free rfl rfl (keR)) ?_
      simp only [go_sem, Nat.reduceLT, Nat.reduceBNe, Nat.reduceBEq, Nat.reduceEqDiff, Nat.reduceAdd, Nat.reduceSub, Nat.reduceLeDiff, Int.reduceLE, Int.reduceLT, Int.reduceToNat, Int.reduceNeg, Int.reduceEq, ↓reduceIte, reduceCtorEq]
      refine hK _ ?_
      clear hK K
      repeat refine ats_seq ?_
      refine ats_no rfl trivial ?_
      refine ats_skip ?_
      repeat refine ats_seq ?_
      refine ats_pick (fix0 hcx) mixed (by kernel_rfl) fun K hK => ?_
      simp only [go_sem, Nat.reduceLT, Nat.reduceBNe, Nat.reduceBEq, Nat.reduceEqDiff, Nat.reduceAdd, Nat.reduceSub, Nat.reduceLeDiff, Int.reduceLE, Int.reduceLT, Int.reduceToNat, Int.reduceNeg, Int.reduceEq, ↓reduceIte, reduceCtorEq]
      first | refine fcall_fresh rfl (ka) ?_ | refine YR_intro (acall_fresh rfl (ka)) ?_
      simp only [go_sem, Nat.reduceLT, Nat.reduceBNe, Nat.reduceBEq, Nat.reduceEqDiff, Nat.reduceAdd, Nat.reduceSub, Nat.reduceLeDiff, Int.reduceLE, Int.reduceLT, Int.reduceToNat, Int.reduceNeg, Int.reduceEq, ↓reduceIte, reduceCtorEq]
      first | refine fcall_free rfl rfl (keA) ?_ | refine YR_intro (acall_free rfl rfl (keA)) ?_
      simp only [go_sem, Nat.reduceLT, Nat.reduceBNe, Nat.reduceBEq, Nat.reduceEqDiff, Nat.reduceAdd, Nat.reduceSub, Nat.reduceLeDiff, Int.reduceLE, Int.reduceLT, Int.reduceToNat, Int.reduceNeg, Int.reduceEq, ↓reduceIte, reduceCtorEq]
      refine hK _ ?_
      clear hK K
      repeat refine ats_seq ?_
      refine ats_no rfl trivial ?_
      refine ats_skip ?_
      repeat refine ats_seq ?_
      refine ats_go (by first | exact fix0 hcx | exact fix1 hcx rfl) fun K hK => ?_
      simp only [go_sem, Nat.reduceLT, Nat.reduceBNe, Nat.reduceBEq, Nat.reduceEqDiff, Nat.reduceAdd, Nat.reduceSub, Nat.reduceLeDiff, Int.reduceLE, Int.reduceLT, Int.reduceToNat, Int.reduceNeg, Int.reduceEq, ↓reduceIte, reduceCtorEq]
      refine hK _ ?_
      clear hK K
      repeat refine ats_seq ?_
      refine ats_go (by first | exact fix0 hcx | exact fix1 hcx rfl) fun K hK => ?_
      simp only [go_sem, Nat.reduceLT, Nat.reduceBNe, Nat.reduceBEq, Nat.reduceEqDiff, Nat.reduceAdd, Nat.reduceSub, Nat.reduceLeDiff, Int.reduceLE, Int.reduceLT, Int.reduceToNat, Int.reduceNeg, Int.reduceEq, ↓reduceIte, reduceCtorEq]
      refine fcall_turn (fun _ => 2) (markRing_ok t 1 (by decide) (by omega)) rfl rfl rfl (by simp [Aw.ids]) (by simp [find]) ?_
      simp only [Aw.ids, renT, List.map_cons, List.map_nil]
      simp only [go_sem, Nat.reduceLT, Nat.reduceBNe, Nat.reduceBEq, Nat.reduceEqDiff, Nat.reduceAdd, Nat.reduceSub, Nat.reduceLeDiff, Int.reduceLE, Int.reduceLT, Int.reduceToNat, Int.reduceNeg, Int.reduceEq, ↓reduceIte, reduceCtorEq]
      refine hK _ ?_
      clear hK K
      repeat refine ats_seq ?_
      refine ats_go (by first | exact fix0 hcx | exact fix1 hcx rfl) fun K hK => ?_
      simp only [go_sem, Nat.reduceLT, Nat.reduceBNe, Nat.reduceBEq, Nat.reduceEqDiff, Nat.reduceAdd, Nat.reduceSub, Nat.reduceLeDiff, Int.reduceLE, Int.reduceLT, Int.reduceToNat, Int.reduceNeg, Int.reduceEq, ↓reduceIte, reduceCtorEq]
      refine fcall_turn (fun _ => 4) (markAction_ok a (1 + (tot3 t : Nat)) (by omega) (by omega)) rfl rfl rfl (by simp [Aw.ids]) (by simp [find]) ?_
      simp only [Aw.ids, renT, List.map_cons, List.map_nil]
      simp only [go_sem, Nat.reduceLT, Nat.reduceBNe, Nat.reduceBEq, Nat.reduceEqDiff, Nat.reduceAdd, Nat.reduceSub, Nat.reduceLeDiff, Int.reduceLE, Int.reduceLT, Int.reduceToNat, Int.reduceNeg, Int.reduceEq, ↓reduceIte, reduceCtorEq]
      refine hK _ ?_
      clear hK K
      repeat refine ats_seq ?_
      refine ats_go (by first | exact fix0 hcx | exact fix1 hcx rfl) fun K hK => ?_
      simp only [go_sem, Nat.reduceLT, Nat.reduceBNe, Nat.reduceBEq, Nat.reduceEqDiff, Nat.reduceAdd, Nat.reduceSub, Nat.reduceLeDiff, Int.reduceLE, Int.reduceLT, Int.reduceToNat, Int.reduceNeg, Int.reduceEq, ↓reduceIte, reduceCtorEq]
      first | refine YR_intro (fun _ => acall_free rfl rfl (keq)) ?_ | refine YR_intro (acall_free rfl rfl (keq)) ?_
      simp only [go_sem, Nat.reduceLT, Nat.reduceBNe, Nat.reduceBEq, Nat.reduceEqDiff, Nat.reduceAdd, Nat.reduceSub, Nat.reduceLeDiff, Int.reduceLE, Int.reduceLT, Int.reduceToNat, Int.reduceNeg, Int.reduceEq, ↓reduceIte, reduceCtorEq]
      refine hK _ ?_
      clear hK K
      repeat refine ats_seq ?_
      first | refine ats_ifn (p := _) rfl trivial (fun hx => ?_) (fun hx => ?_) | refine ats_ifp (p := _) rfl trivial (fun hx => ?_) (fun hx => ?_) | refine ats_cond rfl trivial (fun hx => ?_) (fun hx => ?_)
      · simp at hx; omega
      refine ats_skip ?_
      repeat refine ats_seq ?_
      refine ats_go (by first | exact fix0 hcx | exact fix1 hcx rfl) fun K hK => ?_
      simp only [go_sem, Nat.reduceLT, Nat.reduceBNe, Nat.reduceBEq, Nat.reduceEqDiff, Nat.reduceAdd, Nat.reduceSub, Nat.reduceLeDiff, Int.reduceLE, Int.reduceLT, Int.reduceToNat, Int.reduceNeg, Int.reduceEq, ↓reduceIte, reduceCtorEq]
      refine hK _ ?_
      clear hK K
      repeat refine ats_seq ?_
      refine ats_go (by first | exact fix0 hcx | exact fix1 hcx rfl) fun K hK => ?_
      simp only [go_sem, Nat.reduceLT, Nat.reduceBNe, Nat.reduceBEq, Nat.reduceEqDiff, Nat.reduceAdd, Nat.reduceSub, Nat.reduceLeDiff, Int.reduceLE, Int.reduceLT, Int.reduceToNat, Int.reduceNeg, Int.reduceEq, ↓reduceIte, reduceCtorEq]
      refine fcall_turn (fun _ => 6) (markInt64S_ok u 1 (by decide) (by omega)) rfl rfl rfl (by simp [Aw.ids]) (by simp [find]) ?_
      simp only [Aw.ids, renT, List.map_cons, List.map_nil]
      simp only [go_sem, Nat.reduceLT, Nat.reduceBNe, Nat.reduceBEq, Nat.reduceEqDiff, Nat.reduceAdd, Nat.reduceSub, Nat.reduceLeDiff, Int.reduceLE, Int.reduceLT, Int.reduceToNat, Int.reduceNeg, Int.reduceEq, ↓reduceIte, reduceCtorEq]
      refine hK _ ?_
      clear hK K
      repeat refine ats_seq ?_
      refine ats_go (by first | exact fix0 hcx | exact fix1 hcx rfl) fun K hK => ?_
      simp only [go_sem, Nat.reduceLT, Nat.reduceBNe, Nat.reduceBEq, Nat.reduceEqDiff, Nat.reduceAdd, Nat.reduceSub, Nat.reduceLeDiff, Int.reduceLE, Int.reduceLT, Int.reduceToNat, Int.reduceNeg, Int.reduceEq, ↓reduceIte, reduceCtorEq]
      refine hK _ ?_
      clear hK K
      repeat refine ats_seq ?_
      refine ats_go (by first | exact fix0 hcx | exact fix1 hcx rfl) fun K hK => ?_
      simp only [go_sem, Nat.reduceLT, Nat.reduceBNe, Nat.reduceBEq, Nat.reduceEqDiff, Nat.reduceAdd, Nat.reduceSub, Nat.reduceLeDiff, Int.reduceLE, Int.reduceLT, Int.reduceToNat, Int.reduceNeg, Int.reduceEq, ↓reduceIte, reduceCtorEq]
      first | refine fcall_free rfl rfl (heldInt64S_ok u.length 1 (by decide) (by omega)) ?_ | refine YR_intro (acall_free rfl rfl (heldInt64S_ok u.length 1 (by decide) (by omega))) ?_
      simp only [go_sem, Nat.reduceLT, Nat.reduceBNe, Nat.reduceBEq, Nat.reduceEqDiff, Nat.reduceAdd, Nat.reduceSub, Nat.reduceLeDiff, Int.reduceLE, Int.reduceLT, Int.reduceToNat, Int.reduceNeg, Int.reduceEq, ↓reduceIte, reduceCtorEq]
      refine hK _ ?_
      clear hK K
      repeat refine ats_seq ?_
      refine ats_go (by first | exact fix0 hcx | exact fix1 hcx rfl) fun K hK => ?_
      simp only [go_sem, Nat.reduceLT, Nat.reduceBNe, Nat.reduceBEq, Nat.reduceEqDiff, Nat.reduceAdd, Nat.reduceSub, Nat.reduceLeDiff, Int.reduceLE, Int.reduceLT, Int.reduceToNat, Int.reduceNeg, Int.reduceEq, ↓reduceIte, reduceCtorEq]
      refine hK _ ?_
      clear hK K
      repeat refine ats_seq ?_
      first | refine ats_ifn (p := _) rfl trivial (fun hx2 => ?_) (fun hx2 => ?_) | refine ats_ifp (p := _) rfl trivial (fun hx2 => ?_) (fun hx2 => ?_) | refine ats_cond rfl trivial (fun hx2 => ?_) (fun hx2 => ?_)
      · omega
      refine ats_skip ?_
      repeat refine ats_seq ?_
      refine ats_go (by first | exact fix0 hcx | exact fix1 hcx rfl) fun K hK => ?_
      simp only [go_sem, Nat.reduceLT, Nat.reduceBNe, Nat.reduceBEq, Nat.reduceEqDiff, Nat.reduceAdd, Nat.reduceSub, Nat.reduceLeDiff, Int.reduceLE, Int.reduceLT, Int.reduceToNat, Int.reduceNeg, Int.reduceEq, ↓reduceIte, reduceCtorEq]
      refine hK _ ?_
      clear hK K
      repeat refine ats_seq ?_
      first | refine ats_ifn (p := _) rfl trivial (fun hx3 => ?_) (fun hx3 => ?_) | refine ats_ifp (p := _) rfl trivial (fun hx3 => ?_) (fun hx3 => ?_) | refine ats_cond rfl trivial (fun hx3 => ?_) (fun hx3 => ?_)
      · exact absurd trivial hx3
      refine ats_skip ?_
      repeat refine ats_seq ?_
      refine ats_pick (fix0 hcx) mixed (by kernel_rfl) fun K hK => ?_
      simp only [go_sem, Nat.reduceLT, Nat.reduceBNe, Nat.reduceBEq, Nat.reduceEqDiff, Nat.reduceAdd, Nat.reduceSub, Nat.reduceLeDiff, Int.reduceLE, Int.reduceLT, Int.reduceToNat, Int.reduceNeg, Int.reduceEq, ↓reduceIte, reduceCtorEq]
      first | refine fcall_fresh rfl (kt) ?_ | refine YR_intro (acall_fresh rfl (kt)) ?_
      simp only [go_sem, Nat.reduceLT, Nat.reduceBNe, Nat.reduceBEq, Nat.reduceEqDiff, Nat.reduceAdd, Nat.reduceSub, Nat.reduceLeDiff, Int.reduceLE, Int.reduceLT, Int.reduceToNat, Int.reduceNeg, Int.reduceEq, ↓reduceIte, reduceCtorEq]
      first | refine fcall_fresh rfl (ka) ?_ | refine YR_intro (acall_fresh rfl (ka)) ?_
      simp only [go_sem, Nat.reduceLT, Nat.reduceBNe, Nat.reduceBEq, Nat.reduceEqDiff, Nat.reduceAdd, Nat.reduceSub, Nat.reduceLeDiff, Int.reduceLE, Int.reduceLT, Int.reduceToNat, Int.reduceNeg, Int.reduceEq, ↓reduceIte, reduceCtorEq]
      first | refine fcall_fresh rfl (ki) ?_ | refine YR_intro (acall_fresh rfl (ki)) ?_
      simp only [go_sem, Nat.reduceLT, Nat.reduceBNe, Nat.reduceBEq, Nat.reduceEqDiff, Nat.reduceAdd, Nat.reduceSub, Nat.reduceLeDiff, Int.reduceLE, Int.reduceLT, Int.reduceToNat, Int.reduceNeg, Int.reduceEq, ↓reduceIte, reduceCtorEq]
      refine hK _ ?_
      clear hK K
      repeat refine ats_seq ?_
      refine ats_go (by first | exact fix0 hcx | exact fix1 hcx rfl) fun K hK => ?_
      simp only [go_sem, Nat.reduceLT, Nat.reduceBNe, Nat.reduceBEq, Nat.reduceEqDiff, Nat.reduceAdd, Nat.reduceSub, Nat.reduceLeDiff, Int.reduceLE, Int.reduceLT, Int.reduceToNat, Int.reduceNeg, Int.reduceEq, ↓reduceIte, reduceCtorEq]
      first | refine fcall_data (keq) rfl ?_ | refine YR_intro (acall_data (keq) rfl) ?_
      simp only [go_sem, Nat.reduceLT, Nat.reduceBNe, Nat.reduceBEq, Nat.reduceEqDiff, Nat.reduceAdd, Nat.reduceSub, Nat.reduceLeDiff, Int.reduceLE, Int.reduceLT, Int.reduceToNat, Int.reduceNeg, Int.reduceEq, ↓reduceIte, reduceCtorEq]
      refine hK _ ?_
      clear hK K
      repeat refine ats_seq ?_
      first | refine ats_ifn (p := _) rfl trivial (fun hx4 => ?_) (fun hx4 => ?_) | refine ats_ifp (p := _) rfl trivial (fun hx4 => ?_) (fun hx4 => ?_) | refine ats_cond rfl trivial (fun hx4 => ?_) (fun hx4 => ?_)
      · simp at hx4
      refine ats_skip ?_
      repeat refine ats_seq ?_
      refine ats_go (by first | exact fix0 hcx | exact fix1 hcx rfl) fun K hK => ?_
      simp only [go_sem, Nat.reduceLT, Nat.reduceBNe, Nat.reduceBEq, Nat.reduceEqDiff, Nat.reduceAdd, Nat.reduceSub, Nat.reduceLeDiff, Int.reduceLE, Int.reduceLT, Int.reduceToNat, Int.reduceNeg, Int.reduceEq, ↓reduceIte, reduceCtorEq]
      refine hK _ ?_
      clear hK K
      repeat refine ats_seq ?_
      refine ats_go (by first | exact fix0 hcx | exact fix1 hcx rfl) fun K hK => ?_
      simp only [go_sem, Nat.reduceLT, Nat.reduceBNe, Nat.reduceBEq, Nat.reduceEqDiff, Nat.reduceAdd, Nat.reduceSub, Nat.reduceLeDiff, Int.reduceLE, Int.reduceLT, Int.reduceToNat, Int.reduceNeg, Int.reduceEq, ↓reduceIte, reduceCtorEq]
      first | refine fcall_free rfl rfl (heldInt64S_ok u.length 1 (by decide) (by omega)) ?_ | refine YR_intro (acall_free rfl rfl (heldInt64S_ok u.length 1 (by decide) (by omega))) ?_
      simp only [go_sem, Nat.reduceLT, Nat.reduceBNe, Nat.reduceBEq, Nat.reduceEqDiff, Nat.reduceAdd, Nat.reduceSub, Nat.reduceLeDiff, Int.reduceLE, Int.reduceLT, Int.reduceToNat, Int.reduceNeg, Int.reduceEq, ↓reduceIte, reduceCtorEq]
      refine hK _ ?_
      clear hK K
      repeat refine ats_seq ?_
      refine ats_go (by first | exact fix0 hcx | exact fix1 hcx rfl) fun K hK => ?_
      simp only [go_sem, Nat.reduceLT, Nat.reduceBNe, Nat.reduceBEq, Nat.reduceEqDiff, Nat.reduceAdd, Nat.reduceSub, Nat.reduceLeDiff, Int.reduceLE, Int.reduceLT, Int.reduceToNat, Int.reduceNeg, Int.reduceEq, ↓reduceIte, reduceCtorEq]
      refine hK _ ?_
      clear hK K
      repeat refine ats_seq ?_
      first | refine ats_ifn (p := _) rfl trivial (fun hx5 => ?_) (fun hx5 => ?_) | refine ats_ifp (p := _) rfl trivial (fun hx5 => ?_) (fun hx5 => ?_) | refine ats_cond rfl trivial (fun hx5 => ?_) (fun hx5 => ?_)
      · omega
      refine ats_skip ?_
      repeat refine ats_seq ?_
      refine ats_go (by first | exact fix0 hcx | exact fix1 hcx rfl) fun K hK => ?_
      simp only [go_sem, Nat.reduceLT, Nat.reduceBNe, Nat.reduceBEq, Nat.reduceEqDiff, Nat.reduceAdd, Nat.reduceSub, Nat.reduceLeDiff, Int.reduceLE, Int.reduceLT, Int.reduceToNat, Int.reduceNeg, Int.reduceEq, ↓reduceIte, reduceCtorEq]
      refine hK _ ?_
      clear hK K
      repeat refine ats_seq ?_
      first | refine ats_ifn (p := _) rfl trivial (fun hx6 => ?_) (fun hx6 => ?_) | refine ats_ifp (p := _) rfl trivial (fun hx6 => ?_) (fun hx6 => ?_) | refine ats_cond rfl trivial (fun hx6 => ?_) (fun hx6 => ?_)
      · exact absurd trivial hx6
      refine ats_skip ?_
      repeat refine ats_seq ?_
      refine ats_go (by first | exact fix0 hcx | exact fix1 hcx rfl) fun K hK => ?_
      simp only [go_sem, Nat.reduceLT, Nat.reduceBNe, Nat.reduceBEq, Nat.reduceEqDiff, Nat.reduceAdd, Nat.reduceSub, Nat.reduceLeDiff, Int.reduceLE, Int.reduceLT, Int.reduceToNat, Int.reduceNeg, Int.reduceEq, ↓reduceIte, reduceCtorEq]
      refine hK _ ?_
      clear hK K
      refine ats_ret (finB rfl ?_)
      rfl
end Go.Proofs.Ytomfedhhfcelkaa
