import Derived.Test.YtjpdkdepbkmebaaGreatWx1
import Derived.Test.YtjpdkdepbkmebaaGreatBr
import Derived.Test.YtjpdkdepbkmebaaGreatLib5
set_option linter.unusedSimpArgs false
set_option linter.unusedVariables false
namespace Go.Proofs.YtjpdkdepbkmebaaGreat
open Go Go.Aw Go.Pl
def szD (s : List (List Int)) (t : List Int) (l : Int) : Int := if sz2 s l < 0 then -1 else sz1 t (sz2 s l)
theorem szD_ok (s : List (List Int)) (t : List Int) (l : Int) (hl : 0 ≤ l) : szD s t l = -1 ∨ (0 ≤ szD s t l ∧ szD s t l ≤ l) := by
 have h2 := sz2_ok s l hl
 unfold szD
 by_cases h : sz2 s l < 0
 ·rw [if_pos h]; exact .inl rfl
 ·rw [if_neg h]
  have h1 := sz1_ok t (sz2 s l) (by omega)
  omega
def SmallD (s : List (List Int)) (t : List Int) : Prop := (s.length ≤ 1099511627776 ∧ ∀ x ∈ s, x.length ≤ 1099511627776) ∧ t.length ≤ 1099511627776
def totD (s : List (List Int)) (t : List Int) : Nat := tot List.length s + t.length
theorem szD_small {s : List (List Int)} {t : List Int} {l : Int} (hl : l ≤ 1048576) (h : ¬ szD s t l < 0) (h0 : 0 ≤ l) : SmallD s t ∧ (totD s t : Nat) ≤ l := by
 have h2 := sz2_ok s l h0
 unfold szD at h
 by_cases hn : sz2 s l < 0
 ·rw [if_pos hn] at h; exact absurd (by decide) h
 ·rw [if_neg hn] at h
  have c1 : ∀ (x : List Int) (l : Int), 0 ≤ l → l ≤ 1048576 → ¬ sz1 x l < 0 → (x.length : Int) ≤ 1048576 ∧ sz1 x l ≤ l - (x.length : Nat) := fun x l _ hl h => by
   unfold sz1 at h ⊢
   by_cases h1 : l - x.length < 0
   ·rw [if_pos h1] at h; exact absurd (by decide) h
   ·rw [if_neg h1]; omega
  obtain ⟨⟨k1, k2⟩, k3⟩ := sz0_cost (n := List.length) (p := fun x => (x.length : Int) ≤ 1048576) 1048576 c1 s l hl hn
  obtain ⟨j1, j2⟩ := sz1_small (l := sz2 s l) (by omega) h (by omega)
  have k3' : sz2 s l ≤ l - (tot List.length s : Nat) := k3
  refine ⟨⟨⟨by omega, fun x hx => by have := k2 x hx; omega⟩, j1⟩, ?_⟩
  unfold totD
  omega
theorem szData_ok (s : List (List Int)) (t : List Int) (l : Int) (hl : 0 ≤ l) : PureCall Tryz.prog 4 [.agg [.l2 s, .l1 t], .int l] (.int (szD s t l)) := by
 have h2 := sz2_ok s l hl
 refine PureCall.intro (n := 18) (rs := [.tmp 4]) Tryz.call4 Tryz.func4 rfl rfl rfl (by simp only [List.length_cons, List.length_nil]; omega) (fun cx hcx => ats_of ?_); simp only [argSlots, Nat.zero_add, Nat.reduceAdd]
 refine gA ?_
 refine gC fun K hK => ?_
 first | refine fcall_free rfl rfl (szInt64SS_ok _ _ hl) ?_ | refine YR_intro (acall_free rfl rfl (szInt64SS_ok _ _ hl)) ?_
 simp only [go_sem, seval]
 refine hK _ ?_; clear hK K
 refine gA ?_
 refine gI (fun h => ?_) fun h => ?_
 ·refine gA ?_
  refine ats_ret (finI rfl ?_)
  unfold szD
  rw [if_pos h]
 ·have hz := sz1_ok t (sz2 s l) (by omega)
  refine ats_skip ?_
  refine gC fun K hK => ?_
  first | refine fcall_free rfl rfl (szInt64S_ok _ _ (by omega)) ?_ | refine YR_intro (acall_free rfl rfl (szInt64S_ok _ _ (by omega))) ?_
  simp only [go_sem, seval]
  refine hK _ ?_; clear hK K
  refine gA ?_
  refine gI (fun h1 => ?_) fun h1 => ?_
  ·refine gA ?_
   refine ats_ret (finI rfl ?_)
   unfold szD
   rw [if_neg h]
   omega
  ·refine ats_skip ?_
   refine gA ?_
   refine ats_ret (finI rfl ?_)
   unfold szD
   rw [if_neg h]
theorem eqData_ok (s : List (List Int)) (t : List Int) (s' : List (List Int)) (t' : List Int) : PureCall Tryz.prog 9 [.agg [.l2 s, .l1 t], .agg [.l2 s', .l1 t']] (.bool (decide (s = s' ∧ t = t'))) := by
 refine PureCall.intro (n := 17) (rs := [.tmp 4]) Tryz.call9 Tryz.func9 rfl rfl rfl (by simp only [List.length_cons, List.length_nil]; omega) (fun cx hcx => ats_of ?_); simp only [argSlots, Nat.zero_add, Nat.reduceAdd]
 refine gA ?_
 refine gC fun K hK => ?_
 first | refine fcall_free rfl rfl (eqInt64SS_ok _ _) ?_ | refine YR_intro (acall_free rfl rfl (eqInt64SS_ok _ _)) ?_
 simp only [go_sem, seval]
 refine hK _ ?_; clear hK K
 refine gI (fun hc => ?_) fun hc => ?_
 ·refine gA ?_
  refine ats_ret (finB rfl ?_)
  simp only [Bool.false_eq, decide_eq_false_iff_not]; exact fun h => hc h.1
 ·refine ats_skip ?_
  refine gC fun K hK => ?_
  first | refine fcall_free rfl rfl (eqInt64S_ok _ _) ?_ | refine YR_intro (acall_free rfl rfl (eqInt64S_ok _ _)) ?_
  simp only [go_sem, seval]
  refine hK _ ?_; clear hK K
  refine gI (fun hd => ?_) fun hd => ?_
  ·refine gA ?_
   refine ats_ret (finB rfl ?_)
   simp only [Bool.false_eq, decide_eq_false_iff_not]; exact fun h => hd h.2
  ·refine ats_skip ?_
   refine gA ?_
   refine ats_ret (finB rfl ?_)
   simp only [hc, hd, true_and, decide_true]
theorem toData_ok (s : List (List Int)) (t : List Int) (hl : SmallD s t) : FreshCall Tryz.prog 6 [.agg [.l2 s, .l1 t]] (.agg [.l2 s, .l1 t]) := by
 refine FreshCall.intro (n := 13) (rs := [.cell 2 30]) Tryz.call6 Tryz.func6 rfl rfl rfl (by simp only [List.length_cons, List.length_nil]; omega) (fun cx hcx => ats_of ?_); simp only [argSlots, Nat.zero_add, Nat.reduceAdd]
 refine gA ?_
 refine gA ?_
 refine gC fun K hK => ?_
 refine fcall_own rfl (toInt64SS_ok s hl.1) rfl ?_; simp only [go_sem, seval]
 refine hK _ ?_; clear hK K
 refine gC fun K hK => ?_
 refine fcall_own rfl (toInt64S_ok t hl.2) rfl ?_; simp only [go_sem, seval]
 refine hK _ ?_; clear hK K
 refine gA ?_
 exact ats_ret (ownC (v := .agg [.ref 3 [], .ref 4 []]) (by simp only [go_sem, seval]) rfl (by simp))
section
variable {H : Type} {enc : TypeId × Value → H} {W : World} {base : Nat} {v : Value} {d : DataW H} {p : List MemPlace}
set_option maxRecDepth 100000 in
theorem rdData (hv : Value.okWide Tryz.prog W .any base 25 v) (h : DataW.Trod enc Tryz.prog W 0 (fun _ => true) true 25 v d p) : ∃ s t, Rd W (lower W) (.agg [.l2 s, .l1 t]) v := by
 obtain ⟨u, u', n, y, y', rfl, hy, hy'⟩ := rdStruct2 Tryz.underlying25 rfl rfl ck22 ck23 (by kernel_rfl) hv h
 obtain ⟨xs, hx⟩ := rd2 Tryz.underlying22 ck23 Tryz.underlying23 Tryz.underlying2 ck2 n u y hy
 obtain ⟨ys, hx'⟩ := rd1 Tryz.underlying23 Tryz.underlying2 ck2 n u' y' hy'
 exact ⟨xs, ys, rdAgg21 hx hx'⟩
end
end Go.Proofs.YtjpdkdepbkmebaaGreat
