import Derived.Test.YtjcfefgbieeheaaQd2
import Derived.Test.YtjcfefgbieeheaaMn
import Derived.Test.YtjcfefgbieeheaaMz3
import Derived.Test.YtjcfefgbieeheaaMz2
import Derived.Test.YtjcfefgbieeheaaMo
import Derived.Test.YtjcfefgbieeheaaJz3
import Derived.Test.YtjcfefgbieeheaaBb
import Derived.Test.YtjcfefgbieeheaaWx1
set_option linter.unusedSimpArgs false
set_option linter.unusedVariables false
namespace Go.Proofs.Ytjcfefgbieeheaa
open Go Go.Aw Go.Pl
theorem freshLq {P : Program} {f : FuncId} {ds : List AV} {u : Option (List Int)} {c : Int} (h : FreshCall P f ds (.tup [optA u, .int c])) : FreshCall P f ds (.tup [.l1 (u.getD []), .int c]) := by
 cases u with
 | none => exact fresh_nil h
 | some u => exact h
theorem specIsR5_ok (t : Cu) : PureCall Try.prog 25 [.agg [.l3 t]] (.bool (isRing t)) := by
 have h := l03Is_ok t
 refine PureCall.intro (n := 5) (rs := [.tmp 2]) Try.call25 Try.func25 rfl rfl rfl (by simp only [List.length_cons, List.length_nil]; omega) (fun cx hcx => ats_of ?_); simp only [argSlots, Nat.zero_add, Nat.reduceAdd]
 refine gB ?_
 refine gC fun K hK => ?_
 first | refine fcall_data (h) rfl ?_ | refine YR_intro (acall_data (h) rfl) ?_
 simp only [go_sem, seval]
 refine hK _ ?_; clear hK K
 refine ats_ret (finB rfl ?_)
 rfl
theorem hasInt_ok (xs : List Int) (v : Int) : PureCall Try.prog 28 [.l1 xs, .int v] (.bool (decide (v ∈ xs))) := by
 refine PureCall.intro (n := 18) (rs := [.tmp 4]) Try.call28 Try.func28 rfl rfl rfl (by simp only [List.length_cons, List.length_nil]; omega) (fun cx hcx => ats_of ?_); simp only [argSlots, Nat.zero_add, Nat.reduceAdd]
 refine gB ?_
 refine ats_know 0 fun h0 => ?_; simp only [St.get, slotGet, Nat.reduceEqDiff, ↓reduceIte, if_true, fact, facts] at h0
 have lx := h0.1
 refine gB ?_
 (repeat refine ats_seq ?_); refine ats_loop (fun i : Nat => ⟨[(0, .l1 xs), (1, .int v), (4, .bool false), (5, .int i)], []⟩) (fun i => i ≤ xs.length ∧ ∀ b, b < i → xs.getD b 0 ≠ v) (fun i => xs.length - i) 0 ⟨Nat.zero_le _, fun a h => absurd h (Nat.not_lt_zero a)⟩ (by refine And.intro ?_ rfl; simp only [leS, Nat.reduceEqDiff, ↓reduceIte, true_and, and_true]; rfl) (fun i hi => ?_); obtain ⟨hi, Hi⟩ := hi
 refine gB ?_
 refine gI (fun h2 => ?_) fun h2 => ?_
 ·refine ats_skip ?_
  (repeat refine ats_seq ?_); refine ats_block ?_
  refine gB ?_
  refine gI (fun h3 => ?_) fun h3 => ?_
  ·refine gB ?_
   refine ats_ret (finB rfl ?_)
   refine (decide_eq_true ?_).symm
   rw [← h3, List.getD_eq_getElem?_getD, List.getElem?_eq_getElem (by omega)]
   exact List.getElem_mem _
  ·refine ats_skip ?_
   refine gB ?_
   refine ⟨i + 1, ⟨by omega, fun a ha => by rcases Nat.lt_succ_iff_lt_or_eq.1 ha with h | rfl; exact Hi a h; exact (by omega)⟩, by omega, .inl ⟨?_, rfl⟩⟩; simp only [leS, Nat.reduceEqDiff, ↓reduceIte, true_and, and_true]; omega
 ·refine ats_exit (lq_x ?_)
  refine gB ?_
  refine ats_ret (finB rfl ?_)
  refine (decide_eq_false fun hm => ?_).symm
  obtain ⟨j, j1, j2⟩ := List.mem_iff_getElem.1 hm
  have := Hi j (by omega)
  rw [List.getD_eq_getElem?_getD, List.getElem?_eq_getElem j1] at this
  exact this j2
end Go.Proofs.Ytjcfefgbieeheaa
