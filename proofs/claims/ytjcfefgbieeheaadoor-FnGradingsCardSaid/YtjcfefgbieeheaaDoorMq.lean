import Derived.Test.YtjcfefgbieeheaaDoorQd2
import Derived.Test.YtjcfefgbieeheaaDoorMn
import Derived.Test.YtjcfefgbieeheaaDoorMz3
import Derived.Test.YtjcfefgbieeheaaDoorMz2
import Derived.Test.YtjcfefgbieeheaaDoorMo
import Derived.Test.YtjcfefgbieeheaaDoorJz3
import Derived.Test.YtjcfefgbieeheaaDoorBb
import Derived.Test.YtjcfefgbieeheaaDoorWx1
set_option linter.unusedSimpArgs false
set_option linter.unusedVariables false
namespace Go.Proofs.YtjcfefgbieeheaaDoor
open Go Go.Aw Go.Pl
theorem freshLq {P : Program} {f : FuncId} {ds : List AV} {u : Option (List Int)} {c : Int} (h : FreshCall P f ds (.tup [optA u, .int c])) : FreshCall P f ds (.tup [.l1 (u.getD []), .int c]) := by
 cases u with
 | none => exact fresh_nil h
 | some u => exact h
theorem hasInt_ok (xs : List Int) (v : Int) : PureCall Tryd.prog 16 [.l1 xs, .int v] (.bool (decide (v ∈ xs))) := by
 refine PureCall.intro (n := 18) (rs := [.tmp 4]) Tryd.call16 Tryd.func16 rfl rfl rfl (by simp only [List.length_cons, List.length_nil]; omega) (fun cx hcx => ats_of ?_); simp only [argSlots, Nat.zero_add, Nat.reduceAdd]
 refine gB ?_
 refine ats_know 0 fun h0 => ?_; simp only [St.get, slotGet, Nat.reduceEqDiff, ↓reduceIte, if_true, fact, facts] at h0
 have lx := h0.1
 refine gB ?_
 (repeat refine ats_seq ?_); refine ats_loop (fun i : Nat => ⟨[(0, .l1 xs), (1, .int v), (4, .bool false), (5, .int i)], []⟩) (fun i => i ≤ xs.length ∧ ∀ b, b < i → xs.getD b 0 ≠ v) (fun i => xs.length - i) 0 ⟨Nat.zero_le _, fun a h => absurd h (Nat.not_lt_zero a)⟩ (by refine And.intro ?_ rfl; simp only [leS, Nat.reduceEqDiff, ↓reduceIte, true_and, and_true]; rfl) (fun i hi => ?_); obtain ⟨hi, Hi⟩ := hi
 refine gB ?_
 refine gI (fun h2 => ?_) fun h2 => ?_
 ·refine ats_skip ?_
  (repeat refine ats_seq ?_); refine ats_block ?_
  refine gB ?_
  refine gI (fun h3 => ?_) fun h3 => ?_
  ·refine gB ?_
   refine ats_ret (finB rfl ?_)
   refine (decide_eq_true ?_).symm
   rw [← h3, List.getD_eq_getElem?_getD, List.getElem?_eq_getElem (by omega)]
   exact List.getElem_mem _
  ·refine ats_skip ?_
   refine gB ?_
   refine ⟨i + 1, ⟨by omega, fun a ha => by rcases Nat.lt_succ_iff_lt_or_eq.1 ha with h | rfl; exact Hi a h; exact (by omega)⟩, by omega, .inl ⟨?_, rfl⟩⟩; simp only [leS, Nat.reduceEqDiff, ↓reduceIte, true_and, and_true]; omega
 ·refine ats_exit (lq_x ?_)
  refine gB ?_
  refine ats_ret (finB rfl ?_)
  refine (decide_eq_false fun hm => ?_).symm
  obtain ⟨j, j1, j2⟩ := List.mem_iff_getElem.1 hm
  have := Hi j (by omega)
  rw [List.getD_eq_getElem?_getD, List.getElem?_eq_getElem j1] at this
  exact this j2
end Go.Proofs.YtjcfefgbieeheaaDoor
