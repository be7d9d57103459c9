import Derived.Test.YtlngnhbochmcoaaLib6
import Derived.Test.YtlngnhbochmcoaaBr
import Derived.Test.YtlngnhbochmcoaaPlX
import Derived.RangeFuncBox
import Derived.OwnWalkIn
import Derived.TacticsInMore
import Derived.LoopNIn
import Derived.LoopIn
set_option linter.unusedSimpArgs false
set_option linter.unusedVariables false
namespace Go.Proofs.Ytlngnhbochmcoaa
open Go Go.Aw Go.Pl Go.RowKit
attribute [local go_sem] Oper.semAt_some
set_option maxRecDepth 100000 in
set_option maxHeartbeats 4000000 in
theorem JG_ : au9 Try.prog 99 := by
 intro l bb N J W hN hh he hr h0
 unfold maxLen at hN
 obtain ⟨a0, cap0, hc0⟩ := hh 0 W (Nat.zero_le _) h0
 refine callsIn_of_wp Try.func99 rfl trivial ?_ rfl
 simp only [Try.ntmps99, List.size_toArray, List.length_cons, List.length_nil, Nat.reduceAdd, Nat.reduceSub, Array.replicate_succ, Array.replicate_zero, List.push_toArray, List.append_toArray, List.nil_append, List.cons_append]
 gi_wp2
 gi_loopw [3] (fun i wr => ∃ k : Nat, k ≤ N ∧ i = .int .i64 ((N : Int) - 1 - k) ∧ J k wr)
  (fun i _ => (intOf i + 1).toNat)
 case atStart => exact ⟨0, Nat.zero_le _, by simp, h0⟩
 case round =>
  obtain ⟨k, hk, rfl, hJs⟩ := hrel
  by_cases hlt : k < N
  ·obtain ⟨v, hel⟩ := he k wr hlt hJs
   obtain ⟨fn, tmps, assign, body, hy, hR⟩ := hr k wr v hlt hJs hel
   obtain ⟨b, off, cap, hc1, hc2⟩ := hel
   have ei : ((N - 1 - k : Nat) : Int) = (N : Int) - 1 - k := by omega
   rw [ei] at hy
   gi_wp2
   refine ⟨rfl, hR.mono ?_⟩
   rintro e W3 ⟨rfl, hJ3⟩
   gi_wp2
   go_roundw
   case rel => exact ⟨k + 1, by omega, by simp; omega, hJ3⟩
   case measure => simp [intOf]; omega
  ·obtain rfl : k = N := by omega
   gi_wp2
   go_end0
   exact ⟨⟨_, rfl⟩, hJs⟩
end Go.Proofs.Ytlngnhbochmcoaa
