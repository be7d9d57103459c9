import Derived.Test.YtmjcbgpbhlheoaaRa
import Derived.Test.YtmjcbgpbhlheoaaEx1
import Derived.Test.YtmjcbgpbhlheoaaJz4
import Derived.Test.YtmjcbgpbhlheoaaWz1
import Derived.Test.YtmjcbgpbhlheoaaJz3
import Derived.Test.YtmjcbgpbhlheoaaQd3
set_option linter.unusedSimpArgs false
set_option linter.unusedVariables false
namespace Go.Proofs.Ytmjcbgpbhlheoaa
open Go Go.Aw Go.Pl
end Go.Proofs.Ytmjcbgpbhlheoaa
namespace Go.Proofs.Ytmjcbgpbhlheoaa
open Go Go.Aw Go.Pl
theorem dn_small {t : Cu} (h : RingP t) (hD : DimP t (dnL t)) : ∀ k, k < t.length → 1 ≤ (dnL t).getD k 0 ∧ (dnL t).getD k 0 ≤ 16000 := fun k hk => by
 obtain ⟨D, m, e, ok, hm, h0⟩ := hD.toF.nat h
 have h1 : (dnL t).getD k 0 = ((D k : Nat) : Int) := e k hk
 have h2 := ok.le k hk
 have h3 := ok.pos k hk
 rw [h1]
 omega
theorem sumOfB_ok (r v : List Int) (n : Nat) (hn : r.length = n) (hv : v.length = n) (h16 : n ≤ 16) (bd : ∀ y, y < n → 0 ≤ dotG r v y ∧ dotG r v y ≤ 16000000000) : PureCall Try.prog 46 [.l1 r, .l1 v] (.int (dot v r)) := by
 refine PureCall.intro (n := 25) (rs := [.tmp 4]) Try.call46 Try.func46 rfl rfl rfl (by simp only [List.length_cons, List.length_nil]; omega) (fun cx hcx => ats_of ?_); simp only [argSlots, Nat.zero_add, Nat.reduceAdd]
 refine gA ?_
 refine gA ?_
 refine gA ?_
 (repeat refine ats_seq ?_); refine ats_loop (fun y : Nat => ⟨[(0, .l1 r), (1, .l1 v), (5, .int (sumTo (dotG r v) y)), (8, .int r.length), (9, .int y)], []⟩) (fun y => y ≤ r.length) (fun y => r.length - y) 0 (Nat.zero_le _) (by refine And.intro ?_ rfl; simp only [leS, Nat.reduceEqDiff, ↓reduceIte, true_and, and_true]; repeat' (first | rfl | with_reducible refine And.intro ?_ ?_ | omega)) (fun y hy => ?_)
 refine gA ?_
 refine gI (fun hly => ?_) fun hly => ?_
 ·have sL := sumTo_le (n := y) (fun x hx => bd x (by omega))
  have cL := bd y (by omega)
  simp only [dotG] at cL
  refine ats_skip ?_
  (repeat refine ats_seq ?_); refine ats_block ?_
  refine gA ?_
  (repeat refine ats_seq ?_); refine ats_pick (fix0 hcx) mixed (by kernel_rfl) fun K hK => ?_; simp only [go_sem, seval]; (repeat refine aI (hb := ?_)); refine hK _ ?_; clear hK K
  refine gB ?_
  refine ⟨y + 1,  by omega, by omega, .inl ⟨by simp only [leS, Nat.reduceEqDiff, ↓reduceIte, true_and, and_true]; exact ⟨rfl, by omega⟩,  rfl⟩⟩
 ·obtain rfl : y = r.length := by omega
  refine ats_exit (lq_x ?_)
  refine gA ?_
  refine ats_ret (finI rfl ?_)
  rfl
theorem implWd_ok (t : Cu) : PureCall Try.prog 20 [.agg [.l3 t]] (.tup [.int (dot ((idR t).1.getD []) ((idR t).1.getD [])), .int (idR t).2]) := by
 have hk : FreshCall Try.prog 45 [.agg [.l3 t]] (.tup [.l1 ((idR t).1.getD []), .int (idR t).2]) := by
  have h := implId_ok t
  generalize (idR t).2 = c at *
  generalize (idR t).1 = u at *
  cases u with
  | none => exact fresh_nil h
  | some u => exact h
 have hS : PureCall Try.prog 46 [.l1 ((idR t).1.getD []), .l1 ((idR t).1.getD [])] (.int (dot ((idR t).1.getD []) ((idR t).1.getD []))) := by
  have hnil : PureCall Try.prog 46 [.l1 [], .l1 []] (.int (dot [] [])) := sumOfB_ok [] [] 0 rfl rfl (by decide) fun y hy => absurd hy (Nat.not_lt_zero y)
  cases hr : isRing t with
  | false =>
   have e : idR t = (none, 1) := by unfold idR; rw [hr]; rfl
   rw [e]; exact hnil
  | true =>
   cases hb : bd (DimP t (dnL t)) with
   | false =>
    have e : idR t = (none, 4) := by unfold idR; rw [hr, hb]; rfl
    rw [e]; exact hnil
   | true =>
    have e : idR t = (some (dnL t), 0) := by unfold idR; rw [hr, hb]; rfl
    rw [e]
    have h := isRing_P hr
    have hs := dn_small h (bd_iff.1 hb)
    have lL := (dnL_bd h).1
    refine sumOfB_ok (dnL t) (dnL t) t.length lL lL h.cube.2.1 fun y hy => ?_
    have h1 := hs y hy
    unfold dotG
    refine ⟨Int.mul_nonneg (by omega) (by omega), ?_⟩
    have : (dnL t).getD y 0 * (dnL t).getD y 0 ≤ 16000 * 16000 := Int.mul_le_mul h1.2 h1.2 (by omega) (by decide)
    omega
 generalize (idR t).1.getD [] = L at *
 generalize (idR t).2 = c at *
 refine PureCall.intro (n := 15) (rs := [.tmp 2, .tmp 3]) Try.call20 Try.func20 rfl rfl rfl (by simp only [List.length_cons, List.length_nil]; omega) (fun cx hcx => ats_of ?_); simp only [argSlots, Nat.zero_add, Nat.reduceAdd]
 refine gB ?_
 refine gC fun K hK => ?_
 first | refine fcall_fresh rfl (hk) ?_ | refine YR_intro (acall_fresh rfl (hk)) ?_
 simp only [go_sem, seval]
 refine hK _ ?_; clear hK K
 refine gC fun K hK => ?_
 first | refine fcall_data (hS) rfl ?_ | refine YR_intro (acall_data (hS) rfl) ?_
 simp only [go_sem, seval]
 refine hK _ ?_; clear hK K
 exact ats_ret (fin2 trivial trivial rfl)
end Go.Proofs.Ytmjcbgpbhlheoaa
namespace Go.Proofs.Ytmjcbgpbhlheoaa
open Go Go.Aw Go.Pl
end Go.Proofs.Ytmjcbgpbhlheoaa
