import Derived.Test.YtkdadpdmnmjikaaJz1
import Derived.Test.YtkdadpdmnmjikaaDz1
import Derived.Test.YtkdadpdmnmjikaaEj
import Derived.Test.YtkdadpdmnmjikaaHd
import Derived.Test.YtkdadpdmnmjikaaQd9
import Derived.Test.YtkdadpdmnmjikaaMn
import Derived.Test.YtkdadpdmnmjikaaJz3
set_option linter.unusedSimpArgs false
set_option linter.unusedVariables false
namespace Go.Proofs.Ytkdadpdmnmjikaa
open Go Go.Aw Go.Pl
attribute [local go_sem] pl_fin pl_stop pl_one pl_alt PK_ap pickO List.getElem?_toArray List.getElem?_cons_zero List.getElem?_cons_succ
theorem ringE_nil {P : Program} {f : Nat} {args : List AV} {c : Int} (h : PureCall P f args (.tup [.agg [.nil], .int c])) : PureCall P f args (.tup [.agg [.l3 []], .int c]) :=
 pure_le h (avLe_tup (avsLe_cons (avLe_agg (avsLe_cons avLe_nil3 (avsLe_rfl _))) (avsLe_rfl _)))
set_option maxHeartbeats 8000000 in
theorem spinRing_ok (l st : Nat) (h1 : 1 ≤ st) (h2 : st ≤ 2) (h16 : l / st + 1 ≤ 16) (hl : l ≤ 40) : FreshCall Try.prog 46 [.int l, .int st] (.agg [.l3 (spnT l st)]) := by
 obtain ⟨n, en⟩ : ∃ n, l / st + 1 = n := ⟨_, rfl⟩
 have eq : (l : Int).tdiv st + 1 = n := by rw [tdivN, ← en]; push_cast; rfl
 have hst : ∀ i, i < n → i * st ≤ l := fun i hi => Nat.le_trans (Nat.mul_le_mul_right st (show i ≤ l / st by omega)) (Nat.div_mul_le_self l st)
 have hdiv : ∀ c, c ≤ l → c / st < n := fun c hc => by
  have := Nat.div_le_div_right (c := st) hc
  omega
 have hn1 : 1 ≤ n := by rw [← en]; exact Nat.le_add_left 1 _
 have hE := emptyCube_ok n hn1 (by omega)
 rw [cub0] at hE
 have hb := tdivN l st
 have hb2 : l / st ≤ 15 := by omega
 have lz := cubF_length n zG
 have hm0 : ∀ i j t, (spLo (i * st) (j * st) + 2 * t) % st = 0 := fun i j t => by
  have h : st = 1 ∨ st = 2 := by omega
  rcases h with rfl | rfl
  ·exact Nat.mod_one _
  ·unfold spLo; omega
 unfold spnT
 rw [en] at *
 rw [show spG l st n n = it (fun i g => spR l st i n g) n zG from rfl]
 refine FreshCall.intro (n := 74) (rs := [.cell 4 38]) Try.call46 Try.func46 rfl rfl rfl (by simp only [List.length_cons, List.length_nil]; omega) (fun cx hcx => ats_of ?_); simp only [argSlots, Nat.zero_add, Nat.reduceAdd]
 refine gA ?_
 refine gC fun K hK => ?_
 simp only [eq]
 (repeat refine aI (hb := ?_))
 refine fcall_own rfl (hE) rfl ?_; simp only [go_sem, seval]
 (repeat refine aI (hb := ?_))
 refine hK _ ?_; clear hK K
 refine gC fun K hK => ?_
 simp only [lz]
 (repeat refine aI (hb := ?_))
 refine hK _ ?_; clear hK K
 (repeat refine ats_seq ?_); refine ats_loop (fun i : Nat => ⟨[(0, .int l), (1, .int st), (4, .bptr 0 0), (5, .bptr 2 0), (18, .int n), (19, .int i)], [(1, .t3 (cubF n (it (fun i g => spR l st i n g) i zG))), (0, .bx [.nil]), (2, .bx [.ref 1 []])]⟩) (fun i => i ≤ n) (fun i => n - i) 0 (Nat.zero_le _) (by refine And.intro ?_ rfl; simp only [leS, Nat.reduceEqDiff, ↓reduceIte, true_and, and_true]; repeat' (first | rfl | with_reducible refine And.intro ?_ ?_ | omega)) (fun i hi => ?_)
 obtain ⟨G, eG⟩ : ∃ G, it (fun i g => spR l st i n g) i zG = G := ⟨_, rfl⟩
 rw [eG]
 have lG := cubF_length n G
 refine gB ?_
 refine gI (fun hli => ?_) fun hli => ?_
 ·refine ats_skip ?_
  (repeat refine ats_seq ?_); refine ats_block ?_
  refine gB ?_
  refine gC fun K hK => ?_
  simp only [lG]
  (repeat refine aI (hb := ?_))
  refine hK _ ?_; clear hK K
  (repeat refine ats_seq ?_); refine ats_loop (fun j : Nat => ⟨[(0, .int l), (1, .int st), (4, .bptr 0 0), (5, .bptr 2 0), (6, .int i), (18, .int n), (19, .int i), (24, .int n), (25, .int j)], [(1, .t3 (cubF n (it (fun j g => spC l st i j (spCn l (i * st) (j * st)) g) j G))), (0, .bx [.nil]), (2, .bx [.ref 1 []])]⟩) (fun j => j ≤ n) (fun j => n - j) 0 (Nat.zero_le _) (by refine And.intro ?_ rfl; simp only [leS, Nat.reduceEqDiff, ↓reduceIte, true_and, and_true]; repeat' (first | rfl | with_reducible refine And.intro ?_ ?_ | omega)) (fun j hj => ?_)
  obtain ⟨G', eG'⟩ : ∃ G', it (fun j g => spC l st i j (spCn l (i * st) (j * st)) g) j G = G' := ⟨_, rfl⟩
  rw [eG']
  refine gB ?_
  refine gI (fun hlj => ?_) fun hlj => ?_
  ·have e1 : (i : Int) * st = ((i * st : Nat) : Int) := by push_cast; rfl
   have e2 : (j : Int) * st = ((j * st : Nat) : Int) := by push_cast; rfl
   have ba := hst i (by omega)
   have bb := hst j (by omega)
   have hmm := hm0 i j
   have eR : it (fun j g => spC l st i j (spCn l (i * st) (j * st)) g) (j + 1) G = it (fun t g => updG g i j ((spLo (i * st) (j * st) + 2 * t) / st) 1) (spCn l (i * st) (j * st)) G' := by rw [← eG']; rfl
   generalize i * st = a at *
   generalize j * st = b at *
   have eLo : (if (b : Int) - a > a - b then (b : Int) - a else a - b) = ((spLo a b : Nat) : Int) := by unfold spLo; split <;> omega
   have eHi : (if 2 * (l : Int) - a - b < (a : Int) + b then 2 * (l : Int) - a - b else (a : Int) + b) = ((spHi l a b : Nat) : Int) := by unfold spHi; split <;> omega
   have hHi := @spHi_le l a b
   have hCn := @spCn_next l a b
   have bLo : spLo a b ≤ 40 := by unfold spLo; omega
   have bCn : spCn l a b ≤ 40 := by unfold spCn; split <;> omega
   generalize spLo a b = lo at *
   generalize spHi l a b = hi at *
   generalize spCn l a b = cn at *
   clear hm0
   refine ats_skip ?_
   (repeat refine ats_seq ?_); refine ats_block ?_
   refine gB ?_
   refine gC fun K hK => ?_
   simp only [e1, e2]
   (repeat refine aI (hb := ?_))
   refine hK _ ?_; clear hK K
   refine gC fun K hK => ?_
   simp only [eLo]
   (repeat refine aI (hb := ?_))
   refine hK _ ?_; clear hK K
   (repeat refine ats_seq ?_); refine ats_loop (fun t : Nat => ⟨[(0, .int l), (1, .int st), (4, .bptr 0 0), (5, .bptr 2 0), (6, .int i), (7, .int j), (8, .int a), (9, .int b), (10, .int ((lo + 2 * t : Nat) : Int)), (18, .int n), (19, .int i), (24, .int n), (25, .int j)], [(1, .t3 (cubF n (it (fun t g => updG g i j ((lo + 2 * t) / st) 1) t G'))), (0, .bx [.nil]), (2, .bx [.ref 1 []])]⟩) (fun t => t ≤ cn) (fun t => cn - t) 0 (Nat.zero_le _) (by refine And.intro ?_ rfl; simp only [leS, Nat.reduceEqDiff, ↓reduceIte, true_and, and_true]; repeat' (first | rfl | with_reducible refine And.intro ?_ ?_ | omega)) (fun t ht => ?_)
   obtain ⟨K', eK⟩ : ∃ K', it (fun t g => updG g i j ((lo + 2 * t) / st) 1) t G' = K' := ⟨_, rfl⟩
   rw [eK]
   refine gC fun K hK => ?_
   simp only [eHi]
   (repeat refine aI (hb := ?_))
   refine hK _ ?_; clear hK K
   refine gI (fun hlt => ?_) fun hlt => ?_
   ·have l1 := cubF_length n K'
    have l2 := cubF_mat (f := K') (show i < n by omega)
    have l3 := cubF_row (f := K') (show i < n by omega) (show j < n by omega)
    have hc := hdiv (lo + 2 * t) (by omega)
    have hT := (hCn ht).1 (by omega)
    have ed := tdivN (lo + 2 * t) st
    have em := tmodN (lo + 2 * t) st
    rw [hmm t] at em
    have sk := cubF_upd (n := n) (g := K') (i := i) (j := j) (k := (lo + 2 * t) / st) (v := 1) (by omega) (by omega)
    have eK1 : it (fun t g => updG g i j ((lo + 2 * t) / st) 1) (t + 1) G' = updG K' i j ((lo + 2 * t) / st) 1 := by rw [← eK]; rfl
    generalize (lo + 2 * t) / st = z at *
    have e3 : ((lo + 2 * t : Nat) : Int) + 2 = ((lo + 2 * (t + 1) : Nat) : Int) := by omega
    have bc : lo + 2 * t ≤ 40 := by omega
    generalize lo + 2 * t = c at *
    refine ats_skip ?_
    (repeat refine ats_seq ?_); refine ats_block ?_
    refine gC fun K hK => ?_
    simp only [em]
    (repeat refine aI (hb := ?_))
    refine hK _ ?_; clear hK K
    (repeat refine ats_seq ?_); refine ats_yes rfl trivial ?_
    (repeat refine ats_seq ?_)
    refine ats_plan [] (.one 0 (.one 1 (.one 2 (.one 3 (.one 4 (.one 5 (.one 6 (.one 7 (.one 8 (.one 9 (.one 10 (.one 11 (.alt 12 .fin .stop))))))))))))) ⟨[(0, .int l), (1, .int st), (4, .bptr 0 0), (5, .bptr 2 0), (6, .int i), (7, .int j), (8, .int a), (9, .int b), (10, .int c), (18, .int n), (19, .int i), (24, .int n), (25, .int j)], [(1, .t3 ((cubF n K').set i (((cubF n K').getD i []).set j ((((cubF n K').getD i []).getD j []).set z 1)))), (0, .bx [.nil]), (2, .bx [.ref 1 []])]⟩ (fix0 hcx) mixed (by kernel_rfl) (fun K hK => ?_) ?_
    ·simp only [go_sem, seval, Option.getD_some, and_true, true_and, and_self, List.contains_cons, List.contains_nil, Bool.or_false, Bool.or_true]
     repeat' (first | exact hK _ (by refine And.intro ?_ rfl; simp only [leS, Nat.reduceEqDiff, ↓reduceIte, true_and, and_true])  | with_reducible refine And.intro ?_ ?_ | omega | ((simp only [ed])) | (simp only [go_sem, seval, Option.getD_some, and_true, true_and, and_self, List.contains_cons, List.contains_nil, Bool.or_false, Bool.or_true]))
    rw [sk]
    refine gC fun K hK => ?_
    simp only [e3]
    (repeat refine aI (hb := ?_))
    refine hK _ ?_; clear hK K
    refine ⟨t + 1,  by omega, by omega, .inl ⟨by simp only [leS, Nat.reduceEqDiff, ↓reduceIte, true_and, and_true]; (try omega),  by rw [eK1]⟩⟩
   ·have hT := (hCn ht).2 (by omega)
    refine ats_exit (lq_x ?_)
    refine gB ?_
    refine ⟨j + 1,  by omega, by omega, .inl ⟨by simp only [leS, Nat.reduceEqDiff, ↓reduceIte, true_and, and_true]; omega,  by rw [← eK, hT, ← eR]⟩⟩
  ·obtain rfl : j = n := by omega
   refine ats_exit (lq_x ?_)
   refine gB ?_
   refine ⟨i + 1,  by omega, by omega, .inl ⟨by simp only [leS, Nat.reduceEqDiff, ↓reduceIte, true_and, and_true]; omega,  by rw [← eG', ← eG]; rfl⟩⟩
 ·obtain rfl : i = n := by omega
  rw [← eG]
  refine ats_exit (lq_x ?_)
  refine gA ?_
  exact ats_ret (ownC (v := .agg [.ref 1 []]) (by simp only [go_sem, seval]) rfl (by simp))
def spR1 (k : Int) : Cu × Int := if 0 ≤ k ∧ k ≤ 15 then (spnT k.toNat 1, 0) else ([], 2)
def spR2 (k : Int) : Cu × Int := if 0 ≤ k ∧ k ≤ 31 then (spnT k.toNat 2, 0) else ([], 2)
theorem implSpin_ok (k : Int) : PureCall Try.prog 17 [.int k] (.tup [.agg [.l3 (spR1 k).1], .int (spR1 k).2]) := by
 have hw := within_ok k 0 15
 by_cases hn : 0 ≤ k ∧ k ≤ 15
 ·have e : spR1 k = (spnT k.toNat 1, 0) := by unfold spR1; rw [if_pos hn]
  rw [e]
  rw [decide_eq_true hn.1, decide_eq_true hn.2] at hw
  obtain ⟨m, rfl⟩ : ∃ m : Nat, k = m := ⟨k.toNat, by omega⟩
  have hS := spinRing_ok m 1 (by decide) (by decide) (by omega) (by omega)
  rw [show ((1 : Nat) : Int) = 1 from rfl] at hS
  rw [Int.toNat_natCast]
  generalize spnT m 1 = T at *
  refine PureCall.intro (n := 10) (rs := [.cell 2 38, .tmp 3]) Try.call17 Try.func17 rfl rfl rfl (by simp only [List.length_cons, List.length_nil]; omega) (fun cx hcx => ats_of ?_); simp only [argSlots, Nat.zero_add, Nat.reduceAdd]
  refine gB ?_
  refine gC fun K hK => ?_
  first | refine fcall_data (hw) rfl ?_ | refine YR_intro (acall_data (hw) rfl) ?_
  simp only [go_sem, seval]
  refine hK _ ?_; clear hK K
  (repeat refine ats_seq ?_); refine ats_no rfl trivial ?_
  refine ats_skip ?_
  refine gC fun K hK => ?_
  first | refine fcall_fresh rfl (hS) ?_ | refine YR_intro (acall_fresh rfl (hS)) ?_
  simp only [go_sem, seval]
  refine hK _ ?_; clear hK K
  exact ats_ret ⟨.inr rfl, .tup [.agg [.l3 T], .int 0], by simp only [resL, resA, go_sem, seval], rfl⟩
 ·have e : spR1 k = ([], 2) := by unfold spR1; rw [if_neg hn]
  rw [e]
  rw [show (decide (0 ≤ k) && decide (k ≤ 15)) = false by rw [← Bool.decide_and]; exact decide_eq_false hn] at hw
  refine ringE_nil ?_
  refine PureCall.intro (n := 10) (rs := [.cell 2 38, .tmp 3]) Try.call17 Try.func17 rfl rfl rfl (by simp only [List.length_cons, List.length_nil]; omega) (fun cx hcx => ats_of ?_); simp only [argSlots, Nat.zero_add, Nat.reduceAdd]
  refine gB ?_
  refine gC fun K hK => ?_
  first | refine fcall_data (hw) rfl ?_ | refine YR_intro (acall_data (hw) rfl) ?_
  simp only [go_sem, seval]
  refine hK _ ?_; clear hK K
  (repeat refine ats_seq ?_); refine ats_yes rfl trivial ?_
  refine gB ?_
  exact ats_ret ⟨.inr rfl, .tup [.agg [.nil], .int 2], by simp only [resL, resA, go_sem, seval], rfl⟩
theorem implEven_ok (k : Int) : PureCall Try.prog 22 [.int k] (.tup [.agg [.l3 (spR2 k).1], .int (spR2 k).2]) := by
 have hw := within_ok k 0 31
 by_cases hn : 0 ≤ k ∧ k ≤ 31
 ·have e : spR2 k = (spnT k.toNat 2, 0) := by unfold spR2; rw [if_pos hn]
  rw [e]
  rw [decide_eq_true hn.1, decide_eq_true hn.2] at hw
  obtain ⟨m, rfl⟩ : ∃ m : Nat, k = m := ⟨k.toNat, by omega⟩
  have hS := spinRing_ok m 2 (by decide) (by decide) (by omega) (by omega)
  rw [show ((2 : Nat) : Int) = 2 from rfl] at hS
  rw [Int.toNat_natCast]
  generalize spnT m 2 = T at *
  refine PureCall.intro (n := 10) (rs := [.cell 2 38, .tmp 3]) Try.call22 Try.func22 rfl rfl rfl (by simp only [List.length_cons, List.length_nil]; omega) (fun cx hcx => ats_of ?_); simp only [argSlots, Nat.zero_add, Nat.reduceAdd]
  refine gB ?_
  refine gC fun K hK => ?_
  first | refine fcall_data (hw) rfl ?_ | refine YR_intro (acall_data (hw) rfl) ?_
  simp only [go_sem, seval]
  refine hK _ ?_; clear hK K
  (repeat refine ats_seq ?_); refine ats_no rfl trivial ?_
  refine ats_skip ?_
  refine gC fun K hK => ?_
  first | refine fcall_fresh rfl (hS) ?_ | refine YR_intro (acall_fresh rfl (hS)) ?_
  simp only [go_sem, seval]
  refine hK _ ?_; clear hK K
  exact ats_ret ⟨.inr rfl, .tup [.agg [.l3 T], .int 0], by simp only [resL, resA, go_sem, seval], rfl⟩
 ·have e : spR2 k = ([], 2) := by unfold spR2; rw [if_neg hn]
  rw [e]
  rw [show (decide (0 ≤ k) && decide (k ≤ 31)) = false by rw [← Bool.decide_and]; exact decide_eq_false hn] at hw
  refine ringE_nil ?_
  refine PureCall.intro (n := 10) (rs := [.cell 2 38, .tmp 3]) Try.call22 Try.func22 rfl rfl rfl (by simp only [List.length_cons, List.length_nil]; omega) (fun cx hcx => ats_of ?_); simp only [argSlots, Nat.zero_add, Nat.reduceAdd]
  refine gB ?_
  refine gC fun K hK => ?_
  first | refine fcall_data (hw) rfl ?_ | refine YR_intro (acall_data (hw) rfl) ?_
  simp only [go_sem, seval]
  refine hK _ ?_; clear hK K
  (repeat refine ats_seq ?_); refine ats_yes rfl trivial ?_
  refine gB ?_
  exact ats_ret ⟨.inr rfl, .tup [.agg [.nil], .int 2], by simp only [resL, resA, go_sem, seval], rfl⟩
end Go.Proofs.Ytkdadpdmnmjikaa
namespace Go.Proofs.Ytkdadpdmnmjikaa
open Go Go.Aw Go.Pl
end Go.Proofs.Ytkdadpdmnmjikaa
