import Derived.Test.YtaijdhkjemffhaaId
import Derived.Test.YtaijdhkjemffhaaWx3
set_option linter.unusedSimpArgs false
set_option linter.unusedVariables false
namespace Go.Proofs.Ytaijdhkjemffhaa
open Go Go.Aw Go.Pl
attribute [local go_sem] mv_nil mv_cons MVK_ap pl_fin pl_stop pl_one pl_alt PK_ap pickO List.getElem?_toArray List.getElem?_cons_zero List.getElem?_cons_succ
noncomputable def addS (o : List Int) (m : Int) (w : List (List (List Int))) (first : Bool) (st : List (List (List Int))) (u : List Int) : List (List (List Int)) := if first = true ∧ st ≠ [] then st else st ++ (sOk o m w u).toList
noncomputable def runA (o : List Int) (m : Int) (w : List (List (List Int))) (first : Bool) (st : List (List (List Int))) (us : List (List Int)) : List (List (List Int)) := us.foldl (addS o m w first) st
section
variable {o : List Int} {m : Int} {w : List (List (List Int))} {first : Bool}
theorem runA_app {us vs : List (List Int)} {st : List (List (List Int))} : runA o m w first st (us ++ vs) = runA o m w first (runA o m w first st us) vs := List.foldl_append ..
theorem runA_stop {st : List (List (List Int))} (h : first = true ∧ st ≠ []) : ∀ us, runA o m w first st us = st
  | [] => rfl
  | u :: us => by
    show runA o m w first (addS o m w first st u) us = st
    have : addS o m w first st u = st := by unfold addS; rw [if_pos h]
    rw [this]
    exact runA_stop h us
theorem addS_len {st : List (List (List Int))} {u : List Int} : (addS o m w first st u).length ≤ st.length + 1 := by
  unfold addS
  split
  · omega
  · rw [List.length_append]
    cases sOk o m w u <;> simp
theorem runA_len : ∀ (us : List (List Int)) (st : List (List (List Int))), (runA o m w first st us).length ≤ st.length + us.length
  | [], st => Nat.le_refl _
  | u :: us, st => by
    have h1 := runA_len us (addS o m w first st u)
    have h2 := addS_len (o := o) (m := m) (w := w) (first := first) (st := st) (u := u)
    show (runA o m w first (addS o m w first st u) us).length ≤ _
    rw [List.length_cons]
    omega
theorem extA_len {B : Nat} (hB : 0 < B) (d : Nat) (v : List Int) : (extA B d v).length = B ^ d := by rw [extA_eq hB, List.length_map, List.length_range]
theorem sOk_pos {L : List Int} (h : isBr o m w (bS o m w L) = true ∧ ledL o (bS o m w L) = L) : sOk o m w L = some (bS o m w L) := by
  unfold sOk
  rw [if_pos h]
theorem sOk_neg {L : List Int} (h : ¬ (isBr o m w (bS o m w L) = true ∧ ledL o (bS o m w L) = L)) : sOk o m w L = none := by
  unfold sOk
  rw [if_neg h]
end
def NumL (M : Nat) (v : List Int) : Prop := ∀ j, j < v.length → 0 ≤ v.getD j 0 ∧ v.getD j 0 ≤ (M : Int) - 1
theorem NumL.app {M : Nat} {v : List Int} (h : NumL M v) {a : Nat} (ha : a < M) : NumL M (v ++ [(a : Int)]) := by
  intro j hj
  rw [List.length_append] at hj
  by_cases e : j < v.length
  · rw [List.getD_eq_getElem?_getD, List.getElem?_append_left e, ← List.getD_eq_getElem?_getD]
    exact h j e
  · have : j = v.length := by simp at hj; omega
    subst this
    simp
    omega
set_option maxRecDepth 100000 in
set_option maxHeartbeats 8000000 in
theorem allL_ok (o : List Int) (M : Nat) (w : List (List (List Int))) (hc : CocOk o M w) (hck : chk o = true) (h3 : o.length ≤ 3) (first : Bool) :
    ∀ (d : Nat) (v : List Int) (st : List (List (List Int))), v.length + d = o.length * o.length → NumL M v → (first = true → st = []) → st.length + M ^ d ≤ 1000000 → 
    OwnCall Try.prog 20 [.agg [.l1 o, .int M, .l3 w], .l1 v, .bool first, .ref 5 []] [(5, .r3 st)] [(5, .r3 (runA o M w first st (extA M d v)))] (.ref 5 []) []
  | 0, v, st, hd, hv, hf, hl => by
    have hs := hc.1
    have m1 := hs.2.2.1
    have m2 := hs.2.2.2.1
    have rr : o.length * o.length ≤ 9 := by have := Nat.mul_le_mul h3 h3; omega
    have lv : v.length = o.length * o.length := by omega
    have lvI : (v.length : Int) = (o.length : Int) * (o.length : Int) := by rw [lv]; push_cast; rfl
    have rrI : (o.length : Int) * (o.length : Int) ≤ 9 := by omega
    have hB := l18Build_ok o M w hc hck h3 v lv (fun j hj => hv j (by omega))
    have hrun : runA o M w first st (extA M 0 v) = addS o M w first st v := rfl
    have hadd : addS o M w first st v = st ++ (sOk o M w v).toList := by
      unfold addS
      rw [if_neg (fun h => h.2 (hf h.1))]
    rw [hrun, hadd]
    cases hib : isBr o M w (bS o M w v) with
    | false =>
      rw [sOk_neg (fun h => by rw [hib] at h; cases h.1)]
      rw [hib] at hB
      simp only [Option.toList_none, List.append_nil]
      refine OwnCall.intro (n := 66) (rs := [.tmp 8]) 3 [1, 2] (X := []) Try.call20 Try.func20 rfl rfl rfl (by simp only [List.length_cons, List.length_nil]; omega) (by simp [Aw.ids, rootsA, rootsAs, argSlots, slotGet]) (fun cx hcx => AT.weakG (ats_of ?_)); simp only [argSlots, Nat.zero_add, Nat.reduceAdd]
      (repeat refine ats_seq ?_); refine ats_go (by first | exact fix0 hcx | exact fix1 hcx rfl | exact fixN hcx rfl) fun K hK => ?_; simp only [go_sem, seval]; (repeat refine And.intro (by first | omega | (intro hq; first | omega | (simp at hq <;> omega) | (simp_all <;> omega))) ?_); refine hK _ ?_; clear hK K
      (repeat refine ats_seq ?_); refine ats_go (by first | exact fix0 hcx | exact fix1 hcx rfl | exact fixN hcx rfl) fun K hK => ?_; simp only [go_sem, seval]; (repeat refine And.intro (by first | omega | (intro hq; first | omega | (simp at hq <;> omega) | (simp_all <;> omega))) ?_); refine hK _ ?_; clear hK K
      (repeat refine ats_seq ?_); refine ats_go (by first | exact fix0 hcx | exact fix1 hcx rfl | exact fixN hcx rfl) fun K hK => ?_; simp only [go_sem, seval]
      simp only [lvI]
      (repeat refine And.intro (by first | omega | (intro hq; first | omega | (simp at hq <;> omega) | (simp_all <;> omega))) ?_)
      refine hK _ ?_; clear hK K
      (repeat refine ats_seq ?_); first | refine ats_ifn (p := _) rfl trivial (fun h1 => ?_) (fun h1 => ?_) | refine ats_ifp (p := _) rfl trivial (fun h1 => ?_) (fun h1 => ?_) | refine ats_cond rfl trivial (fun h1 => ?_) (fun h1 => ?_)
      · (repeat refine ats_seq ?_); refine ats_go (by first | exact fix0 hcx | exact fix1 hcx rfl | exact fixN hcx rfl) fun K hK => ?_; simp only [go_sem, seval]
        (repeat refine And.intro (by first | omega | (intro hq; first | omega | (simp at hq <;> omega) | (simp_all <;> omega))) ?_)
        first | refine fcall_data (hB) rfl ?_ | refine YR_intro (acall_data (hB) rfl) ?_
        simp only [go_sem, seval]
        (repeat refine And.intro (by first | omega | (intro hq; first | omega | (simp at hq <;> omega) | (simp_all <;> omega))) ?_)
        refine hK _ ?_; clear hK K
        (repeat refine ats_seq ?_); refine ats_go (by first | exact fix0 hcx | exact fix1 hcx rfl | exact fixN hcx rfl) fun K hK => ?_; simp only [go_sem, seval]
        (repeat refine And.intro (by first | omega | (intro hq; first | omega | (simp at hq <;> omega) | (simp_all <;> omega))) ?_)
        refine YR_intro (v := .nil) (by first | trivial | (intro h; cases h)) ?_
        simp only [go_sem, seval]
        (repeat refine And.intro (by first | omega | (intro hq; first | omega | (simp at hq <;> omega) | (simp_all <;> omega))) ?_)
        refine YR_intro (v := .bool false) (by first | trivial | (intro h; cases h)) ?_
        simp only [go_sem, seval]
        (repeat refine And.intro (by first | omega | (intro hq; first | omega | (simp at hq <;> omega) | (simp_all <;> omega))) ?_)
        refine hK _ ?_; clear hK K
        (repeat refine ats_seq ?_); refine ats_no rfl trivial ?_
        refine ats_skip ?_
        (repeat refine ats_seq ?_); refine ats_go (by first | exact fix0 hcx | exact fix1 hcx rfl | exact fixN hcx rfl) fun K hK => ?_; simp only [go_sem, seval]; (repeat refine And.intro (by first | omega | (intro hq; first | omega | (simp at hq <;> omega) | (simp_all <;> omega))) ?_); refine hK _ ?_; clear hK K
        refine ats_ret ⟨⟨[(1, .l1 v), (2, .bool first), (8, .ref 5 [])], [(5, .r3 st)]⟩, ghost_trans (ghost_drop [6]) (ghost_can [] (by simp only [killL, killA, killAs, qOf, rmT, killH, killT, List.filter_cons, List.filter_nil, List.contains_cons, List.contains_nil, Bool.or_false, Bool.or_true, Bool.false_and, Bool.not_true, Bool.not_false, Bool.false_eq_true, if_true, if_false, rnLs, rnL, rn, rns, sw, SlotsLe, St.get, slotGet, List.map_cons, List.map_nil, seval, AV.int.injEq, AV.bool.injEq, AV.l1.injEq, AV.l2.injEq, AV.l3.injEq, true_and, and_true]) (by simp only [killL, killA, killAs, qOf, rmT, killH, killT, List.filter_cons, List.filter_nil, List.contains_cons, List.contains_nil, Bool.or_false, Bool.or_true, Bool.false_and, Bool.not_true, Bool.not_false, Bool.false_eq_true, if_true, if_false, sortH, insH, rnHs, rnH, rnT, rn, rns, sw, List.map_cons, List.map_nil, seval])), .inr rfl, (by first | rfl | exact ⟨trivial, rfl⟩ | (simp only [resL, resA, go_sem, seval]; done)), (by simp [St.get, slotGet, argSlots]), rfl⟩
      · exact absurd trivial h1
    | true =>
      have hE := isBr_E hib
      have hLd := (l18Leading_ok o M w (bS o M w v) hs.1 hs.2.1 h3 w.length hE.gr hs.nE hck).pure
      have hSm := l01Same_ok (ledL o (bS o M w v)) v
      rw [hib] at hB
      by_cases hled : ledL o (bS o M w v) = v
      · rw [sOk_pos ⟨hib, hled⟩]
        rw [decide_eq_true hled] at hSm
        obtain ⟨b, eb⟩ : ∃ b, bS o M w v = b := ⟨_, rfl⟩
        rw [eb] at hB hLd hSm ⊢
        simp only [Option.toList_some]
        refine OwnCall.intro (n := 66) (rs := [.tmp 8]) 3 [1, 2] (X := []) Try.call20 Try.func20 rfl rfl rfl (by simp only [List.length_cons, List.length_nil]; omega) (by simp [Aw.ids, rootsA, rootsAs, argSlots, slotGet]) (fun cx hcx => AT.weakG (ats_of ?_)); simp only [argSlots, Nat.zero_add, Nat.reduceAdd]
        (repeat refine ats_seq ?_); refine ats_go (by first | exact fix0 hcx | exact fix1 hcx rfl | exact fixN hcx rfl) fun K hK => ?_; simp only [go_sem, seval]; (repeat refine And.intro (by first | omega | (intro hq; first | omega | (simp at hq <;> omega) | (simp_all <;> omega))) ?_); refine hK _ ?_; clear hK K
        (repeat refine ats_seq ?_); refine ats_go (by first | exact fix0 hcx | exact fix1 hcx rfl | exact fixN hcx rfl) fun K hK => ?_; simp only [go_sem, seval]; (repeat refine And.intro (by first | omega | (intro hq; first | omega | (simp at hq <;> omega) | (simp_all <;> omega))) ?_); refine hK _ ?_; clear hK K
        (repeat refine ats_seq ?_); refine ats_go (by first | exact fix0 hcx | exact fix1 hcx rfl | exact fixN hcx rfl) fun K hK => ?_; simp only [go_sem, seval]
        simp only [lvI]
        (repeat refine And.intro (by first | omega | (intro hq; first | omega | (simp at hq <;> omega) | (simp_all <;> omega))) ?_)
        refine hK _ ?_; clear hK K
        (repeat refine ats_seq ?_); first | refine ats_ifn (p := _) rfl trivial (fun h1 => ?_) (fun h1 => ?_) | refine ats_ifp (p := _) rfl trivial (fun h1 => ?_) (fun h1 => ?_) | refine ats_cond rfl trivial (fun h1 => ?_) (fun h1 => ?_)
        · (repeat refine ats_seq ?_); refine ats_go (by first | exact fix0 hcx | exact fix1 hcx rfl | exact fixN hcx rfl) fun K hK => ?_; simp only [go_sem, seval]
          (repeat refine And.intro (by first | omega | (intro hq; first | omega | (simp at hq <;> omega) | (simp_all <;> omega))) ?_)
          first | refine fcall_data (hB) rfl ?_ | refine YR_intro (acall_data (hB) rfl) ?_
          simp only [go_sem, seval]
          (repeat refine And.intro (by first | omega | (intro hq; first | omega | (simp at hq <;> omega) | (simp_all <;> omega))) ?_)
          refine hK _ ?_; clear hK K
          (repeat refine ats_seq ?_); refine ats_go (by first | exact fix0 hcx | exact fix1 hcx rfl | exact fixN hcx rfl) fun K hK => ?_; simp only [go_sem, seval]
          (repeat refine And.intro (by first | omega | (intro hq; first | omega | (simp at hq <;> omega) | (simp_all <;> omega))) ?_)
          first | refine fcall_data (hLd) rfl ?_ | refine YR_intro (acall_data (hLd) rfl) ?_
          simp only [go_sem, seval]
          (repeat refine And.intro (by first | omega | (intro hq; first | omega | (simp at hq <;> omega) | (simp_all <;> omega))) ?_)
          first | refine fcall_data (hSm) rfl ?_ | refine YR_intro (acall_data (hSm) rfl) ?_
          simp only [go_sem, seval]
          (repeat refine And.intro (by first | omega | (intro hq; first | omega | (simp at hq <;> omega) | (simp_all <;> omega))) ?_)
          refine hK _ ?_; clear hK K
          (repeat refine ats_seq ?_); refine ats_yes rfl trivial ?_
          (repeat refine ats_seq ?_); refine ats_go (by first | exact fix0 hcx | exact fix1 hcx rfl | exact fixN hcx rfl) fun K hK => ?_; simp only [go_sem, seval]; (repeat refine And.intro (by first | omega | (intro hq; first | omega | (simp at hq <;> omega) | (simp_all <;> omega))) ?_); refine hK _ ?_; clear hK K
          (repeat refine ats_seq ?_); refine ats_go (by first | exact fix0 hcx | exact fix1 hcx rfl | exact fixN hcx rfl) fun K hK => ?_; simp only [go_sem, seval]; (repeat refine And.intro (by first | omega | (intro hq; first | omega | (simp at hq <;> omega) | (simp_all <;> omega))) ?_); refine hK _ ?_; clear hK K
          refine ats_ret ⟨⟨[(1, .l1 v), (2, .bool first), (8, .ref 5 [])], [(5, .r3 (st ++ [b]))]⟩, ghost_trans (ghost_drop [6]) (ghost_can [] (by simp only [killL, killA, killAs, qOf, rmT, killH, killT, List.filter_cons, List.filter_nil, List.contains_cons, List.contains_nil, Bool.or_false, Bool.or_true, Bool.false_and, Bool.not_true, Bool.not_false, Bool.false_eq_true, if_true, if_false, rnLs, rnL, rn, rns, sw, SlotsLe, St.get, slotGet, List.map_cons, List.map_nil, seval, AV.int.injEq, AV.bool.injEq, AV.l1.injEq, AV.l2.injEq, AV.l3.injEq, true_and, and_true]) (by simp only [killL, killA, killAs, qOf, rmT, killH, killT, List.filter_cons, List.filter_nil, List.contains_cons, List.contains_nil, Bool.or_false, Bool.or_true, Bool.false_and, Bool.not_true, Bool.not_false, Bool.false_eq_true, if_true, if_false, sortH, insH, rnHs, rnH, rnT, rn, rns, sw, List.map_cons, List.map_nil, seval])), .inr rfl, (by first | rfl | exact ⟨trivial, rfl⟩ | (simp only [resL, resA, go_sem, seval]; done)), (by simp [St.get, slotGet, argSlots]), rfl⟩
        · exact absurd trivial h1
      · rw [sOk_neg (fun h => hled h.2)]
        rw [decide_eq_false hled] at hSm
        simp only [Option.toList_none, List.append_nil]
        refine OwnCall.intro (n := 66) (rs := [.tmp 8]) 3 [1, 2] (X := []) Try.call20 Try.func20 rfl rfl rfl (by simp only [List.length_cons, List.length_nil]; omega) (by simp [Aw.ids, rootsA, rootsAs, argSlots, slotGet]) (fun cx hcx => AT.weakG (ats_of ?_)); simp only [argSlots, Nat.zero_add, Nat.reduceAdd]
        (repeat refine ats_seq ?_); refine ats_go (by first | exact fix0 hcx | exact fix1 hcx rfl | exact fixN hcx rfl) fun K hK => ?_; simp only [go_sem, seval]; (repeat refine And.intro (by first | omega | (intro hq; first | omega | (simp at hq <;> omega) | (simp_all <;> omega))) ?_); refine hK _ ?_; clear hK K
        (repeat refine ats_seq ?_); refine ats_go (by first | exact fix0 hcx | exact fix1 hcx rfl | exact fixN hcx rfl) fun K hK => ?_; simp only [go_sem, seval]; (repeat refine And.intro (by first | omega | (intro hq; first | omega | (simp at hq <;> omega) | (simp_all <;> omega))) ?_); refine hK _ ?_; clear hK K
        (repeat refine ats_seq ?_); refine ats_go (by first | exact fix0 hcx | exact fix1 hcx rfl | exact fixN hcx rfl) fun K hK => ?_; simp only [go_sem, seval]
        simp only [lvI]
        (repeat refine And.intro (by first | omega | (intro hq; first | omega | (simp at hq <;> omega) | (simp_all <;> omega))) ?_)
        refine hK _ ?_; clear hK K
        (repeat refine ats_seq ?_); first | refine ats_ifn (p := _) rfl trivial (fun h1 => ?_) (fun h1 => ?_) | refine ats_ifp (p := _) rfl trivial (fun h1 => ?_) (fun h1 => ?_) | refine ats_cond rfl trivial (fun h1 => ?_) (fun h1 => ?_)
        · (repeat refine ats_seq ?_); refine ats_go (by first | exact fix0 hcx | exact fix1 hcx rfl | exact fixN hcx rfl) fun K hK => ?_; simp only [go_sem, seval]
          (repeat refine And.intro (by first | omega | (intro hq; first | omega | (simp at hq <;> omega) | (simp_all <;> omega))) ?_)
          first | refine fcall_data (hB) rfl ?_ | refine YR_intro (acall_data (hB) rfl) ?_
          simp only [go_sem, seval]
          (repeat refine And.intro (by first | omega | (intro hq; first | omega | (simp at hq <;> omega) | (simp_all <;> omega))) ?_)
          refine hK _ ?_; clear hK K
          (repeat refine ats_seq ?_); refine ats_go (by first | exact fix0 hcx | exact fix1 hcx rfl | exact fixN hcx rfl) fun K hK => ?_; simp only [go_sem, seval]
          (repeat refine And.intro (by first | omega | (intro hq; first | omega | (simp at hq <;> omega) | (simp_all <;> omega))) ?_)
          first | refine fcall_data (hLd) rfl ?_ | refine YR_intro (acall_data (hLd) rfl) ?_
          simp only [go_sem, seval]
          (repeat refine And.intro (by first | omega | (intro hq; first | omega | (simp at hq <;> omega) | (simp_all <;> omega))) ?_)
          first | refine fcall_data (hSm) rfl ?_ | refine YR_intro (acall_data (hSm) rfl) ?_
          simp only [go_sem, seval]
          (repeat refine And.intro (by first | omega | (intro hq; first | omega | (simp at hq <;> omega) | (simp_all <;> omega))) ?_)
          refine hK _ ?_; clear hK K
          (repeat refine ats_seq ?_); refine ats_no rfl trivial ?_
          refine ats_skip ?_
          (repeat refine ats_seq ?_); refine ats_go (by first | exact fix0 hcx | exact fix1 hcx rfl | exact fixN hcx rfl) fun K hK => ?_; simp only [go_sem, seval]; (repeat refine And.intro (by first | omega | (intro hq; first | omega | (simp at hq <;> omega) | (simp_all <;> omega))) ?_); refine hK _ ?_; clear hK K
          refine ats_ret ⟨⟨[(1, .l1 v), (2, .bool first), (8, .ref 5 [])], [(5, .r3 st)]⟩, ghost_trans (ghost_drop [6]) (ghost_can [] (by simp only [killL, killA, killAs, qOf, rmT, killH, killT, List.filter_cons, List.filter_nil, List.contains_cons, List.contains_nil, Bool.or_false, Bool.or_true, Bool.false_and, Bool.not_true, Bool.not_false, Bool.false_eq_true, if_true, if_false, rnLs, rnL, rn, rns, sw, SlotsLe, St.get, slotGet, List.map_cons, List.map_nil, seval, AV.int.injEq, AV.bool.injEq, AV.l1.injEq, AV.l2.injEq, AV.l3.injEq, true_and, and_true]) (by simp only [killL, killA, killAs, qOf, rmT, killH, killT, List.filter_cons, List.filter_nil, List.contains_cons, List.contains_nil, Bool.or_false, Bool.or_true, Bool.false_and, Bool.not_true, Bool.not_false, Bool.false_eq_true, if_true, if_false, sortH, insH, rnHs, rnH, rnT, rn, rns, sw, List.map_cons, List.map_nil, seval])), .inr rfl, (by first | rfl | exact ⟨trivial, rfl⟩ | (simp only [resL, resA, go_sem, seval]; done)), (by simp [St.get, slotGet, argSlots]), rfl⟩
        · exact absurd trivial h1
  | d + 1, v, st, hd, hv, hf, hl => by
    have hs := hc.1
    have m1 := hs.2.2.1
    have m2 := hs.2.2.2.1
    have rr : o.length * o.length ≤ 9 := by have := Nat.mul_le_mul h3 h3; omega
    have M0 : 0 < M := by omega
    have hw := bOwn_ok v (by omega)
    obtain ⟨S, eS⟩ : ∃ S : Nat → List (List (List Int)), S = fun a => runA o M w first st ((List.range a).flatMap fun (a : Nat) => extA M d (v ++ [(a : Int)])) := ⟨_, rfl⟩
    have S0 : S 0 = st := by rw [eS]; rfl
    have Ss : ∀ a, S (a + 1) = runA o M w first (S a) (extA M d (v ++ [(a : Int)])) := fun a => by
      rw [eS]
      show runA _ _ _ _ _ _ = runA _ _ _ _ (runA _ _ _ _ _ _) _
      rw [← runA_app, List.range_succ, List.flatMap_append]
      simp
    have Se : runA o M w first st (extA M (d + 1) v) = S M := by rw [eS]; rfl
    have Sstop : ∀ a, first = true ∧ S a ≠ [] → ∀ b, S (a + b) = S a := fun a h b => by
      induction b with
      | zero => rfl
      | succ b ih => rw [← Nat.add_assoc, Ss, ih, runA_stop h]
    have hpd : M ^ (d + 1) = M ^ d * M := Nat.pow_succ ..
    have hSl : ∀ a, a < M → (S a).length + M ^ d ≤ 1000000 := fun a ha => by
      have h1 : (S a).length ≤ st.length + a * M ^ d := by
        have : ∀ b, (S b).length ≤ st.length + b * M ^ d := fun b => by
          induction b with
          | zero => rw [S0]; omega
          | succ b ih =>
            rw [Ss, Nat.succ_mul]
            have h2 := runA_len (o := o) (m := M) (w := w) (first := first) (extA M d (v ++ [(b : Int)])) (S b)
            rw [extA_len M0] at h2
            omega
        exact this a
      have h2 : (a + 1) * M ^ d ≤ M * M ^ d := Nat.mul_le_mul_right _ ha
      rw [Nat.succ_mul, Nat.mul_comm M] at h2
      omega
    have hih : ∀ a, a < M → (first = true → S a = []) → OwnCall Try.prog 20 [.agg [.l1 o, .int M, .l3 w], .l1 (v ++ [(a : Int)]), .bool first, .ref 5 []] [(5, .r3 (S a))] [(5, .r3 (S (a + 1)))] (.ref 5 []) [] := fun a ha hfa => by
      rw [Ss]
      exact allL_ok o M w hc hck h3 first d (v ++ [(a : Int)]) (S a) (by rw [List.length_append, List.length_cons, List.length_nil]; omega) (hv.app ha) hfa (hSl a ha)
    rw [Se]
    rw [← S0]
    have rrI : (o.length : Int) * (o.length : Int) ≤ 9 := by
      have e : ((o.length * o.length : Nat) : Int) ≤ 9 := by omega
      rw [Int.natCast_mul] at e
      exact e
    have hne : ¬ (v.length : Int) = (o.length : Int) * (o.length : Int) := fun h => by
      have e : ((v.length : Nat) : Int) = ((o.length * o.length : Nat) : Int) := by rw [Int.natCast_mul]; exact h
      omega
    have nn : 0 ≤ (o.length : Int) * (o.length : Int) := Int.mul_nonneg (by omega) (by omega)
    have Slen : ∀ a, a ≤ M → (S a).length ≤ 1000000 := fun a ha => by
      by_cases e : a = M
      · have := hSl (M - 1) (by omega)
        have h2 := Ss (M - 1)
        rw [show M - 1 + 1 = a by omega] at h2
        have h3 := runA_len (o := o) (m := M) (w := w) (first := first) (extA M d (v ++ [((M - 1 : Nat) : Int)])) (S (M - 1))
        rw [extA_len M0, ← h2] at h3
        omega
      · have := hSl a (by omega)
        omega
    refine OwnCall.introR (n := 66) (rs := [.tmp 8]) 3 [1, 2] (X := []) Try.call20 Try.func20 rfl rfl rfl (by simp only [List.length_cons, List.length_nil]; omega) (by simp [Aw.ids, rootsA, rootsAs, argSlots, slotGet]) (fun cx hcx hrd => AT.weakG (ats_of ?_)); simp only [argSlots, Nat.zero_add, Nat.reduceAdd]
    (repeat refine ats_seq ?_); refine ats_go (by first | exact fix0 hcx | exact fix1 hcx rfl | exact fixN hcx rfl) fun K hK => ?_; simp only [go_sem, seval]; (repeat refine And.intro (by first | omega | (intro hq; first | omega | (simp at hq <;> omega) | (simp_all <;> omega))) ?_); refine hK _ ?_; clear hK K
    (repeat refine ats_seq ?_); refine ats_go (by first | exact fix0 hcx | exact fix1 hcx rfl | exact fixN hcx rfl) fun K hK => ?_; simp only [go_sem, seval]; (repeat refine And.intro (by first | omega | (intro hq; first | omega | (simp at hq <;> omega) | (simp_all <;> omega))) ?_); refine hK _ ?_; clear hK K
    (repeat refine ats_seq ?_); refine ats_go (by first | exact fix0 hcx | exact fix1 hcx rfl | exact fixN hcx rfl) fun K hK => ?_; simp only [go_sem, seval]; (repeat refine And.intro (by first | omega | (intro hq; first | omega | (simp at hq <;> omega) | (simp_all <;> omega))) ?_); refine hK _ ?_; clear hK K
    (repeat refine ats_seq ?_); first | refine ats_ifn (p := _) rfl trivial (fun h1 => ?_) (fun h1 => ?_) | refine ats_ifp (p := _) rfl trivial (fun h1 => ?_) (fun h1 => ?_) | refine ats_cond rfl trivial (fun h1 => ?_) (fun h1 => ?_)
    · exact absurd h1 hne
    · refine ats_skip ?_
      (repeat refine ats_seq ?_); refine ats_go (by first | exact fix0 hcx | exact fix1 hcx rfl | exact fixN hcx rfl) fun K hK => ?_; simp only [go_sem, seval]; (repeat refine And.intro (by first | omega | (intro hq; first | omega | (simp at hq <;> omega) | (simp_all <;> omega))) ?_); refine hK _ ?_; clear hK K
      (repeat refine ats_seq ?_); refine ats_loop (fun a : Nat => ⟨[(1, .l1 v), (2, .bool first), (3, .ref 5 []), (4, .bptr 6 0), (12, .int a)], [(5, .r3 (S a)), (6, .bx [.l1 o, .int M, .l3 w])]⟩) (fun a => a ≤ M) (fun a => M - a) 0 (Nat.zero_le _) (by
        refine And.intro ?_ rfl; simp only [SlotsLe, St.get, slotGet, Nat.reduceEqDiff, ↓reduceIte, AV.int.injEq, AV.bool.injEq, AV.l1.injEq, AV.l2.injEq, AV.l3.injEq, true_and, and_true]
        try rfl) (fun a ha => ?_)
      have sl := Slen a ha
      (repeat refine ats_seq ?_); refine ats_go (by first | exact fix0 hcx | exact fix1 hcx rfl | exact fixN hcx rfl) fun K hK => ?_; simp only [go_sem, seval]; (repeat refine And.intro (by first | omega | (intro hq; first | omega | (simp at hq <;> omega) | (simp_all <;> omega))) ?_); refine hK _ ?_; clear hK K
      (repeat refine ats_seq ?_); first | refine ats_ifn (p := _) rfl trivial (fun h2 => ?_) (fun h2 => ?_) | refine ats_ifp (p := _) rfl trivial (fun h2 => ?_) (fun h2 => ?_) | refine ats_cond rfl trivial (fun h2 => ?_) (fun h2 => ?_)
      · obtain ⟨hlt, hfa⟩ : a < M ∧ (first = true → S a = []) := by
          simp only [Bool.and_eq_true, decide_eq_true_eq, Bool.or_eq_true, Bool.not_eq_true'] at h2
          refine ⟨by omega, fun hh => ?_⟩
          rcases h2.2 with h4 | h4
          · rw [hh] at h4; cases h4
          · exact List.length_eq_zero_iff.1 (by omega)
        have ih := hih a hlt hfa
        refine ats_skip ?_
        (repeat refine ats_seq ?_); refine ats_block ?_
        (repeat refine ats_seq ?_)
        refine ats_planM [2, 8] [1, 3, 6, 7] (.alt 0 (.alt 2 (.alt 4 (.alt 5 (.alt 8 (.one 9 .fin) .stop) .stop) .stop) (.alt 4 (.alt 2 (.alt 5 (.alt 8 (.one 9 .fin) .stop) .stop) .stop) .stop)) (.alt 2 (.alt 0 (.alt 4 (.alt 5 (.alt 8 (.one 9 .fin) .stop) .stop) .stop) (.alt 4 (.alt 0 (.alt 5 (.alt 8 (.one 9 .fin) .stop) .stop) (.alt 5 (.one 0 (.alt 8 (.one 9 .fin) .stop)) .stop)) .stop)) (.alt 4 (.alt 0 (.alt 2 (.alt 5 (.alt 8 (.one 9 .fin) .stop) .stop) .stop) (.alt 2 (.alt 0 (.alt 5 (.alt 8 (.one 9 .fin) .stop) .stop) (.alt 5 (.one 0 (.alt 8 (.one 9 .fin) .stop)) .stop)) .stop)) .stop))) ⟨[(1, .l1 v), (2, .bool first), (3, .ref 5 []), (4, .bptr 6 0), (12, .int a)], [(5, .r3 (S (a + 1))), (6, .bx [.l1 o, .int M, .l3 w])]⟩ hrd (by first | exact fix0 hcx | exact fixN hcx rfl) mixed (by kernel_rfl) (fun K hK => ?_) ?_
        · as_aux_lemma =>
            simp only [go_sem, seval, Option.getD_some, and_true, true_and, and_self, List.contains_cons, List.contains_nil, Bool.or_false, Bool.or_true]
            repeat' (first | exact hK _ (by refine And.intro ?_ rfl; simp only [SlotsLe, St.get, slotGet, Nat.reduceEqDiff, ↓reduceIte, AV.int.injEq, AV.bool.injEq, AV.l1.injEq, AV.l2.injEq, AV.l3.injEq, true_and, and_true]) | with_reducible refine And.intro ?_ ?_ | omega | (refine fcall_own rfl (hw) rfl ?_; simp only [go_sem, seval, Option.getD_some, and_true, true_and, and_self, List.contains_cons, List.contains_nil, Bool.or_false, Bool.or_true]) | ((refine fcall_zbox [7, 8] ih (by simp [frzAs, frzA, find]) (by simp only [killL, killA, killAs, qOf, rmT, killH, killT, List.map_cons, List.map_nil, List.filter_cons, List.filter_nil, List.contains_cons, List.contains_nil, Bool.or_false, Bool.or_true, Bool.false_and, Bool.not_true, Bool.not_false, Bool.false_eq_true, if_true, if_false, seval]; rfl) (by simp [Aw.ids]) (by simp [find]) (by simp [closedT, killT, killAs, killA, outQ, Aw.ids]) (by simp [killAs, killA, outQ, Aw.ids]) (by simp [Aw.ids]) ?_; simp only [Aw.ids, List.map_cons, List.map_nil, List.filter_cons, List.filter_nil, List.contains_cons, List.contains_nil, Bool.or_false, Bool.or_true, Bool.not_true, Bool.not_false, Nat.reduceBEq, Bool.false_eq_true, if_true, if_false, List.cons_append, List.nil_append, List.append_nil]; simp only [go_sem, seval, Option.getD_some, and_true, true_and, and_self, List.contains_cons, List.contains_nil, Bool.or_false, Bool.or_true])))
        (repeat refine ats_seq ?_); refine ats_go (by first | exact fix0 hcx | exact fix1 hcx rfl | exact fixN hcx rfl) fun K hK => ?_; simp only [go_sem, seval]; (repeat refine And.intro (by first | omega | (intro hq; first | omega | (simp at hq <;> omega) | (simp_all <;> omega))) ?_); refine hK _ ?_; clear hK K
        refine ⟨a + 1,  by omega, by omega, .inl ⟨by simp only [SlotsLe, St.get, slotGet, Nat.reduceEqDiff, ↓reduceIte, AV.int.injEq, AV.bool.injEq, AV.l1.injEq, AV.l2.injEq, AV.l3.injEq, true_and, and_true]; (try omega),  rfl⟩⟩
      · have hSM : S M = S a := by
          simp only [Bool.and_eq_false_iff, decide_eq_false_iff_not, Bool.or_eq_false_iff, Bool.not_eq_false'] at h2
          rcases h2 with h4 | h4
          · rw [show M = a by omega]
          · have := Sstop a ⟨h4.1, fun h => by rw [h] at h4; exact h4.2 rfl⟩ (M - a)
            rw [show a + (M - a) = M by omega] at this
            exact this
        rw [hSM]
        refine ats_exit (lq_x ?_)
        (repeat refine ats_seq ?_); refine ats_go (by first | exact fix0 hcx | exact fix1 hcx rfl | exact fixN hcx rfl) fun K hK => ?_; simp only [go_sem, seval]; (repeat refine And.intro (by first | omega | (intro hq; first | omega | (simp at hq <;> omega) | (simp_all <;> omega))) ?_); refine hK _ ?_; clear hK K
        refine ats_ret ⟨⟨[(1, .l1 v), (2, .bool first), (8, .ref 5 [])], [(5, .r3 (S a))]⟩, ghost_trans (ghost_drop [6]) (ghost_can [] (by simp only [killL, killA, killAs, qOf, rmT, killH, killT, List.filter_cons, List.filter_nil, List.contains_cons, List.contains_nil, Bool.or_false, Bool.or_true, Bool.false_and, Bool.not_true, Bool.not_false, Bool.false_eq_true, if_true, if_false, rnLs, rnL, rn, rns, sw, SlotsLe, St.get, slotGet, List.map_cons, List.map_nil, seval, AV.int.injEq, AV.bool.injEq, AV.l1.injEq, AV.l2.injEq, AV.l3.injEq, true_and, and_true]) (by simp only [killL, killA, killAs, qOf, rmT, killH, killT, List.filter_cons, List.filter_nil, List.contains_cons, List.contains_nil, Bool.or_false, Bool.or_true, Bool.false_and, Bool.not_true, Bool.not_false, Bool.false_eq_true, if_true, if_false, sortH, insH, rnHs, rnH, rnT, rn, rns, sw, List.map_cons, List.map_nil, seval])), .inr rfl, (by first | rfl | exact ⟨trivial, rfl⟩ | (simp only [resL, resA, go_sem, seval]; done)), (by simp [St.get, slotGet, argSlots]), rfl⟩
end Go.Proofs.Ytaijdhkjemffhaa
