import Derived.Test.YtikbecmheibggaaGreatPlX
import Derived.Test.YtikbecmheibggaaGreatAxM
import Derived.Test.YtikbecmheibggaaGreatEc
import Derived.Test.YtikbecmheibggaaGreatDr
set_option linter.unusedSimpArgs false
set_option linter.unusedVariables false
namespace Go.Proofs.YtikbecmheibggaaGreat
open Go Go.Aw Go.Pl
def argU (st : Option (List (List Int))) : AV := match st with
  | none => .nil
  | some _ => .ref 5 []
def TU (st : Option (List (List Int))) : List (Nat × Tree) := match st with
  | none => []
  | some L => [(5, .r2 L)]
noncomputable def visV (s : List (List Int)) (t u : List Int) (st : Option (List (List Int))) : Option (List (List Int)) := if bd (LagP s t u) = true then some (st.getD [] ++ [u]) else st
noncomputable def runV (s : List (List Int)) (t : List Int) (us : List (List Int)) (st : Option (List (List Int))) : Option (List (List Int)) := us.foldl (fun st u => visV s t u st) st
theorem runV_app {s : List (List Int)} {t : List Int} {us vs : List (List Int)} {st : Option (List (List Int))} : runV s t (us ++ vs) st = runV s t vs (runV s t us st) := by
  unfold runV
  rw [List.foldl_append]
theorem runV_filter {s : List (List Int)} {t : List Int} : ∀ (us : List (List Int)) (st : Option (List (List Int))), (runV s t us st).getD [] = st.getD [] ++ us.filter fun u => bd (LagP s t u)
  | [], st => by simp [runV]
  | u :: us, st => by
    show (runV s t us (visV s t u st)).getD [] = _
    rw [runV_filter us, List.filter_cons]
    unfold visV
    by_cases h : bd (LagP s t u) = true
    · rw [if_pos h, if_pos h]; simp
    · rw [if_neg h, if_neg h]
theorem runV_some {s : List (List Int)} {t : List Int} : ∀ (us : List (List Int)) (L : List (List Int)), ∃ L', runV s t us (some L) = some L'
  | [], L => ⟨L, rfl⟩
  | u :: us, L => by
    show ∃ L', runV s t us (visV s t u (some L)) = some L'
    unfold visV
    split
    · exact runV_some us _
    · exact runV_some us _
theorem ats_cutG {P : Program} {cx : Cx} {n : Nat} {Q : SQ} {st : St} {c : Code} {cs : List Code} (z : St) (h : ATs P cx n [c] (fun e s => (e = .normal ∧ Ghost cx n s z) ∨ (e ≠ .normal ∧ Q e s)) st) (hz : ATs P cx n cs Q z) : ATs P cx n (c :: cs) Q st := by
  refine AT.weakG (AT.conseq (ats_of h) ?_)
  rintro e s (⟨rfl, hg⟩ | ⟨hne, hq⟩)
  · exact ⟨z, hg, hz⟩
  · refine ⟨s, fun _ _ h => h, ?_⟩
    cases e with
    | normal => exact absurd rfl hne
    | exit id => exact hq
    | goto l => exact hq
    | ret => exact hq
    | panic ch => exact hq
    | outgrown => exact hq
theorem runV_len {s : List (List Int)} {t : List Int} {us : List (List Int)} {st : Option (List (List Int))} : ((runV s t us st).getD []).length ≤ (st.getD []).length + us.length := by
  rw [runV_filter, List.length_append]
  have := List.length_filter_le (fun u => bd (LagP s t u)) us
  omega
set_option maxRecDepth 20000 in
set_option maxHeartbeats 16000000 in
theorem vectors_ok (s : List (List Int)) (t : List Int) (hs : Shape s t) (b : Nat) (hb3 : b ≤ 3) : ∀ d v st, v.length + d = t.length → 1 ≤ v.length → (st.getD []).length + (extV t (b + 1) d v).length ≤ 1099511627776 →
    OwnCall Tryz.prog 35 [.agg [.l2 s, .l1 t], .l1 v, .int b, argU st] (TU st) (TU (runV s t (extV t (b + 1) d v) st)) (argU (runV s t (extV t (b + 1) d v) st)) []
  | 0, v, st, hd, h1, hl => by
    have hlag := l14Lagrangian_ok s t v hs
    show OwnCall _ _ _ _ (TU (visV s t v st)) (argU (visV s t v st)) _
    have hl' : (st.getD []).length + 1 ≤ 1099511627776 := hl
    cases hbd : bd (LagP s t v) with
    | true =>
      rw [hbd] at hlag
      have ev : visV s t v st = some (st.getD [] ++ [v]) := by unfold visV; rw [if_pos hbd]
      rw [ev]
      rcases st with _ | L
      · simp only [TU, argU, Option.getD_none, List.nil_append]
        refine OwnCall.intro (n := 48) (rs := [.tmp 8]) 3 [1, 2] (X := []) Tryz.call35 Tryz.func35 rfl rfl rfl (by simp only [List.length_cons, List.length_nil]; omega) (by simp [Aw.ids, rootsA, rootsAs, argSlots, slotGet]) (fun cx hcx => AT.weakG (ats_of ?_)); simp only [argSlots, Nat.zero_add, Nat.reduceAdd]
        (repeat refine ats_seq ?_); refine ats_go (by first | exact fix0 hcx | exact fix1 hcx rfl | exact fixN hcx rfl) fun K hK => ?_; simp only [go_sem, seval]; (repeat refine And.intro (by first | omega | (intro hq; first | omega | (simp at hq <;> omega) | (simp_all <;> omega))) ?_); refine hK _ ?_; clear hK K
        (repeat refine ats_seq ?_); refine ats_go (by first | exact fix0 hcx | exact fix1 hcx rfl | exact fixN hcx rfl) fun K hK => ?_; simp only [go_sem, seval]; (repeat refine And.intro (by first | omega | (intro hq; first | omega | (simp at hq <;> omega) | (simp_all <;> omega))) ?_); refine hK _ ?_; clear hK K
        (repeat refine ats_seq ?_); first | refine ats_ifn (p := _) rfl trivial (fun hc1 => ?_) (fun hc1 => ?_) | refine ats_ifp (p := _) rfl trivial (fun hc1 => ?_) (fun hc1 => ?_) | refine ats_cond rfl trivial (fun hc1 => ?_) (fun hc1 => ?_)
        · (repeat refine ats_seq ?_); refine ats_go (by first | exact fix0 hcx | exact fix1 hcx rfl | exact fixN hcx rfl) fun K hK => ?_; simp only [go_sem, seval]
          (repeat refine And.intro (by first | omega | (intro hq; first | omega | (simp at hq <;> omega) | (simp_all <;> omega))) ?_)
          first | refine fcall_data (hlag) rfl ?_ | refine YR_intro (acall_data (hlag) rfl) ?_
          simp only [go_sem, seval]
          (repeat refine And.intro (by first | omega | (intro hq; first | omega | (simp at hq <;> omega) | (simp_all <;> omega))) ?_)
          refine hK _ ?_; clear hK K
          (repeat refine ats_seq ?_); first | refine ats_ifn (p := _) rfl trivial (fun hc2 => ?_) (fun hc2 => ?_) | refine ats_ifp (p := _) rfl trivial (fun hc2 => ?_) (fun hc2 => ?_) | refine ats_cond rfl trivial (fun hc2 => ?_) (fun hc2 => ?_)
          · (repeat refine ats_seq ?_); refine ats_go (by first | exact fix0 hcx | exact fix1 hcx rfl | exact fixN hcx rfl) fun K hK => ?_; simp only [go_sem, seval]; (repeat refine And.intro (by first | omega | (intro hq; first | omega | (simp at hq <;> omega) | (simp_all <;> omega))) ?_); refine hK _ ?_; clear hK K
            (repeat refine ats_seq ?_); refine ats_go (by first | exact fix0 hcx | exact fix1 hcx rfl | exact fixN hcx rfl) fun K hK => ?_; simp only [go_sem, seval]; (repeat refine And.intro (by first | omega | (intro hq; first | omega | (simp at hq <;> omega) | (simp_all <;> omega))) ?_); refine hK _ ?_; clear hK K
            refine ats_ret ⟨⟨[(1, .l1 v), (2, .int b), (8, .ref 5 [])], [(5, .r2 [v])]⟩, ghost_trans (ghost_drop [0, 1]) (ghost_can [(2, 5)] (by simp only [killL, killA, killAs, qOf, rmT, killH, killT, List.filter_cons, List.filter_nil, List.contains_cons, List.contains_nil, Bool.or_false, Bool.or_true, Bool.false_and, Bool.not_true, Bool.not_false, Bool.false_eq_true, if_true, if_false, rnLs, rnL, rn, rns, sw, SlotsLe, St.get, slotGet, List.map_cons, List.map_nil, seval, AV.int.injEq, AV.bool.injEq, AV.l1.injEq, AV.l2.injEq, AV.l3.injEq, true_and, and_true]) (by simp only [killL, killA, killAs, qOf, rmT, killH, killT, List.filter_cons, List.filter_nil, List.contains_cons, List.contains_nil, Bool.or_false, Bool.or_true, Bool.false_and, Bool.not_true, Bool.not_false, Bool.false_eq_true, if_true, if_false, sortH, insH, rnHs, rnH, rnT, rn, rns, sw, List.map_cons, List.map_nil, seval])), .inr rfl, (by first | rfl | exact ⟨trivial, rfl⟩), (by simp [St.get, slotGet, argSlots]), rfl⟩
          · simp at hc2
        · omega
      · simp only [TU, argU, Option.getD_some]
        rw [Option.getD_some] at hl'
        refine OwnCall.intro (n := 48) (rs := [.tmp 8]) 3 [1, 2] (X := []) Tryz.call35 Tryz.func35 rfl rfl rfl (by simp only [List.length_cons, List.length_nil]; omega) (by simp [Aw.ids, rootsA, rootsAs, argSlots, slotGet]) (fun cx hcx => AT.weakG (ats_of ?_)); simp only [argSlots, Nat.zero_add, Nat.reduceAdd]
        (repeat refine ats_seq ?_); refine ats_go (by first | exact fix0 hcx | exact fix1 hcx rfl | exact fixN hcx rfl) fun K hK => ?_; simp only [go_sem, seval]; (repeat refine And.intro (by first | omega | (intro hq; first | omega | (simp at hq <;> omega) | (simp_all <;> omega))) ?_); refine hK _ ?_; clear hK K
        (repeat refine ats_seq ?_); refine ats_go (by first | exact fix0 hcx | exact fix1 hcx rfl | exact fixN hcx rfl) fun K hK => ?_; simp only [go_sem, seval]; (repeat refine And.intro (by first | omega | (intro hq; first | omega | (simp at hq <;> omega) | (simp_all <;> omega))) ?_); refine hK _ ?_; clear hK K
        (repeat refine ats_seq ?_); first | refine ats_ifn (p := _) rfl trivial (fun hc1 => ?_) (fun hc1 => ?_) | refine ats_ifp (p := _) rfl trivial (fun hc1 => ?_) (fun hc1 => ?_) | refine ats_cond rfl trivial (fun hc1 => ?_) (fun hc1 => ?_)
        · (repeat refine ats_seq ?_); refine ats_go (by first | exact fix0 hcx | exact fix1 hcx rfl | exact fixN hcx rfl) fun K hK => ?_; simp only [go_sem, seval]
          (repeat refine And.intro (by first | omega | (intro hq; first | omega | (simp at hq <;> omega) | (simp_all <;> omega))) ?_)
          first | refine fcall_data (hlag) rfl ?_ | refine YR_intro (acall_data (hlag) rfl) ?_
          simp only [go_sem, seval]
          (repeat refine And.intro (by first | omega | (intro hq; first | omega | (simp at hq <;> omega) | (simp_all <;> omega))) ?_)
          refine hK _ ?_; clear hK K
          (repeat refine ats_seq ?_); first | refine ats_ifn (p := _) rfl trivial (fun hc2 => ?_) (fun hc2 => ?_) | refine ats_ifp (p := _) rfl trivial (fun hc2 => ?_) (fun hc2 => ?_) | refine ats_cond rfl trivial (fun hc2 => ?_) (fun hc2 => ?_)
          · (repeat refine ats_seq ?_); refine ats_go (by first | exact fix0 hcx | exact fix1 hcx rfl | exact fixN hcx rfl) fun K hK => ?_; simp only [go_sem, seval]; (repeat refine And.intro (by first | omega | (intro hq; first | omega | (simp at hq <;> omega) | (simp_all <;> omega))) ?_); refine hK _ ?_; clear hK K
            (repeat refine ats_seq ?_); refine ats_go (by first | exact fix0 hcx | exact fix1 hcx rfl | exact fixN hcx rfl) fun K hK => ?_; simp only [go_sem, seval]; (repeat refine And.intro (by first | omega | (intro hq; first | omega | (simp at hq <;> omega) | (simp_all <;> omega))) ?_); refine hK _ ?_; clear hK K
            refine ats_ret ⟨⟨[(1, .l1 v), (2, .int b), (8, .ref 5 [])], [(5, .r2 (L ++ [v]))]⟩, ghost_trans (ghost_drop [6, 7]) (ghost_can [] (by simp only [killL, killA, killAs, qOf, rmT, killH, killT, List.filter_cons, List.filter_nil, List.contains_cons, List.contains_nil, Bool.or_false, Bool.or_true, Bool.false_and, Bool.not_true, Bool.not_false, Bool.false_eq_true, if_true, if_false, rnLs, rnL, rn, rns, sw, SlotsLe, St.get, slotGet, List.map_cons, List.map_nil, seval, AV.int.injEq, AV.bool.injEq, AV.l1.injEq, AV.l2.injEq, AV.l3.injEq, true_and, and_true]) (by simp only [killL, killA, killAs, qOf, rmT, killH, killT, List.filter_cons, List.filter_nil, List.contains_cons, List.contains_nil, Bool.or_false, Bool.or_true, Bool.false_and, Bool.not_true, Bool.not_false, Bool.false_eq_true, if_true, if_false, sortH, insH, rnHs, rnH, rnT, rn, rns, sw, List.map_cons, List.map_nil, seval])), .inr rfl, (by first | rfl | exact ⟨trivial, rfl⟩), (by simp [St.get, slotGet, argSlots]), rfl⟩
          · simp at hc2
        · omega
    | false =>
      rw [hbd] at hlag
      have ev : visV s t v st = st := by unfold visV; rw [if_neg (by rw [hbd]; decide)]
      rw [ev]
      rcases st with _ | L
      · simp only [TU, argU]
        refine OwnCall.intro (n := 48) (rs := [.tmp 8]) 3 [1, 2] (X := []) Tryz.call35 Tryz.func35 rfl rfl rfl (by simp only [List.length_cons, List.length_nil]; omega) (by simp [Aw.ids, rootsA, rootsAs, argSlots, slotGet]) (fun cx hcx => AT.weakG (ats_of ?_)); simp only [argSlots, Nat.zero_add, Nat.reduceAdd]
        (repeat refine ats_seq ?_); refine ats_go (by first | exact fix0 hcx | exact fix1 hcx rfl | exact fixN hcx rfl) fun K hK => ?_; simp only [go_sem, seval]; (repeat refine And.intro (by first | omega | (intro hq; first | omega | (simp at hq <;> omega) | (simp_all <;> omega))) ?_); refine hK _ ?_; clear hK K
        (repeat refine ats_seq ?_); refine ats_go (by first | exact fix0 hcx | exact fix1 hcx rfl | exact fixN hcx rfl) fun K hK => ?_; simp only [go_sem, seval]; (repeat refine And.intro (by first | omega | (intro hq; first | omega | (simp at hq <;> omega) | (simp_all <;> omega))) ?_); refine hK _ ?_; clear hK K
        (repeat refine ats_seq ?_); first | refine ats_ifn (p := _) rfl trivial (fun hc1 => ?_) (fun hc1 => ?_) | refine ats_ifp (p := _) rfl trivial (fun hc1 => ?_) (fun hc1 => ?_) | refine ats_cond rfl trivial (fun hc1 => ?_) (fun hc1 => ?_)
        · (repeat refine ats_seq ?_); refine ats_go (by first | exact fix0 hcx | exact fix1 hcx rfl | exact fixN hcx rfl) fun K hK => ?_; simp only [go_sem, seval]
          (repeat refine And.intro (by first | omega | (intro hq; first | omega | (simp at hq <;> omega) | (simp_all <;> omega))) ?_)
          first | refine fcall_data (hlag) rfl ?_ | refine YR_intro (acall_data (hlag) rfl) ?_
          simp only [go_sem, seval]
          (repeat refine And.intro (by first | omega | (intro hq; first | omega | (simp at hq <;> omega) | (simp_all <;> omega))) ?_)
          refine hK _ ?_; clear hK K
          (repeat refine ats_seq ?_); first | refine ats_ifn (p := _) rfl trivial (fun hc2 => ?_) (fun hc2 => ?_) | refine ats_ifp (p := _) rfl trivial (fun hc2 => ?_) (fun hc2 => ?_) | refine ats_cond rfl trivial (fun hc2 => ?_) (fun hc2 => ?_)
          · simp at hc2
          · refine ats_skip ?_
            (repeat refine ats_seq ?_); refine ats_go (by first | exact fix0 hcx | exact fix1 hcx rfl | exact fixN hcx rfl) fun K hK => ?_; simp only [go_sem, seval]; (repeat refine And.intro (by first | omega | (intro hq; first | omega | (simp at hq <;> omega) | (simp_all <;> omega))) ?_); refine hK _ ?_; clear hK K
            refine ats_ret ⟨⟨[(1, .l1 v), (2, .int b), (8, .nil)], []⟩, ghost_trans (ghost_drop [0]) (ghost_can [] (by simp only [killL, killA, killAs, qOf, rmT, killH, killT, List.filter_cons, List.filter_nil, List.contains_cons, List.contains_nil, Bool.or_false, Bool.or_true, Bool.false_and, Bool.not_true, Bool.not_false, Bool.false_eq_true, if_true, if_false, rnLs, rnL, rn, rns, sw, SlotsLe, St.get, slotGet, List.map_cons, List.map_nil, seval, AV.int.injEq, AV.bool.injEq, AV.l1.injEq, AV.l2.injEq, AV.l3.injEq, true_and, and_true]) (by simp only [killL, killA, killAs, qOf, rmT, killH, killT, List.filter_cons, List.filter_nil, List.contains_cons, List.contains_nil, Bool.or_false, Bool.or_true, Bool.false_and, Bool.not_true, Bool.not_false, Bool.false_eq_true, if_true, if_false, sortH, insH, rnHs, rnH, rnT, rn, rns, sw, List.map_cons, List.map_nil, seval])), .inr rfl, (by first | rfl | exact ⟨trivial, rfl⟩), (by simp [St.get, slotGet, argSlots]), rfl⟩
        · omega
      · simp only [TU, argU]
        refine OwnCall.intro (n := 48) (rs := [.tmp 8]) 3 [1, 2] (X := []) Tryz.call35 Tryz.func35 rfl rfl rfl (by simp only [List.length_cons, List.length_nil]; omega) (by simp [Aw.ids, rootsA, rootsAs, argSlots, slotGet]) (fun cx hcx => AT.weakG (ats_of ?_)); simp only [argSlots, Nat.zero_add, Nat.reduceAdd]
        (repeat refine ats_seq ?_); refine ats_go (by first | exact fix0 hcx | exact fix1 hcx rfl | exact fixN hcx rfl) fun K hK => ?_; simp only [go_sem, seval]; (repeat refine And.intro (by first | omega | (intro hq; first | omega | (simp at hq <;> omega) | (simp_all <;> omega))) ?_); refine hK _ ?_; clear hK K
        (repeat refine ats_seq ?_); refine ats_go (by first | exact fix0 hcx | exact fix1 hcx rfl | exact fixN hcx rfl) fun K hK => ?_; simp only [go_sem, seval]; (repeat refine And.intro (by first | omega | (intro hq; first | omega | (simp at hq <;> omega) | (simp_all <;> omega))) ?_); refine hK _ ?_; clear hK K
        (repeat refine ats_seq ?_); first | refine ats_ifn (p := _) rfl trivial (fun hc1 => ?_) (fun hc1 => ?_) | refine ats_ifp (p := _) rfl trivial (fun hc1 => ?_) (fun hc1 => ?_) | refine ats_cond rfl trivial (fun hc1 => ?_) (fun hc1 => ?_)
        · (repeat refine ats_seq ?_); refine ats_go (by first | exact fix0 hcx | exact fix1 hcx rfl | exact fixN hcx rfl) fun K hK => ?_; simp only [go_sem, seval]
          (repeat refine And.intro (by first | omega | (intro hq; first | omega | (simp at hq <;> omega) | (simp_all <;> omega))) ?_)
          first | refine fcall_data (hlag) rfl ?_ | refine YR_intro (acall_data (hlag) rfl) ?_
          simp only [go_sem, seval]
          (repeat refine And.intro (by first | omega | (intro hq; first | omega | (simp at hq <;> omega) | (simp_all <;> omega))) ?_)
          refine hK _ ?_; clear hK K
          (repeat refine ats_seq ?_); first | refine ats_ifn (p := _) rfl trivial (fun hc2 => ?_) (fun hc2 => ?_) | refine ats_ifp (p := _) rfl trivial (fun hc2 => ?_) (fun hc2 => ?_) | refine ats_cond rfl trivial (fun hc2 => ?_) (fun hc2 => ?_)
          · simp at hc2
          · refine ats_skip ?_
            (repeat refine ats_seq ?_); refine ats_go (by first | exact fix0 hcx | exact fix1 hcx rfl | exact fixN hcx rfl) fun K hK => ?_; simp only [go_sem, seval]; (repeat refine And.intro (by first | omega | (intro hq; first | omega | (simp at hq <;> omega) | (simp_all <;> omega))) ?_); refine hK _ ?_; clear hK K
            refine ats_ret ⟨⟨[(1, .l1 v), (2, .int b), (8, .ref 5 [])], [(5, .r2 L)]⟩, ghost_trans (ghost_drop [6]) (ghost_can [] (by simp only [killL, killA, killAs, qOf, rmT, killH, killT, List.filter_cons, List.filter_nil, List.contains_cons, List.contains_nil, Bool.or_false, Bool.or_true, Bool.false_and, Bool.not_true, Bool.not_false, Bool.false_eq_true, if_true, if_false, rnLs, rnL, rn, rns, sw, SlotsLe, St.get, slotGet, List.map_cons, List.map_nil, seval, AV.int.injEq, AV.bool.injEq, AV.l1.injEq, AV.l2.injEq, AV.l3.injEq, true_and, and_true]) (by simp only [killL, killA, killAs, qOf, rmT, killH, killT, List.filter_cons, List.filter_nil, List.contains_cons, List.contains_nil, Bool.or_false, Bool.or_true, Bool.false_and, Bool.not_true, Bool.not_false, Bool.false_eq_true, if_true, if_false, sortH, insH, rnHs, rnH, rnT, rn, rns, sw, List.map_cons, List.map_nil, seval])), .inr rfl, (by first | rfl | exact ⟨trivial, rfl⟩), (by simp [St.get, slotGet, argSlots]), rfl⟩
        · omega
  | d + 1, v, st, hd, h1, hl => by
    have h16 := hs.2.1
    obtain ⟨m, hm, hmb⟩ : ∃ m : Nat, (if fr t v.length = true then b + 1 else 1) = m + 1 ∧ (m : Int) = (if t.getD v.length 0 = 1 then (b : Int) else 0) := by
      have hfr : fr t v.length = decide (t.getD v.length 0 = 1) := by unfold fr; simp [h1]
      rw [hfr]
      by_cases c : t.getD v.length 0 = 1
      · exact ⟨b, by rw [if_pos (decide_eq_true c)], by rw [if_pos c]⟩
      · exact ⟨0, by rw [if_neg (fun h => c (of_decide_eq_true h))], by rw [if_neg c]; rfl⟩
    have hm3 : m ≤ 3 := by
      split at hmb <;> omega
    have hext : extV t (b + 1) (d + 1) v = (List.range (m + 1)).flatMap fun (a : Nat) => extV t (b + 1) d (v ++ [(a : Int)]) := by rw [extV, hm]
    rw [hext] at hl ⊢
    obtain ⟨S, hS⟩ : ∃ S : Nat → Option (List (List Int)), S = fun x => runV s t ((List.range x).flatMap fun (a : Nat) => extV t (b + 1) d (v ++ [(a : Int)])) st := ⟨_, rfl⟩
    have hS0 : S 0 = st := by rw [hS]; rfl
    have hSs : ∀ x, S (x + 1) = runV s t (extV t (b + 1) d (v ++ [(x : Int)])) (S x) := fun x => by
      rw [hS]
      show runV _ _ _ _ = runV _ _ _ (runV _ _ _ _)
      rw [← runV_app, List.range_succ, List.flatMap_append]
      simp
    have hSe : runV s t ((List.range (m + 1)).flatMap fun (a : Nat) => extV t (b + 1) d (v ++ [(a : Int)])) st = S (m + 1) := by rw [hS]
    have hSl : ∀ x, x ≤ m → ((S x).getD []).length + (extV t (b + 1) d (v ++ [(x : Int)])).length ≤ 1099511627776 := fun x hx => by
      have h2 := runV_len (s := s) (t := t) (us := (List.range x).flatMap fun (a : Nat) => extV t (b + 1) d (v ++ [(a : Int)])) (st := st)
      have h3 : ((List.range (x + 1)).flatMap fun (a : Nat) => extV t (b + 1) d (v ++ [(a : Int)])).length ≤ ((List.range (m + 1)).flatMap fun (a : Nat) => extV t (b + 1) d (v ++ [(a : Int)])).length := by
        have e : List.range (m + 1) = List.range (x + 1) ++ (List.range (m - x)).map (fun y => x + 1 + y) := by
          rw [← List.range_add]
          congr 1
          omega
        rw [e, List.flatMap_append, List.length_append]
        omega
      rw [List.range_succ, List.flatMap_append, List.length_append] at h3
      simp only [List.flatMap_cons, List.flatMap_nil, List.append_nil] at h3
      rw [hS]
      show ((runV _ _ _ _).getD []).length + _ ≤ _
      omega
    rw [hSe]
    have hw := l01Own_ok v (by omega)
    have hih : ∀ x, x ≤ m → OwnCall Tryz.prog 35 [.agg [.l2 s, .l1 t], .l1 (v ++ [(x : Int)]), .int b, argU (S x)] (TU (S x)) (TU (S (x + 1))) (argU (S (x + 1))) [] := fun x hx => by
      rw [hSs]
      exact vectors_ok s t hs b hb3 d (v ++ [(x : Int)]) (S x) (by rw [List.length_append, List.length_cons, List.length_nil]; omega) (by rw [List.length_append]; omega) (hSl x hx)
    rw [← hS0]
    obtain ⟨s0, es0⟩ : ∃ s0, S 0 = s0 := ⟨_, rfl⟩
    rw [es0]
    have hSmo : ∀ x, ∀ L, S x = some L → ∃ L', S (x + 1) = some L' := fun x L h => by
      rw [hSs, h]
      exact runV_some _ _
    have hSo : ∀ L0, S 0 = some L0 → ∀ x, ∃ L, S x = some L := fun L0 h x => by
      induction x with
      | zero => exact ⟨L0, h⟩
      | succ x ih => obtain ⟨L, hL⟩ := ih; exact hSmo x L hL
    rcases s0 with _ | L0
    · simp only [TU, argU]
      refine OwnCall.introR (n := 48) (rs := [.tmp 8]) 3 [1, 2] (X := []) Tryz.call35 Tryz.func35 rfl rfl rfl (by simp only [List.length_cons, List.length_nil]; omega) (by simp [Aw.ids, rootsA, rootsAs, argSlots, slotGet]) (fun cx hcx hrd => AT.weakG (ats_of ?_)); simp only [argSlots, Nat.zero_add, Nat.reduceAdd]
      (repeat refine ats_seq ?_); refine ats_go (by first | exact fix0 hcx | exact fix1 hcx rfl | exact fixN hcx rfl) fun K hK => ?_; simp only [go_sem, seval]; (repeat refine And.intro (by first | omega | (intro hq; first | omega | (simp at hq <;> omega) | (simp_all <;> omega))) ?_); refine hK _ ?_; clear hK K
      (repeat refine ats_seq ?_); refine ats_go (by first | exact fix0 hcx | exact fix1 hcx rfl | exact fixN hcx rfl) fun K hK => ?_; simp only [go_sem, seval]; (repeat refine And.intro (by first | omega | (intro hq; first | omega | (simp at hq <;> omega) | (simp_all <;> omega))) ?_); refine hK _ ?_; clear hK K
      (repeat refine ats_seq ?_); first | refine ats_ifn (p := _) rfl trivial (fun h2 => ?_) (fun h2 => ?_) | refine ats_ifp (p := _) rfl trivial (fun h2 => ?_) (fun h2 => ?_) | refine ats_cond rfl trivial (fun h2 => ?_) (fun h2 => ?_)
      · omega
      · refine ats_skip ?_
        (repeat refine ats_seq ?_); refine ats_go (by first | exact fix0 hcx | exact fix1 hcx rfl | exact fixN hcx rfl) fun K hK => ?_; simp only [go_sem, seval]; (repeat refine And.intro (by first | omega | (intro hq; first | omega | (simp at hq <;> omega) | (simp_all <;> omega))) ?_); refine hK _ ?_; clear hK K
        (repeat refine ats_seq ?_)
        (repeat refine ats_seq ?_); refine ats_go (by first | exact fix0 hcx | exact fix1 hcx rfl | exact fixN hcx rfl) fun K hK => ?_; simp only [go_sem, seval]; (repeat refine And.intro (by first | omega | (intro hq; first | omega | (simp at hq <;> omega) | (simp_all <;> omega))) ?_); refine hK _ ?_; clear hK K
        refine ats_cutG ⟨[(1, .l1 v), (2, .int b), (3, .nil), (4, .bptr 0 0), (9, .int m)], [(0, .bx [.l2 s, .l1 t])]⟩ ?_ ?_
        · (repeat refine ats_seq ?_); first | refine ats_ifn (p := _) rfl trivial (fun h3 => ?_) (fun h3 => ?_) | refine ats_ifp (p := _) rfl trivial (fun h3 => ?_) (fun h3 => ?_) | refine ats_cond rfl trivial (fun h3 => ?_) (fun h3 => ?_)
          · have hm0 : (m : Int) = 0 := by rw [hmb, if_neg (by simpa using h3)]
            rw [hm0]
            (repeat refine ats_seq ?_); refine ats_go (by first | exact fix0 hcx | exact fix1 hcx rfl | exact fixN hcx rfl) fun K hK => ?_; simp only [go_sem, seval]; (repeat refine And.intro (by first | omega | (intro hq; first | omega | (simp at hq <;> omega) | (simp_all <;> omega))) ?_); refine hK _ ?_; clear hK K
            refine ats_nil ?_; refine Or.inl ⟨rfl, ghost_trans (ghost_drop []) (ghost_can [] (by simp only [killL, killA, killAs, qOf, rmT, killH, killT, List.filter_cons, List.filter_nil, List.contains_cons, List.contains_nil, Bool.or_false, Bool.or_true, Bool.false_and, Bool.not_true, Bool.not_false, Bool.false_eq_true, if_true, if_false, rnLs, rnL, rn, rns, sw, SlotsLe, St.get, slotGet, List.map_cons, List.map_nil, seval, AV.int.injEq, AV.bool.injEq, AV.l1.injEq, AV.l2.injEq, AV.l3.injEq, true_and, and_true]) (by simp only [killL, killA, killAs, qOf, rmT, killH, killT, List.filter_cons, List.filter_nil, List.contains_cons, List.contains_nil, Bool.or_false, Bool.or_true, Bool.false_and, Bool.not_true, Bool.not_false, Bool.false_eq_true, if_true, if_false, sortH, insH, rnHs, rnH, rnT, rn, rns, sw, List.map_cons, List.map_nil, seval]))⟩
          · have hmB : (m : Int) = b := by rw [hmb, if_pos (by simpa using h3)]
            rw [hmB]
            refine ats_skip ?_
            refine ats_nil ?_; refine Or.inl ⟨rfl, ghost_trans (ghost_drop []) (ghost_can [] (by simp only [killL, killA, killAs, qOf, rmT, killH, killT, List.filter_cons, List.filter_nil, List.contains_cons, List.contains_nil, Bool.or_false, Bool.or_true, Bool.false_and, Bool.not_true, Bool.not_false, Bool.false_eq_true, if_true, if_false, rnLs, rnL, rn, rns, sw, SlotsLe, St.get, slotGet, List.map_cons, List.map_nil, seval, AV.int.injEq, AV.bool.injEq, AV.l1.injEq, AV.l2.injEq, AV.l3.injEq, true_and, and_true]) (by simp only [killL, killA, killAs, qOf, rmT, killH, killT, List.filter_cons, List.filter_nil, List.contains_cons, List.contains_nil, Bool.or_false, Bool.or_true, Bool.false_and, Bool.not_true, Bool.not_false, Bool.false_eq_true, if_true, if_false, sortH, insH, rnHs, rnH, rnT, rn, rns, sw, List.map_cons, List.map_nil, seval]))⟩
        (repeat refine ats_seq ?_); refine ats_go (by first | exact fix0 hcx | exact fix1 hcx rfl | exact fixN hcx rfl) fun K hK => ?_; simp only [go_sem, seval]; (repeat refine And.intro (by first | omega | (intro hq; first | omega | (simp at hq <;> omega) | (simp_all <;> omega))) ?_); refine hK _ ?_; clear hK K
        (repeat refine ats_seq ?_); refine ats_loop (fun x : Nat => ⟨[(1, .l1 v), (2, .int b), (3, argU (S x)), (4, .bptr 0 0), (9, .int m), (10, .int x)], TU (S x) ++ [(0, .bx [.l2 s, .l1 t])]⟩) (fun x => x ≤ m + 1) (fun x => m + 1 - x) 0 (Nat.zero_le _) (by
          rw [es0]
          refine And.intro ?_ rfl; simp only [SlotsLe, St.get, slotGet, Nat.reduceEqDiff, ↓reduceIte, AV.int.injEq, AV.bool.injEq, AV.l1.injEq, AV.l2.injEq, AV.l3.injEq, true_and, and_true]
          exact ⟨rfl, rfl⟩) (fun x hx => ?_)
        obtain ⟨sx, es⟩ : ∃ sx, S x = sx := ⟨_, rfl⟩
        rw [es]
        (repeat refine ats_seq ?_); refine ats_go (by first | exact fix0 hcx | exact fix1 hcx rfl | exact fixN hcx rfl) fun K hK => ?_; simp only [go_sem, seval]; (repeat refine And.intro (by first | omega | (intro hq; first | omega | (simp at hq <;> omega) | (simp_all <;> omega))) ?_); refine hK _ ?_; clear hK K
        (repeat refine ats_seq ?_); first | refine ats_ifn (p := _) rfl trivial (fun h4 => ?_) (fun h4 => ?_) | refine ats_ifp (p := _) rfl trivial (fun h4 => ?_) (fun h4 => ?_) | refine ats_cond rfl trivial (fun h4 => ?_) (fun h4 => ?_)
        · have ih := hih x (by omega)
          rw [es] at ih
          obtain ⟨s', es'⟩ : ∃ s', S (x + 1) = s' := ⟨_, rfl⟩
          rw [es'] at ih
          refine ats_skip ?_
          (repeat refine ats_seq ?_); refine ats_block ?_
          have hmo := hSmo x
          rw [es, es'] at hmo
          rcases sx with _ | L <;> rcases s' with _ | L'
          · simp only [TU, argU] at ih ⊢
            (repeat refine ats_seq ?_)
            refine ats_planM [2, 8] [1, 3, 6, 7] (.alt 0 (.alt 2 (.alt 4 (.alt 5 (.alt 8 (.one 9 .fin) .stop) .stop) .stop) (.alt 4 (.alt 2 (.alt 5 (.alt 8 (.one 9 .fin) .stop) .stop) .stop) .stop)) (.alt 2 (.alt 0 (.alt 4 (.alt 5 (.alt 8 (.one 9 .fin) .stop) .stop) .stop) (.alt 4 (.alt 0 (.alt 5 (.alt 8 (.one 9 .fin) .stop) .stop) (.alt 5 (.one 0 (.alt 8 (.one 9 .fin) .stop)) .stop)) .stop)) (.alt 4 (.alt 0 (.alt 2 (.alt 5 (.alt 8 (.one 9 .fin) .stop) .stop) .stop) (.alt 2 (.alt 0 (.alt 5 (.alt 8 (.one 9 .fin) .stop) .stop) (.alt 5 (.one 0 (.alt 8 (.one 9 .fin) .stop)) .stop)) .stop)) .stop))) ⟨[(1, .l1 v), (2, .int b), (3, .nil), (4, .bptr 0 0), (9, .int m), (10, .int x)], [(0, .bx [.l2 s, .l1 t])]⟩ hrd (by first | exact fix0 hcx | exact fixN hcx rfl) mixed (by kernel_rfl) (fun K hK => ?_) ?_
            · simp only [go_sem, seval, mv_nil, mv_cons, MVK_ap, pl_fin, pl_stop, pl_one, pl_alt, PK_ap, pickO, List.getElem?_toArray, List.getElem?_cons_zero, List.getElem?_cons_succ, Option.getD_some, and_true, true_and, and_self, List.contains_cons, List.contains_nil, Bool.or_false, Bool.or_true]
              repeat' (first | exact hK _ (by refine And.intro ?_ rfl; simp only [SlotsLe, St.get, slotGet, Nat.reduceEqDiff, ↓reduceIte, AV.int.injEq, AV.bool.injEq, AV.l1.injEq, AV.l2.injEq, AV.l3.injEq, true_and, and_true]) | omega | refine And.intro ?_ ?_ | (refine fcall_own rfl (hw) rfl ?_; simp only [go_sem, seval, mv_nil, mv_cons, MVK_ap, pl_fin, pl_stop, pl_one, pl_alt, PK_ap, pickO, List.getElem?_toArray, List.getElem?_cons_zero, List.getElem?_cons_succ, Option.getD_some, and_true, true_and, and_self, List.contains_cons, List.contains_nil, Bool.or_false, Bool.or_true]) | ((refine fcall_zbox [1, 2] ih (by simp [frzAs, frzA, find]) (by simp only [killL, killA, killAs, qOf, rmT, killH, killT, List.map_cons, List.map_nil, List.filter_cons, List.filter_nil, List.contains_cons, List.contains_nil, Bool.or_false, Bool.or_true, Bool.false_and, Bool.not_true, Bool.not_false, Bool.false_eq_true, if_true, if_false, seval]; rfl) (by simp [Aw.ids]) (by simp [find]) (by simp [closedT, killT, killAs, killA, outQ, Aw.ids]) (by simp [killAs, killA, outQ, Aw.ids]) (by simp [Aw.ids]) ?_; simp only [Aw.ids, List.map_cons, List.map_nil, List.filter_cons, List.filter_nil, List.contains_cons, List.contains_nil, Bool.or_false, Bool.or_true, Bool.not_true, Bool.not_false, Nat.reduceBEq, Bool.false_eq_true, if_true, if_false, List.cons_append, List.nil_append, List.append_nil]; simp only [go_sem, seval, mv_nil, mv_cons, MVK_ap, pl_fin, pl_stop, pl_one, pl_alt, PK_ap, pickO, List.getElem?_toArray, List.getElem?_cons_zero, List.getElem?_cons_succ, Option.getD_some, and_true, true_and, and_self, List.contains_cons, List.contains_nil, Bool.or_false, Bool.or_true])))
            (repeat refine ats_seq ?_); refine ats_go (by first | exact fix0 hcx | exact fix1 hcx rfl | exact fixN hcx rfl) fun K hK => ?_; simp only [go_sem, seval]; (repeat refine And.intro (by first | omega | (intro hq; first | omega | (simp at hq <;> omega) | (simp_all <;> omega))) ?_); refine hK _ ?_; clear hK K
            refine ⟨x + 1,  by omega, by omega, .inl ⟨by simp only [SlotsLe, St.get, slotGet, Nat.reduceEqDiff, ↓reduceIte, AV.int.injEq, AV.bool.injEq, AV.l1.injEq, AV.l2.injEq, AV.l3.injEq, true_and, and_true]; exact ⟨by rw [es'], by omega⟩,  by rw [es']; rfl⟩⟩
          · simp only [TU, argU] at ih ⊢
            (repeat refine ats_seq ?_)
            refine ats_planM [2, 8] [1, 3, 6, 7] (.alt 0 (.alt 2 (.alt 4 (.alt 5 (.alt 8 (.one 9 .fin) .stop) .stop) .stop) (.alt 4 (.alt 2 (.alt 5 (.alt 8 (.one 9 .fin) .stop) .stop) .stop) .stop)) (.alt 2 (.alt 0 (.alt 4 (.alt 5 (.alt 8 (.one 9 .fin) .stop) .stop) .stop) (.alt 4 (.alt 0 (.alt 5 (.alt 8 (.one 9 .fin) .stop) .stop) (.alt 5 (.one 0 (.alt 8 (.one 9 .fin) .stop)) .stop)) .stop)) (.alt 4 (.alt 0 (.alt 2 (.alt 5 (.alt 8 (.one 9 .fin) .stop) .stop) .stop) (.alt 2 (.alt 0 (.alt 5 (.alt 8 (.one 9 .fin) .stop) .stop) (.alt 5 (.one 0 (.alt 8 (.one 9 .fin) .stop)) .stop)) .stop)) .stop))) ⟨[(1, .l1 v), (2, .int b), (3, .ref 5 []), (4, .bptr 0 0), (9, .int m), (10, .int x)], [(5, .r2 L'), (0, .bx [.l2 s, .l1 t])]⟩ hrd (by first | exact fix0 hcx | exact fixN hcx rfl) mixed (by kernel_rfl) (fun K hK => ?_) ?_
            · simp only [go_sem, seval, mv_nil, mv_cons, MVK_ap, pl_fin, pl_stop, pl_one, pl_alt, PK_ap, pickO, List.getElem?_toArray, List.getElem?_cons_zero, List.getElem?_cons_succ, Option.getD_some, and_true, true_and, and_self, List.contains_cons, List.contains_nil, Bool.or_false, Bool.or_true]
              repeat' (first | exact hK _ (by refine And.intro ?_ rfl; simp only [SlotsLe, St.get, slotGet, Nat.reduceEqDiff, ↓reduceIte, AV.int.injEq, AV.bool.injEq, AV.l1.injEq, AV.l2.injEq, AV.l3.injEq, true_and, and_true]) | omega | refine And.intro ?_ ?_ | (refine fcall_own rfl (hw) rfl ?_; simp only [go_sem, seval, mv_nil, mv_cons, MVK_ap, pl_fin, pl_stop, pl_one, pl_alt, PK_ap, pickO, List.getElem?_toArray, List.getElem?_cons_zero, List.getElem?_cons_succ, Option.getD_some, and_true, true_and, and_self, List.contains_cons, List.contains_nil, Bool.or_false, Bool.or_true]) | ((refine fcall_zbox [1, 2] ih (by simp [frzAs, frzA, find]) (by simp only [killL, killA, killAs, qOf, rmT, killH, killT, List.map_cons, List.map_nil, List.filter_cons, List.filter_nil, List.contains_cons, List.contains_nil, Bool.or_false, Bool.or_true, Bool.false_and, Bool.not_true, Bool.not_false, Bool.false_eq_true, if_true, if_false, seval]; rfl) (by simp [Aw.ids]) (by simp [find]) (by simp [closedT, killT, killAs, killA, outQ, Aw.ids]) (by simp [killAs, killA, outQ, Aw.ids]) (by simp [Aw.ids]) ?_; simp only [Aw.ids, List.map_cons, List.map_nil, List.filter_cons, List.filter_nil, List.contains_cons, List.contains_nil, Bool.or_false, Bool.or_true, Bool.not_true, Bool.not_false, Nat.reduceBEq, Bool.false_eq_true, if_true, if_false, List.cons_append, List.nil_append, List.append_nil]; simp only [go_sem, seval, mv_nil, mv_cons, MVK_ap, pl_fin, pl_stop, pl_one, pl_alt, PK_ap, pickO, List.getElem?_toArray, List.getElem?_cons_zero, List.getElem?_cons_succ, Option.getD_some, and_true, true_and, and_self, List.contains_cons, List.contains_nil, Bool.or_false, Bool.or_true])))
            (repeat refine ats_seq ?_); refine ats_go (by first | exact fix0 hcx | exact fix1 hcx rfl | exact fixN hcx rfl) fun K hK => ?_; simp only [go_sem, seval]; (repeat refine And.intro (by first | omega | (intro hq; first | omega | (simp at hq <;> omega) | (simp_all <;> omega))) ?_); refine hK _ ?_; clear hK K
            refine ⟨x + 1,  by omega, by omega, .inl ⟨by simp only [SlotsLe, St.get, slotGet, Nat.reduceEqDiff, ↓reduceIte, AV.int.injEq, AV.bool.injEq, AV.l1.injEq, AV.l2.injEq, AV.l3.injEq, true_and, and_true]; exact ⟨by rw [es'], by omega⟩,  by rw [es']; rfl⟩⟩
          · obtain ⟨L', h⟩ := hmo L rfl
            cases h
          · simp only [TU, argU] at ih ⊢
            (repeat refine ats_seq ?_)
            refine ats_planM [2, 8] [1, 3, 6, 7] (.alt 0 (.alt 2 (.alt 4 (.alt 5 (.alt 8 (.one 9 .fin) .stop) .stop) .stop) (.alt 4 (.alt 2 (.alt 5 (.alt 8 (.one 9 .fin) .stop) .stop) .stop) .stop)) (.alt 2 (.alt 0 (.alt 4 (.alt 5 (.alt 8 (.one 9 .fin) .stop) .stop) .stop) (.alt 4 (.alt 0 (.alt 5 (.alt 8 (.one 9 .fin) .stop) .stop) (.alt 5 (.one 0 (.alt 8 (.one 9 .fin) .stop)) .stop)) .stop)) (.alt 4 (.alt 0 (.alt 2 (.alt 5 (.alt 8 (.one 9 .fin) .stop) .stop) .stop) (.alt 2 (.alt 0 (.alt 5 (.alt 8 (.one 9 .fin) .stop) .stop) (.alt 5 (.one 0 (.alt 8 (.one 9 .fin) .stop)) .stop)) .stop)) .stop))) ⟨[(1, .l1 v), (2, .int b), (3, .ref 5 []), (4, .bptr 0 0), (9, .int m), (10, .int x)], [(5, .r2 L'), (0, .bx [.l2 s, .l1 t])]⟩ hrd (by first | exact fix0 hcx | exact fixN hcx rfl) mixed (by kernel_rfl) (fun K hK => ?_) ?_
            · simp only [go_sem, seval, mv_nil, mv_cons, MVK_ap, pl_fin, pl_stop, pl_one, pl_alt, PK_ap, pickO, List.getElem?_toArray, List.getElem?_cons_zero, List.getElem?_cons_succ, Option.getD_some, and_true, true_and, and_self, List.contains_cons, List.contains_nil, Bool.or_false, Bool.or_true]
              repeat' (first | exact hK _ (by refine And.intro ?_ rfl; simp only [SlotsLe, St.get, slotGet, Nat.reduceEqDiff, ↓reduceIte, AV.int.injEq, AV.bool.injEq, AV.l1.injEq, AV.l2.injEq, AV.l3.injEq, true_and, and_true]) | omega | refine And.intro ?_ ?_ | (refine fcall_own rfl (hw) rfl ?_; simp only [go_sem, seval, mv_nil, mv_cons, MVK_ap, pl_fin, pl_stop, pl_one, pl_alt, PK_ap, pickO, List.getElem?_toArray, List.getElem?_cons_zero, List.getElem?_cons_succ, Option.getD_some, and_true, true_and, and_self, List.contains_cons, List.contains_nil, Bool.or_false, Bool.or_true]) | ((refine fcall_zbox [6, 7] ih (by simp [frzAs, frzA, find]) (by simp only [killL, killA, killAs, qOf, rmT, killH, killT, List.map_cons, List.map_nil, List.filter_cons, List.filter_nil, List.contains_cons, List.contains_nil, Bool.or_false, Bool.or_true, Bool.false_and, Bool.not_true, Bool.not_false, Bool.false_eq_true, if_true, if_false, seval]; rfl) (by simp [Aw.ids]) (by simp [find]) (by simp [closedT, killT, killAs, killA, outQ, Aw.ids]) (by simp [killAs, killA, outQ, Aw.ids]) (by simp [Aw.ids]) ?_; simp only [Aw.ids, List.map_cons, List.map_nil, List.filter_cons, List.filter_nil, List.contains_cons, List.contains_nil, Bool.or_false, Bool.or_true, Bool.not_true, Bool.not_false, Nat.reduceBEq, Bool.false_eq_true, if_true, if_false, List.cons_append, List.nil_append, List.append_nil]; simp only [go_sem, seval, mv_nil, mv_cons, MVK_ap, pl_fin, pl_stop, pl_one, pl_alt, PK_ap, pickO, List.getElem?_toArray, List.getElem?_cons_zero, List.getElem?_cons_succ, Option.getD_some, and_true, true_and, and_self, List.contains_cons, List.contains_nil, Bool.or_false, Bool.or_true])))
            (repeat refine ats_seq ?_); refine ats_go (by first | exact fix0 hcx | exact fix1 hcx rfl | exact fixN hcx rfl) fun K hK => ?_; simp only [go_sem, seval]; (repeat refine And.intro (by first | omega | (intro hq; first | omega | (simp at hq <;> omega) | (simp_all <;> omega))) ?_); refine hK _ ?_; clear hK K
            refine ⟨x + 1,  by omega, by omega, .inl ⟨by simp only [SlotsLe, St.get, slotGet, Nat.reduceEqDiff, ↓reduceIte, AV.int.injEq, AV.bool.injEq, AV.l1.injEq, AV.l2.injEq, AV.l3.injEq, true_and, and_true]; exact ⟨by rw [es'], by omega⟩,  by rw [es']; rfl⟩⟩
        · obtain rfl : x = m + 1 := by omega
          rw [es]
          refine ats_exit (lq_x ?_)
          rcases sx with _ | L
          · simp only [TU, argU]
            (repeat refine ats_seq ?_); refine ats_go (by first | exact fix0 hcx | exact fix1 hcx rfl | exact fixN hcx rfl) fun K hK => ?_; simp only [go_sem, seval]; (repeat refine And.intro (by first | omega | (intro hq; first | omega | (simp at hq <;> omega) | (simp_all <;> omega))) ?_); refine hK _ ?_; clear hK K
            refine ats_ret ⟨⟨[(1, .l1 v), (2, .int b), (8, .nil)], []⟩, ghost_trans (ghost_drop [0]) (ghost_can [] (by simp only [killL, killA, killAs, qOf, rmT, killH, killT, List.filter_cons, List.filter_nil, List.contains_cons, List.contains_nil, Bool.or_false, Bool.or_true, Bool.false_and, Bool.not_true, Bool.not_false, Bool.false_eq_true, if_true, if_false, rnLs, rnL, rn, rns, sw, SlotsLe, St.get, slotGet, List.map_cons, List.map_nil, seval, AV.int.injEq, AV.bool.injEq, AV.l1.injEq, AV.l2.injEq, AV.l3.injEq, true_and, and_true]) (by simp only [killL, killA, killAs, qOf, rmT, killH, killT, List.filter_cons, List.filter_nil, List.contains_cons, List.contains_nil, Bool.or_false, Bool.or_true, Bool.false_and, Bool.not_true, Bool.not_false, Bool.false_eq_true, if_true, if_false, sortH, insH, rnHs, rnH, rnT, rn, rns, sw, List.map_cons, List.map_nil, seval])), .inr rfl, (by first | rfl | exact ⟨trivial, rfl⟩), (by simp [St.get, slotGet, argSlots]), rfl⟩
          · simp only [TU, argU]
            (repeat refine ats_seq ?_); refine ats_go (by first | exact fix0 hcx | exact fix1 hcx rfl | exact fixN hcx rfl) fun K hK => ?_; simp only [go_sem, seval]; (repeat refine And.intro (by first | omega | (intro hq; first | omega | (simp at hq <;> omega) | (simp_all <;> omega))) ?_); refine hK _ ?_; clear hK K
            refine ats_ret ⟨⟨[(1, .l1 v), (2, .int b), (8, .ref 5 [])], [(5, .r2 L)]⟩, ghost_trans (ghost_drop [0]) (ghost_can [] (by simp only [killL, killA, killAs, qOf, rmT, killH, killT, List.filter_cons, List.filter_nil, List.contains_cons, List.contains_nil, Bool.or_false, Bool.or_true, Bool.false_and, Bool.not_true, Bool.not_false, Bool.false_eq_true, if_true, if_false, rnLs, rnL, rn, rns, sw, SlotsLe, St.get, slotGet, List.map_cons, List.map_nil, seval, AV.int.injEq, AV.bool.injEq, AV.l1.injEq, AV.l2.injEq, AV.l3.injEq, true_and, and_true]) (by simp only [killL, killA, killAs, qOf, rmT, killH, killT, List.filter_cons, List.filter_nil, List.contains_cons, List.contains_nil, Bool.or_false, Bool.or_true, Bool.false_and, Bool.not_true, Bool.not_false, Bool.false_eq_true, if_true, if_false, sortH, insH, rnHs, rnH, rnT, rn, rns, sw, List.map_cons, List.map_nil, seval])), .inr rfl, (by first | rfl | exact ⟨trivial, rfl⟩), (by simp [St.get, slotGet, argSlots]), rfl⟩
    · simp only [TU, argU]
      refine OwnCall.introR (n := 48) (rs := [.tmp 8]) 3 [1, 2] (X := []) Tryz.call35 Tryz.func35 rfl rfl rfl (by simp only [List.length_cons, List.length_nil]; omega) (by simp [Aw.ids, rootsA, rootsAs, argSlots, slotGet]) (fun cx hcx hrd => AT.weakG (ats_of ?_)); simp only [argSlots, Nat.zero_add, Nat.reduceAdd]
      (repeat refine ats_seq ?_); refine ats_go (by first | exact fix0 hcx | exact fix1 hcx rfl | exact fixN hcx rfl) fun K hK => ?_; simp only [go_sem, seval]; (repeat refine And.intro (by first | omega | (intro hq; first | omega | (simp at hq <;> omega) | (simp_all <;> omega))) ?_); refine hK _ ?_; clear hK K
      (repeat refine ats_seq ?_); refine ats_go (by first | exact fix0 hcx | exact fix1 hcx rfl | exact fixN hcx rfl) fun K hK => ?_; simp only [go_sem, seval]; (repeat refine And.intro (by first | omega | (intro hq; first | omega | (simp at hq <;> omega) | (simp_all <;> omega))) ?_); refine hK _ ?_; clear hK K
      (repeat refine ats_seq ?_); first | refine ats_ifn (p := _) rfl trivial (fun h2 => ?_) (fun h2 => ?_) | refine ats_ifp (p := _) rfl trivial (fun h2 => ?_) (fun h2 => ?_) | refine ats_cond rfl trivial (fun h2 => ?_) (fun h2 => ?_)
      · omega
      · refine ats_skip ?_
        (repeat refine ats_seq ?_); refine ats_go (by first | exact fix0 hcx | exact fix1 hcx rfl | exact fixN hcx rfl) fun K hK => ?_; simp only [go_sem, seval]; (repeat refine And.intro (by first | omega | (intro hq; first | omega | (simp at hq <;> omega) | (simp_all <;> omega))) ?_); refine hK _ ?_; clear hK K
        (repeat refine ats_seq ?_)
        (repeat refine ats_seq ?_); refine ats_go (by first | exact fix0 hcx | exact fix1 hcx rfl | exact fixN hcx rfl) fun K hK => ?_; simp only [go_sem, seval]; (repeat refine And.intro (by first | omega | (intro hq; first | omega | (simp at hq <;> omega) | (simp_all <;> omega))) ?_); refine hK _ ?_; clear hK K
        refine ats_cutG ⟨[(1, .l1 v), (2, .int b), (3, .ref 5 []), (4, .bptr 6 0), (9, .int m)], [(5, .r2 L0), (6, .bx [.l2 s, .l1 t])]⟩ ?_ ?_
        · (repeat refine ats_seq ?_); first | refine ats_ifn (p := _) rfl trivial (fun h3 => ?_) (fun h3 => ?_) | refine ats_ifp (p := _) rfl trivial (fun h3 => ?_) (fun h3 => ?_) | refine ats_cond rfl trivial (fun h3 => ?_) (fun h3 => ?_)
          · have hm0 : (m : Int) = 0 := by rw [hmb, if_neg (by simpa using h3)]
            rw [hm0]
            (repeat refine ats_seq ?_); refine ats_go (by first | exact fix0 hcx | exact fix1 hcx rfl | exact fixN hcx rfl) fun K hK => ?_; simp only [go_sem, seval]; (repeat refine And.intro (by first | omega | (intro hq; first | omega | (simp at hq <;> omega) | (simp_all <;> omega))) ?_); refine hK _ ?_; clear hK K
            refine ats_nil ?_; refine Or.inl ⟨rfl, ghost_trans (ghost_drop []) (ghost_can [] (by simp only [killL, killA, killAs, qOf, rmT, killH, killT, List.filter_cons, List.filter_nil, List.contains_cons, List.contains_nil, Bool.or_false, Bool.or_true, Bool.false_and, Bool.not_true, Bool.not_false, Bool.false_eq_true, if_true, if_false, rnLs, rnL, rn, rns, sw, SlotsLe, St.get, slotGet, List.map_cons, List.map_nil, seval, AV.int.injEq, AV.bool.injEq, AV.l1.injEq, AV.l2.injEq, AV.l3.injEq, true_and, and_true]) (by simp only [killL, killA, killAs, qOf, rmT, killH, killT, List.filter_cons, List.filter_nil, List.contains_cons, List.contains_nil, Bool.or_false, Bool.or_true, Bool.false_and, Bool.not_true, Bool.not_false, Bool.false_eq_true, if_true, if_false, sortH, insH, rnHs, rnH, rnT, rn, rns, sw, List.map_cons, List.map_nil, seval]))⟩
          · have hmB : (m : Int) = b := by rw [hmb, if_pos (by simpa using h3)]
            rw [hmB]
            refine ats_skip ?_
            refine ats_nil ?_; refine Or.inl ⟨rfl, ghost_trans (ghost_drop []) (ghost_can [] (by simp only [killL, killA, killAs, qOf, rmT, killH, killT, List.filter_cons, List.filter_nil, List.contains_cons, List.contains_nil, Bool.or_false, Bool.or_true, Bool.false_and, Bool.not_true, Bool.not_false, Bool.false_eq_true, if_true, if_false, rnLs, rnL, rn, rns, sw, SlotsLe, St.get, slotGet, List.map_cons, List.map_nil, seval, AV.int.injEq, AV.bool.injEq, AV.l1.injEq, AV.l2.injEq, AV.l3.injEq, true_and, and_true]) (by simp only [killL, killA, killAs, qOf, rmT, killH, killT, List.filter_cons, List.filter_nil, List.contains_cons, List.contains_nil, Bool.or_false, Bool.or_true, Bool.false_and, Bool.not_true, Bool.not_false, Bool.false_eq_true, if_true, if_false, sortH, insH, rnHs, rnH, rnT, rn, rns, sw, List.map_cons, List.map_nil, seval]))⟩
        (repeat refine ats_seq ?_); refine ats_go (by first | exact fix0 hcx | exact fix1 hcx rfl | exact fixN hcx rfl) fun K hK => ?_; simp only [go_sem, seval]; (repeat refine And.intro (by first | omega | (intro hq; first | omega | (simp at hq <;> omega) | (simp_all <;> omega))) ?_); refine hK _ ?_; clear hK K
        (repeat refine ats_seq ?_); refine ats_loop (fun x : Nat => ⟨[(1, .l1 v), (2, .int b), (3, argU (S x)), (4, .bptr 6 0), (9, .int m), (10, .int x)], TU (S x) ++ [(6, .bx [.l2 s, .l1 t])]⟩) (fun x => x ≤ m + 1) (fun x => m + 1 - x) 0 (Nat.zero_le _) (by
          rw [es0]
          refine And.intro ?_ rfl; simp only [SlotsLe, St.get, slotGet, Nat.reduceEqDiff, ↓reduceIte, AV.int.injEq, AV.bool.injEq, AV.l1.injEq, AV.l2.injEq, AV.l3.injEq, true_and, and_true]
          exact ⟨rfl, rfl⟩) (fun x hx => ?_)
        obtain ⟨sx, es⟩ : ∃ sx, S x = sx := ⟨_, rfl⟩
        rw [es]
        (repeat refine ats_seq ?_); refine ats_go (by first | exact fix0 hcx | exact fix1 hcx rfl | exact fixN hcx rfl) fun K hK => ?_; simp only [go_sem, seval]; (repeat refine And.intro (by first | omega | (intro hq; first | omega | (simp at hq <;> omega) | (simp_all <;> omega))) ?_); refine hK _ ?_; clear hK K
        (repeat refine ats_seq ?_); first | refine ats_ifn (p := _) rfl trivial (fun h4 => ?_) (fun h4 => ?_) | refine ats_ifp (p := _) rfl trivial (fun h4 => ?_) (fun h4 => ?_) | refine ats_cond rfl trivial (fun h4 => ?_) (fun h4 => ?_)
        · have ih := hih x (by omega)
          rw [es] at ih
          obtain ⟨s', es'⟩ : ∃ s', S (x + 1) = s' := ⟨_, rfl⟩
          rw [es'] at ih
          refine ats_skip ?_
          (repeat refine ats_seq ?_); refine ats_block ?_
          obtain ⟨L, rfl⟩ : ∃ L, sx = some L := by
            obtain ⟨L, hL⟩ := hSo L0 es0 x
            exact ⟨L, by rw [← es, hL]⟩
          obtain ⟨L', rfl⟩ : ∃ L', s' = some L' := by
            obtain ⟨L', hL'⟩ := hSo L0 es0 (x + 1)
            exact ⟨L', by rw [← es', hL']⟩
          · simp only [TU, argU] at ih ⊢
            (repeat refine ats_seq ?_)
            refine ats_planM [2, 8] [1, 3, 6, 7] (.alt 0 (.alt 2 (.alt 4 (.alt 5 (.alt 8 (.one 9 .fin) .stop) .stop) .stop) (.alt 4 (.alt 2 (.alt 5 (.alt 8 (.one 9 .fin) .stop) .stop) .stop) .stop)) (.alt 2 (.alt 0 (.alt 4 (.alt 5 (.alt 8 (.one 9 .fin) .stop) .stop) .stop) (.alt 4 (.alt 0 (.alt 5 (.alt 8 (.one 9 .fin) .stop) .stop) (.alt 5 (.one 0 (.alt 8 (.one 9 .fin) .stop)) .stop)) .stop)) (.alt 4 (.alt 0 (.alt 2 (.alt 5 (.alt 8 (.one 9 .fin) .stop) .stop) .stop) (.alt 2 (.alt 0 (.alt 5 (.alt 8 (.one 9 .fin) .stop) .stop) (.alt 5 (.one 0 (.alt 8 (.one 9 .fin) .stop)) .stop)) .stop)) .stop))) ⟨[(1, .l1 v), (2, .int b), (3, .ref 5 []), (4, .bptr 6 0), (9, .int m), (10, .int x)], [(5, .r2 L'), (6, .bx [.l2 s, .l1 t])]⟩ hrd (by first | exact fix0 hcx | exact fixN hcx rfl) mixed (by kernel_rfl) (fun K hK => ?_) ?_
            · simp only [go_sem, seval, mv_nil, mv_cons, MVK_ap, pl_fin, pl_stop, pl_one, pl_alt, PK_ap, pickO, List.getElem?_toArray, List.getElem?_cons_zero, List.getElem?_cons_succ, Option.getD_some, and_true, true_and, and_self, List.contains_cons, List.contains_nil, Bool.or_false, Bool.or_true]
              repeat' (first | exact hK _ (by refine And.intro ?_ rfl; simp only [SlotsLe, St.get, slotGet, Nat.reduceEqDiff, ↓reduceIte, AV.int.injEq, AV.bool.injEq, AV.l1.injEq, AV.l2.injEq, AV.l3.injEq, true_and, and_true]) | omega | refine And.intro ?_ ?_ | (refine fcall_own rfl (hw) rfl ?_; simp only [go_sem, seval, mv_nil, mv_cons, MVK_ap, pl_fin, pl_stop, pl_one, pl_alt, PK_ap, pickO, List.getElem?_toArray, List.getElem?_cons_zero, List.getElem?_cons_succ, Option.getD_some, and_true, true_and, and_self, List.contains_cons, List.contains_nil, Bool.or_false, Bool.or_true]) | ((refine fcall_zbox [7, 8] ih (by simp [frzAs, frzA, find]) (by simp only [killL, killA, killAs, qOf, rmT, killH, killT, List.map_cons, List.map_nil, List.filter_cons, List.filter_nil, List.contains_cons, List.contains_nil, Bool.or_false, Bool.or_true, Bool.false_and, Bool.not_true, Bool.not_false, Bool.false_eq_true, if_true, if_false, seval]; rfl) (by simp [Aw.ids]) (by simp [find]) (by simp [closedT, killT, killAs, killA, outQ, Aw.ids]) (by simp [killAs, killA, outQ, Aw.ids]) (by simp [Aw.ids]) ?_; simp only [Aw.ids, List.map_cons, List.map_nil, List.filter_cons, List.filter_nil, List.contains_cons, List.contains_nil, Bool.or_false, Bool.or_true, Bool.not_true, Bool.not_false, Nat.reduceBEq, Bool.false_eq_true, if_true, if_false, List.cons_append, List.nil_append, List.append_nil]; simp only [go_sem, seval, mv_nil, mv_cons, MVK_ap, pl_fin, pl_stop, pl_one, pl_alt, PK_ap, pickO, List.getElem?_toArray, List.getElem?_cons_zero, List.getElem?_cons_succ, Option.getD_some, and_true, true_and, and_self, List.contains_cons, List.contains_nil, Bool.or_false, Bool.or_true])))
            (repeat refine ats_seq ?_); refine ats_go (by first | exact fix0 hcx | exact fix1 hcx rfl | exact fixN hcx rfl) fun K hK => ?_; simp only [go_sem, seval]; (repeat refine And.intro (by first | omega | (intro hq; first | omega | (simp at hq <;> omega) | (simp_all <;> omega))) ?_); refine hK _ ?_; clear hK K
            refine ⟨x + 1,  by omega, by omega, .inl ⟨by simp only [SlotsLe, St.get, slotGet, Nat.reduceEqDiff, ↓reduceIte, AV.int.injEq, AV.bool.injEq, AV.l1.injEq, AV.l2.injEq, AV.l3.injEq, true_and, and_true]; exact ⟨by rw [es'], by omega⟩,  by rw [es']; rfl⟩⟩
        · obtain rfl : x = m + 1 := by omega
          rw [es]
          refine ats_exit (lq_x ?_)
          rcases sx with _ | L
          · obtain ⟨L, hL⟩ := hSo L0 es0 (m + 1)
            rw [es] at hL
            cases hL
          · simp only [TU, argU]
            (repeat refine ats_seq ?_); refine ats_go (by first | exact fix0 hcx | exact fix1 hcx rfl | exact fixN hcx rfl) fun K hK => ?_; simp only [go_sem, seval]; (repeat refine And.intro (by first | omega | (intro hq; first | omega | (simp at hq <;> omega) | (simp_all <;> omega))) ?_); refine hK _ ?_; clear hK K
            refine ats_ret ⟨⟨[(1, .l1 v), (2, .int b), (8, .ref 5 [])], [(5, .r2 L)]⟩, ghost_trans (ghost_drop [6]) (ghost_can [] (by simp only [killL, killA, killAs, qOf, rmT, killH, killT, List.filter_cons, List.filter_nil, List.contains_cons, List.contains_nil, Bool.or_false, Bool.or_true, Bool.false_and, Bool.not_true, Bool.not_false, Bool.false_eq_true, if_true, if_false, rnLs, rnL, rn, rns, sw, SlotsLe, St.get, slotGet, List.map_cons, List.map_nil, seval, AV.int.injEq, AV.bool.injEq, AV.l1.injEq, AV.l2.injEq, AV.l3.injEq, true_and, and_true]) (by simp only [killL, killA, killAs, qOf, rmT, killH, killT, List.filter_cons, List.filter_nil, List.contains_cons, List.contains_nil, Bool.or_false, Bool.or_true, Bool.false_and, Bool.not_true, Bool.not_false, Bool.false_eq_true, if_true, if_false, sortH, insH, rnHs, rnH, rnT, rn, rns, sw, List.map_cons, List.map_nil, seval])), .inr rfl, (by first | rfl | exact ⟨trivial, rfl⟩), (by simp [St.get, slotGet, argSlots]), rfl⟩
end Go.Proofs.YtikbecmheibggaaGreat
