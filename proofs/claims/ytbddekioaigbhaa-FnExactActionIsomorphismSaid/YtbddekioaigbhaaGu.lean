/-
  The program's search for an isomorphism of actions.
-/
import Derived.Test.YtbddekioaigbhaaGq
import Derived.Test.YtbddekioaigbhaaLib7
import Derived.Test.YtbddekioaigbhaaDh
set_option linter.unusedSimpArgs false
set_option linter.unusedVariables false
namespace Go.Proofs.Ytbddekioaigbhaa
open Go Go.Aw Go.Pl

noncomputable def fstA (k n : Nat) (a b : List (List (List Int))) (d : Nat) (p : List Int) : Option (List Int) := (extA k n a b d p).head?
/-- What the search owns. -/
def TAc (n : Nat) (a b : List (List (List Int))) (p : List Int) : List (Nat × Tree) := [(1, .bx [.l3 a]), (2, .bx [.l3 b]), (3, .t1 p), (4, .bx [.int n]), (5, .bx [.ref 3 []]), (6, .bx [.fn 23 [.bptr 5 0, .bptr 4 0, .bptr 1 0, .bptr 2 0, .bptr 6 0]])]

set_option maxRecDepth 20000 in
set_option maxHeartbeats 8000000 in
theorem extAc_ok (k n : Nat) (a b : List (List (List Int))) (ha : ∀ i, i < k → MatOk n (a.getD i [])) (hb : ∀ i, i < k → MatOk n (b.getD i [])) (la : a.length = k) (lb : b.length = k) (hn16 : n ≤ 16) (hk16 : k ≤ 16) : ∀ d p, p.length + d = n → QOk n p →
    OwnCall Try.prog 23 [.bptr 5 0, .bptr 4 0, .bptr 1 0, .bptr 2 0, .bptr 6 0] (TAc n a b p) (TAc n a b ((fstA k n a b d p).getD p)) (.bool (fstA k n a b d p).isSome) [1, 2, 4, 5, 6]
  | 0, p, hd, hq => by
    show OwnCall _ _ _ _ (TAc n a b p) (.bool true) _
    simp only [TAc]
    refine OwnCall.introR (n := 36) (rs := [.tmp 5]) 5 [0, 1, 2, 3, 4] (X := [1, 2, 4, 5, 6]) Try.call23 Try.func23 rfl rfl rfl (by simp only [List.length_cons, List.length_nil]; omega) (by simp [Aw.ids, rootsA, rootsAs, argSlots, slotGet]) (fun cx hcx hrd => AT.weakG (ats_of ?_)); simp only [argSlots, Nat.zero_add, Nat.reduceAdd]
    (repeat refine ats_seq ?_); refine ats_go (by first | exact fix0 hcx | exact fix1 hcx rfl | exact fixN hcx rfl) fun K hK => ?_; simp only [go_sem, seval]; (repeat refine And.intro (by first | omega | (intro hq; first | omega | (simp at hq <;> omega) | (simp_all <;> omega))) ?_); refine hK _ ?_; clear hK K
    (repeat refine ats_seq ?_); refine ats_go (by first | exact fix0 hcx | exact fix1 hcx rfl | exact fixN hcx rfl) fun K hK => ?_; simp only [go_sem, seval]; (repeat refine And.intro (by first | omega | (intro hq; first | omega | (simp at hq <;> omega) | (simp_all <;> omega))) ?_); refine hK _ ?_; clear hK K
    (repeat refine ats_seq ?_); first | refine ats_ifn (p := _) rfl trivial (fun h1 => ?_) (fun h1 => ?_) | refine ats_ifp (p := _) rfl trivial (fun h1 => ?_) (fun h1 => ?_) | refine ats_cond rfl trivial (fun h1 => ?_) (fun h1 => ?_)
    · (repeat refine ats_seq ?_); refine ats_go (by first | exact fix0 hcx | exact fix1 hcx rfl | exact fixN hcx rfl) fun K hK => ?_; simp only [go_sem, seval]; (repeat refine And.intro (by first | omega | (intro hq; first | omega | (simp at hq <;> omega) | (simp_all <;> omega))) ?_); refine hK _ ?_; clear hK K
      refine ats_ret ⟨⟨[(0, .bptr 5 0), (1, .bptr 4 0), (2, .bptr 1 0), (3, .bptr 2 0), (4, .bptr 6 0), (5, .bool true)], [(1, .bx [.l3 a]), (2, .bx [.l3 b]), (3, .t1 p), (4, .bx [.int n]), (5, .bx [.ref 3 []]), (6, .bx [.fn 23 [.bptr 5 0, .bptr 4 0, .bptr 1 0, .bptr 2 0, .bptr 6 0]])]⟩, ghost_trans (ghost_drop []) (ghost_can [] (by simp only [killL, killA, killAs, qOf, rmT, killH, killT, List.filter_cons, List.filter_nil, List.contains_cons, List.contains_nil, Bool.or_false, Bool.or_true, Bool.false_and, Bool.not_true, Bool.not_false, Bool.false_eq_true, if_true, if_false, rnLs, rnL, rn, rns, sw, SlotsLe, St.get, slotGet, List.map_cons, List.map_nil, seval, AV.int.injEq, AV.bool.injEq, AV.l1.injEq, AV.l2.injEq, AV.l3.injEq, true_and, and_true]) (by simp only [killL, killA, killAs, qOf, rmT, killH, killT, List.filter_cons, List.filter_nil, List.contains_cons, List.contains_nil, Bool.or_false, Bool.or_true, Bool.false_and, Bool.not_true, Bool.not_false, Bool.false_eq_true, if_true, if_false, sortH, insH, rnHs, rnH, rnT, rn, rns, sw, List.map_cons, List.map_nil, seval])), .inr rfl, (by first | rfl | exact ⟨trivial, rfl⟩), (by simp [St.get, slotGet, argSlots]), rfl⟩
    · omega
  | d + 1, p, hd, hq => by
    obtain ⟨E, hE⟩ : ∃ E : Nat → List (List Int), E = fun x => (List.range x).flatMap fun (y : Nat) => if bd (OkA k a b p y) = true then extA k n a b d (p ++ [(y : Int)]) else [] := ⟨_, rfl⟩
    have hEs : ∀ y, E (y + 1) = E y ++ (if bd (OkA k a b p y) = true then extA k n a b d (p ++ [(y : Int)]) else []) := fun y => by
      rw [hE]
      simp only [List.range_succ, List.flatMap_append, List.flatMap_cons, List.flatMap_nil, List.append_nil]
    have hEe : fstA k n a b (d + 1) p = (E n).head? := by rw [hE]; rfl
    have hhd : ∀ y, y < n → E y = [] → ∀ q, fstA k n a b d (p ++ [(y : Int)]) = some q → bd (OkA k a b p y) = true → (E n).head? = some q := fun y hy he q hf hb => by
      have h2 : (E (y + 1)).head? = some q := by rw [hEs, he, if_pos hb, List.nil_append]; exact hf
      obtain ⟨j, rfl⟩ : ∃ j, n = y + 1 + j := ⟨n - (y + 1), by omega⟩
      clear hf hb
      have : ∀ j, (E (y + 1 + j)).head? = some q := fun j => by
        induction j with
        | zero => exact h2
        | succ j ih => rw [← Nat.add_assoc, hEs, List.head?_append, ih]; rfl
      exact this j
    have hih : ∀ y, y < n → OwnCall Try.prog 23 [.bptr 5 0, .bptr 4 0, .bptr 1 0, .bptr 2 0, .bptr 6 0] (TAc n a b (p ++ [(y : Int)])) (TAc n a b ((fstA k n a b d (p ++ [(y : Int)])).getD (p ++ [(y : Int)]))) (.bool (fstA k n a b d (p ++ [(y : Int)])).isSome) [1, 2, 4, 5, 6] := fun y hy =>
      extAc_ok k n a b ha hb la lb hn16 hk16 d (p ++ [(y : Int)]) (by simp; omega) (hq.app (QOk.one hy))
    rw [hEe]
    simp only [TAc]
    refine OwnCall.introR (n := 36) (rs := [.tmp 5]) 5 [0, 1, 2, 3, 4] (X := [1, 2, 4, 5, 6]) Try.call23 Try.func23 rfl rfl rfl (by simp only [List.length_cons, List.length_nil]; omega) (by simp [Aw.ids, rootsA, rootsAs, argSlots, slotGet]) (fun cx hcx hrd => AT.weakG (ats_of ?_)); simp only [argSlots, Nat.zero_add, Nat.reduceAdd]
    (repeat refine ats_seq ?_); refine ats_go (by first | exact fix0 hcx | exact fix1 hcx rfl | exact fixN hcx rfl) fun K hK => ?_; simp only [go_sem, seval]; (repeat refine And.intro (by first | omega | (intro hq; first | omega | (simp at hq <;> omega) | (simp_all <;> omega))) ?_); refine hK _ ?_; clear hK K
    (repeat refine ats_seq ?_); refine ats_go (by first | exact fix0 hcx | exact fix1 hcx rfl | exact fixN hcx rfl) fun K hK => ?_; simp only [go_sem, seval]; (repeat refine And.intro (by first | omega | (intro hq; first | omega | (simp at hq <;> omega) | (simp_all <;> omega))) ?_); refine hK _ ?_; clear hK K
    (repeat refine ats_seq ?_); first | refine ats_ifn (p := _) rfl trivial (fun h1 => ?_) (fun h1 => ?_) | refine ats_ifp (p := _) rfl trivial (fun h1 => ?_) (fun h1 => ?_) | refine ats_cond rfl trivial (fun h1 => ?_) (fun h1 => ?_)
    · omega
    · refine ats_skip ?_
      (repeat refine ats_seq ?_); refine ats_go (by first | exact fix0 hcx | exact fix1 hcx rfl | exact fixN hcx rfl) fun K hK => ?_; simp only [go_sem, seval]; (repeat refine And.intro (by first | omega | (intro hq; first | omega | (simp at hq <;> omega) | (simp_all <;> omega))) ?_); refine hK _ ?_; clear hK K
      (repeat refine ats_seq ?_); refine ats_loop (fun y : Nat => ⟨[(0, .bptr 5 0), (1, .bptr 4 0), (2, .bptr 1 0), (3, .bptr 2 0), (4, .bptr 6 0), (11, .int n), (12, .int y)], [(1, .bx [.l3 a]), (2, .bx [.l3 b]), (3, .t1 p), (4, .bx [.int n]), (5, .bx [.ref 3 []]), (6, .bx [.fn 23 [.bptr 5 0, .bptr 4 0, .bptr 1 0, .bptr 2 0, .bptr 6 0]])]⟩) (fun y => y ≤ n ∧ E y = []) (fun y => n - y) 0 ⟨Nat.zero_le _, by rw [hE]; rfl⟩ (by
        refine And.intro ?_ rfl; simp only [SlotsLe, St.get, slotGet, Nat.reduceEqDiff, ↓reduceIte, AV.int.injEq, AV.bool.injEq, AV.l1.injEq, AV.l2.injEq, AV.l3.injEq, true_and, and_true]
        try rfl) (fun y hy => ?_)
      obtain ⟨hy, hEy⟩ := hy
      have hEy1 := hEs y
      rw [hEy, List.nil_append] at hEy1
      (repeat refine ats_seq ?_); refine ats_go (by first | exact fix0 hcx | exact fix1 hcx rfl | exact fixN hcx rfl) fun K hK => ?_; simp only [go_sem, seval]; (repeat refine And.intro (by first | omega | (intro hq; first | omega | (simp at hq <;> omega) | (simp_all <;> omega))) ?_); refine hK _ ?_; clear hK K
      (repeat refine ats_seq ?_); first | refine ats_ifn (p := _) rfl trivial (fun h2 => ?_) (fun h2 => ?_) | refine ats_ifp (p := _) rfl trivial (fun h2 => ?_) (fun h2 => ?_) | refine ats_cond rfl trivial (fun h2 => ?_) (fun h2 => ?_)
      · have hcn := nContains_ok p y
        have ihy := hih y (by omega)
        have hhy := hhd y (by omega) hEy
        refine ats_skip ?_
        (repeat refine ats_seq ?_); refine ats_block ?_
        (repeat refine ats_seq ?_); refine ats_go (by first | exact fix0 hcx | exact fix1 hcx rfl | exact fixN hcx rfl) fun K hK => ?_; simp only [go_sem, seval]; (repeat refine And.intro (by first | omega | (intro hq; first | omega | (simp at hq <;> omega) | (simp_all <;> omega))) ?_); refine hK _ ?_; clear hK K
        (repeat refine ats_seq ?_); refine ats_go (by first | exact fix0 hcx | exact fix1 hcx rfl | exact fixN hcx rfl) fun K hK => ?_; simp only [go_sem, seval]
        (repeat refine And.intro (by first | omega | (intro hq; first | omega | (simp at hq <;> omega) | (simp_all <;> omega))) ?_)
        first | refine fcall_free rfl rfl (hcn) ?_ | refine YR_intro (acall_free rfl rfl (hcn)) ?_
        simp only [go_sem, seval]
        (repeat refine And.intro (by first | omega | (intro hq; first | omega | (simp at hq <;> omega) | (simp_all <;> omega))) ?_)
        refine hK _ ?_; clear hK K
        (repeat refine ats_seq ?_); first | refine ats_ifn (p := _) rfl trivial (fun h3 => ?_) (fun h3 => ?_) | refine ats_ifp (p := _) rfl trivial (fun h3 => ?_) (fun h3 => ?_) | refine ats_cond rfl trivial (fun h3 => ?_) (fun h3 => ?_)
        · have hno : ¬ bd (OkA k a b p y) = true := fun h => by
            have hno2 := (bd_iff.1 h).no
            unfold hasI at hno2
            rw [hno2] at h3
            cases h3
          rw [if_neg hno] at hEy1
          refine ats_exit (bq_x ?_)
          (repeat refine ats_seq ?_); refine ats_go (by first | exact fix0 hcx | exact fix1 hcx rfl | exact fixN hcx rfl) fun K hK => ?_; simp only [go_sem, seval]; (repeat refine And.intro (by first | omega | (intro hq; first | omega | (simp at hq <;> omega) | (simp_all <;> omega))) ?_); refine hK _ ?_; clear hK K
          refine ⟨y + 1,  ⟨by omega, hEy1⟩, by omega, .inl ⟨by simp only [SlotsLe, St.get, slotGet, Nat.reduceEqDiff, ↓reduceIte, AV.int.injEq, AV.bool.injEq, AV.l1.injEq, AV.l2.injEq, AV.l3.injEq, true_and, and_true]; (try omega),  rfl⟩⟩
        · have a2 : hasI p y = false := by
            unfold hasI
            first | exact h3 | simpa using h3
          have lx : (p ++ [(y : Int)]).length = p.length + 1 := by simp
          have tk : ((((p ++ [(y : Int)]).length : Nat) : Int) - 1).toNat = p.length := by rw [lx]; omega
          have ct : cutTree 0 p.length (.t1 (p ++ [(y : Int)])) = some (.t1 p) := by simp [cutTree]
          have hpa := pointsAgree_ok k n p.length a b (p ++ [(y : Int)]) ha hb la lb (hq.app (QOk.one (show y < n by omega))) lx (by omega) hn16 hk16
          refine ats_skip ?_
          (repeat refine ats_seq ?_); refine ats_go (by first | exact fix0 hcx | exact fix1 hcx rfl | exact fixN hcx rfl) fun K hK => ?_; simp only [go_sem, seval]; (repeat refine And.intro (by first | omega | (intro hq; first | omega | (simp at hq <;> omega) | (simp_all <;> omega))) ?_); refine hK _ ?_; clear hK K
          refine AT.ghost (ghost_drop [7]) ?_; simp only [killL, killA, killAs, qOf, rmT, killH, killT, List.map_cons, List.map_nil, List.filter_cons, List.filter_nil, List.contains_cons, List.contains_nil, Bool.or_false, Bool.or_true, Bool.false_and, Bool.not_true, Bool.not_false, Bool.false_eq_true, if_true, if_false, seval]
          by_cases c : fitsP k p.length a b (p ++ [(y : Int)])
          · have hok : OkA k a b p y := okA_iff.2 ⟨a2, c⟩
            rw [if_pos (bd_true hok)] at hEy1
            rw [bd_true c] at hpa
            simp only [TAc] at ihy
            cases hf : fstA k n a b d (p ++ [(y : Int)]) with
            | none =>
              have he : extA k n a b d (p ++ [(y : Int)]) = [] := by
                unfold fstA at hf
                exact List.head?_eq_none_iff.1 hf
              rw [he] at hEy1
              rw [hf] at ihy
              simp only [Option.getD_none, Option.isSome_none] at ihy
              (repeat refine ats_seq ?_); refine ats_goU (by first | exact fix0 hcx | exact fix1 hcx rfl | exact fixN hcx rfl) fun K hK => ?_; simp only [go_sem, seval, u_nil, u_cons, UK_ap, ung_eq, gOk_none, gOk_some, List.getElem?_toArray, List.getElem?_cons_zero, List.getElem?_cons_succ, true_and, and_true]
              first | refine fcall_free rfl rfl (hpa) ?_ | refine YR_intro (acall_free rfl rfl (hpa)) ?_
              simp only [go_sem, seval]
              simp only [go_sem, seval, u_nil, u_cons, UK_ap, ung_eq, gOk_none, gOk_some, List.getElem?_toArray, List.getElem?_cons_zero, List.getElem?_cons_succ, true_and, and_true]
              refine fcall_box (ihy) (by simp [Aw.ids]) (by simp [find]) (by simp [closedT, killT, killAs, killA, outQ, Aw.ids]) (by simp [killAs, killA, outQ, Aw.ids]) (by simp [Aw.ids]) ?_; simp only [Aw.ids, List.map_cons, List.map_nil, List.filter_cons, List.filter_nil, List.contains_cons, List.contains_nil, Bool.or_false, Bool.or_true, Bool.not_true, Bool.not_false, Nat.reduceBEq, Bool.false_eq_true, if_true, if_false, List.cons_append, List.nil_append]; simp only [go_sem, seval]
              simp only [go_sem, seval, u_nil, u_cons, UK_ap, ung_eq, gOk_none, gOk_some, List.getElem?_toArray, List.getElem?_cons_zero, List.getElem?_cons_succ, true_and, and_true]
              (repeat refine And.intro (by first | omega | (intro hq; first | omega | (simp at hq <;> omega) | (simp_all <;> omega))) ?_)
              refine hK _ ?_; clear hK K
              (repeat refine ats_seq ?_); refine ats_no rfl trivial ?_
              refine ats_skip ?_
              (repeat refine ats_seq ?_); refine ats_go (by first | exact fix0 hcx | exact fix1 hcx rfl | exact fixN hcx rfl) fun K hK => ?_; simp only [go_sem, seval]
              simp only [tk]
              (repeat refine And.intro (by first | omega | (intro hq; first | omega | (simp at hq <;> omega) | (simp_all <;> omega))) ?_)
              refine hK _ ?_; clear hK K
              refine AT.ghost (ghost_cutB Try.prog 5 3 (lo := 0) (hi := p.length) (t := .t1 (p ++ [(y : Int)])) (t' := .t1 p) rfl rfl ct rfl (by decide)) ?_; simp only [killL, killA, killAs, qOf, rmT, killH, killT, putT, List.map_cons, List.map_nil, List.filter_cons, List.filter_nil, List.contains_cons, List.contains_nil, Bool.or_false, Bool.or_true, Bool.false_and, Bool.not_true, Bool.not_false, Bool.false_eq_true, if_true, if_false, seval]
              (repeat refine ats_seq ?_); refine ats_go (by first | exact fix0 hcx | exact fix1 hcx rfl | exact fixN hcx rfl) fun K hK => ?_; simp only [go_sem, seval]; (repeat refine And.intro (by first | omega | (intro hq; first | omega | (simp at hq <;> omega) | (simp_all <;> omega))) ?_); refine hK _ ?_; clear hK K
              refine ⟨y + 1,  ⟨by omega, hEy1⟩, by omega, .inl ⟨by simp only [SlotsLe, St.get, slotGet, Nat.reduceEqDiff, ↓reduceIte, AV.int.injEq, AV.bool.injEq, AV.l1.injEq, AV.l2.injEq, AV.l3.injEq, true_and, and_true]; (try omega),  rfl⟩⟩
            | some q =>
              rw [hf] at ihy
              simp only [Option.getD_some, Option.isSome_some] at ihy
              rw [hhy q hf (bd_true hok)]
              simp only [Option.getD_some, Option.isSome_some]
              (repeat refine ats_seq ?_); refine ats_goU (by first | exact fix0 hcx | exact fix1 hcx rfl | exact fixN hcx rfl) fun K hK => ?_; simp only [go_sem, seval, u_nil, u_cons, UK_ap, ung_eq, gOk_none, gOk_some, List.getElem?_toArray, List.getElem?_cons_zero, List.getElem?_cons_succ, true_and, and_true]
              first | refine fcall_free rfl rfl (hpa) ?_ | refine YR_intro (acall_free rfl rfl (hpa)) ?_
              simp only [go_sem, seval]
              simp only [go_sem, seval, u_nil, u_cons, UK_ap, ung_eq, gOk_none, gOk_some, List.getElem?_toArray, List.getElem?_cons_zero, List.getElem?_cons_succ, true_and, and_true]
              refine fcall_box (ihy) (by simp [Aw.ids]) (by simp [find]) (by simp [closedT, killT, killAs, killA, outQ, Aw.ids]) (by simp [killAs, killA, outQ, Aw.ids]) (by simp [Aw.ids]) ?_; simp only [Aw.ids, List.map_cons, List.map_nil, List.filter_cons, List.filter_nil, List.contains_cons, List.contains_nil, Bool.or_false, Bool.or_true, Bool.not_true, Bool.not_false, Nat.reduceBEq, Bool.false_eq_true, if_true, if_false, List.cons_append, List.nil_append]; simp only [go_sem, seval]
              simp only [go_sem, seval, u_nil, u_cons, UK_ap, ung_eq, gOk_none, gOk_some, List.getElem?_toArray, List.getElem?_cons_zero, List.getElem?_cons_succ, true_and, and_true]
              (repeat refine And.intro (by first | omega | (intro hq; first | omega | (simp at hq <;> omega) | (simp_all <;> omega))) ?_)
              refine hK _ ?_; clear hK K
              (repeat refine ats_seq ?_); refine ats_yes rfl trivial ?_
              (repeat refine ats_seq ?_); refine ats_go (by first | exact fix0 hcx | exact fix1 hcx rfl | exact fixN hcx rfl) fun K hK => ?_; simp only [go_sem, seval]; (repeat refine And.intro (by first | omega | (intro hq; first | omega | (simp at hq <;> omega) | (simp_all <;> omega))) ?_); refine hK _ ?_; clear hK K
              refine ats_ret ⟨⟨[(0, .bptr 5 0), (1, .bptr 4 0), (2, .bptr 1 0), (3, .bptr 2 0), (4, .bptr 6 0), (5, .bool true)], [(1, .bx [.l3 a]), (2, .bx [.l3 b]), (3, .t1 q), (4, .bx [.int n]), (5, .bx [.ref 3 []]), (6, .bx [.fn 23 [.bptr 5 0, .bptr 4 0, .bptr 1 0, .bptr 2 0, .bptr 6 0]])]⟩, ghost_trans (ghost_drop []) (ghost_can [] (by simp only [killL, killA, killAs, qOf, rmT, killH, killT, List.filter_cons, List.filter_nil, List.contains_cons, List.contains_nil, Bool.or_false, Bool.or_true, Bool.false_and, Bool.not_true, Bool.not_false, Bool.false_eq_true, if_true, if_false, rnLs, rnL, rn, rns, sw, SlotsLe, St.get, slotGet, List.map_cons, List.map_nil, seval, AV.int.injEq, AV.bool.injEq, AV.l1.injEq, AV.l2.injEq, AV.l3.injEq, true_and, and_true]) (by simp only [killL, killA, killAs, qOf, rmT, killH, killT, List.filter_cons, List.filter_nil, List.contains_cons, List.contains_nil, Bool.or_false, Bool.or_true, Bool.false_and, Bool.not_true, Bool.not_false, Bool.false_eq_true, if_true, if_false, sortH, insH, rnHs, rnH, rnT, rn, rns, sw, List.map_cons, List.map_nil, seval])), .inr rfl, (by first | rfl | exact ⟨trivial, rfl⟩), (by simp [St.get, slotGet, argSlots]), rfl⟩
          · have hok : ¬ OkA k a b p y := fun h => c (okA_iff.1 h).2
            rw [if_neg (by rw [bd_false hok]; decide)] at hEy1
            rw [bd_false c] at hpa
            (repeat refine ats_seq ?_); refine ats_go (by first | exact fix0 hcx | exact fix1 hcx rfl | exact fixN hcx rfl) fun K hK => ?_; simp only [go_sem, seval]
            first | refine fcall_free rfl rfl (hpa) ?_ | refine YR_intro (acall_free rfl rfl (hpa)) ?_
            simp only [go_sem, seval]
            refine YR_intro (v := .bool false) (by first | trivial | (intro h; cases h)) ?_
            simp only [go_sem, seval]
            (repeat refine And.intro (by first | omega | (intro hq; first | omega | (simp at hq <;> omega) | (simp_all <;> omega))) ?_)
            refine hK _ ?_; clear hK K
            (repeat refine ats_seq ?_); refine ats_no rfl trivial ?_
            refine ats_skip ?_
            (repeat refine ats_seq ?_); refine ats_go (by first | exact fix0 hcx | exact fix1 hcx rfl | exact fixN hcx rfl) fun K hK => ?_; simp only [go_sem, seval]
            simp only [tk]
            (repeat refine And.intro (by first | omega | (intro hq; first | omega | (simp at hq <;> omega) | (simp_all <;> omega))) ?_)
            refine hK _ ?_; clear hK K
            refine AT.ghost (ghost_cutB Try.prog 5 3 (lo := 0) (hi := p.length) (t := .t1 (p ++ [(y : Int)])) (t' := .t1 p) rfl rfl ct rfl (by decide)) ?_; simp only [killL, killA, killAs, qOf, rmT, killH, killT, putT, List.map_cons, List.map_nil, List.filter_cons, List.filter_nil, List.contains_cons, List.contains_nil, Bool.or_false, Bool.or_true, Bool.false_and, Bool.not_true, Bool.not_false, Bool.false_eq_true, if_true, if_false, seval]
            (repeat refine ats_seq ?_); refine ats_go (by first | exact fix0 hcx | exact fix1 hcx rfl | exact fixN hcx rfl) fun K hK => ?_; simp only [go_sem, seval]; (repeat refine And.intro (by first | omega | (intro hq; first | omega | (simp at hq <;> omega) | (simp_all <;> omega))) ?_); refine hK _ ?_; clear hK K
            refine ⟨y + 1,  ⟨by omega, hEy1⟩, by omega, .inl ⟨by simp only [SlotsLe, St.get, slotGet, Nat.reduceEqDiff, ↓reduceIte, AV.int.injEq, AV.bool.injEq, AV.l1.injEq, AV.l2.injEq, AV.l3.injEq, true_and, and_true]; (try omega),  rfl⟩⟩
      · obtain rfl : y = n := by omega
        rw [hEy]
        simp only [List.head?_nil, Option.getD_none, Option.isSome_none]
        refine ats_exit (lq_x ?_)
        (repeat refine ats_seq ?_); refine ats_go (by first | exact fix0 hcx | exact fix1 hcx rfl | exact fixN hcx rfl) fun K hK => ?_; simp only [go_sem, seval]; (repeat refine And.intro (by first | omega | (intro hq; first | omega | (simp at hq <;> omega) | (simp_all <;> omega))) ?_); refine hK _ ?_; clear hK K
        refine ats_ret ⟨⟨[(0, .bptr 5 0), (1, .bptr 4 0), (2, .bptr 1 0), (3, .bptr 2 0), (4, .bptr 6 0), (5, .bool false)], [(1, .bx [.l3 a]), (2, .bx [.l3 b]), (3, .t1 p), (4, .bx [.int y]), (5, .bx [.ref 3 []]), (6, .bx [.fn 23 [.bptr 5 0, .bptr 4 0, .bptr 1 0, .bptr 2 0, .bptr 6 0]])]⟩, ghost_trans (ghost_drop []) (ghost_can [] (by simp only [killL, killA, killAs, qOf, rmT, killH, killT, List.filter_cons, List.filter_nil, List.contains_cons, List.contains_nil, Bool.or_false, Bool.or_true, Bool.false_and, Bool.not_true, Bool.not_false, Bool.false_eq_true, if_true, if_false, rnLs, rnL, rn, rns, sw, SlotsLe, St.get, slotGet, List.map_cons, List.map_nil, seval, AV.int.injEq, AV.bool.injEq, AV.l1.injEq, AV.l2.injEq, AV.l3.injEq, true_and, and_true]) (by simp only [killL, killA, killAs, qOf, rmT, killH, killT, List.filter_cons, List.filter_nil, List.contains_cons, List.contains_nil, Bool.or_false, Bool.or_true, Bool.false_and, Bool.not_true, Bool.not_false, Bool.false_eq_true, if_true, if_false, sortH, insH, rnHs, rnH, rnT, rn, rns, sw, List.map_cons, List.map_nil, seval])), .inr rfl, (by first | rfl | exact ⟨trivial, rfl⟩), (by simp [St.get, slotGet, argSlots]), rfl⟩
end Go.Proofs.Ytbddekioaigbhaa
