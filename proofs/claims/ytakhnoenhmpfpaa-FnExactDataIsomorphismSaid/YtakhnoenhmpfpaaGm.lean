import Derived.Test.YtakhnoenhmpfpaaPl4
import Derived.Test.YtakhnoenhmpfpaaLib7
import Derived.Test.YtakhnoenhmpfpaaDr
import Derived.Test.YtakhnoenhmpfpaaDh
import Derived.Test.YtakhnoenhmpfpaaDj
set_option linter.unusedSimpArgs false
set_option linter.unusedVariables false
namespace Go.Proofs.Ytakhnoenhmpfpaa
open Go Go.Aw Go.Pl
def agB2 (s s' : List (List Int)) (p : List Int) (y k : Nat) : Bool := (List.range k).all fun j => decide ((s.getD p.length []).getD j 0 = (s'.getD y []).getD ((p ++ [(y : Int)]).getD j 0).toNat 0)
theorem agB2_succ {s s' : List (List Int)} {p : List Int} {y k : Nat} : agB2 s s' p y (k + 1) = (agB2 s s' p y k && decide ((s.getD p.length []).getD k 0 = (s'.getD y []).getD ((p ++ [(y : Int)]).getD k 0).toNat 0)) := by
  unfold agB2
  rw [List.range_succ, List.all_append]
  simp
theorem agB2_iff {s s' : List (List Int)} {p : List Int} {y k : Nat} : agB2 s s' p y k = true ↔ ∀ j, j < k → e2 s p.length j = e2 s' y ((p ++ [(y : Int)]).getD j 0).toNat := by
  unfold agB2
  rw [List.all_eq_true]
  exact ⟨fun h j hj => of_decide_eq_true (h j (List.mem_range.2 hj)), fun h j hj => decide_eq_true (h j (List.mem_range.1 hj))⟩
noncomputable def fstI (n : Nat) (s : List (List Int)) (t : List Int) (s' : List (List Int)) (t' : List Int) (d : Nat) (p : List Int) : Option (List Int) := (extI n s t s' t' d p).head?
def TD (n : Nat) (s : List (List Int)) (t : List Int) (s' : List (List Int)) (t' : List Int) (p : List Int) : List (Nat × Tree) := [(0, .bx [.l2 s, .l1 t]), (1, .bx [.l2 s', .l1 t']), (2, .t1 p), (3, .bx [.int n]), (4, .bx [.ref 2 []]), (5, .bx [.fn 20 [.bptr 4 0, .bptr 3 0, .bptr 0 0, .bptr 1 0, .bptr 5 0]])]
set_option maxHeartbeats 8000000 in
theorem ext_ok (n : Nat) (s : List (List Int)) (t : List Int) (s' : List (List Int)) (t' : List Int) (hs : Shape s t) (hs' : Shape s' t') (hn : t.length = n) (hn' : t'.length = n) : ∀ d p, p.length + d = n → QOk n p →
    OwnCall Try.prog 20 [.bptr 4 0, .bptr 3 0, .bptr 0 0, .bptr 1 0, .bptr 5 0] (TD n s t s' t' p) (TD n s t s' t' ((fstI n s t s' t' d p).getD p)) (.bool (fstI n s t s' t' d p).isSome) [0, 1, 3, 4, 5]
  | 0, p, hd, hq => by
    have h16 : n ≤ 16 := by rw [← hn]; exact hs.2.1
    show OwnCall _ _ _ _ (TD n s t s' t' p) (.bool true) _
    simp only [TD]
    refine OwnCall.introR (n := 84) (rs := [.tmp 5]) 5 [0, 1, 2, 3, 4] (X := [0, 1, 3, 4, 5]) Try.call20 Try.func20 rfl rfl rfl (by simp only [List.length_cons, List.length_nil]; omega) (by simp [Aw.ids, rootsA, rootsAs, argSlots, slotGet]) (fun cx hcx hrd => AT.weakG (ats_of ?_)); simp only [argSlots, Nat.zero_add, Nat.reduceAdd]
    (repeat refine ats_seq ?_); refine ats_go (by first | exact fix0 hcx | exact fix1 hcx rfl | exact fixN hcx rfl) fun K hK => ?_; simp only [go_sem, seval]; (repeat refine And.intro (by first | omega | (intro hq; first | omega | (simp at hq <;> omega) | (simp_all <;> omega))) ?_); refine hK _ ?_; clear hK K
    (repeat refine ats_seq ?_); refine ats_go (by first | exact fix0 hcx | exact fix1 hcx rfl | exact fixN hcx rfl) fun K hK => ?_; simp only [go_sem, seval]; (repeat refine And.intro (by first | omega | (intro hq; first | omega | (simp at hq <;> omega) | (simp_all <;> omega))) ?_); refine hK _ ?_; clear hK K
    (repeat refine ats_seq ?_); refine ats_go (by first | exact fix0 hcx | exact fix1 hcx rfl | exact fixN hcx rfl) fun K hK => ?_; simp only [go_sem, seval]; (repeat refine And.intro (by first | omega | (intro hq; first | omega | (simp at hq <;> omega) | (simp_all <;> omega))) ?_); refine hK _ ?_; clear hK K
    (repeat refine ats_seq ?_); first | refine ats_ifn (p := _) rfl trivial (fun h1 => ?_) (fun h1 => ?_) | refine ats_ifp (p := _) rfl trivial (fun h1 => ?_) (fun h1 => ?_) | refine ats_cond rfl trivial (fun h1 => ?_) (fun h1 => ?_)
    · (repeat refine ats_seq ?_); refine ats_go (by first | exact fix0 hcx | exact fix1 hcx rfl | exact fixN hcx rfl) fun K hK => ?_; simp only [go_sem, seval]; (repeat refine And.intro (by first | omega | (intro hq; first | omega | (simp at hq <;> omega) | (simp_all <;> omega))) ?_); refine hK _ ?_; clear hK K
      refine ats_ret ⟨⟨[(0, .bptr 4 0), (1, .bptr 3 0), (2, .bptr 0 0), (3, .bptr 1 0), (4, .bptr 5 0), (5, .bool true)], [(0, .bx [.l2 s, .l1 t]), (1, .bx [.l2 s', .l1 t']), (2, .t1 p), (3, .bx [.int n]), (4, .bx [.ref 2 []]), (5, .bx [.fn 20 [.bptr 4 0, .bptr 3 0, .bptr 0 0, .bptr 1 0, .bptr 5 0]])]⟩, ghost_trans (ghost_drop []) (ghost_can [] (by simp only [killL, killA, killAs, qOf, rmT, killH, killT, List.filter_cons, List.filter_nil, List.contains_cons, List.contains_nil, Bool.or_false, Bool.or_true, Bool.false_and, Bool.not_true, Bool.not_false, Bool.false_eq_true, if_true, if_false, rnLs, rnL, rn, rns, sw, SlotsLe, St.get, slotGet, List.map_cons, List.map_nil, seval, AV.int.injEq, AV.bool.injEq, AV.l1.injEq, AV.l2.injEq, AV.l3.injEq, true_and, and_true]) (by simp only [killL, killA, killAs, qOf, rmT, killH, killT, List.filter_cons, List.filter_nil, List.contains_cons, List.contains_nil, Bool.or_false, Bool.or_true, Bool.false_and, Bool.not_true, Bool.not_false, Bool.false_eq_true, if_true, if_false, sortH, insH, rnHs, rnH, rnT, rn, rns, sw, List.map_cons, List.map_nil, seval])), .inr rfl, (by first | rfl | exact ⟨trivial, rfl⟩), (by simp [St.get, slotGet, argSlots]), rfl⟩
    · omega
  | d + 1, p, hd, hq => by
    have h16 : n ≤ 16 := by rw [← hn]; exact hs.2.1
    have hM := hs.2.2.1
    have hM' := hs'.2.2.1
    rw [hn] at hM
    rw [hn'] at hM'
    have lS := hM.1
    have lS' := hM'.1
    -- what is found among the first ones
    obtain ⟨E, hE⟩ : ∃ E : Nat → List (List Int), E = fun x => (List.range x).flatMap fun (y : Nat) => if bd (OkI s t s' t' p y) = true then extI n s t s' t' d (p ++ [(y : Int)]) else [] := ⟨_, rfl⟩
    have hEs : ∀ y, E (y + 1) = E y ++ (if bd (OkI s t s' t' p y) = true then extI n s t s' t' d (p ++ [(y : Int)]) else []) := fun y => by
      rw [hE]
      simp only [List.range_succ, List.flatMap_append, List.flatMap_cons, List.flatMap_nil, List.append_nil]
    have hEe : fstI n s t s' t' (d + 1) p = (E n).head? := by rw [hE]; rfl
    have hhd : ∀ y, y < n → E y = [] → ∀ q, fstI n s t s' t' d (p ++ [(y : Int)]) = some q → bd (OkI s t s' t' p y) = true → (E n).head? = some q := fun y hy he q hf hb => by
      have h2 : (E (y + 1)).head? = some q := by rw [hEs, he, if_pos hb, List.nil_append]; exact hf
      obtain ⟨k, rfl⟩ : ∃ k, n = y + 1 + k := ⟨n - (y + 1), by omega⟩
      clear hf hb
      have : ∀ k, (E (y + 1 + k)).head? = some q := fun k => by
        induction k with
        | zero => exact h2
        | succ k ih => rw [← Nat.add_assoc, hEs, List.head?_append, ih]; rfl
      exact this k
    have hih : ∀ y, y < n → OwnCall Try.prog 20 [.bptr 4 0, .bptr 3 0, .bptr 0 0, .bptr 1 0, .bptr 5 0] (TD n s t s' t' (p ++ [(y : Int)])) (TD n s t s' t' ((fstI n s t s' t' d (p ++ [(y : Int)])).getD (p ++ [(y : Int)]))) (.bool (fstI n s t s' t' d (p ++ [(y : Int)])).isSome) [0, 1, 3, 4, 5] := fun y hy =>
      ext_ok n s t s' t' hs hs' hn hn' d (p ++ [(y : Int)]) (by simp; omega) (hq.app (QOk.one hy))
    rw [hEe]
    simp only [TD]
    refine OwnCall.introR (n := 84) (rs := [.tmp 5]) 5 [0, 1, 2, 3, 4] (X := [0, 1, 3, 4, 5]) Try.call20 Try.func20 rfl rfl rfl (by simp only [List.length_cons, List.length_nil]; omega) (by simp [Aw.ids, rootsA, rootsAs, argSlots, slotGet]) (fun cx hcx hrd => AT.weakG (ats_of ?_)); simp only [argSlots, Nat.zero_add, Nat.reduceAdd]
    (repeat refine ats_seq ?_); refine ats_go (by first | exact fix0 hcx | exact fix1 hcx rfl | exact fixN hcx rfl) fun K hK => ?_; simp only [go_sem, seval]; (repeat refine And.intro (by first | omega | (intro hq; first | omega | (simp at hq <;> omega) | (simp_all <;> omega))) ?_); refine hK _ ?_; clear hK K
    (repeat refine ats_seq ?_); refine ats_go (by first | exact fix0 hcx | exact fix1 hcx rfl | exact fixN hcx rfl) fun K hK => ?_; simp only [go_sem, seval]; (repeat refine And.intro (by first | omega | (intro hq; first | omega | (simp at hq <;> omega) | (simp_all <;> omega))) ?_); refine hK _ ?_; clear hK K
    (repeat refine ats_seq ?_); refine ats_go (by first | exact fix0 hcx | exact fix1 hcx rfl | exact fixN hcx rfl) fun K hK => ?_; simp only [go_sem, seval]; (repeat refine And.intro (by first | omega | (intro hq; first | omega | (simp at hq <;> omega) | (simp_all <;> omega))) ?_); refine hK _ ?_; clear hK K
    (repeat refine ats_seq ?_); first | refine ats_ifn (p := _) rfl trivial (fun h1 => ?_) (fun h1 => ?_) | refine ats_ifp (p := _) rfl trivial (fun h1 => ?_) (fun h1 => ?_) | refine ats_cond rfl trivial (fun h1 => ?_) (fun h1 => ?_)
    · omega
    · refine ats_skip ?_
      (repeat refine ats_seq ?_); refine ats_go (by first | exact fix0 hcx | exact fix1 hcx rfl | exact fixN hcx rfl) fun K hK => ?_; simp only [go_sem, seval]; (repeat refine And.intro (by first | omega | (intro hq; first | omega | (simp at hq <;> omega) | (simp_all <;> omega))) ?_); refine hK _ ?_; clear hK K
      (repeat refine ats_seq ?_); refine ats_loop (fun y : Nat => ⟨[(0, .bptr 4 0), (1, .bptr 3 0), (2, .bptr 0 0), (3, .bptr 1 0), (4, .bptr 5 0), (6, .int p.length), (16, .int n), (17, .int y)], [(0, .bx [.l2 s, .l1 t]), (1, .bx [.l2 s', .l1 t']), (2, .t1 p), (3, .bx [.int n]), (4, .bx [.ref 2 []]), (5, .bx [.fn 20 [.bptr 4 0, .bptr 3 0, .bptr 0 0, .bptr 1 0, .bptr 5 0]])]⟩) (fun y => y ≤ n ∧ E y = []) (fun y => n - y) 0 ⟨Nat.zero_le _, by rw [hE]; rfl⟩ (by
        refine And.intro ?_ rfl; simp only [SlotsLe, St.get, slotGet, Nat.reduceEqDiff, ↓reduceIte, AV.int.injEq, AV.bool.injEq, AV.l1.injEq, AV.l2.injEq, AV.l3.injEq, true_and, and_true]
        try rfl) (fun y hy => ?_)
      obtain ⟨hy, hEy⟩ := hy
      have hEy1 := hEs y
      rw [hEy, List.nil_append] at hEy1
      (repeat refine ats_seq ?_); refine ats_go (by first | exact fix0 hcx | exact fix1 hcx rfl | exact fixN hcx rfl) fun K hK => ?_; simp only [go_sem, seval]; (repeat refine And.intro (by first | omega | (intro hq; first | omega | (simp at hq <;> omega) | (simp_all <;> omega))) ?_); refine hK _ ?_; clear hK K
      (repeat refine ats_seq ?_); first | refine ats_ifn (p := _) rfl trivial (fun h2 => ?_) (fun h2 => ?_) | refine ats_ifp (p := _) rfl trivial (fun h2 => ?_) (fun h2 => ?_) | refine ats_cond rfl trivial (fun h2 => ?_) (fun h2 => ?_)
      · have hcn := sContains_ok p y
        have ihy := hih y (by omega)
        have hhy := hhd y (by omega) hEy
        refine ats_skip ?_
        (repeat refine ats_seq ?_); refine ats_block ?_
        (repeat refine ats_seq ?_); refine ats_go (by first | exact fix0 hcx | exact fix1 hcx rfl | exact fixN hcx rfl) fun K hK => ?_; simp only [go_sem, seval]; (repeat refine And.intro (by first | omega | (intro hq; first | omega | (simp at hq <;> omega) | (simp_all <;> omega))) ?_); refine hK _ ?_; clear hK K
        (repeat refine ats_seq ?_); refine ats_pick (by first | exact fix0 hcx | exact fixN hcx rfl) mixed (by kernel_rfl) fun K hK => ?_; simp only [go_sem, seval]
        try simp only [hn, hn']
        (repeat refine And.intro (by first | omega | (intro hq; first | omega | (simp at hq <;> omega) | (simp_all <;> omega))) ?_)
        first | refine fcall_free rfl rfl (hcn) ?_ | refine YR_intro (acall_free rfl rfl (hcn)) ?_
        simp only [go_sem, seval]
        try simp only [hn, hn']
        (repeat refine And.intro (by first | omega | (intro hq; first | omega | (simp at hq <;> omega) | (simp_all <;> omega))) ?_)
        refine hK _ ?_; clear hK K
        (repeat refine ats_seq ?_); first | refine ats_ifn (p := _) rfl trivial (fun h3 => ?_) (fun h3 => ?_) | refine ats_ifp (p := _) rfl trivial (fun h3 => ?_) (fun h3 => ?_) | refine ats_cond rfl trivial (fun h3 => ?_) (fun h3 => ?_)
        · have hno : ¬ bd (OkI s t s' t' p y) = true := fun h => by
            have ho := bd_iff.1 h
            have hz := ho.z
            have hno2 := ho.no
            unfold hasI at hno2
            rw [hno2] at h3
            have ht := ho.t
            have e2 : decide ((p.length : Int) = 0) = decide ((y : Int) = 0) := decide_eq_decide.2 (by omega)
            have e3 : decide (t.getD p.length 0 = t'.getD y 0) = true := decide_eq_true ht
            rw [e2, e3] at h3
            simp at h3
          rw [if_neg hno] at hEy1
          refine ats_exit (bq_x ?_)
          (repeat refine ats_seq ?_); refine ats_go (by first | exact fix0 hcx | exact fix1 hcx rfl | exact fixN hcx rfl) fun K hK => ?_; simp only [go_sem, seval]; (repeat refine And.intro (by first | omega | (intro hq; first | omega | (simp at hq <;> omega) | (simp_all <;> omega))) ?_); refine hK _ ?_; clear hK K
          refine ⟨y + 1,  ⟨by omega, hEy1⟩, by omega, .inl ⟨by simp only [SlotsLe, St.get, slotGet, Nat.reduceEqDiff, ↓reduceIte, AV.int.injEq, AV.bool.injEq, AV.l1.injEq, AV.l2.injEq, AV.l3.injEq, true_and, and_true]; (try omega),  rfl⟩⟩
        · simp only [Bool.or_eq_false_iff] at h3
          obtain ⟨⟨a2, a3⟩, a4⟩ := h3
          have a5 : p.length = 0 ↔ y = 0 := by
            have e : decide ((p.length : Int) = 0) = decide ((y : Int) = 0) := by
              rw [Bool.not_eq_false'] at a3
              simpa using a3
            have := decide_eq_decide.1 e
            omega
          have a6 : t.getD p.length 0 = t'.getD y 0 := by
            rw [Bool.not_eq_false'] at a4
            exact of_decide_eq_true a4
          have lx : (p ++ [(y : Int)]).length = p.length + 1 := by simp
          have lrs := hM.row (show p.length < n by omega)
          have lrs' := hM'.row (show y < n by omega)
          have ct : cutTree 0 p.length (.t1 (p ++ [(y : Int)])) = some (.t1 p) := by simp [cutTree]
          refine ats_skip ?_
          (repeat refine ats_seq ?_); refine ats_go (by first | exact fix0 hcx | exact fix1 hcx rfl | exact fixN hcx rfl) fun K hK => ?_; simp only [go_sem, seval]; (repeat refine And.intro (by first | omega | (intro hq; first | omega | (simp at hq <;> omega) | (simp_all <;> omega))) ?_); refine hK _ ?_; clear hK K
          refine AT.ghost (ghost_drop [6]) ?_; simp only [killL, killA, killAs, qOf, rmT, killH, killT, List.map_cons, List.map_nil, List.filter_cons, List.filter_nil, List.contains_cons, List.contains_nil, Bool.or_false, Bool.or_true, Bool.false_and, Bool.not_true, Bool.not_false, Bool.false_eq_true, if_true, if_false, seval]
          (repeat refine ats_seq ?_); refine ats_go (by first | exact fix0 hcx | exact fix1 hcx rfl | exact fixN hcx rfl) fun K hK => ?_; simp only [go_sem, seval]; (repeat refine And.intro (by first | omega | (intro hq; first | omega | (simp at hq <;> omega) | (simp_all <;> omega))) ?_); refine hK _ ?_; clear hK K
          (repeat refine ats_seq ?_); refine ats_go (by first | exact fix0 hcx | exact fix1 hcx rfl | exact fixN hcx rfl) fun K hK => ?_; simp only [go_sem, seval]; (repeat refine And.intro (by first | omega | (intro hq; first | omega | (simp at hq <;> omega) | (simp_all <;> omega))) ?_); refine hK _ ?_; clear hK K
          (repeat refine ats_seq ?_); refine ats_loop (fun k : Nat => ⟨[(0, .bptr 4 0), (1, .bptr 3 0), (2, .bptr 0 0), (3, .bptr 1 0), (4, .bptr 5 0), (6, .int p.length), (7, .int y), (8, .bool (agB2 s s' p y k)), (16, .int n), (17, .int y), (47, .ref 2 []), (48, .int (p.length + 1 : Nat)), (49, .int k)], [(0, .bx [.l2 s, .l1 t]), (1, .bx [.l2 s', .l1 t']), (2, .t1 (p ++ [(y : Int)])), (3, .bx [.int n]), (4, .bx [.ref 2 []]), (5, .bx [.fn 20 [.bptr 4 0, .bptr 3 0, .bptr 0 0, .bptr 1 0, .bptr 5 0]])]⟩) (fun k => k ≤ p.length + 1) (fun k => p.length + 1 - k) 0 (Nat.zero_le _) (by
            refine And.intro ?_ rfl; simp only [SlotsLe, St.get, slotGet, Nat.reduceEqDiff, ↓reduceIte, AV.int.injEq, AV.bool.injEq, AV.l1.injEq, AV.l2.injEq, AV.l3.injEq, true_and, and_true]
            first | done | exact ⟨rfl, by omega, rfl⟩ | exact ⟨rfl, by omega⟩ | trace_state) (fun k hk => ?_)
          (repeat refine ats_seq ?_); refine ats_go (by first | exact fix0 hcx | exact fix1 hcx rfl | exact fixN hcx rfl) fun K hK => ?_; simp only [go_sem, seval]; (repeat refine And.intro (by first | omega | (intro hq; first | omega | (simp at hq <;> omega) | (simp_all <;> omega))) ?_); refine hK _ ?_; clear hK K
          (repeat refine ats_seq ?_); first | refine ats_ifn (p := _) rfl trivial (fun h4 => ?_) (fun h4 => ?_) | refine ats_ifp (p := _) rfl trivial (fun h4 => ?_) (fun h4 => ?_) | refine ats_cond rfl trivial (fun h4 => ?_) (fun h4 => ?_)
          · have hqk := (hq.app (QOk.one (show y < n by omega))) k (by rw [lx]; omega)
            have hag := agB2_succ (s := s) (s' := s') (p := p) (y := y) (k := k)
            refine ats_skip ?_
            (repeat refine ats_seq ?_); refine ats_block ?_
            (repeat refine ats_seq ?_); refine ats_go (by first | exact fix0 hcx | exact fix1 hcx rfl | exact fixN hcx rfl) fun K hK => ?_; simp only [go_sem, seval]; (repeat refine And.intro (by first | omega | (intro hq; first | omega | (simp at hq <;> omega) | (simp_all <;> omega))) ?_); refine hK _ ?_; clear hK K
            (repeat refine ats_seq ?_); refine ats_pick (by first | exact fix0 hcx | exact fixN hcx rfl) mixed (by kernel_rfl) fun K hK => ?_; simp only [go_sem, seval]
            try simp only [hn, hn']
            (repeat refine And.intro (by first | omega | (intro hq; first | omega | (simp at hq <;> omega) | (simp_all <;> omega))) ?_)
            refine hK _ ?_; clear hK K
            (repeat refine ats_seq ?_); refine ats_go (by first | exact fix0 hcx | exact fix1 hcx rfl | exact fixN hcx rfl) fun K hK => ?_; simp only [go_sem, seval]; (repeat refine And.intro (by first | omega | (intro hq; first | omega | (simp at hq <;> omega) | (simp_all <;> omega))) ?_); refine hK _ ?_; clear hK K
            refine ⟨k + 1,  by omega, by omega, .inl ⟨by simp only [SlotsLe, St.get, slotGet, Nat.reduceEqDiff, ↓reduceIte, AV.int.injEq, AV.bool.injEq, AV.l1.injEq, AV.l2.injEq, AV.l3.injEq, true_and, and_true]; exact ⟨by rw [hag], by omega⟩,  rfl⟩⟩
          · obtain rfl : k = p.length + 1 := by omega
            refine ats_exit (lq_x ?_)
            cases hb : agB2 s s' p y (p.length + 1) with
            | false =>
              have hno : ¬ bd (OkI s t s' t' p y) = true := fun h => by
                have ho := bd_iff.1 h
                have h6 : agB2 s s' p y (p.length + 1) = true := agB2_iff.2 fun j hj => ho.s j (by omega)
                rw [hb] at h6
                cases h6
              rw [if_neg hno] at hEy1
              (repeat refine ats_seq ?_); refine ats_go (by first | exact fix0 hcx | exact fix1 hcx rfl | exact fixN hcx rfl) fun K hK => ?_; simp only [go_sem, seval]
              refine YR_intro (v := .bool false) (by first | trivial | (intro h; cases h)) ?_
              simp only [go_sem, seval]
              (repeat refine And.intro (by first | omega | (intro hq; first | omega | (simp at hq <;> omega) | (simp_all <;> omega))) ?_)
              refine hK _ ?_; clear hK K
              (repeat refine ats_seq ?_); refine ats_no rfl trivial ?_
              refine ats_skip ?_
              (repeat refine ats_seq ?_); refine ats_go (by first | exact fix0 hcx | exact fix1 hcx rfl | exact fixN hcx rfl) fun K hK => ?_; simp only [go_sem, seval]
              try simp only [Int.toNat_natCast]
              (repeat refine And.intro (by first | omega | (intro hq; first | omega | (simp at hq <;> omega) | (simp_all <;> omega))) ?_)
              refine hK _ ?_; clear hK K
              refine AT.ghost (ghost_cutB Try.prog 4 2 (lo := 0) (hi := p.length) (t := .t1 (p ++ [(y : Int)])) (t' := .t1 p) rfl rfl ct rfl (by decide)) ?_; simp only [killL, killA, killAs, qOf, rmT, killH, killT, putT, List.map_cons, List.map_nil, List.filter_cons, List.filter_nil, List.contains_cons, List.contains_nil, Bool.or_false, Bool.or_true, Bool.false_and, Bool.not_true, Bool.not_false, Bool.false_eq_true, if_true, if_false, seval]
              (repeat refine ats_seq ?_); refine ats_go (by first | exact fix0 hcx | exact fix1 hcx rfl | exact fixN hcx rfl) fun K hK => ?_; simp only [go_sem, seval]; (repeat refine And.intro (by first | omega | (intro hq; first | omega | (simp at hq <;> omega) | (simp_all <;> omega))) ?_); refine hK _ ?_; clear hK K
              refine ⟨y + 1,  ⟨by omega, hEy1⟩, by omega, .inl ⟨by simp only [SlotsLe, St.get, slotGet, Nat.reduceEqDiff, ↓reduceIte, AV.int.injEq, AV.bool.injEq, AV.l1.injEq, AV.l2.injEq, AV.l3.injEq, true_and, and_true]; (try omega),  rfl⟩⟩
            | true =>
              have hok : OkI s t s' t' p y := ⟨by unfold hasI; exact a2, a5, a6, fun j hj => agB2_iff.1 hb j (by omega)⟩
              rw [if_pos (bd_true hok)] at hEy1
              simp only [TD] at ihy
              cases hf : fstI n s t s' t' d (p ++ [(y : Int)]) with
              | none =>
                have he : extI n s t s' t' d (p ++ [(y : Int)]) = [] := by
                  unfold fstI at hf
                  exact List.head?_eq_none_iff.1 hf
                rw [he] at hEy1
                rw [hf] at ihy
                simp only [Option.getD_none, Option.isSome_none] at ihy
                (repeat refine ats_seq ?_); refine ats_goU (by first | exact fix0 hcx | exact fix1 hcx rfl | exact fixN hcx rfl) fun K hK => ?_; simp only [go_sem, seval, u_nil, u_cons, UK_ap, ung_eq, gOk_none, gOk_some, List.getElem?_toArray, List.getElem?_cons_zero, List.getElem?_cons_succ, true_and, and_true]
                refine fcall_box (ihy) (by simp [Aw.ids]) (by simp [find]) (by simp [closedT, killT, killAs, killA, outQ, Aw.ids]) (by simp [killAs, killA, outQ, Aw.ids]) (by simp [Aw.ids]) ?_; simp only [Aw.ids, List.map_cons, List.map_nil, List.filter_cons, List.filter_nil, List.contains_cons, List.contains_nil, Bool.or_false, Bool.or_true, Bool.not_true, Bool.not_false, Nat.reduceBEq, Bool.false_eq_true, if_true, if_false, List.cons_append, List.nil_append]; simp only [go_sem, seval]
                simp only [go_sem, seval, u_nil, u_cons, UK_ap, ung_eq, gOk_none, gOk_some, List.getElem?_toArray, List.getElem?_cons_zero, List.getElem?_cons_succ, true_and, and_true]
                (repeat refine And.intro (by first | omega | (intro hq; first | omega | (simp at hq <;> omega) | (simp_all <;> omega))) ?_)
                refine hK _ ?_; clear hK K
                (repeat refine ats_seq ?_); refine ats_no rfl trivial ?_
                refine ats_skip ?_
                (repeat refine ats_seq ?_); refine ats_go (by first | exact fix0 hcx | exact fix1 hcx rfl | exact fixN hcx rfl) fun K hK => ?_; simp only [go_sem, seval]
                try simp only [Int.toNat_natCast]
                (repeat refine And.intro (by first | omega | (intro hq; first | omega | (simp at hq <;> omega) | (simp_all <;> omega))) ?_)
                refine hK _ ?_; clear hK K
                refine AT.ghost (ghost_cutB Try.prog 4 2 (lo := 0) (hi := p.length) (t := .t1 (p ++ [(y : Int)])) (t' := .t1 p) rfl rfl ct rfl (by decide)) ?_; simp only [killL, killA, killAs, qOf, rmT, killH, killT, putT, List.map_cons, List.map_nil, List.filter_cons, List.filter_nil, List.contains_cons, List.contains_nil, Bool.or_false, Bool.or_true, Bool.false_and, Bool.not_true, Bool.not_false, Bool.false_eq_true, if_true, if_false, seval]
                (repeat refine ats_seq ?_); refine ats_go (by first | exact fix0 hcx | exact fix1 hcx rfl | exact fixN hcx rfl) fun K hK => ?_; simp only [go_sem, seval]; (repeat refine And.intro (by first | omega | (intro hq; first | omega | (simp at hq <;> omega) | (simp_all <;> omega))) ?_); refine hK _ ?_; clear hK K
                refine ⟨y + 1,  ⟨by omega, hEy1⟩, by omega, .inl ⟨by simp only [SlotsLe, St.get, slotGet, Nat.reduceEqDiff, ↓reduceIte, AV.int.injEq, AV.bool.injEq, AV.l1.injEq, AV.l2.injEq, AV.l3.injEq, true_and, and_true]; (try omega),  rfl⟩⟩
              | some q =>
                rw [hf] at ihy
                simp only [Option.getD_some, Option.isSome_some] at ihy
                rw [hhy q hf (bd_true hok)]
                simp only [Option.getD_some, Option.isSome_some]
                (repeat refine ats_seq ?_); refine ats_goU (by first | exact fix0 hcx | exact fix1 hcx rfl | exact fixN hcx rfl) fun K hK => ?_; simp only [go_sem, seval, u_nil, u_cons, UK_ap, ung_eq, gOk_none, gOk_some, List.getElem?_toArray, List.getElem?_cons_zero, List.getElem?_cons_succ, true_and, and_true]
                refine fcall_box (ihy) (by simp [Aw.ids]) (by simp [find]) (by simp [closedT, killT, killAs, killA, outQ, Aw.ids]) (by simp [killAs, killA, outQ, Aw.ids]) (by simp [Aw.ids]) ?_; simp only [Aw.ids, List.map_cons, List.map_nil, List.filter_cons, List.filter_nil, List.contains_cons, List.contains_nil, Bool.or_false, Bool.or_true, Bool.not_true, Bool.not_false, Nat.reduceBEq, Bool.false_eq_true, if_true, if_false, List.cons_append, List.nil_append]; simp only [go_sem, seval]
                simp only [go_sem, seval, u_nil, u_cons, UK_ap, ung_eq, gOk_none, gOk_some, List.getElem?_toArray, List.getElem?_cons_zero, List.getElem?_cons_succ, true_and, and_true]
                (repeat refine And.intro (by first | omega | (intro hq; first | omega | (simp at hq <;> omega) | (simp_all <;> omega))) ?_)
                refine hK _ ?_; clear hK K
                (repeat refine ats_seq ?_); refine ats_yes rfl trivial ?_
                (repeat refine ats_seq ?_); refine ats_go (by first | exact fix0 hcx | exact fix1 hcx rfl | exact fixN hcx rfl) fun K hK => ?_; simp only [go_sem, seval]; (repeat refine And.intro (by first | omega | (intro hq; first | omega | (simp at hq <;> omega) | (simp_all <;> omega))) ?_); refine hK _ ?_; clear hK K
                refine ats_ret ⟨⟨[(0, .bptr 4 0), (1, .bptr 3 0), (2, .bptr 0 0), (3, .bptr 1 0), (4, .bptr 5 0), (5, .bool true)], [(0, .bx [.l2 s, .l1 t]), (1, .bx [.l2 s', .l1 t']), (2, .t1 q), (3, .bx [.int n]), (4, .bx [.ref 2 []]), (5, .bx [.fn 20 [.bptr 4 0, .bptr 3 0, .bptr 0 0, .bptr 1 0, .bptr 5 0]])]⟩, ghost_trans (ghost_drop []) (ghost_can [] (by simp only [killL, killA, killAs, qOf, rmT, killH, killT, List.filter_cons, List.filter_nil, List.contains_cons, List.contains_nil, Bool.or_false, Bool.or_true, Bool.false_and, Bool.not_true, Bool.not_false, Bool.false_eq_true, if_true, if_false, rnLs, rnL, rn, rns, sw, SlotsLe, St.get, slotGet, List.map_cons, List.map_nil, seval, AV.int.injEq, AV.bool.injEq, AV.l1.injEq, AV.l2.injEq, AV.l3.injEq, true_and, and_true]) (by simp only [killL, killA, killAs, qOf, rmT, killH, killT, List.filter_cons, List.filter_nil, List.contains_cons, List.contains_nil, Bool.or_false, Bool.or_true, Bool.false_and, Bool.not_true, Bool.not_false, Bool.false_eq_true, if_true, if_false, sortH, insH, rnHs, rnH, rnT, rn, rns, sw, List.map_cons, List.map_nil, seval])), .inr rfl, (by first | rfl | exact ⟨trivial, rfl⟩), (by simp [St.get, slotGet, argSlots]), rfl⟩
      · obtain rfl : y = n := by omega
        rw [hEy]
        simp only [List.head?_nil, Option.getD_none, Option.isSome_none]
        refine ats_exit (lq_x ?_)
        (repeat refine ats_seq ?_); refine ats_go (by first | exact fix0 hcx | exact fix1 hcx rfl | exact fixN hcx rfl) fun K hK => ?_; simp only [go_sem, seval]; (repeat refine And.intro (by first | omega | (intro hq; first | omega | (simp at hq <;> omega) | (simp_all <;> omega))) ?_); refine hK _ ?_; clear hK K
        refine ats_ret ⟨⟨[(0, .bptr 4 0), (1, .bptr 3 0), (2, .bptr 0 0), (3, .bptr 1 0), (4, .bptr 5 0), (5, .bool false)], [(0, .bx [.l2 s, .l1 t]), (1, .bx [.l2 s', .l1 t']), (2, .t1 p), (3, .bx [.int y]), (4, .bx [.ref 2 []]), (5, .bx [.fn 20 [.bptr 4 0, .bptr 3 0, .bptr 0 0, .bptr 1 0, .bptr 5 0]])]⟩, ghost_trans (ghost_drop []) (ghost_can [] (by simp only [killL, killA, killAs, qOf, rmT, killH, killT, List.filter_cons, List.filter_nil, List.contains_cons, List.contains_nil, Bool.or_false, Bool.or_true, Bool.false_and, Bool.not_true, Bool.not_false, Bool.false_eq_true, if_true, if_false, rnLs, rnL, rn, rns, sw, SlotsLe, St.get, slotGet, List.map_cons, List.map_nil, seval, AV.int.injEq, AV.bool.injEq, AV.l1.injEq, AV.l2.injEq, AV.l3.injEq, true_and, and_true]) (by simp only [killL, killA, killAs, qOf, rmT, killH, killT, List.filter_cons, List.filter_nil, List.contains_cons, List.contains_nil, Bool.or_false, Bool.or_true, Bool.false_and, Bool.not_true, Bool.not_false, Bool.false_eq_true, if_true, if_false, sortH, insH, rnHs, rnH, rnT, rn, rns, sw, List.map_cons, List.map_nil, seval])), .inr rfl, (by first | rfl | exact ⟨trivial, rfl⟩), (by simp [St.get, slotGet, argSlots]), rfl⟩
end Go.Proofs.Ytakhnoenhmpfpaa
