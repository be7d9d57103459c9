import Derived.Test.YtakhnoenhmpfpaaGreatPl4
import Derived.Test.YtakhnoenhmpfpaaGreatLib7
import Derived.Test.YtakhnoenhmpfpaaGreatDr
import Derived.Test.YtakhnoenhmpfpaaGreatDh
import Derived.Test.YtakhnoenhmpfpaaGreatDj
set_option linter.unusedSimpArgs false
set_option linter.unusedVariables false
namespace Go.Proofs.YtakhnoenhmpfpaaGreat
open Go Go.Aw Go.Pl
attribute [local go_sem] pl_fin pl_stop pl_one pl_alt PK_ap pickO List.getElem?_toArray List.getElem?_cons_zero List.getElem?_cons_succ
def TE (s : List (List Int)) (t : List Int) (p : List Int) (out : List (List Int)) : List (Nat × Tree) := [(0, .bx [.l2 s, .l1 t]), (1, .t2 out), (2, .t1 p), (3, .bx [.ref 1 []]), (4, .bx [.ref 2 []]), (5, .bx [.fn 30 [.bptr 4 0, .bptr 0 0, .bptr 3 0, .bptr 5 0]])]
theorem symX_len {n : Nat} {s : List (List Int)} {t : List Int} : ∀ d p (out : List (List Int)), out.length ≤ 1001 → (d = 0 → out.length ≤ 1000) → (symX n s t d p out).length ≤ 1001
  | 0, p, out, _, h => by
    have := h rfl
    rw [symX, List.length_append]
    simp
    omega
  | d + 1, p, out, h, _ => by
    rw [symX]
    have key : ∀ (l : List Nat) (out : List (List Int)), out.length ≤ 1001 → (l.foldl (fun out (y : Nat) => if out.length ≤ 1000 ∧ bd (OkI s t s t p y) = true then symX n s t d (p ++ [(y : Int)]) out else out) out).length ≤ 1001 := by
      intro l
      induction l with
      | nil => exact fun out h => h
      | cons y l ih =>
        intro out ho
        rw [List.foldl_cons]
        refine ih _ ?_
        split
        · rename_i hc
          exact symX_len d _ _ ho (fun _ => hc.1)
        · exact ho
    exact key _ out h
def agB (s s' : List (List Int)) (p : List Int) (y k : Nat) : Bool := (List.range k).all fun j => decide ((s.getD p.length []).getD j 0 = (s'.getD y []).getD ((p ++ [(y : Int)]).getD j 0).toNat 0)
theorem agB_succ {s s' : List (List Int)} {p : List Int} {y k : Nat} : agB s s' p y (k + 1) = (agB s s' p y k && decide ((s.getD p.length []).getD k 0 = (s'.getD y []).getD ((p ++ [(y : Int)]).getD k 0).toNat 0)) := by
  unfold agB
  rw [List.range_succ, List.all_append]
  simp
theorem agB_iff {s s' : List (List Int)} {p : List Int} {y k : Nat} : agB s s' p y k = true ↔ ∀ j, j < k → e2 s p.length j = e2 s' y ((p ++ [(y : Int)]).getD j 0).toNat := by
  unfold agB
  rw [List.all_eq_true]
  exact ⟨fun h j hj => of_decide_eq_true (h j (List.mem_range.2 hj)), fun h j hj => decide_eq_true (h j (List.mem_range.1 hj))⟩
set_option maxHeartbeats 8000000 in
theorem sym_ok (n : Nat) (s : List (List Int)) (t : List Int) (hs : Shape s t) (hn : t.length = n) : ∀ d p out, p.length + d = n → QOk n p → out.length ≤ 1001 → (d = 0 → out.length ≤ 1000) →
    OwnCall Tryz.prog 30 [.bptr 4 0, .bptr 0 0, .bptr 3 0, .bptr 5 0] (TE s t p out) (TE s t p (symX n s t d p out)) (.tup []) [0, 3, 4, 5]
  | 0, p, out, hd, hq, ho, h0 => by
    have h16 : n ≤ 16 := by rw [← hn]; exact hs.2.1
    have h1n : 1 ≤ n := by rw [← hn]; exact hs.1
    have hcl := clone_ok p (by omega) (by omega)
    rw [symX]
    simp only [TE]
    refine OwnCall.introR (n := 94) (rs := []) 4 [0, 1, 2, 3] (X := [0, 3, 4, 5]) Tryz.call30 Tryz.func30 rfl rfl rfl (by simp only [List.length_cons, List.length_nil]; omega) (by simp [Aw.ids, rootsA, rootsAs, argSlots, slotGet]) (fun cx hcx hrd => AT.weakG (ats_of ?_)); simp only [argSlots, Nat.zero_add, Nat.reduceAdd]
    (repeat refine ats_seq ?_); refine ats_go (by first | exact fix0 hcx | exact fix1 hcx rfl | exact fixN hcx rfl) fun K hK => ?_; simp only [go_sem, seval]; (repeat refine And.intro (by first | omega | (intro hq; first | omega | (simp at hq <;> omega) | (simp_all <;> omega))) ?_); refine hK _ ?_; clear hK K
    (repeat refine ats_seq ?_); refine ats_go (by first | exact fix0 hcx | exact fix1 hcx rfl | exact fixN hcx rfl) fun K hK => ?_; simp only [go_sem, seval]
    simp only [hn]
    (repeat refine And.intro (by first | omega | (intro hq; first | omega | (simp at hq <;> omega) | (simp_all <;> omega))) ?_)
    refine hK _ ?_; clear hK K
    (repeat refine ats_seq ?_); first | refine ats_ifn (p := _) rfl trivial (fun h1 => ?_) (fun h1 => ?_) | refine ats_ifp (p := _) rfl trivial (fun h1 => ?_) (fun h1 => ?_) | refine ats_cond rfl trivial (fun h1 => ?_) (fun h1 => ?_)
    · have hol := h0 rfl
      (repeat refine ats_seq ?_)
      refine ats_plan [2] (.one 1 (.alt 0 (.alt 2 (.alt 3 (.alt 4 (.alt 5 .fin .stop) .stop) .stop) .stop) (.alt 2 (.alt 0 (.alt 3 (.alt 4 (.alt 5 .fin .stop) .stop) .stop) (.alt 3 (.one 0 (.alt 4 (.alt 5 .fin .stop) .stop)) .stop)) .stop))) ⟨[(0, .bptr 4 0), (1, .bptr 0 0), (2, .bptr 3 0), (3, .bptr 5 0)], [(0, .bx [.l2 s, .l1 t]), (1, .t2 (out ++ [p])), (2, .t1 p), (3, .bx [.ref 1 []]), (4, .bx [.ref 2 []]), (5, .bx [.fn 30 [.bptr 4 0, .bptr 0 0, .bptr 3 0, .bptr 5 0]])]⟩ (by first | exact fix0 hcx | exact fixN hcx rfl) mixed (by kernel_rfl) (fun K hK => ?_) ?_
      · simp only [go_sem, seval, Option.getD_some, and_true, true_and, and_self, List.contains_cons, List.contains_nil, Bool.or_false, Bool.or_true]
        repeat' (first | exact hK _ (by refine And.intro ?_ rfl; simp only [SlotsLe, St.get, slotGet, Nat.reduceEqDiff, ↓reduceIte, AV.int.injEq, AV.bool.injEq, AV.l1.injEq, AV.l2.injEq, AV.l3.injEq, true_and, and_true])  | omega | refine And.intro ?_ ?_ | (refine fcall_own rfl (hcl) rfl ?_; simp only [go_sem, seval, Option.getD_some, and_true, true_and, and_self, List.contains_cons, List.contains_nil, Bool.or_false, Bool.or_true]))
      refine ats_ret ⟨⟨[(0, .bptr 4 0), (1, .bptr 0 0), (2, .bptr 3 0), (3, .bptr 5 0)], [(0, .bx [.l2 s, .l1 t]), (1, .t2 (out ++ [p])), (2, .t1 p), (3, .bx [.ref 1 []]), (4, .bx [.ref 2 []]), (5, .bx [.fn 30 [.bptr 4 0, .bptr 0 0, .bptr 3 0, .bptr 5 0]])]⟩, ghost_trans (ghost_drop []) (ghost_can [] (by simp only [killL, killA, killAs, qOf, rmT, killH, killT, List.filter_cons, List.filter_nil, List.contains_cons, List.contains_nil, Bool.or_false, Bool.or_true, Bool.false_and, Bool.not_true, Bool.not_false, Bool.false_eq_true, if_true, if_false, rnLs, rnL, rn, rns, sw, SlotsLe, St.get, slotGet, List.map_cons, List.map_nil, seval, AV.int.injEq, AV.bool.injEq, AV.l1.injEq, AV.l2.injEq, AV.l3.injEq, true_and, and_true]) (by simp only [killL, killA, killAs, qOf, rmT, killH, killT, List.filter_cons, List.filter_nil, List.contains_cons, List.contains_nil, Bool.or_false, Bool.or_true, Bool.false_and, Bool.not_true, Bool.not_false, Bool.false_eq_true, if_true, if_false, sortH, insH, rnHs, rnH, rnT, rn, rns, sw, List.map_cons, List.map_nil, seval])), .inr rfl, (by first | rfl | exact ⟨trivial, rfl⟩), (by simp [St.get, slotGet, argSlots]), rfl⟩
    · omega
  | d + 1, p, out, hd, hq, ho, h0 => by
    have h16 : n ≤ 16 := by rw [← hn]; exact hs.2.1
    have hM := hs.2.2.1
    rw [hn] at hM
    have lS := hM.1
    obtain ⟨S, hS⟩ : ∃ S : Nat → List (List Int), S = fun x => (List.range x).foldl (fun out (y : Nat) => if out.length ≤ 1000 ∧ bd (OkI s t s t p y) = true then symX n s t d (p ++ [(y : Int)]) out else out) out := ⟨_, rfl⟩
    have hS0 : S 0 = out := by rw [hS]; rfl
    have hSs : ∀ y, S (y + 1) = if (S y).length ≤ 1000 ∧ bd (OkI s t s t p y) = true then symX n s t d (p ++ [(y : Int)]) (S y) else S y := fun y => by
      rw [hS]
      simp only [List.range_succ, List.foldl_append, List.foldl_cons, List.foldl_nil]
    have hSe : symX n s t (d + 1) p out = S n := by rw [symX, hS]
    have hlen : ∀ y, (S y).length ≤ 1001 := fun y => by
      induction y with
      | zero => rw [hS0]; exact ho
      | succ y ih =>
        rw [hSs]
        split
        · rename_i hcc
          exact symX_len _ _ _ ih (fun _ => hcc.1)
        · exact ih
    have hih : ∀ y, y < n → (S y).length ≤ 1000 → OwnCall Tryz.prog 30 [.bptr 4 0, .bptr 0 0, .bptr 3 0, .bptr 5 0] (TE s t (p ++ [(y : Int)]) (S y)) (TE s t (p ++ [(y : Int)]) (symX n s t d (p ++ [(y : Int)]) (S y))) (.tup []) [0, 3, 4, 5] := fun y hy hl =>
      sym_ok n s t hs hn d (p ++ [(y : Int)]) (S y) (by simp; omega) (hq.app (QOk.one hy)) (by omega) (fun _ => hl)
    rw [hSe, ← hS0]
    simp only [TE]
    refine OwnCall.introR (n := 94) (rs := []) 4 [0, 1, 2, 3] (X := [0, 3, 4, 5]) Tryz.call30 Tryz.func30 rfl rfl rfl (by simp only [List.length_cons, List.length_nil]; omega) (by simp [Aw.ids, rootsA, rootsAs, argSlots, slotGet]) (fun cx hcx hrd => AT.weakG (ats_of ?_)); simp only [argSlots, Nat.zero_add, Nat.reduceAdd]
    (repeat refine ats_seq ?_); refine ats_go (by first | exact fix0 hcx | exact fix1 hcx rfl | exact fixN hcx rfl) fun K hK => ?_; simp only [go_sem, seval]; (repeat refine And.intro (by first | omega | (intro hq; first | omega | (simp at hq <;> omega) | (simp_all <;> omega))) ?_); refine hK _ ?_; clear hK K
    (repeat refine ats_seq ?_); refine ats_go (by first | exact fix0 hcx | exact fix1 hcx rfl | exact fixN hcx rfl) fun K hK => ?_; simp only [go_sem, seval]
    simp only [hn]
    (repeat refine And.intro (by first | omega | (intro hq; first | omega | (simp at hq <;> omega) | (simp_all <;> omega))) ?_)
    refine hK _ ?_; clear hK K
    (repeat refine ats_seq ?_); first | refine ats_ifn (p := _) rfl trivial (fun h1 => ?_) (fun h1 => ?_) | refine ats_ifp (p := _) rfl trivial (fun h1 => ?_) (fun h1 => ?_) | refine ats_cond rfl trivial (fun h1 => ?_) (fun h1 => ?_)
    · omega
    · refine ats_skip ?_
      (repeat refine ats_seq ?_); refine ats_go (by first | exact fix0 hcx | exact fix1 hcx rfl | exact fixN hcx rfl) fun K hK => ?_; simp only [go_sem, seval]
      simp only [hn]
      (repeat refine And.intro (by first | omega | (intro hq; first | omega | (simp at hq <;> omega) | (simp_all <;> omega))) ?_)
      refine hK _ ?_; clear hK K
      (repeat refine ats_seq ?_); refine ats_loop (fun y : Nat => ⟨[(0, .bptr 4 0), (1, .bptr 0 0), (2, .bptr 3 0), (3, .bptr 5 0), (4, .int p.length), (23, .int n), (24, .int y)], [(0, .bx [.l2 s, .l1 t]), (1, .t2 (S y)), (2, .t1 p), (3, .bx [.ref 1 []]), (4, .bx [.ref 2 []]), (5, .bx [.fn 30 [.bptr 4 0, .bptr 0 0, .bptr 3 0, .bptr 5 0]])]⟩) (fun y => y ≤ n) (fun y => n - y) 0 (Nat.zero_le _) (by
        refine And.intro ?_ rfl; simp only [SlotsLe, St.get, slotGet, Nat.reduceEqDiff, ↓reduceIte, AV.int.injEq, AV.bool.injEq, AV.l1.injEq, AV.l2.injEq, AV.l3.injEq, true_and, and_true]
        try rfl) (fun y hy => ?_)
      have hly := hlen y
      have hSy := hSs y
      have ihy := hih y
      obtain ⟨O, eO⟩ : ∃ O, S y = O := ⟨_, rfl⟩
      rw [eO] at hly hSy ihy ⊢
      (repeat refine ats_seq ?_); refine ats_go (by first | exact fix0 hcx | exact fix1 hcx rfl | exact fixN hcx rfl) fun K hK => ?_; simp only [go_sem, seval]; (repeat refine And.intro (by first | omega | (intro hq; first | omega | (simp at hq <;> omega) | (simp_all <;> omega))) ?_); refine hK _ ?_; clear hK K
      (repeat refine ats_seq ?_); first | refine ats_ifn (p := _) rfl trivial (fun h2 => ?_) (fun h2 => ?_) | refine ats_ifp (p := _) rfl trivial (fun h2 => ?_) (fun h2 => ?_) | refine ats_cond rfl trivial (fun h2 => ?_) (fun h2 => ?_)
      · have hcn := sContains_ok p y
        have ihy2 := ihy (by omega)
        refine ats_skip ?_
        (repeat refine ats_seq ?_); refine ats_block ?_
        (repeat refine ats_seq ?_); refine ats_go (by first | exact fix0 hcx | exact fix1 hcx rfl | exact fixN hcx rfl) fun K hK => ?_; simp only [go_sem, seval]; (repeat refine And.intro (by first | omega | (intro hq; first | omega | (simp at hq <;> omega) | (simp_all <;> omega))) ?_); refine hK _ ?_; clear hK K
        (repeat refine ats_seq ?_); refine ats_pick (by first | exact fix0 hcx | exact fixN hcx rfl) mixed (by kernel_rfl) fun K hK => ?_; simp only [go_sem, seval]
        try simp only [hn]
        (repeat refine And.intro (by first | omega | (intro hq; first | omega | (simp at hq <;> omega) | (simp_all <;> omega))) ?_)
        first | refine YR_intro (fun _ => acall_free rfl rfl (hcn)) ?_ | refine YR_intro (acall_free rfl rfl (hcn)) ?_
        simp only [go_sem, seval]
        try simp only [hn]
        (repeat refine And.intro (by first | omega | (intro hq; first | omega | (simp at hq <;> omega) | (simp_all <;> omega))) ?_)
        refine hK _ ?_; clear hK K
        (repeat refine ats_seq ?_); first | refine ats_ifn (p := _) rfl trivial (fun h3 => ?_) (fun h3 => ?_) | refine ats_ifp (p := _) rfl trivial (fun h3 => ?_) (fun h3 => ?_) | refine ats_cond rfl trivial (fun h3 => ?_) (fun h3 => ?_)
        · have hno : ¬ (O.length ≤ 1000 ∧ bd (OkI s t s t p y) = true) := fun h => by
            have ho := bd_iff.1 h.2
            have hz := ho.z
            have hno2 := ho.no
            unfold hasI at hno2
            rw [hno2] at h3
            have ht := ho.t
            have e1 : decide ((1000 : Int) < (O.length : Int)) = false := decide_eq_false (by have := h.1; omega)
            have e2 : decide ((p.length : Int) = 0) = decide ((y : Int) = 0) := decide_eq_decide.2 (by omega)
            have e3 : decide (t.getD p.length 0 = t.getD y 0) = true := decide_eq_true ht
            rw [e1, e2, e3] at h3
            simp at h3
          rw [if_neg hno] at hSy
          refine ats_exit (bq_x ?_)
          (repeat refine ats_seq ?_); refine ats_go (by first | exact fix0 hcx | exact fix1 hcx rfl | exact fixN hcx rfl) fun K hK => ?_; simp only [go_sem, seval]; (repeat refine And.intro (by first | omega | (intro hq; first | omega | (simp at hq <;> omega) | (simp_all <;> omega))) ?_); refine hK _ ?_; clear hK K
          refine ⟨y + 1,  by omega, by omega, .inl ⟨by simp only [SlotsLe, St.get, slotGet, Nat.reduceEqDiff, ↓reduceIte, AV.int.injEq, AV.bool.injEq, AV.l1.injEq, AV.l2.injEq, AV.l3.injEq, true_and, and_true]; (try omega),  by rw [hSy]⟩⟩
        · simp only [Bool.or_eq_false_iff] at h3
          obtain ⟨⟨⟨a1, a2⟩, a3⟩, a4⟩ := h3
          have hol : O.length ≤ 1000 := by have := of_decide_eq_false a1; omega
          have a5 : p.length = 0 ↔ y = 0 := by
            have e : decide ((p.length : Int) = 0) = decide ((y : Int) = 0) := by
              rw [Bool.not_eq_false'] at a3
              simpa using a3
            have := decide_eq_decide.1 e
            omega
          have a6 : t.getD p.length 0 = t.getD y 0 := by
            rw [Bool.not_eq_false'] at a4
            exact of_decide_eq_true a4
          have ihy3 := ihy2 hol
          have lx : (p ++ [(y : Int)]).length = p.length + 1 := by simp
          have lrs := hM.row (show p.length < n by omega)
          have lrs' := hM.row (show y < n by omega)
          have ct : cutTree 0 p.length (.t1 (p ++ [(y : Int)])) = some (.t1 p) := by simp [cutTree]
          refine ats_skip ?_
          (repeat refine ats_seq ?_); refine ats_go (by first | exact fix0 hcx | exact fix1 hcx rfl | exact fixN hcx rfl) fun K hK => ?_; simp only [go_sem, seval]; (repeat refine And.intro (by first | omega | (intro hq; first | omega | (simp at hq <;> omega) | (simp_all <;> omega))) ?_); refine hK _ ?_; clear hK K
          refine AT.ghost (ghost_drop [6]) ?_; simp only [killL, killA, killAs, qOf, rmT, killH, killT, List.map_cons, List.map_nil, List.filter_cons, List.filter_nil, List.contains_cons, List.contains_nil, Bool.or_false, Bool.or_true, Bool.false_and, Bool.not_true, Bool.not_false, Bool.false_eq_true, if_true, if_false, seval]
          (repeat refine ats_seq ?_); refine ats_go (by first | exact fix0 hcx | exact fix1 hcx rfl | exact fixN hcx rfl) fun K hK => ?_; simp only [go_sem, seval]; (repeat refine And.intro (by first | omega | (intro hq; first | omega | (simp at hq <;> omega) | (simp_all <;> omega))) ?_); refine hK _ ?_; clear hK K
          (repeat refine ats_seq ?_); refine ats_go (by first | exact fix0 hcx | exact fix1 hcx rfl | exact fixN hcx rfl) fun K hK => ?_; simp only [go_sem, seval]; (repeat refine And.intro (by first | omega | (intro hq; first | omega | (simp at hq <;> omega) | (simp_all <;> omega))) ?_); refine hK _ ?_; clear hK K
          (repeat refine ats_seq ?_); refine ats_loop (fun k : Nat => ⟨[(0, .bptr 4 0), (1, .bptr 0 0), (2, .bptr 3 0), (3, .bptr 5 0), (4, .int p.length), (5, .int y), (6, .bool (agB s s p y k)), (23, .int n), (24, .int y), (59, .ref 2 []), (60, .int (p.length + 1 : Nat)), (61, .int k)], [(0, .bx [.l2 s, .l1 t]), (1, .t2 O), (2, .t1 (p ++ [(y : Int)])), (3, .bx [.ref 1 []]), (4, .bx [.ref 2 []]), (5, .bx [.fn 30 [.bptr 4 0, .bptr 0 0, .bptr 3 0, .bptr 5 0]])]⟩) (fun k => k ≤ p.length + 1) (fun k => p.length + 1 - k) 0 (Nat.zero_le _) (by
            refine And.intro ?_ rfl; simp only [SlotsLe, St.get, slotGet, Nat.reduceEqDiff, ↓reduceIte, AV.int.injEq, AV.bool.injEq, AV.l1.injEq, AV.l2.injEq, AV.l3.injEq, true_and, and_true]
            first | done | exact ⟨rfl, by omega, rfl⟩ | exact ⟨rfl, by omega⟩ | trace_state) (fun k hk => ?_)
          (repeat refine ats_seq ?_); refine ats_go (by first | exact fix0 hcx | exact fix1 hcx rfl | exact fixN hcx rfl) fun K hK => ?_; simp only [go_sem, seval]; (repeat refine And.intro (by first | omega | (intro hq; first | omega | (simp at hq <;> omega) | (simp_all <;> omega))) ?_); refine hK _ ?_; clear hK K
          (repeat refine ats_seq ?_); first | refine ats_ifn (p := _) rfl trivial (fun h4 => ?_) (fun h4 => ?_) | refine ats_ifp (p := _) rfl trivial (fun h4 => ?_) (fun h4 => ?_) | refine ats_cond rfl trivial (fun h4 => ?_) (fun h4 => ?_)
          · have hqk := (hq.app (QOk.one (show y < n by omega))) k (by rw [lx]; omega)
            have hag := agB_succ (s := s) (s' := s) (p := p) (y := y) (k := k)
            refine ats_skip ?_
            (repeat refine ats_seq ?_); refine ats_block ?_
            (repeat refine ats_seq ?_); refine ats_go (by first | exact fix0 hcx | exact fix1 hcx rfl | exact fixN hcx rfl) fun K hK => ?_; simp only [go_sem, seval]; (repeat refine And.intro (by first | omega | (intro hq; first | omega | (simp at hq <;> omega) | (simp_all <;> omega))) ?_); refine hK _ ?_; clear hK K
            (repeat refine ats_seq ?_); refine ats_pick (by first | exact fix0 hcx | exact fixN hcx rfl) mixed (by kernel_rfl) fun K hK => ?_; simp only [go_sem, seval]
            try simp only [hn]
            (repeat refine And.intro (by first | omega | (intro hq; first | omega | (simp at hq <;> omega) | (simp_all <;> omega))) ?_)
            refine hK _ ?_; clear hK K
            (repeat refine ats_seq ?_); refine ats_go (by first | exact fix0 hcx | exact fix1 hcx rfl | exact fixN hcx rfl) fun K hK => ?_; simp only [go_sem, seval]; (repeat refine And.intro (by first | omega | (intro hq; first | omega | (simp at hq <;> omega) | (simp_all <;> omega))) ?_); refine hK _ ?_; clear hK K
            refine ⟨k + 1,  by omega, by omega, .inl ⟨by simp only [SlotsLe, St.get, slotGet, Nat.reduceEqDiff, ↓reduceIte, AV.int.injEq, AV.bool.injEq, AV.l1.injEq, AV.l2.injEq, AV.l3.injEq, true_and, and_true]; exact ⟨by rw [hag], by omega⟩,  rfl⟩⟩
          · obtain rfl : k = p.length + 1 := by omega
            refine ats_exit (lq_x ?_)
            (repeat refine ats_seq ?_); refine ats_go (by first | exact fix0 hcx | exact fix1 hcx rfl | exact fixN hcx rfl) fun K hK => ?_; simp only [go_sem, seval]; (repeat refine And.intro (by first | omega | (intro hq; first | omega | (simp at hq <;> omega) | (simp_all <;> omega))) ?_); refine hK _ ?_; clear hK K
            (repeat refine ats_seq ?_); first | refine ats_ifn (p := _) rfl trivial (fun h5 => ?_) (fun h5 => ?_) | refine ats_ifp (p := _) rfl trivial (fun h5 => ?_) (fun h5 => ?_) | refine ats_cond rfl trivial (fun h5 => ?_) (fun h5 => ?_)
            · have hok : OkI s t s t p y := ⟨by unfold hasI; exact a2, a5, a6, fun j hj => agB_iff.1 h5 j (by omega)⟩
              rw [if_pos ⟨hol, bd_true hok⟩] at hSy
              obtain ⟨O', eO'⟩ : ∃ O', symX n s t d (p ++ [(y : Int)]) O = O' := ⟨_, rfl⟩
              rw [eO'] at hSy ihy3
              simp only [TE] at ihy3
              (repeat refine ats_seq ?_); refine ats_go (by first | exact fix0 hcx | exact fix1 hcx rfl | exact fixN hcx rfl) fun K hK => ?_; simp only [go_sem, seval]
              refine fcall_box (ihy3) (by simp [Aw.ids]) (by simp [find]) (by simp [closedT, killT, killAs, killA, outQ, Aw.ids]) (by simp [killAs, killA, outQ, Aw.ids]) (by simp [Aw.ids]) ?_; simp only [Aw.ids, List.map_cons, List.map_nil, List.filter_cons, List.filter_nil, List.contains_cons, List.contains_nil, Bool.or_false, Bool.or_true, Bool.not_true, Bool.not_false, Nat.reduceBEq, Bool.false_eq_true, if_true, if_false, List.cons_append, List.nil_append]; simp only [go_sem, seval]
              (repeat refine And.intro (by first | omega | (intro hq; first | omega | (simp at hq <;> omega) | (simp_all <;> omega))) ?_)
              refine hK _ ?_; clear hK K
              (repeat refine ats_seq ?_); refine ats_go (by first | exact fix0 hcx | exact fix1 hcx rfl | exact fixN hcx rfl) fun K hK => ?_; simp only [go_sem, seval]
              try simp only [Int.toNat_natCast]
              (repeat refine And.intro (by first | omega | (intro hq; first | omega | (simp at hq <;> omega) | (simp_all <;> omega))) ?_)
              refine hK _ ?_; clear hK K
              refine AT.ghost (ghost_cutB Tryz.prog 4 2 (lo := 0) (hi := p.length) (t := .t1 (p ++ [(y : Int)])) (t' := .t1 p) rfl rfl ct rfl (by decide)) ?_; simp only [killL, killA, killAs, qOf, rmT, killH, killT, putT, List.map_cons, List.map_nil, List.filter_cons, List.filter_nil, List.contains_cons, List.contains_nil, Bool.or_false, Bool.or_true, Bool.false_and, Bool.not_true, Bool.not_false, Bool.false_eq_true, if_true, if_false, seval]
              (repeat refine ats_seq ?_); refine ats_go (by first | exact fix0 hcx | exact fix1 hcx rfl | exact fixN hcx rfl) fun K hK => ?_; simp only [go_sem, seval]; (repeat refine And.intro (by first | omega | (intro hq; first | omega | (simp at hq <;> omega) | (simp_all <;> omega))) ?_); refine hK _ ?_; clear hK K
              refine ⟨y + 1,  by omega, by omega, .inl ⟨by simp only [SlotsLe, St.get, slotGet, Nat.reduceEqDiff, ↓reduceIte, AV.int.injEq, AV.bool.injEq, AV.l1.injEq, AV.l2.injEq, AV.l3.injEq, true_and, and_true]; (try omega),  by rw [hSy]⟩⟩
            · have hno : ¬ (O.length ≤ 1000 ∧ bd (OkI s t s t p y) = true) := fun h => by
                have ho := bd_iff.1 h.2
                have h6 : agB s s p y (p.length + 1) = true := agB_iff.2 fun j hj => ho.s j (by omega)
                rw [h6] at h5
                simp at h5
              rw [if_neg hno] at hSy
              refine ats_skip ?_
              (repeat refine ats_seq ?_); refine ats_go (by first | exact fix0 hcx | exact fix1 hcx rfl | exact fixN hcx rfl) fun K hK => ?_; simp only [go_sem, seval]
              try simp only [Int.toNat_natCast]
              (repeat refine And.intro (by first | omega | (intro hq; first | omega | (simp at hq <;> omega) | (simp_all <;> omega))) ?_)
              refine hK _ ?_; clear hK K
              refine AT.ghost (ghost_cutB Tryz.prog 4 2 (lo := 0) (hi := p.length) (t := .t1 (p ++ [(y : Int)])) (t' := .t1 p) rfl rfl ct rfl (by decide)) ?_; simp only [killL, killA, killAs, qOf, rmT, killH, killT, putT, List.map_cons, List.map_nil, List.filter_cons, List.filter_nil, List.contains_cons, List.contains_nil, Bool.or_false, Bool.or_true, Bool.false_and, Bool.not_true, Bool.not_false, Bool.false_eq_true, if_true, if_false, seval]
              (repeat refine ats_seq ?_); refine ats_go (by first | exact fix0 hcx | exact fix1 hcx rfl | exact fixN hcx rfl) fun K hK => ?_; simp only [go_sem, seval]; (repeat refine And.intro (by first | omega | (intro hq; first | omega | (simp at hq <;> omega) | (simp_all <;> omega))) ?_); refine hK _ ?_; clear hK K
              refine ⟨y + 1,  by omega, by omega, .inl ⟨by simp only [SlotsLe, St.get, slotGet, Nat.reduceEqDiff, ↓reduceIte, AV.int.injEq, AV.bool.injEq, AV.l1.injEq, AV.l2.injEq, AV.l3.injEq, true_and, and_true]; (try omega),  by rw [hSy]⟩⟩
      · obtain rfl : y = n := by omega
        rw [eO]
        refine ats_exit (lq_x ?_)
        refine id ⟨⟨[(0, .bptr 4 0), (1, .bptr 0 0), (2, .bptr 3 0), (3, .bptr 5 0)], [(0, .bx [.l2 s, .l1 t]), (1, .t2 O), (2, .t1 p), (3, .bx [.ref 1 []]), (4, .bx [.ref 2 []]), (5, .bx [.fn 30 [.bptr 4 0, .bptr 0 0, .bptr 3 0, .bptr 5 0]])]⟩, ghost_trans (ghost_drop []) (ghost_can [] (by simp only [killL, killA, killAs, qOf, rmT, killH, killT, List.filter_cons, List.filter_nil, List.contains_cons, List.contains_nil, Bool.or_false, Bool.or_true, Bool.false_and, Bool.not_true, Bool.not_false, Bool.false_eq_true, if_true, if_false, rnLs, rnL, rn, rns, sw, SlotsLe, St.get, slotGet, List.map_cons, List.map_nil, seval, AV.int.injEq, AV.bool.injEq, AV.l1.injEq, AV.l2.injEq, AV.l3.injEq, true_and, and_true]) (by simp only [killL, killA, killAs, qOf, rmT, killH, killT, List.filter_cons, List.filter_nil, List.contains_cons, List.contains_nil, Bool.or_false, Bool.or_true, Bool.false_and, Bool.not_true, Bool.not_false, Bool.false_eq_true, if_true, if_false, sortH, insH, rnHs, rnH, rnT, rn, rns, sw, List.map_cons, List.map_nil, seval])), .inl rfl, (by first | rfl | exact ⟨trivial, rfl⟩), (by simp [St.get, slotGet, argSlots]), rfl⟩
end Go.Proofs.YtakhnoenhmpfpaaGreat
