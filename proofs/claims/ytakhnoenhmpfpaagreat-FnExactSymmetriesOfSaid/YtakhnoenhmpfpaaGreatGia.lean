import Derived.Test.YtakhnoenhmpfpaaGreatPl4
import Derived.Test.YtakhnoenhmpfpaaGreatGh
set_option linter.unusedSimpArgs false
set_option linter.unusedVariables false
namespace Go.Proofs.YtakhnoenhmpfpaaGreat
open Go Go.Aw Go.Pl
def argS (st : Option (List (List Int))) : AV := match st with
  | none => .nil
  | some _ => .ref 9 []
def TS (st : Option (List (List Int))) : List (Nat × Tree) := match st with
  | none => []
  | some L => [(9, .t2 L)]
def fitB (s s' : List (List Int)) (p : List Int) (y i : Nat) : Bool := (List.range i).all fun k => decide ((s.getD k []).getD p.length 0 = (s'.getD (p.getD k 0).toNat []).getD y 0)
theorem fitB_succ {s s' : List (List Int)} {p : List Int} {y i : Nat} : fitB s s' p y (i + 1) = (fitB s s' p y i && decide ((s.getD i []).getD p.length 0 = (s'.getD (p.getD i 0).toNat []).getD y 0)) := by
  unfold fitB
  rw [List.range_succ, List.all_append]
  simp
theorem fitB_iff {s s' : List (List Int)} {p : List Int} {y i : Nat} : fitB s s' p y i = true ↔ ∀ k, k < i → (s.getD k []).getD p.length 0 = (s'.getD (p.getD k 0).toNat []).getD y 0 := by
  unfold fitB
  rw [List.all_eq_true]
  exact ⟨fun h k hk => of_decide_eq_true (h k (List.mem_range.2 hk)), fun h k hk => decide_eq_true (h k (List.mem_range.1 hk))⟩
section
variable (n : Nat) (s : List (List Int)) (t : List Int) (s' : List (List Int)) (t' : List Int)
noncomputable def seekO (most : Nat) : Nat → List Int → List Int → List Int → Option (List (List Int)) → Option (List (List Int))
  | 0, p, _, _, st => some (st.getD [] ++ [p])
  | d + 1, p, c, m, st => (List.range n).foldl (fun st (y : Nat) => if (st.getD []).length < most ∧ bd (OkX s t s' t' p y) = true ∧ c.getD p.length 0 = m.getD y 0 then (match refF n s t s' t' (2 * n + 2) 0 (c.set p.length 60) (m.set y 60) with
    | none => st
    | some (l, r) => seekO most d (p ++ [(y : Int)]) l r st) else st) st
end
section
variable {n : Nat} {s : List (List Int)} {t : List Int} {s' : List (List Int)} {t' : List Int}
theorem seekO_eq {most : Nat} : ∀ d p c m st, (seekO n s t s' t' most d p c m st).getD [] = seekX n s t s' t' most d p c m (st.getD [])
  | 0, p, c, m, st => rfl
  | d + 1, p, c, m, st => by
    have key : ∀ (l : List Nat) (st : Option (List (List Int))), (l.foldl (fun st (y : Nat) => if (st.getD []).length < most ∧ bd (OkX s t s' t' p y) = true ∧ c.getD p.length 0 = m.getD y 0 then (match refF n s t s' t' (2 * n + 2) 0 (c.set p.length 60) (m.set y 60) with
        | none => st
        | some (l, r) => seekO n s t s' t' most d (p ++ [(y : Int)]) l r st) else st) st).getD [] =
        l.foldl (fun out (y : Nat) => if out.length < most ∧ bd (OkX s t s' t' p y) = true ∧ c.getD p.length 0 = m.getD y 0 then (match refF n s t s' t' (2 * n + 2) 0 (c.set p.length 60) (m.set y 60) with
        | none => out
        | some (l, r) => seekX n s t s' t' most d (p ++ [(y : Int)]) l r out) else out) (st.getD []) := by
      intro l
      induction l with
      | nil => exact fun st => rfl
      | cons y l ih =>
        intro st
        rw [List.foldl_cons, List.foldl_cons, ih]
        congr 1
        split
        · split
          · rfl
          · exact seekO_eq d _ _ _ _
        · rfl
    exact key _ st
end
theorem seekO_some {n : Nat} {s : List (List Int)} {t : List Int} {s' : List (List Int)} {t' : List Int} {most : Nat} : ∀ d p c m L, ∃ L', seekO n s t s' t' most d p c m (some L) = some L'
  | 0, p, c, m, L => ⟨_, rfl⟩
  | d + 1, p, c, m, L => by
    rw [seekO]
    have key : ∀ (l : List Nat) (L : List (List Int)), ∃ L', (l.foldl (fun st (y : Nat) => if (st.getD []).length < most ∧ bd (OkX s t s' t' p y) = true ∧ c.getD p.length 0 = m.getD y 0 then (match refF n s t s' t' (2 * n + 2) 0 (c.set p.length 60) (m.set y 60) with
        | none => st
        | some (l, r) => seekO n s t s' t' most d (p ++ [(y : Int)]) l r st) else st) (some L)) = some L' := by
      intro l
      induction l with
      | nil => exact fun L => ⟨L, rfl⟩
      | cons y l ih =>
        intro L
        rw [List.foldl_cons]
        split
        · split
          · exact ih L
          · rename_i a b _
            obtain ⟨L', h⟩ := seekO_some (n := n) (s := s) (t := t) (s' := s') (t' := t') (most := most) d (p ++ [(y : Int)]) a b L
            rw [h]
            exact ih L'
        · exact ih L
    exact key _ L
theorem seekO_len {n : Nat} {s : List (List Int)} {t : List Int} {s' : List (List Int)} {t' : List Int} {most : Nat} : ∀ d p c m (out : List (List Int)), out.length ≤ most → (d = 0 → out.length < most) → (seekX n s t s' t' most d p c m out).length ≤ most
  | 0, p, c, m, out, _, h => by
    have := h rfl
    rw [seekX, List.length_append]
    simp
    omega
  | d + 1, p, c, m, out, h, _ => by
    rw [seekX]
    have key : ∀ (l : List Nat) (out : List (List Int)), out.length ≤ most → (l.foldl (fun out (y : Nat) => if out.length < most ∧ bd (OkX s t s' t' p y) = true ∧ c.getD p.length 0 = m.getD y 0 then (match refF n s t s' t' (2 * n + 2) 0 (c.set p.length 60) (m.set y 60) with
        | none => out
        | some (l, r) => seekX n s t s' t' most d (p ++ [(y : Int)]) l r out) else out) out).length ≤ most := by
      intro l
      induction l with
      | nil => exact fun out h => h
      | cons y l ih =>
        intro out ho
        rw [List.foldl_cons]
        refine ih _ ?_
        split
        · rename_i hc
          split
          · exact ho
          · exact seekO_len d _ _ _ _ ho (fun _ => hc.1)
        · exact ho
    exact key _ out h
def SeekOk (n : Nat) (s : List (List Int)) (t : List Int) (s' : List (List Int)) (t' : List Int) (most d : Nat) : Prop := ∀ p c m st, p.length + d = n → QOk n p → ColOk n c → ColOk n m → (st.getD []).length ≤ most → (d = 0 → (st.getD []).length < most) →
    OwnCall Tryz.prog 27 [.agg [.l2 s, .l1 t], .agg [.l2 s', .l1 t'], .l1 p, .l1 c, .l1 m, .int most, argS st] (TS st) (TS (seekO n s t s' t' most d p c m st)) (argS (seekO n s t s' t' most d p c m st)) []
set_option maxHeartbeats 16000000 in
theorem seek_base (n : Nat) (s : List (List Int)) (t : List Int) (s' : List (List Int)) (t' : List Int) (hs : Shape s t) (hs' : Shape s' t') (hn : t.length = n) (hn' : t'.length = n) (most : Nat) (hmo : most ≤ 5000) : SeekOk n s t s' t' most 0 := by
  intro p c m st hd hq hc hm hl hl0
  have h16 : n ≤ 16 := by rw [← hn]; exact hs.2.1
  have hl1 := hl0 rfl
  have hw := l01Own_ok p (by omega)
  rw [seekO]
  rcases st with _ | L
  · simp only [TS, argS, Option.getD_none, List.nil_append]
    refine OwnCall.introR (n := 159) (rs := [.tmp 14]) 6 [2, 3, 4, 5] (X := []) Tryz.call27 Tryz.func27 rfl rfl rfl (by simp only [List.length_cons, List.length_nil]; omega) (by simp [Aw.ids, rootsA, rootsAs, argSlots, slotGet]) (fun cx hcx hrd => AT.weakG (ats_of ?_)); simp only [argSlots, Nat.zero_add, Nat.reduceAdd]
    (repeat refine ats_seq ?_); refine ats_go (by first | exact fix0 hcx | exact fix1 hcx rfl | exact fixN hcx rfl) fun K hK => ?_; simp only [go_sem, seval]; (repeat refine And.intro (by first | omega | (intro hq; first | omega | (simp at hq <;> omega) | (simp_all <;> omega))) ?_); refine hK _ ?_; clear hK K
    (repeat refine ats_seq ?_); refine ats_go (by first | exact fix0 hcx | exact fix1 hcx rfl | exact fixN hcx rfl) fun K hK => ?_; simp only [go_sem, seval]; (repeat refine And.intro (by first | omega | (intro hq; first | omega | (simp at hq <;> omega) | (simp_all <;> omega))) ?_); refine hK _ ?_; clear hK K
    (repeat refine ats_seq ?_); refine ats_go (by first | exact fix0 hcx | exact fix1 hcx rfl | exact fixN hcx rfl) fun K hK => ?_; simp only [go_sem, seval]; (repeat refine And.intro (by first | omega | (intro hq; first | omega | (simp at hq <;> omega) | (simp_all <;> omega))) ?_); refine hK _ ?_; clear hK K
    (repeat refine ats_seq ?_); first | refine ats_ifn (p := _) rfl trivial (fun h1 => ?_) (fun h1 => ?_) | refine ats_ifp (p := _) rfl trivial (fun h1 => ?_) (fun h1 => ?_) | refine ats_cond rfl trivial (fun h1 => ?_) (fun h1 => ?_)
    · (repeat refine ats_seq ?_); refine ats_go (by first | exact fix0 hcx | exact fix1 hcx rfl | exact fixN hcx rfl) fun K hK => ?_; simp only [go_sem, seval]
      refine fcall_own rfl (hw) rfl ?_; simp only [go_sem, seval]
      (repeat refine And.intro (by first | omega | (intro hq; first | omega | (simp at hq <;> omega) | (simp_all <;> omega))) ?_)
      refine hK _ ?_; clear hK K
      refine ats_ret ⟨⟨[(2, .l1 p), (3, .l1 c), (4, .l1 m), (5, .int most), (14, .ref 9 [])], [(9, .t2 [p])]⟩, ghost_trans (ghost_drop [0, 1, 3]) (ghost_can [(4, 9)] (by simp only [killL, killA, killAs, qOf, rmT, killH, killT, List.filter_cons, List.filter_nil, List.contains_cons, List.contains_nil, Bool.or_false, Bool.or_true, Bool.false_and, Bool.not_true, Bool.not_false, Bool.false_eq_true, if_true, if_false, rnLs, rnL, rn, rns, sw, SlotsLe, St.get, slotGet, List.map_cons, List.map_nil, seval, AV.int.injEq, AV.bool.injEq, AV.l1.injEq, AV.l2.injEq, AV.l3.injEq, true_and, and_true]) (by simp only [killL, killA, killAs, qOf, rmT, killH, killT, List.filter_cons, List.filter_nil, List.contains_cons, List.contains_nil, Bool.or_false, Bool.or_true, Bool.false_and, Bool.not_true, Bool.not_false, Bool.false_eq_true, if_true, if_false, sortH, insH, rnHs, rnH, rnT, rn, rns, sw, List.map_cons, List.map_nil, seval])), .inr rfl, (by first | rfl | exact ⟨trivial, rfl⟩), (by simp [St.get, slotGet, argSlots]), rfl⟩
    · omega
  · simp only [TS, argS, Option.getD_some]
    rw [Option.getD_some] at hl1
    refine OwnCall.introR (n := 159) (rs := [.tmp 14]) 6 [2, 3, 4, 5] (X := []) Tryz.call27 Tryz.func27 rfl rfl rfl (by simp only [List.length_cons, List.length_nil]; omega) (by simp [Aw.ids, rootsA, rootsAs, argSlots, slotGet]) (fun cx hcx hrd => AT.weakG (ats_of ?_)); simp only [argSlots, Nat.zero_add, Nat.reduceAdd]
    (repeat refine ats_seq ?_); refine ats_go (by first | exact fix0 hcx | exact fix1 hcx rfl | exact fixN hcx rfl) fun K hK => ?_; simp only [go_sem, seval]; (repeat refine And.intro (by first | omega | (intro hq; first | omega | (simp at hq <;> omega) | (simp_all <;> omega))) ?_); refine hK _ ?_; clear hK K
    (repeat refine ats_seq ?_); refine ats_go (by first | exact fix0 hcx | exact fix1 hcx rfl | exact fixN hcx rfl) fun K hK => ?_; simp only [go_sem, seval]; (repeat refine And.intro (by first | omega | (intro hq; first | omega | (simp at hq <;> omega) | (simp_all <;> omega))) ?_); refine hK _ ?_; clear hK K
    (repeat refine ats_seq ?_); refine ats_go (by first | exact fix0 hcx | exact fix1 hcx rfl | exact fixN hcx rfl) fun K hK => ?_; simp only [go_sem, seval]; (repeat refine And.intro (by first | omega | (intro hq; first | omega | (simp at hq <;> omega) | (simp_all <;> omega))) ?_); refine hK _ ?_; clear hK K
    (repeat refine ats_seq ?_); first | refine ats_ifn (p := _) rfl trivial (fun h1 => ?_) (fun h1 => ?_) | refine ats_ifp (p := _) rfl trivial (fun h1 => ?_) (fun h1 => ?_) | refine ats_cond rfl trivial (fun h1 => ?_) (fun h1 => ?_)
    · (repeat refine ats_seq ?_); refine ats_go (by first | exact fix0 hcx | exact fix1 hcx rfl | exact fixN hcx rfl) fun K hK => ?_; simp only [go_sem, seval]
      refine fcall_own rfl (hw) rfl ?_; simp only [go_sem, seval]
      (repeat refine And.intro (by first | omega | (intro hq; first | omega | (simp at hq <;> omega) | (simp_all <;> omega))) ?_)
      refine hK _ ?_; clear hK K
      refine ats_ret ⟨⟨[(2, .l1 p), (3, .l1 c), (4, .l1 m), (5, .int most), (14, .ref 9 [])], [(9, .t2 (L ++ [p]))]⟩, ghost_trans (ghost_drop [10, 11]) (ghost_can [] (by simp only [killL, killA, killAs, qOf, rmT, killH, killT, List.filter_cons, List.filter_nil, List.contains_cons, List.contains_nil, Bool.or_false, Bool.or_true, Bool.false_and, Bool.not_true, Bool.not_false, Bool.false_eq_true, if_true, if_false, rnLs, rnL, rn, rns, sw, SlotsLe, St.get, slotGet, List.map_cons, List.map_nil, seval, AV.int.injEq, AV.bool.injEq, AV.l1.injEq, AV.l2.injEq, AV.l3.injEq, true_and, and_true]) (by simp only [killL, killA, killAs, qOf, rmT, killH, killT, List.filter_cons, List.filter_nil, List.contains_cons, List.contains_nil, Bool.or_false, Bool.or_true, Bool.false_and, Bool.not_true, Bool.not_false, Bool.false_eq_true, if_true, if_false, sortH, insH, rnHs, rnH, rnT, rn, rns, sw, List.map_cons, List.map_nil, seval])), .inr rfl, (by first | rfl | exact ⟨trivial, rfl⟩), (by simp [St.get, slotGet, argSlots]), rfl⟩
    · omega
end Go.Proofs.YtakhnoenhmpfpaaGreat
