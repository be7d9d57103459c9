import Derived.Test.YtkkgmjclfclaoaaPlU
import Derived.Test.YtkkgmjclfclaoaaLib6
import Derived.Test.YtkkgmjclfclaoaaDh
set_option linter.unusedSimpArgs false
set_option linter.unusedVariables false
namespace Go.Proofs.Ytkkgmjclfclaoaa
open Go Go.Aw Go.Pl
def bxR (a : List (List (List Int))) (s : Option (List (List (List Int)))) : AV := match s with
  | none => .l3 a
  | some _ => .ref 7 []
def tlR (s : Option (List (List (List Int)))) : List (Nat × Tree) := match s with
  | none => []
  | some M => [(7, .t3 M)]
def TVr (a : List (List (List Int))) (p : List Int) (s : Option (List (List (List Int)))) : List (Nat × Tree) := [(0, .bx [.l3 a]), (2, .bx [bxR a s]), (4, .t1 p)] ++ tlR s
def TLr (fv : Nat) (n : Nat) (a : List (List (List Int))) (p : List Int) (s : Option (List (List (List Int)))) : List (Nat × Tree) := [(0, .bx [.l3 a]), (2, .bx [bxR a s]), (3, .bx [.int n]), (4, .t1 p), (5, .bx [.ref 4 []]),
  (6, .bx [.fn 121 [.bptr 5 0, .bptr 3 0, .cptr [.fn fv [.bptr 0 0, .bptr 2 0]] 0, .bptr 6 0]])] ++ tlR s
set_option maxHeartbeats 8000000 in
theorem extendR_ok (fv : Nat) (n : Nat) (h16 : n ≤ 16) (a : List (List (List Int))) (vis : List Int → Option (List (List (List Int))) → Option (List (List (List Int))))
    (G : Option (List (List (List Int))) → Prop) (hG : ∀ p s, p.length = n → QOk n p → p.Nodup → G s → G (vis p s))
    (hv : ∀ p s, p.length = n → QOk n p → p.Nodup → G s → OwnCall Try.prog fv [.ref 4 [], .bptr 0 0, .bptr 2 0] (TVr a p s) (TVr a p (vis p s)) (.tup []) [0, 2, 4]) :
    ∀ d p s, p.length + d = n → QOk n p → p.Nodup → G s → OwnCall Try.prog 121 [.bptr 5 0, .bptr 3 0, .cptr [.fn fv [.bptr 0 0, .bptr 2 0]] 0, .bptr 6 0] (TLr fv n a p s) (TLr fv n a p (ordS vis n d p s)) (.tup []) [0, 2, 3, 5, 6]
  | 0, p, s, hd, hp, hnd, hgs => by
    have hvp := hv p s (by omega) hp hnd hgs
    show OwnCall _ _ _ _ (TLr fv n a p (vis p s)) _ _
    obtain ⟨s', es⟩ : ∃ s', vis p s = s' := ⟨_, rfl⟩
    rw [es] at hvp ⊢
    have hl : p.length = n := by omega
    rcases s with _ | M <;> rcases s' with _ | M'
    · simp only [TLr, TVr, bxR, tlR, List.cons_append, List.nil_append, List.append_nil] at hvp ⊢
      refine OwnCall.intro (n := 32) (rs := []) 4 [0, 1, 2, 3] (X := [0, 2, 3, 5, 6]) Try.call121 Try.func121 rfl rfl rfl (by simp only [List.length_cons, List.length_nil]; omega) (by simp [Aw.ids, rootsA, rootsAs, argSlots, slotGet]) (fun cx hcx => AT.weakG (ats_of ?_)); simp only [argSlots, Nat.zero_add, Nat.reduceAdd]
      (repeat refine ats_seq ?_); refine ats_go (by first | exact fix0 hcx | exact fix1 hcx rfl | exact fixN hcx rfl) fun K hK => ?_; simp only [go_sem, seval]; (repeat refine And.intro (by first | omega | (intro hq; first | omega | (simp at hq <;> omega) | (simp_all <;> omega))) ?_); refine hK _ ?_; clear hK K
      (repeat refine ats_seq ?_); first | refine ats_ifn (p := _) rfl trivial (fun h1 => ?_) (fun h1 => ?_) | refine ats_ifp (p := _) rfl trivial (fun h1 => ?_) (fun h1 => ?_) | refine ats_cond rfl trivial (fun h1 => ?_) (fun h1 => ?_)
      · (repeat refine ats_seq ?_); refine ats_go (by first | exact fix0 hcx | exact fix1 hcx rfl | exact fixN hcx rfl) fun K hK => ?_; simp only [go_sem, seval]
        refine fcall_box (hvp) (by simp [Aw.ids]) (by simp [find]) (by simp [closedT, killT, killAs, killA, outQ, Aw.ids]) (by simp [killAs, killA, outQ, Aw.ids]) (by simp [Aw.ids]) ?_; simp only [Aw.ids, List.map_cons, List.map_nil, List.filter_cons, List.filter_nil, List.contains_cons, List.contains_nil, Bool.or_false, Bool.or_true, Bool.not_true, Bool.not_false, Nat.reduceBEq, Bool.false_eq_true, if_true, if_false, List.cons_append, List.nil_append]; simp only [go_sem, seval]
        refine hK _ ?_; clear hK K
        refine ats_ret ⟨⟨[(0, .bptr 5 0), (1, .bptr 3 0), (2, .cptr [.fn fv [.bptr 0 0, .bptr 2 0]] 0), (3, .bptr 6 0)], [(0, .bx [.l3 a]), (2, .bx [(.l3 a)]), (3, .bx [.int n]), (4, .t1 p), (5, .bx [.ref 4 []]), (6, .bx [.fn 121 [.bptr 5 0, .bptr 3 0, .cptr [.fn fv [.bptr 0 0, .bptr 2 0]] 0, .bptr 6 0]])]⟩, ghost_trans (ghost_drop []) (ghost_can [] (by simp only [killL, killA, killAs, qOf, rmT, killH, killT, List.filter_cons, List.filter_nil, List.contains_cons, List.contains_nil, Bool.or_false, Bool.or_true, Bool.false_and, Bool.not_true, Bool.not_false, Bool.false_eq_true, if_true, if_false, rnLs, rnL, rn, rns, sw, SlotsLe, St.get, slotGet, List.map_cons, List.map_nil, seval, AV.int.injEq, AV.bool.injEq, AV.l1.injEq, AV.l2.injEq, AV.l3.injEq, true_and, and_true]) (by simp only [killL, killA, killAs, qOf, rmT, killH, killT, List.filter_cons, List.filter_nil, List.contains_cons, List.contains_nil, Bool.or_false, Bool.or_true, Bool.false_and, Bool.not_true, Bool.not_false, Bool.false_eq_true, if_true, if_false, sortH, insH, rnHs, rnH, rnT, rn, rns, sw, List.map_cons, List.map_nil, seval])), .inr rfl, (by first | rfl | exact ⟨trivial, rfl⟩), (by simp [St.get, slotGet, argSlots]), rfl⟩
      · omega
    · simp only [TLr, TVr, bxR, tlR, List.cons_append, List.nil_append, List.append_nil] at hvp ⊢
      refine OwnCall.intro (n := 32) (rs := []) 4 [0, 1, 2, 3] (X := [0, 2, 3, 5, 6]) Try.call121 Try.func121 rfl rfl rfl (by simp only [List.length_cons, List.length_nil]; omega) (by simp [Aw.ids, rootsA, rootsAs, argSlots, slotGet]) (fun cx hcx => AT.weakG (ats_of ?_)); simp only [argSlots, Nat.zero_add, Nat.reduceAdd]
      (repeat refine ats_seq ?_); refine ats_go (by first | exact fix0 hcx | exact fix1 hcx rfl | exact fixN hcx rfl) fun K hK => ?_; simp only [go_sem, seval]; (repeat refine And.intro (by first | omega | (intro hq; first | omega | (simp at hq <;> omega) | (simp_all <;> omega))) ?_); refine hK _ ?_; clear hK K
      (repeat refine ats_seq ?_); first | refine ats_ifn (p := _) rfl trivial (fun h1 => ?_) (fun h1 => ?_) | refine ats_ifp (p := _) rfl trivial (fun h1 => ?_) (fun h1 => ?_) | refine ats_cond rfl trivial (fun h1 => ?_) (fun h1 => ?_)
      · (repeat refine ats_seq ?_); refine ats_go (by first | exact fix0 hcx | exact fix1 hcx rfl | exact fixN hcx rfl) fun K hK => ?_; simp only [go_sem, seval]
        refine fcall_box (hvp) (by simp [Aw.ids]) (by simp [find]) (by simp [closedT, killT, killAs, killA, outQ, Aw.ids]) (by simp [killAs, killA, outQ, Aw.ids]) (by simp [Aw.ids]) ?_; simp only [Aw.ids, List.map_cons, List.map_nil, List.filter_cons, List.filter_nil, List.contains_cons, List.contains_nil, Bool.or_false, Bool.or_true, Bool.not_true, Bool.not_false, Nat.reduceBEq, Bool.false_eq_true, if_true, if_false, List.cons_append, List.nil_append]; simp only [go_sem, seval]
        refine hK _ ?_; clear hK K
        refine ats_ret ⟨⟨[(0, .bptr 5 0), (1, .bptr 3 0), (2, .cptr [.fn fv [.bptr 0 0, .bptr 2 0]] 0), (3, .bptr 6 0)], [(0, .bx [.l3 a]), (2, .bx [.ref 7 []]), (3, .bx [.int n]), (4, .t1 p), (5, .bx [.ref 4 []]), (6, .bx [.fn 121 [.bptr 5 0, .bptr 3 0, .cptr [.fn fv [.bptr 0 0, .bptr 2 0]] 0, .bptr 6 0]]), (7, .t3 M')]⟩, ghost_trans (ghost_drop []) (ghost_can [] (by simp only [killL, killA, killAs, qOf, rmT, killH, killT, List.filter_cons, List.filter_nil, List.contains_cons, List.contains_nil, Bool.or_false, Bool.or_true, Bool.false_and, Bool.not_true, Bool.not_false, Bool.false_eq_true, if_true, if_false, rnLs, rnL, rn, rns, sw, SlotsLe, St.get, slotGet, List.map_cons, List.map_nil, seval, AV.int.injEq, AV.bool.injEq, AV.l1.injEq, AV.l2.injEq, AV.l3.injEq, true_and, and_true]) (by simp only [killL, killA, killAs, qOf, rmT, killH, killT, List.filter_cons, List.filter_nil, List.contains_cons, List.contains_nil, Bool.or_false, Bool.or_true, Bool.false_and, Bool.not_true, Bool.not_false, Bool.false_eq_true, if_true, if_false, sortH, insH, rnHs, rnH, rnT, rn, rns, sw, List.map_cons, List.map_nil, seval])), .inr rfl, (by first | rfl | exact ⟨trivial, rfl⟩), (by simp [St.get, slotGet, argSlots]), rfl⟩
      · omega
    · simp only [TLr, TVr, bxR, tlR, List.cons_append, List.nil_append, List.append_nil] at hvp ⊢
      refine OwnCall.intro (n := 32) (rs := []) 4 [0, 1, 2, 3] (X := [0, 2, 3, 5, 6]) Try.call121 Try.func121 rfl rfl rfl (by simp only [List.length_cons, List.length_nil]; omega) (by simp [Aw.ids, rootsA, rootsAs, argSlots, slotGet]) (fun cx hcx => AT.weakG (ats_of ?_)); simp only [argSlots, Nat.zero_add, Nat.reduceAdd]
      (repeat refine ats_seq ?_); refine ats_go (by first | exact fix0 hcx | exact fix1 hcx rfl | exact fixN hcx rfl) fun K hK => ?_; simp only [go_sem, seval]; (repeat refine And.intro (by first | omega | (intro hq; first | omega | (simp at hq <;> omega) | (simp_all <;> omega))) ?_); refine hK _ ?_; clear hK K
      (repeat refine ats_seq ?_); first | refine ats_ifn (p := _) rfl trivial (fun h1 => ?_) (fun h1 => ?_) | refine ats_ifp (p := _) rfl trivial (fun h1 => ?_) (fun h1 => ?_) | refine ats_cond rfl trivial (fun h1 => ?_) (fun h1 => ?_)
      · (repeat refine ats_seq ?_); refine ats_go (by first | exact fix0 hcx | exact fix1 hcx rfl | exact fixN hcx rfl) fun K hK => ?_; simp only [go_sem, seval]
        refine fcall_box (hvp) (by simp [Aw.ids]) (by simp [find]) (by simp [closedT, killT, killAs, killA, outQ, Aw.ids]) (by simp [killAs, killA, outQ, Aw.ids]) (by simp [Aw.ids]) ?_; simp only [Aw.ids, List.map_cons, List.map_nil, List.filter_cons, List.filter_nil, List.contains_cons, List.contains_nil, Bool.or_false, Bool.or_true, Bool.not_true, Bool.not_false, Nat.reduceBEq, Bool.false_eq_true, if_true, if_false, List.cons_append, List.nil_append]; simp only [go_sem, seval]
        refine hK _ ?_; clear hK K
        refine ats_ret ⟨⟨[(0, .bptr 5 0), (1, .bptr 3 0), (2, .cptr [.fn fv [.bptr 0 0, .bptr 2 0]] 0), (3, .bptr 6 0)], [(0, .bx [.l3 a]), (2, .bx [(.l3 a)]), (3, .bx [.int n]), (4, .t1 p), (5, .bx [.ref 4 []]), (6, .bx [.fn 121 [.bptr 5 0, .bptr 3 0, .cptr [.fn fv [.bptr 0 0, .bptr 2 0]] 0, .bptr 6 0]])]⟩, ghost_trans (ghost_drop []) (ghost_can [] (by simp only [killL, killA, killAs, qOf, rmT, killH, killT, List.filter_cons, List.filter_nil, List.contains_cons, List.contains_nil, Bool.or_false, Bool.or_true, Bool.false_and, Bool.not_true, Bool.not_false, Bool.false_eq_true, if_true, if_false, rnLs, rnL, rn, rns, sw, SlotsLe, St.get, slotGet, List.map_cons, List.map_nil, seval, AV.int.injEq, AV.bool.injEq, AV.l1.injEq, AV.l2.injEq, AV.l3.injEq, true_and, and_true]) (by simp only [killL, killA, killAs, qOf, rmT, killH, killT, List.filter_cons, List.filter_nil, List.contains_cons, List.contains_nil, Bool.or_false, Bool.or_true, Bool.false_and, Bool.not_true, Bool.not_false, Bool.false_eq_true, if_true, if_false, sortH, insH, rnHs, rnH, rnT, rn, rns, sw, List.map_cons, List.map_nil, seval])), .inr rfl, (by first | rfl | exact ⟨trivial, rfl⟩), (by simp [St.get, slotGet, argSlots]), rfl⟩
      · omega
    · simp only [TLr, TVr, bxR, tlR, List.cons_append, List.nil_append, List.append_nil] at hvp ⊢
      refine OwnCall.intro (n := 32) (rs := []) 4 [0, 1, 2, 3] (X := [0, 2, 3, 5, 6]) Try.call121 Try.func121 rfl rfl rfl (by simp only [List.length_cons, List.length_nil]; omega) (by simp [Aw.ids, rootsA, rootsAs, argSlots, slotGet]) (fun cx hcx => AT.weakG (ats_of ?_)); simp only [argSlots, Nat.zero_add, Nat.reduceAdd]
      (repeat refine ats_seq ?_); refine ats_go (by first | exact fix0 hcx | exact fix1 hcx rfl | exact fixN hcx rfl) fun K hK => ?_; simp only [go_sem, seval]; (repeat refine And.intro (by first | omega | (intro hq; first | omega | (simp at hq <;> omega) | (simp_all <;> omega))) ?_); refine hK _ ?_; clear hK K
      (repeat refine ats_seq ?_); first | refine ats_ifn (p := _) rfl trivial (fun h1 => ?_) (fun h1 => ?_) | refine ats_ifp (p := _) rfl trivial (fun h1 => ?_) (fun h1 => ?_) | refine ats_cond rfl trivial (fun h1 => ?_) (fun h1 => ?_)
      · (repeat refine ats_seq ?_); refine ats_go (by first | exact fix0 hcx | exact fix1 hcx rfl | exact fixN hcx rfl) fun K hK => ?_; simp only [go_sem, seval]
        refine fcall_box (hvp) (by simp [Aw.ids]) (by simp [find]) (by simp [closedT, killT, killAs, killA, outQ, Aw.ids]) (by simp [killAs, killA, outQ, Aw.ids]) (by simp [Aw.ids]) ?_; simp only [Aw.ids, List.map_cons, List.map_nil, List.filter_cons, List.filter_nil, List.contains_cons, List.contains_nil, Bool.or_false, Bool.or_true, Bool.not_true, Bool.not_false, Nat.reduceBEq, Bool.false_eq_true, if_true, if_false, List.cons_append, List.nil_append]; simp only [go_sem, seval]
        refine hK _ ?_; clear hK K
        refine ats_ret ⟨⟨[(0, .bptr 5 0), (1, .bptr 3 0), (2, .cptr [.fn fv [.bptr 0 0, .bptr 2 0]] 0), (3, .bptr 6 0)], [(0, .bx [.l3 a]), (2, .bx [.ref 7 []]), (3, .bx [.int n]), (4, .t1 p), (5, .bx [.ref 4 []]), (6, .bx [.fn 121 [.bptr 5 0, .bptr 3 0, .cptr [.fn fv [.bptr 0 0, .bptr 2 0]] 0, .bptr 6 0]]), (7, .t3 M')]⟩, ghost_trans (ghost_drop []) (ghost_can [] (by simp only [killL, killA, killAs, qOf, rmT, killH, killT, List.filter_cons, List.filter_nil, List.contains_cons, List.contains_nil, Bool.or_false, Bool.or_true, Bool.false_and, Bool.not_true, Bool.not_false, Bool.false_eq_true, if_true, if_false, rnLs, rnL, rn, rns, sw, SlotsLe, St.get, slotGet, List.map_cons, List.map_nil, seval, AV.int.injEq, AV.bool.injEq, AV.l1.injEq, AV.l2.injEq, AV.l3.injEq, true_and, and_true]) (by simp only [killL, killA, killAs, qOf, rmT, killH, killT, List.filter_cons, List.filter_nil, List.contains_cons, List.contains_nil, Bool.or_false, Bool.or_true, Bool.false_and, Bool.not_true, Bool.not_false, Bool.false_eq_true, if_true, if_false, sortH, insH, rnHs, rnH, rnT, rn, rns, sw, List.map_cons, List.map_nil, seval])), .inr rfl, (by first | rfl | exact ⟨trivial, rfl⟩), (by simp [St.get, slotGet, argSlots]), rfl⟩
      · omega
  | d + 1, p, s, hd, hp, hnd, hgs => by
    rw [ordS_succ]
    refine OwnCall.intro (n := 32) (rs := []) 4 [0, 1, 2, 3] (X := [0, 2, 3, 5, 6]) Try.call121 Try.func121 rfl rfl rfl (by simp only [List.length_cons, List.length_nil]; omega) (by simp [Aw.ids, rootsA, rootsAs, argSlots, slotGet, TLr]) (fun cx hcx => AT.weakG (ats_of ?_)); simp only [argSlots, Nat.zero_add, Nat.reduceAdd]
    simp only [TLr, List.cons_append, List.nil_append]
    (repeat refine ats_seq ?_); refine ats_go (by first | exact fix0 hcx | exact fix1 hcx rfl | exact fixN hcx rfl) fun K hK => ?_; simp only [go_sem, seval]; (repeat refine And.intro (by first | omega | (intro hq; first | omega | (simp at hq <;> omega) | (simp_all <;> omega))) ?_); refine hK _ ?_; clear hK K
    (repeat refine ats_seq ?_); first | refine ats_ifn (p := _) rfl trivial (fun h1 => ?_) (fun h1 => ?_) | refine ats_ifp (p := _) rfl trivial (fun h1 => ?_) (fun h1 => ?_) | refine ats_cond rfl trivial (fun h1 => ?_) (fun h1 => ?_)
    · omega
    · refine ats_skip ?_
      (repeat refine ats_seq ?_); refine ats_go (by first | exact fix0 hcx | exact fix1 hcx rfl | exact fixN hcx rfl) fun K hK => ?_; simp only [go_sem, seval]; (repeat refine And.intro (by first | omega | (intro hq; first | omega | (simp at hq <;> omega) | (simp_all <;> omega))) ?_); refine hK _ ?_; clear hK K
      (repeat refine ats_seq ?_); refine ats_loop (fun x : Nat => ⟨[(0, .bptr 5 0), (1, .bptr 3 0), (2, .cptr [.fn fv [.bptr 0 0, .bptr 2 0]] 0), (3, .bptr 6 0), (12, .int n), (13, .int x)], TLr fv n a p (ordF vis n d p s x)⟩) (fun x => x ≤ n) (fun x => n - x) 0 (Nat.zero_le _) (by
        refine And.intro ?_ rfl; simp only [SlotsLe, St.get, slotGet, Nat.reduceEqDiff, ↓reduceIte, AV.int.injEq, AV.bool.injEq, AV.l1.injEq, AV.l2.injEq, AV.l3.injEq, true_and, and_true]
        rfl) (fun x hx => ?_)
      obtain ⟨sx, es⟩ : ∃ sx, ordF vis n d p s x = sx := ⟨_, rfl⟩
      have hgx := ordF_keep hG hd hp hnd hgs x hx
      rw [es] at hgx
      rw [es]
      simp only [TLr, List.cons_append, List.nil_append]
      (repeat refine ats_seq ?_); refine ats_go (by first | exact fix0 hcx | exact fix1 hcx rfl | exact fixN hcx rfl) fun K hK => ?_; simp only [go_sem, seval]; (repeat refine And.intro (by first | omega | (intro hq; first | omega | (simp at hq <;> omega) | (simp_all <;> omega))) ?_); refine hK _ ?_; clear hK K
      (repeat refine ats_seq ?_); first | refine ats_ifn (p := _) rfl trivial (fun h2 => ?_) (fun h2 => ?_) | refine ats_ifp (p := _) rfl trivial (fun h2 => ?_) (fun h2 => ?_) | refine ats_cond rfl trivial (fun h2 => ?_) (fun h2 => ?_)
      · have hcn := nContains_ok p x
        refine ats_skip ?_
        (repeat refine ats_seq ?_); refine ats_block ?_
        (repeat refine ats_seq ?_); refine ats_go (by first | exact fix0 hcx | exact fix1 hcx rfl | exact fixN hcx rfl) fun K hK => ?_; simp only [go_sem, seval]; (repeat refine And.intro (by first | omega | (intro hq; first | omega | (simp at hq <;> omega) | (simp_all <;> omega))) ?_); refine hK _ ?_; clear hK K
        (repeat refine ats_seq ?_); refine ats_go (by first | exact fix0 hcx | exact fix1 hcx rfl | exact fixN hcx rfl) fun K hK => ?_; simp only [go_sem, seval]
        (repeat refine And.intro (by first | omega | (intro hq; first | omega | (simp at hq <;> omega) | (simp_all <;> omega))) ?_)
        first | refine fcall_free rfl rfl (hcn) ?_ | refine YR_intro (acall_free rfl rfl (hcn)) ?_
        simp only [go_sem, seval]
        (repeat refine And.intro (by first | omega | (intro hq; first | omega | (simp at hq <;> omega) | (simp_all <;> omega))) ?_)
        refine hK _ ?_; clear hK K
        (repeat refine ats_seq ?_); first | refine ats_ifn (p := _) rfl trivial (fun h3 => ?_) (fun h3 => ?_) | refine ats_ifp (p := _) rfl trivial (fun h3 => ?_) (fun h3 => ?_) | refine ats_cond rfl trivial (fun h3 => ?_) (fun h3 => ?_)
        · have hno : ¬ hasI p x = true := by
            have h4 : (p.any fun y => decide (y = (x : Int))) = false := by simpa only [Bool.not_eq_true'] using h3
            unfold hasI
            rw [h4]
            decide
          have ih := extendR_ok fv n h16 a vis G hG hv d (p ++ [(x : Int)]) sx (by rw [List.length_append, List.length_cons, List.length_nil]; omega) (hp.app (QOk.one (by omega))) (nodup_snoc hnd hno) hgx
          obtain ⟨s', es'⟩ : ∃ s', ordS vis n d (p ++ [(x : Int)]) sx = s' := ⟨_, rfl⟩
          have e3 : ordF vis n d p s (x + 1) = s' := by rw [ordF_step, if_neg hno, es, es']
          rw [es'] at ih
          have lp : p.length ≤ 1099511627775 := by omega
          have tk : ((((p ++ [(x : Int)]).length : Nat) : Int) - 1).toNat = p.length := by rw [List.length_append, List.length_cons, List.length_nil]; omega
          have lx : (p ++ [(x : Int)]).length = p.length + 1 := by rw [List.length_append, List.length_cons, List.length_nil]
          have ct : cutTree 0 p.length (.t1 (p ++ [(x : Int)])) = some (.t1 p) := by simp [cutTree]
          rcases sx with _ | M <;> rcases s' with _ | M'
          · simp only [TLr, bxR, tlR, List.cons_append, List.nil_append, List.append_nil] at ih ⊢
            (repeat refine ats_seq ?_); refine ats_go (by first | exact fix0 hcx | exact fix1 hcx rfl | exact fixN hcx rfl) fun K hK => ?_; simp only [go_sem, seval]; (repeat refine And.intro (by first | omega | (intro hq; first | omega | (simp at hq <;> omega) | (simp_all <;> omega))) ?_); refine hK _ ?_; clear hK K
            refine AT.ghost (ghost_drop [7]) ?_; simp only [killL, killA, killAs, qOf, rmT, killH, killT, List.map_cons, List.map_nil, List.filter_cons, List.filter_nil, List.contains_cons, List.contains_nil, Bool.or_false, Bool.or_true, Bool.false_and, Bool.not_true, Bool.not_false, Bool.false_eq_true, if_true, if_false, seval]
            (repeat refine ats_seq ?_); refine ats_go (by first | exact fix0 hcx | exact fix1 hcx rfl | exact fixN hcx rfl) fun K hK => ?_; simp only [go_sem, seval]
            refine fcall_box (ih) (by simp [Aw.ids]) (by simp [find]) (by simp [closedT, killT, killAs, killA, outQ, Aw.ids]) (by simp [killAs, killA, outQ, Aw.ids]) (by simp [Aw.ids]) ?_; simp only [Aw.ids, List.map_cons, List.map_nil, List.filter_cons, List.filter_nil, List.contains_cons, List.contains_nil, Bool.or_false, Bool.or_true, Bool.not_true, Bool.not_false, Nat.reduceBEq, Bool.false_eq_true, if_true, if_false, List.cons_append, List.nil_append]; simp only [go_sem, seval]
            refine hK _ ?_; clear hK K
            (repeat refine ats_seq ?_); refine ats_go (by first | exact fix0 hcx | exact fix1 hcx rfl | exact fixN hcx rfl) fun K hK => ?_; simp only [go_sem, seval]
            simp only [tk]
            (repeat refine And.intro (by first | omega | (intro hq; first | omega | (simp at hq <;> omega) | (simp_all <;> omega))) ?_)
            refine hK _ ?_; clear hK K
            refine AT.ghost (ghost_cutB Try.prog 5 4 (lo := 0) (hi := p.length) (t := .t1 (p ++ [(x : Int)])) (t' := .t1 p) rfl rfl ct rfl (by decide)) ?_; simp only [killL, killA, killAs, qOf, rmT, killH, killT, putT, List.map_cons, List.map_nil, List.filter_cons, List.filter_nil, List.contains_cons, List.contains_nil, Bool.or_false, Bool.or_true, Bool.false_and, Bool.not_true, Bool.not_false, Bool.false_eq_true, if_true, if_false, seval]
            (repeat refine ats_seq ?_); refine ats_go (by first | exact fix0 hcx | exact fix1 hcx rfl | exact fixN hcx rfl) fun K hK => ?_; simp only [go_sem, seval]; (repeat refine And.intro (by first | omega | (intro hq; first | omega | (simp at hq <;> omega) | (simp_all <;> omega))) ?_); refine hK _ ?_; clear hK K
            refine ⟨x + 1,  by omega, by omega, .inl ⟨by simp only [SlotsLe, St.get, slotGet, Nat.reduceEqDiff, ↓reduceIte, AV.int.injEq, AV.bool.injEq, AV.l1.injEq, AV.l2.injEq, AV.l3.injEq, true_and, and_true]; omega,  by rw [e3]⟩⟩
          · simp only [TLr, bxR, tlR, List.cons_append, List.nil_append, List.append_nil] at ih ⊢
            (repeat refine ats_seq ?_); refine ats_go (by first | exact fix0 hcx | exact fix1 hcx rfl | exact fixN hcx rfl) fun K hK => ?_; simp only [go_sem, seval]; (repeat refine And.intro (by first | omega | (intro hq; first | omega | (simp at hq <;> omega) | (simp_all <;> omega))) ?_); refine hK _ ?_; clear hK K
            refine AT.ghost (ghost_drop [7]) ?_; simp only [killL, killA, killAs, qOf, rmT, killH, killT, List.map_cons, List.map_nil, List.filter_cons, List.filter_nil, List.contains_cons, List.contains_nil, Bool.or_false, Bool.or_true, Bool.false_and, Bool.not_true, Bool.not_false, Bool.false_eq_true, if_true, if_false, seval]
            (repeat refine ats_seq ?_); refine ats_go (by first | exact fix0 hcx | exact fix1 hcx rfl | exact fixN hcx rfl) fun K hK => ?_; simp only [go_sem, seval]
            refine fcall_box (ih) (by simp [Aw.ids]) (by simp [find]) (by simp [closedT, killT, killAs, killA, outQ, Aw.ids]) (by simp [killAs, killA, outQ, Aw.ids]) (by simp [Aw.ids]) ?_; simp only [Aw.ids, List.map_cons, List.map_nil, List.filter_cons, List.filter_nil, List.contains_cons, List.contains_nil, Bool.or_false, Bool.or_true, Bool.not_true, Bool.not_false, Nat.reduceBEq, Bool.false_eq_true, if_true, if_false, List.cons_append, List.nil_append]; simp only [go_sem, seval]
            refine hK _ ?_; clear hK K
            (repeat refine ats_seq ?_); refine ats_go (by first | exact fix0 hcx | exact fix1 hcx rfl | exact fixN hcx rfl) fun K hK => ?_; simp only [go_sem, seval]
            simp only [tk]
            (repeat refine And.intro (by first | omega | (intro hq; first | omega | (simp at hq <;> omega) | (simp_all <;> omega))) ?_)
            refine hK _ ?_; clear hK K
            refine AT.ghost (ghost_cutB Try.prog 5 4 (lo := 0) (hi := p.length) (t := .t1 (p ++ [(x : Int)])) (t' := .t1 p) rfl rfl ct rfl (by decide)) ?_; simp only [killL, killA, killAs, qOf, rmT, killH, killT, putT, List.map_cons, List.map_nil, List.filter_cons, List.filter_nil, List.contains_cons, List.contains_nil, Bool.or_false, Bool.or_true, Bool.false_and, Bool.not_true, Bool.not_false, Bool.false_eq_true, if_true, if_false, seval]
            (repeat refine ats_seq ?_); refine ats_go (by first | exact fix0 hcx | exact fix1 hcx rfl | exact fixN hcx rfl) fun K hK => ?_; simp only [go_sem, seval]; (repeat refine And.intro (by first | omega | (intro hq; first | omega | (simp at hq <;> omega) | (simp_all <;> omega))) ?_); refine hK _ ?_; clear hK K
            refine ⟨x + 1,  by omega, by omega, .inl ⟨by simp only [SlotsLe, St.get, slotGet, Nat.reduceEqDiff, ↓reduceIte, AV.int.injEq, AV.bool.injEq, AV.l1.injEq, AV.l2.injEq, AV.l3.injEq, true_and, and_true]; omega,  by rw [e3]⟩⟩
          · simp only [TLr, bxR, tlR, List.cons_append, List.nil_append, List.append_nil] at ih ⊢
            (repeat refine ats_seq ?_); refine ats_go (by first | exact fix0 hcx | exact fix1 hcx rfl | exact fixN hcx rfl) fun K hK => ?_; simp only [go_sem, seval]; (repeat refine And.intro (by first | omega | (intro hq; first | omega | (simp at hq <;> omega) | (simp_all <;> omega))) ?_); refine hK _ ?_; clear hK K
            refine AT.ghost (ghost_drop [8]) ?_; simp only [killL, killA, killAs, qOf, rmT, killH, killT, List.map_cons, List.map_nil, List.filter_cons, List.filter_nil, List.contains_cons, List.contains_nil, Bool.or_false, Bool.or_true, Bool.false_and, Bool.not_true, Bool.not_false, Bool.false_eq_true, if_true, if_false, seval]
            (repeat refine ats_seq ?_); refine ats_go (by first | exact fix0 hcx | exact fix1 hcx rfl | exact fixN hcx rfl) fun K hK => ?_; simp only [go_sem, seval]
            refine fcall_box (ih) (by simp [Aw.ids]) (by simp [find]) (by simp [closedT, killT, killAs, killA, outQ, Aw.ids]) (by simp [killAs, killA, outQ, Aw.ids]) (by simp [Aw.ids]) ?_; simp only [Aw.ids, List.map_cons, List.map_nil, List.filter_cons, List.filter_nil, List.contains_cons, List.contains_nil, Bool.or_false, Bool.or_true, Bool.not_true, Bool.not_false, Nat.reduceBEq, Bool.false_eq_true, if_true, if_false, List.cons_append, List.nil_append]; simp only [go_sem, seval]
            refine hK _ ?_; clear hK K
            (repeat refine ats_seq ?_); refine ats_go (by first | exact fix0 hcx | exact fix1 hcx rfl | exact fixN hcx rfl) fun K hK => ?_; simp only [go_sem, seval]
            simp only [tk]
            (repeat refine And.intro (by first | omega | (intro hq; first | omega | (simp at hq <;> omega) | (simp_all <;> omega))) ?_)
            refine hK _ ?_; clear hK K
            refine AT.ghost (ghost_cutB Try.prog 5 4 (lo := 0) (hi := p.length) (t := .t1 (p ++ [(x : Int)])) (t' := .t1 p) rfl rfl ct rfl (by decide)) ?_; simp only [killL, killA, killAs, qOf, rmT, killH, killT, putT, List.map_cons, List.map_nil, List.filter_cons, List.filter_nil, List.contains_cons, List.contains_nil, Bool.or_false, Bool.or_true, Bool.false_and, Bool.not_true, Bool.not_false, Bool.false_eq_true, if_true, if_false, seval]
            (repeat refine ats_seq ?_); refine ats_go (by first | exact fix0 hcx | exact fix1 hcx rfl | exact fixN hcx rfl) fun K hK => ?_; simp only [go_sem, seval]; (repeat refine And.intro (by first | omega | (intro hq; first | omega | (simp at hq <;> omega) | (simp_all <;> omega))) ?_); refine hK _ ?_; clear hK K
            refine ⟨x + 1,  by omega, by omega, .inl ⟨by simp only [SlotsLe, St.get, slotGet, Nat.reduceEqDiff, ↓reduceIte, AV.int.injEq, AV.bool.injEq, AV.l1.injEq, AV.l2.injEq, AV.l3.injEq, true_and, and_true]; omega,  by rw [e3]⟩⟩
          · simp only [TLr, bxR, tlR, List.cons_append, List.nil_append, List.append_nil] at ih ⊢
            (repeat refine ats_seq ?_); refine ats_go (by first | exact fix0 hcx | exact fix1 hcx rfl | exact fixN hcx rfl) fun K hK => ?_; simp only [go_sem, seval]; (repeat refine And.intro (by first | omega | (intro hq; first | omega | (simp at hq <;> omega) | (simp_all <;> omega))) ?_); refine hK _ ?_; clear hK K
            refine AT.ghost (ghost_drop [8]) ?_; simp only [killL, killA, killAs, qOf, rmT, killH, killT, List.map_cons, List.map_nil, List.filter_cons, List.filter_nil, List.contains_cons, List.contains_nil, Bool.or_false, Bool.or_true, Bool.false_and, Bool.not_true, Bool.not_false, Bool.false_eq_true, if_true, if_false, seval]
            (repeat refine ats_seq ?_); refine ats_go (by first | exact fix0 hcx | exact fix1 hcx rfl | exact fixN hcx rfl) fun K hK => ?_; simp only [go_sem, seval]
            refine fcall_box (ih) (by simp [Aw.ids]) (by simp [find]) (by simp [closedT, killT, killAs, killA, outQ, Aw.ids]) (by simp [killAs, killA, outQ, Aw.ids]) (by simp [Aw.ids]) ?_; simp only [Aw.ids, List.map_cons, List.map_nil, List.filter_cons, List.filter_nil, List.contains_cons, List.contains_nil, Bool.or_false, Bool.or_true, Bool.not_true, Bool.not_false, Nat.reduceBEq, Bool.false_eq_true, if_true, if_false, List.cons_append, List.nil_append]; simp only [go_sem, seval]
            refine hK _ ?_; clear hK K
            (repeat refine ats_seq ?_); refine ats_go (by first | exact fix0 hcx | exact fix1 hcx rfl | exact fixN hcx rfl) fun K hK => ?_; simp only [go_sem, seval]
            simp only [tk]
            (repeat refine And.intro (by first | omega | (intro hq; first | omega | (simp at hq <;> omega) | (simp_all <;> omega))) ?_)
            refine hK _ ?_; clear hK K
            refine AT.ghost (ghost_cutB Try.prog 5 4 (lo := 0) (hi := p.length) (t := .t1 (p ++ [(x : Int)])) (t' := .t1 p) rfl rfl ct rfl (by decide)) ?_; simp only [killL, killA, killAs, qOf, rmT, killH, killT, putT, List.map_cons, List.map_nil, List.filter_cons, List.filter_nil, List.contains_cons, List.contains_nil, Bool.or_false, Bool.or_true, Bool.false_and, Bool.not_true, Bool.not_false, Bool.false_eq_true, if_true, if_false, seval]
            (repeat refine ats_seq ?_); refine ats_go (by first | exact fix0 hcx | exact fix1 hcx rfl | exact fixN hcx rfl) fun K hK => ?_; simp only [go_sem, seval]; (repeat refine And.intro (by first | omega | (intro hq; first | omega | (simp at hq <;> omega) | (simp_all <;> omega))) ?_); refine hK _ ?_; clear hK K
            refine ⟨x + 1,  by omega, by omega, .inl ⟨by simp only [SlotsLe, St.get, slotGet, Nat.reduceEqDiff, ↓reduceIte, AV.int.injEq, AV.bool.injEq, AV.l1.injEq, AV.l2.injEq, AV.l3.injEq, true_and, and_true]; omega,  by rw [e3]⟩⟩
        · have hyes : hasI p x = true := by
            unfold hasI
            simpa only [Bool.not_eq_false'] using h3
          have e3 : ordF vis n d p s (x + 1) = sx := by rw [ordF_step, if_pos hyes, es]
          refine ats_skip ?_
          (repeat refine ats_seq ?_); refine ats_go (by first | exact fix0 hcx | exact fix1 hcx rfl | exact fixN hcx rfl) fun K hK => ?_; simp only [go_sem, seval]; (repeat refine And.intro (by first | omega | (intro hq; first | omega | (simp at hq <;> omega) | (simp_all <;> omega))) ?_); refine hK _ ?_; clear hK K
          refine ⟨x + 1,  by omega, by omega, .inl ⟨by simp only [SlotsLe, St.get, slotGet, Nat.reduceEqDiff, ↓reduceIte, AV.int.injEq, AV.bool.injEq, AV.l1.injEq, AV.l2.injEq, AV.l3.injEq, true_and, and_true]; omega,  by rw [e3]⟩⟩
      · obtain rfl : x = n := by omega
        rw [es]
        refine ats_exit (lq_x ?_)
        rcases sx with _ | M
        · simp only [TLr, bxR, tlR, List.cons_append, List.nil_append, List.append_nil]
          refine id ⟨⟨[(0, .bptr 5 0), (1, .bptr 3 0), (2, .cptr [.fn fv [.bptr 0 0, .bptr 2 0]] 0), (3, .bptr 6 0)], [(0, .bx [.l3 a]), (2, .bx [(.l3 a)]), (3, .bx [.int x]), (4, .t1 p), (5, .bx [.ref 4 []]), (6, .bx [.fn 121 [.bptr 5 0, .bptr 3 0, .cptr [.fn fv [.bptr 0 0, .bptr 2 0]] 0, .bptr 6 0]])]⟩, ghost_trans (ghost_drop []) (ghost_can [] (by simp only [killL, killA, killAs, qOf, rmT, killH, killT, List.filter_cons, List.filter_nil, List.contains_cons, List.contains_nil, Bool.or_false, Bool.or_true, Bool.false_and, Bool.not_true, Bool.not_false, Bool.false_eq_true, if_true, if_false, rnLs, rnL, rn, rns, sw, SlotsLe, St.get, slotGet, List.map_cons, List.map_nil, seval, AV.int.injEq, AV.bool.injEq, AV.l1.injEq, AV.l2.injEq, AV.l3.injEq, true_and, and_true]) (by simp only [killL, killA, killAs, qOf, rmT, killH, killT, List.filter_cons, List.filter_nil, List.contains_cons, List.contains_nil, Bool.or_false, Bool.or_true, Bool.false_and, Bool.not_true, Bool.not_false, Bool.false_eq_true, if_true, if_false, sortH, insH, rnHs, rnH, rnT, rn, rns, sw, List.map_cons, List.map_nil, seval])), .inl rfl, (by first | rfl | exact ⟨trivial, rfl⟩), (by simp [St.get, slotGet, argSlots]), rfl⟩
        · simp only [TLr, bxR, tlR, List.cons_append, List.nil_append, List.append_nil]
          refine id ⟨⟨[(0, .bptr 5 0), (1, .bptr 3 0), (2, .cptr [.fn fv [.bptr 0 0, .bptr 2 0]] 0), (3, .bptr 6 0)], [(0, .bx [.l3 a]), (2, .bx [.ref 7 []]), (3, .bx [.int x]), (4, .t1 p), (5, .bx [.ref 4 []]), (6, .bx [.fn 121 [.bptr 5 0, .bptr 3 0, .cptr [.fn fv [.bptr 0 0, .bptr 2 0]] 0, .bptr 6 0]]), (7, .t3 M)]⟩, ghost_trans (ghost_drop []) (ghost_can [] (by simp only [killL, killA, killAs, qOf, rmT, killH, killT, List.filter_cons, List.filter_nil, List.contains_cons, List.contains_nil, Bool.or_false, Bool.or_true, Bool.false_and, Bool.not_true, Bool.not_false, Bool.false_eq_true, if_true, if_false, rnLs, rnL, rn, rns, sw, SlotsLe, St.get, slotGet, List.map_cons, List.map_nil, seval, AV.int.injEq, AV.bool.injEq, AV.l1.injEq, AV.l2.injEq, AV.l3.injEq, true_and, and_true]) (by simp only [killL, killA, killAs, qOf, rmT, killH, killT, List.filter_cons, List.filter_nil, List.contains_cons, List.contains_nil, Bool.or_false, Bool.or_true, Bool.false_and, Bool.not_true, Bool.not_false, Bool.false_eq_true, if_true, if_false, sortH, insH, rnHs, rnH, rnT, rn, rns, sw, List.map_cons, List.map_nil, seval])), .inl rfl, (by first | rfl | exact ⟨trivial, rfl⟩), (by simp [St.get, slotGet, argSlots]), rfl⟩
set_option maxHeartbeats 8000000 in
theorem eachPerm_ok (fv : Nat) (n : Nat) (h1 : 1 ≤ n) (h16 : n ≤ 16) (a : List (List (List Int))) (vis : List Int → Option (List (List (List Int))) → Option (List (List (List Int))))
    (G : Option (List (List (List Int))) → Prop) (hG : ∀ p s, p.length = n → QOk n p → p.Nodup → G s → G (vis p s))
    (hv : ∀ p s, p.length = n → QOk n p → p.Nodup → G s → OwnCall Try.prog fv [.ref 4 [], .bptr 0 0, .bptr 2 0] (TVr a p s) (TVr a p (vis p s)) (.tup []) [0, 2, 4]) (hg0 : G none) :
    OwnCall Try.prog 88 [.int n, .fn fv [.bptr 0 0, .bptr 2 0]] [(0, .bx [.l3 a]), (2, .bx [.l3 a])] ([(0, .bx [.l3 a]), (2, .bx [bxR a (ordS vis n (n - 1) [0] none)])] ++ tlR (ordS vis n (n - 1) [0] none)) (.tup []) [0, 2] := by
  have he := extendR_ok fv n h16 a vis G hG hv (n - 1) [0] none (by simp; omega) (QOk.one (y := 0) (by omega)) (by simp) hg0
  obtain ⟨s', es⟩ : ∃ s', ordS vis n (n - 1) [0] none = s' := ⟨_, rfl⟩
  rw [es] at he ⊢
  rcases s' with _ | M
  · simp only [TLr, bxR, tlR, List.cons_append, List.nil_append, List.append_nil] at he ⊢
    refine OwnCall.intro (n := 10) (rs := []) 2 [0, 1] (X := [0, 2]) Try.call88 Try.func88 rfl rfl rfl (by simp only [List.length_cons, List.length_nil]; omega) (by simp [Aw.ids, rootsA, rootsAs, argSlots, slotGet]) (fun cx hcx => AT.weakG (ats_of ?_)); simp only [argSlots, Nat.zero_add, Nat.reduceAdd]
    (repeat refine ats_seq ?_); refine ats_go (by first | exact fix0 hcx | exact fix1 hcx rfl | exact fixN hcx rfl) fun K hK => ?_; simp only [go_sem, seval]; (repeat refine And.intro (by first | omega | (intro hq; first | omega | (simp at hq <;> omega) | (simp_all <;> omega))) ?_); refine hK _ ?_; clear hK K
    (repeat refine ats_seq ?_); refine ats_go (by first | exact fix0 hcx | exact fix1 hcx rfl | exact fixN hcx rfl) fun K hK => ?_; simp only [go_sem, seval]; (repeat refine And.intro (by first | omega | (intro hq; first | omega | (simp at hq <;> omega) | (simp_all <;> omega))) ?_); refine hK _ ?_; clear hK K
    (repeat refine ats_seq ?_); refine ats_go (by first | exact fix0 hcx | exact fix1 hcx rfl | exact fixN hcx rfl) fun K hK => ?_; simp only [go_sem, seval]; (repeat refine And.intro (by first | omega | (intro hq; first | omega | (simp at hq <;> omega) | (simp_all <;> omega))) ?_); refine hK _ ?_; clear hK K
    (repeat refine ats_seq ?_); refine ats_go (by first | exact fix0 hcx | exact fix1 hcx rfl | exact fixN hcx rfl) fun K hK => ?_; simp only [go_sem, seval]; (repeat refine And.intro (by first | omega | (intro hq; first | omega | (simp at hq <;> omega) | (simp_all <;> omega))) ?_); refine hK _ ?_; clear hK K
    (repeat refine ats_seq ?_); refine ats_go (by first | exact fix0 hcx | exact fix1 hcx rfl | exact fixN hcx rfl) fun K hK => ?_; simp only [go_sem, seval]
    refine fcall_box (he) (by simp [Aw.ids]) (by simp [find]) (by simp [closedT, killT, killAs, killA, outQ, Aw.ids]) (by simp [killAs, killA, outQ, Aw.ids]) (by simp [Aw.ids]) ?_; simp only [Aw.ids, List.map_cons, List.map_nil, List.filter_cons, List.filter_nil, List.contains_cons, List.contains_nil, Bool.or_false, Bool.or_true, Bool.not_true, Bool.not_false, Nat.reduceBEq, Bool.false_eq_true, if_true, if_false, List.cons_append, List.nil_append]; simp only [go_sem, seval]
    refine hK _ ?_; clear hK K
    refine id ⟨⟨[(0, .int n), (1, .fn fv [.bptr 0 0, .bptr 2 0])], [(0, .bx [.l3 a]), (2, .bx [(.l3 a)])]⟩, ghost_trans (ghost_drop [3, 4, 5, 6]) (ghost_can [] (by simp only [killL, killA, killAs, qOf, rmT, killH, killT, List.filter_cons, List.filter_nil, List.contains_cons, List.contains_nil, Bool.or_false, Bool.or_true, Bool.false_and, Bool.not_true, Bool.not_false, Bool.false_eq_true, if_true, if_false, rnLs, rnL, rn, rns, sw, SlotsLe, St.get, slotGet, List.map_cons, List.map_nil, seval, AV.int.injEq, AV.bool.injEq, AV.l1.injEq, AV.l2.injEq, AV.l3.injEq, true_and, and_true]) (by simp only [killL, killA, killAs, qOf, rmT, killH, killT, List.filter_cons, List.filter_nil, List.contains_cons, List.contains_nil, Bool.or_false, Bool.or_true, Bool.false_and, Bool.not_true, Bool.not_false, Bool.false_eq_true, if_true, if_false, sortH, insH, rnHs, rnH, rnT, rn, rns, sw, List.map_cons, List.map_nil, seval])), .inl rfl, (by first | rfl | exact ⟨trivial, rfl⟩), (by simp [St.get, slotGet, argSlots]), rfl⟩
  · simp only [TLr, bxR, tlR, List.cons_append, List.nil_append, List.append_nil] at he ⊢
    refine OwnCall.intro (n := 10) (rs := []) 2 [0, 1] (X := [0, 2]) Try.call88 Try.func88 rfl rfl rfl (by simp only [List.length_cons, List.length_nil]; omega) (by simp [Aw.ids, rootsA, rootsAs, argSlots, slotGet]) (fun cx hcx => AT.weakG (ats_of ?_)); simp only [argSlots, Nat.zero_add, Nat.reduceAdd]
    (repeat refine ats_seq ?_); refine ats_go (by first | exact fix0 hcx | exact fix1 hcx rfl | exact fixN hcx rfl) fun K hK => ?_; simp only [go_sem, seval]; (repeat refine And.intro (by first | omega | (intro hq; first | omega | (simp at hq <;> omega) | (simp_all <;> omega))) ?_); refine hK _ ?_; clear hK K
    (repeat refine ats_seq ?_); refine ats_go (by first | exact fix0 hcx | exact fix1 hcx rfl | exact fixN hcx rfl) fun K hK => ?_; simp only [go_sem, seval]; (repeat refine And.intro (by first | omega | (intro hq; first | omega | (simp at hq <;> omega) | (simp_all <;> omega))) ?_); refine hK _ ?_; clear hK K
    (repeat refine ats_seq ?_); refine ats_go (by first | exact fix0 hcx | exact fix1 hcx rfl | exact fixN hcx rfl) fun K hK => ?_; simp only [go_sem, seval]; (repeat refine And.intro (by first | omega | (intro hq; first | omega | (simp at hq <;> omega) | (simp_all <;> omega))) ?_); refine hK _ ?_; clear hK K
    (repeat refine ats_seq ?_); refine ats_go (by first | exact fix0 hcx | exact fix1 hcx rfl | exact fixN hcx rfl) fun K hK => ?_; simp only [go_sem, seval]; (repeat refine And.intro (by first | omega | (intro hq; first | omega | (simp at hq <;> omega) | (simp_all <;> omega))) ?_); refine hK _ ?_; clear hK K
    (repeat refine ats_seq ?_); refine ats_go (by first | exact fix0 hcx | exact fix1 hcx rfl | exact fixN hcx rfl) fun K hK => ?_; simp only [go_sem, seval]
    refine fcall_box (he) (by simp [Aw.ids]) (by simp [find]) (by simp [closedT, killT, killAs, killA, outQ, Aw.ids]) (by simp [killAs, killA, outQ, Aw.ids]) (by simp [Aw.ids]) ?_; simp only [Aw.ids, List.map_cons, List.map_nil, List.filter_cons, List.filter_nil, List.contains_cons, List.contains_nil, Bool.or_false, Bool.or_true, Bool.not_true, Bool.not_false, Nat.reduceBEq, Bool.false_eq_true, if_true, if_false, List.cons_append, List.nil_append]; simp only [go_sem, seval]
    refine hK _ ?_; clear hK K
    refine id ⟨⟨[(0, .int n), (1, .fn fv [.bptr 0 0, .bptr 2 0])], [(0, .bx [.l3 a]), (2, .bx [.ref 7 []]), (7, .t3 M)]⟩, ghost_trans (ghost_drop [3, 4, 5, 6]) (ghost_can [] (by simp only [killL, killA, killAs, qOf, rmT, killH, killT, List.filter_cons, List.filter_nil, List.contains_cons, List.contains_nil, Bool.or_false, Bool.or_true, Bool.false_and, Bool.not_true, Bool.not_false, Bool.false_eq_true, if_true, if_false, rnLs, rnL, rn, rns, sw, SlotsLe, St.get, slotGet, List.map_cons, List.map_nil, seval, AV.int.injEq, AV.bool.injEq, AV.l1.injEq, AV.l2.injEq, AV.l3.injEq, true_and, and_true]) (by simp only [killL, killA, killAs, qOf, rmT, killH, killT, List.filter_cons, List.filter_nil, List.contains_cons, List.contains_nil, Bool.or_false, Bool.or_true, Bool.false_and, Bool.not_true, Bool.not_false, Bool.false_eq_true, if_true, if_false, sortH, insH, rnHs, rnH, rnT, rn, rns, sw, List.map_cons, List.map_nil, seval])), .inl rfl, (by first | rfl | exact ⟨trivial, rfl⟩), (by simp [St.get, slotGet, argSlots]), rfl⟩
end Go.Proofs.Ytkkgmjclfclaoaa
