import Derived.Test.YtjbdiekkjegckaaGreatJz1
import Derived.Test.YtjbdiekkjegckaaGreatDz2
set_option linter.unusedSimpArgs false
set_option linter.unusedVariables false
namespace Go.Proofs.YtjbdiekkjegckaaGreat
open Go Go.Aw Go.Pl
def PmB (n : Nat) (o : List Int) : Prop := o.length = n ∧ ∀ x ∈ o, 0 ≤ x ∧ x < n
theorem PmB.q {n : Nat} {o : List Int} (h : PmB n o) {i : Nat} (hi : i < n) : 0 ≤ o.getD i 0 ∧ o.getD i 0 < n := by
 have hl : i < o.length := by rw [h.1]; exact hi
 exact h.2 _ (by rw [List.getD_eq_getElem?_getD, List.getElem?_eq_getElem hl]; exact List.getElem_mem hl)
open Go.Pl
def xv_ (s : Src) : Tree := .bx [.lv (bsV s.code), .int s.pos, .ik .u64 s.h]
theorem yP_ {q : Nat → List Nat → Bool} {s : Src} : yF_ q (xv_ s) = xv_ s := by
 unfold xv_
 simp [yF_, xH_, xu_, yg_]
theorem Sj_ {f : Nat → Nat} {s : Src} : rnT f (xv_ s) = xv_ s := by
 unfold xv_
 simp [rnT, rns, rn, TB_]
theorem wk_ {H : List (Nat × Tree)} {R : List Nat} {s : Src} : RM_ H R (xv_ s) = xv_ s := by
 unfold xv_
 simp [RM_, Z8_, RL_, xu_, yg_]
attribute [go_sem] yP_ Sj_ wk_
attribute [simp] yP_ Sj_
theorem xp_ {P : Program} {H : List (Nat × Tree)} {f : FuncId} {args : List AV} {s s' : Src} {r : AV} {K : AV → List Nat → List Nat → List (Nat × Tree) → Prop} (h : OwnCall P f args [(0, xv_ s)] [(0, xv_ s')] r [0]) (hm : find H 0 = some (xv_ s)) (ha : xH_ (YV_ [(0, xv_ s)]) args = args)
  (k : K r [] [0] ((0, xv_ s') :: xD_ (qOf [] [0]) (rmT [0] H))) : Xv_ P H f args K :=
 zz_ h (by simp [Aw.ids]) (fun p hp => by simp only [List.mem_singleton] at hp; subst hp; exact hm) (fun p hp => by simp only [List.mem_singleton] at hp; subst hp; exact yP_) ha (by simp [Aw.ids]) k
theorem xW_ (s : Src) (hs : s.Ok) (n : Int) (hn : n ≤ 1099511627776) : OwnCall Tryz.prog 51 [.bptr 0 0, .int n] [(0, xv_ s)] [(0, xv_ (nx s n).2)] (.int (nx s n).1) [0] := Xi_ s hs n hn
theorem KN_ (c : List Int) (hl : c.length ≤ 1048576) (hb : ∀ i, i < c.length → 0 ≤ c.getD i 0 ∧ c.getD i 0 ≤ 255) : OwnCall Tryz.prog 24 [.lv (bsV c)] [] [(0, xv_ (frS c))] (.bptr 0 0) [] := RA_ c hl hb
theorem Sk_ (s : Src) (hs : s.Ok) (xs : List Int) (h1 : 1 ≤ xs.length) (h2 : xs.length ≤ 1048576) : OwnCall Tryz.prog 50 [.bptr 0 0, .ref 1 []]
  [(0, xv_ s), (1, .t1 xs)] [(0, xv_ (nx s xs.length).2), (1, .t1 xs)] (.int (xs.getD (nx s xs.length).1.toNat 0)) [0, 1] := by
 have hN := xW_ s hs xs.length (by omega)
 have hb := yO_ s (n := xs.length) (by omega)
 obtain ⟨r, er⟩ : ∃ r, nx s xs.length = r := ⟨_, rfl⟩
 rw [er] at hN hb ⊢
 refine OwnCall.intro (n := 12) (rs := [.tmp 4]) 2 [0, 1] (X := [0, 1]) Tryz.call50 Tryz.func50 rfl rfl rfl (by simp only [List.length_cons, List.length_nil]; omega) (by simp [Aw.ids, x3_, xQ_, xl_, xg_]) (fun cx hcx => AT.weakG (x2_ ?_)); refine gE ?_
 refine gBN ?_
 refine gCN fun K hK => ?_
 refine gU ?_
 refine xN_ (hN) (k := ?_); simp only [Aw.ids, go_sem, seval]
 refine gU ?_
 refine hK _ ?_; clear hK K
 refine xf_ ⟨⟨[(0, .bptr 0 0), (1, .ref 1 []), (4, .int (xs.getD r.1.toNat 0))], [(0, xv_ r.2), (1, .t1 xs)]⟩, xm_ [] [], .inr rfl, (by first | rfl | exact ⟨trivial, rfl⟩ | (simp only [y1_, zZ_, go_sem, seval]; done)), (by simp [St.get, xg_, xl_]), rfl⟩
theorem Yg_ (s : Src) (hs : s.Ok) (xs : List Int) (h1 : 1 ≤ xs.length) (h2 : xs.length ≤ 1048576) : OwnCall Tryz.prog 50 [.bptr 0 0, .ref 9 []]
  [(0, xv_ s), (9, .t1 xs)] [(0, xv_ (nx s xs.length).2), (9, .t1 xs)] (.int (xs.getD (nx s xs.length).1.toNat 0)) [0, 9] := by
 have hN := xW_ s hs xs.length (by omega)
 have hb := yO_ s (n := xs.length) (by omega)
 obtain ⟨r, er⟩ : ∃ r, nx s xs.length = r := ⟨_, rfl⟩
 rw [er] at hN hb ⊢
 refine OwnCall.intro (n := 12) (rs := [.tmp 4]) 2 [0, 1] (X := [0, 9]) Tryz.call50 Tryz.func50 rfl rfl rfl (by simp only [List.length_cons, List.length_nil]; omega) (by simp [Aw.ids, x3_, xQ_, xl_, xg_]) (fun cx hcx => AT.weakG (x2_ ?_)); refine gE ?_
 refine gBN ?_
 refine gCN fun K hK => ?_
 refine gU ?_
 refine xN_ (hN) (k := ?_); simp only [Aw.ids, go_sem, seval]
 refine gU ?_
 refine hK _ ?_; clear hK K
 refine xf_ ⟨⟨[(0, .bptr 0 0), (1, .ref 9 []), (4, .int (xs.getD r.1.toNat 0))], [(0, xv_ r.2), (9, .t1 xs)]⟩, xm_ [] [], .inr rfl, (by first | rfl | exact ⟨trivial, rfl⟩ | (simp only [y1_, zZ_, go_sem, seval]; done)), (by simp [St.get, xg_, xl_]), rfl⟩
end Go.Proofs.YtjbdiekkjegckaaGreat
namespace Go.Proofs.YtjbdiekkjegckaaGreat
open Go Go.Aw Go.Pl
theorem gK0 {X : Prop} (x : X := by simp only [yj_, List.map_cons, List.map_nil, xu_, xH_, yP_, yg_, qOf, rmT, xD_, zC_, List.filter_cons, List.filter_nil, List.contains_cons, List.contains_nil, xs_, St.get, xg_, Nat.reduceEqDiff, Nat.reduceBEq, Bool.or_false, Bool.or_true, Bool.false_and, Bool.not_true, Bool.not_false, Bool.false_eq_true, ↓reduceIte, if_true, if_false, AV.int.injEq, AV.bool.injEq, AV.l1.injEq, AV.l2.injEq, AV.l3.injEq, true_and, and_true]; omega) : X := x
theorem bf9 {X : Prop} (x : X := by simp only [yj_, List.map_cons, List.map_nil, xu_, xH_, yP_, yg_, qOf, rmT, xD_, zC_, List.filter_cons, List.filter_nil, List.contains_cons, List.contains_nil, xs_, St.get, xg_, Nat.reduceEqDiff, Nat.reduceBEq, Bool.or_false, Bool.or_true, Bool.false_and, Bool.not_true, Bool.not_false, Bool.false_eq_true, ↓reduceIte, if_true, if_false, AV.int.injEq, AV.bool.injEq, AV.l1.injEq, AV.l2.injEq, AV.l3.injEq, true_and, and_true]; (try rfl)) : X := x
theorem aG3 {X Y : Prop} (y : Y) (s : Hd Y → X := by intro hy; simp only [yj_, List.map_cons, List.map_nil, xu_, xH_, yP_, yg_, qOf, rmT, xD_, zC_, List.filter_cons, List.filter_nil, List.contains_cons, List.contains_nil, xs_, St.get, xg_, Nat.reduceEqDiff, Nat.reduceBEq, Bool.or_false, Bool.or_true, Bool.false_and, Bool.not_true, Bool.not_false, Bool.false_eq_true, ↓reduceIte, if_true, if_false, AV.int.injEq, AV.bool.injEq, AV.l1.injEq, AV.l2.injEq, AV.l3.injEq, true_and, and_true]; exact hy.y) : X := s ⟨y⟩
end Go.Proofs.YtjbdiekkjegckaaGreat
