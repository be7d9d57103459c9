import Derived.Test.YtjbdiekkjegckaaGreatHo
set_option linter.unusedSimpArgs false
set_option linter.unusedVariables false
namespace Go.Proofs.YtjbdiekkjegckaaGreat
open Go Go.Aw Go.Pl
theorem So_ {o : List Int} {m : Int} {w : List (List (List Int))} {c : List (List Int)} (h : Zl_ o m w c = true) : CocS o m w ∧ GridB w.length m c := by
 unfold Zl_ at h
 have := bd_iff.1 h
 exact ⟨this.1.1.1, this.1.2.1⟩
set_option maxRecDepth 100000 in
set_option maxHeartbeats 8000000 in
theorem KS_ (o : List Int) (m : Int) (w : List (List (List Int))) (c : List (List Int)) (o' : List Int) (m' : Int) (w' : List (List (List Int))) (c' : List (List Int)) (hl : o.length ≤ 1048576) : FreshCall Tryz.prog 19 [.agg [.l1 o, .int m, .l3 w, .l2 c], .agg [.l1 o', .int m', .l3 w', .l2 c']] (abA o m w c o' m' w' c') := by
 have hk := y3_ o m w c
 have hk' := y3_ o' m' w' c'
 unfold abA
 cases e1 : Zl_ o m w c with
 | false =>
  rw [e1] at hk
  rw [if_neg (fun h => by cases h.1)]
  refine gFC 29 [.cell 4 30, .tmp 5] Tryz.call19 Tryz.func19 fun cx hcx => gE ?_
  refine gA ?_
  refine gC fun K hK => ?_
  first | refine xc_ (hk) rfl ?_ | refine xd_ (xa_ (hk) rfl) ?_
  refine gW ?_
  refine xd_ (v := .bool false) (by first | trivial | (intro h; cases h)) ?_
  refine gV ?_
  refine hK _ ?_; clear hK K
  refine gR ?_
  refine gA ?_
  exact xf_ (Wj_ (v := .agg [.nil, .int 0, .nil, .nil]) (by simp only [go_sem, seval]) trivial rfl (by simp))
 | true =>
  rw [e1] at hk
  cases e2 : Zl_ o' m' w' c' with
  | false =>
   rw [e2] at hk'
   rw [if_neg (fun h => by cases h.2)]
   refine gFC 29 [.cell 4 30, .tmp 5] Tryz.call19 Tryz.func19 fun cx hcx => gE ?_
   refine gA ?_
   refine gC fun K hK => ?_
   first | refine xc_ (hk) rfl ?_ | refine xd_ (xa_ (hk) rfl) ?_
   refine gW ?_
   first | refine xc_ (hk') rfl ?_ | refine xd_ (xa_ (hk') rfl) ?_
   refine gW ?_
   refine hK _ ?_; clear hK K
   refine gR ?_
   refine gA ?_
   exact xf_ (Wj_ (v := .agg [.nil, .int 0, .nil, .nil]) (by simp only [go_sem, seval]) trivial rfl (by simp))
  | true =>
   rw [e2] at hk'
   rw [if_pos ⟨rfl, rfl⟩]
   obtain ⟨s1, b1⟩ := So_ e1
   obtain ⟨s2, b2⟩ := So_ e2
   refine gFC 29 [.cell 4 30, .tmp 5] Tryz.call19 Tryz.func19 fun cx hcx => gE ?_
   refine gA ?_
   refine gC fun K hK => ?_
   first | refine xc_ (hk) rfl ?_ | refine xd_ (xa_ (hk) rfl) ?_
   refine gW ?_
   first | refine xc_ (hk') rfl ?_ | refine xd_ (xa_ (hk') rfl) ?_
   refine gW ?_
   refine hK _ ?_; clear hK K
   refine gQ ?_
   refine xe_ ?_
   refine gC fun K hK => ?_
   refine gU ?_
   first | refine xc_ (Zi_ o m w o' m' w') rfl ?_ | refine xd_ (xa_ (Zi_ o m w o' m' w') rfl) ?_
   refine gW ?_
   refine hK _ ?_; clear hK K
   refine gI (fun hc => ?_) fun hc => ?_
   ·have hne : ¬ (o = o' ∧ m = m') := fun h => by rw [h.1, h.2] at hc; simp at hc
    rw [if_neg hne]
    refine gA ?_
    exact xf_ (Wj_ (v := .agg [.nil, .int 0, .nil, .nil]) (by simp only [go_sem, seval]) trivial rfl (by simp))
   ·have he : o = o' ∧ m = m' := by simpa using hc
    rw [if_pos he]
    obtain ⟨rfl, rfl⟩ := he
    have n8 := s1.n8
    have hw1 := s1.2.2.2.2.1
    have hn : w'.length = w.length := by
     have a2 := s2.2.2.2.2.1
     omega
    have hc2 := s2.2.2.2.2.2
    rw [hn] at hc2 b2
    have hg : gsz o = (w.length : Int) := by
     unfold gsz yG_
     rw [if_pos (xS_ s1.1), if_pos (by have := s1.2.1; omega)]
     omega
    have hA := Wp_ w.length o m w o w' s1.1 hg n8.1 n8.2 s1.2.2.1 s1.2.2.2.1 s1.2.2.2.2.2 hc2 hl
    have hB := VM_ w.length (sumW m w.length w w') o m w c o w' c' (by unfold sumW; rw [xL_]) n8.2 s1.2.2.1 s1.2.2.2.1 b1 b2
    refine xe_ ?_
    refine gC fun K hK => ?_
    refine gU ?_
    refine xq_ rfl (hA) rfl ?_; simp only [go_sem, seval]
    refine gU ?_
    refine zz_ (hB) (by simp [Aw.ids]) (by simp [find]) (by simp [zQ_, yF_, xH_, xu_, YV_, Aw.ids]) (by simp [xH_, xu_, YV_, Aw.ids]) (by simp [Aw.ids]) ?_; simp only [Aw.ids, List.map_cons, List.map_nil, List.filter_cons, List.filter_nil, List.contains_cons, List.contains_nil, Bool.or_false, Bool.or_true, Bool.not_true, Bool.not_false, Nat.reduceBEq, Bool.false_eq_true, if_true, if_false, List.cons_append, List.nil_append]; simp only [go_sem, seval]
    refine gU ?_
    refine hK _ ?_; clear hK K
    exact xf_ (Wj_ (v := .agg [.ref 3 [], .int m, .ref 4 [], .ref 5 []]) (by simp only [go_sem, seval]) trivial rfl (by simp))
end Go.Proofs.YtjbdiekkjegckaaGreat
