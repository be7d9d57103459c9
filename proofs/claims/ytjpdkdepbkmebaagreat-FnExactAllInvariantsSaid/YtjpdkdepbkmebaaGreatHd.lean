import Derived.Test.YtjpdkdepbkmebaaGreatWx1
set_option linter.unusedSimpArgs false
set_option linter.unusedVariables false
namespace Go.Proofs.YtjpdkdepbkmebaaGreat
open Go Go.Aw Go.Pl
theorem marks_getD {α : Type} {f : α → Int → α} {n : α → Nat} {d : α} {k : Int} {xs : List α} {i : Nat} (h : i < xs.length) : (marks f n k xs).getD i d = f (xs.getD i d) (k + tot n (xs.take i)) := by
 rw [List.getD, marks_get (d := d) h]; rfl
theorem heldInt64SS_ok (xs : List (List Int)) (k : Int) (h0 : 0 ≤ k) (h1 : k + (tot2 xs : Nat) ≤ 9223372036854775807) : PureCall Tryz.prog 31 [.l2 (mrk2 xs k), .int k] (.int (k + (tot2 xs : Nat))) := by
 have hml : (mrk2 xs k).length = xs.length := marks_length ..
 refine PureCall.intro (n := 21) (rs := [.tmp 4]) Tryz.call31 Tryz.func31 rfl rfl rfl (by simp only [List.length_cons, List.length_nil]; omega) (fun cx hcx => ats_of ?_); simp only [argSlots, Nat.zero_add, Nat.reduceAdd]
 refine gA ?_
 refine ats_know 0 fun h2 => ?_; simp only [St.get, slotGet, Nat.reduceEqDiff, ↓reduceIte, if_true, fact, facts] at h2
 have h3 := h2.1
 rw [hml] at h3
 refine gA ?_
 (repeat refine ats_seq ?_); refine ats_loop (fun i : Nat => ⟨[(0, .l2 (mrk2 xs k)), (1, .int (k + (tot List.length (xs.take i) : Nat))), (5, .int i)], []⟩) (fun i => i ≤ xs.length) (fun i => xs.length - i) 0 (Nat.zero_le _) (by
  refine And.intro ?_ rfl
  simp only [SlotsLe, St.get, slotGet, Nat.reduceEqDiff, ↓reduceIte, true_and, and_true, AV.int.injEq, List.take_zero, tot]
  omega) (fun i hi => ?_)
 refine gC fun K hK => ?_
 simp only [hml]
 refine hK _ ?_; clear hK K
 refine gI (fun hc => ?_) fun hc => ?_
 ·have hst := tot_step (n := List.length) (d := ([] : List Int)) (i := i) (xs := xs) (by omega)
  have hle := tot_take_le (n := List.length) (i + 1) xs
  have hg : (mrk2 xs k).getD i [] = up (k + (tot List.length (xs.take i) : Nat)) (xs.getD i []).length := marks_getD (by omega)
  unfold tot2 at h1
  refine ats_skip ?_
  (repeat refine ats_seq ?_); refine ats_block ?_
  refine gC fun K hK => ?_
  simp only [hml, hg]
  (repeat refine aI (hb := ?_))
  first | refine fcall_data (heldInt64S_ok _ _ (by omega) (by omega)) rfl ?_ | refine YR_intro (acall_data (heldInt64S_ok _ _ (by omega) (by omega)) rfl) ?_
  simp only [go_sem, seval]
  refine hK _ ?_; clear hK K
  refine gA ?_
  refine gI (fun h5 => ?_) fun h5 => ?_
  ·omega
  ·refine ats_skip ?_
   refine gB ?_
   refine ⟨i + 1,  by omega, by omega, .inl ⟨?_, rfl⟩⟩; simp only [leS, Nat.reduceEqDiff, ↓reduceIte, true_and, and_true]
   omega
 ·obtain rfl : i = xs.length := by omega
  refine ats_exit (lq_x ?_)
  refine gA ?_
  refine ats_ret (finI rfl ?_)
  rw [List.take_length]; rfl
theorem heldInt64SSS_ok (xs : List (List (List Int))) (k : Int) (h0 : 0 ≤ k) (h1 : k + (tot3 xs : Nat) ≤ 9223372036854775807) : PureCall Tryz.prog 12 [.l3 (mrk3 xs k), .int k] (.int (k + (tot3 xs : Nat))) := by
 have hml : (mrk3 xs k).length = xs.length := marks_length ..
 refine PureCall.intro (n := 21) (rs := [.tmp 4]) Tryz.call12 Tryz.func12 rfl rfl rfl (by simp only [List.length_cons, List.length_nil]; omega) (fun cx hcx => ats_of ?_); simp only [argSlots, Nat.zero_add, Nat.reduceAdd]
 refine gA ?_
 refine ats_know 0 fun h2 => ?_; simp only [St.get, slotGet, Nat.reduceEqDiff, ↓reduceIte, if_true, fact, facts] at h2
 have h3 := h2.1
 rw [hml] at h3
 refine gA ?_
 (repeat refine ats_seq ?_); refine ats_loop (fun i : Nat => ⟨[(0, .l3 (mrk3 xs k)), (1, .int (k + (tot (tot List.length) (xs.take i) : Nat))), (5, .int i)], []⟩) (fun i => i ≤ xs.length) (fun i => xs.length - i) 0 (Nat.zero_le _) (by
  refine And.intro ?_ rfl
  simp only [SlotsLe, St.get, slotGet, Nat.reduceEqDiff, ↓reduceIte, true_and, and_true, AV.int.injEq, List.take_zero, tot]
  omega) (fun i hi => ?_)
 refine gC fun K hK => ?_
 simp only [hml]
 refine hK _ ?_; clear hK K
 refine gI (fun hc => ?_) fun hc => ?_
 ·have hst := tot_step (n := (tot List.length)) (d := ([] : List (List Int))) (i := i) (xs := xs) (by omega)
  have hle := tot_take_le (n := (tot List.length)) (i + 1) xs
  have hg : (mrk3 xs k).getD i [] = mrk2 (xs.getD i []) (k + (tot (tot List.length) (xs.take i) : Nat)) := marks_getD (by omega)
  unfold tot3 at h1
  have hh := heldInt64SS_ok (xs.getD i []) (k + (tot (tot List.length) (xs.take i) : Nat)) (by omega) (by unfold tot2; omega)
  unfold tot2 at hh
  refine ats_skip ?_
  (repeat refine ats_seq ?_); refine ats_block ?_
  refine gC fun K hK => ?_
  simp only [hml, hg]
  (repeat refine aI (hb := ?_))
  first | refine fcall_data (hh) rfl ?_ | refine YR_intro (acall_data (hh) rfl) ?_
  simp only [go_sem, seval]
  refine hK _ ?_; clear hK K
  refine gA ?_
  refine gI (fun h5 => ?_) fun h5 => ?_
  ·omega
  ·refine ats_skip ?_
   refine gB ?_
   refine ⟨i + 1,  by omega, by omega, .inl ⟨?_, rfl⟩⟩; simp only [leS, Nat.reduceEqDiff, ↓reduceIte, true_and, and_true]
   omega
 ·obtain rfl : i = xs.length := by omega
  refine ats_exit (lq_x ?_)
  refine gA ?_
  refine ats_ret (finI rfl ?_)
  rw [List.take_length]; rfl
theorem rep_nil3 {m : Mem} {v : Value} (h : rep m .nil v) : rep m (.l3 []) v := by
 simp only [rep] at h ⊢
 exact ⟨[], .inl ⟨⟨none, h⟩, rfl⟩, trivial⟩
structure AvLe (a b : AV) : Prop where
 rep : ∀ m v, rep m a v → rep m b v
 own : ∀ w fp v, ownR w fp a v → ownR w fp b v
theorem avLe_rfl (a : AV) : AvLe a a := ⟨fun _ _ h => h, fun _ _ _ h => h⟩
theorem avLe_nil3 : AvLe .nil (.l3 []) := ⟨fun _ _ h => rep_nil3 h, fun w fp v h => by
 simp only [ownR] at h ⊢
 exact ⟨[], [], [], .inl ⟨h.2, rfl, rfl⟩, trivial, by simp [h.1]⟩⟩
structure AvsLe (a b : List AV) : Prop where
 rep : ∀ m v, reps m a v → reps m b v
 own : ∀ w fp v, ownRs w fp a v → ownRs w fp b v
theorem avsLe_rfl (a : List AV) : AvsLe a a := ⟨fun _ _ h => h, fun _ _ _ h => h⟩
theorem avsLe_cons {a b : AV} {xs ys : List AV} (h : AvLe a b) (hs : AvsLe xs ys) : AvsLe (a :: xs) (b :: ys) := by
 constructor
 ·intro m v hv
  simp only [reps] at hv ⊢
  obtain ⟨u, us', e, h1, h2⟩ := hv
  exact ⟨u, us', e, h.rep _ _ h1, hs.rep _ _ h2⟩
 ·intro w fp v hv
  simp only [ownRs] at hv ⊢
  obtain ⟨u, us', f, g, e1, e2, h1, h2⟩ := hv
  exact ⟨u, us', f, g, e1, e2, h.own _ _ _ h1, hs.own _ _ _ h2⟩
theorem avLe_tup {a b : List AV} (h : AvsLe a b) : AvLe (.tup a) (.tup b) := by
 constructor
 ·intro m v hv
  simp only [Aw.rep] at hv ⊢
  obtain ⟨us, e, h1⟩ := hv
  exact ⟨us, e, h.rep _ _ h1⟩
 ·intro w fp v hv
  simp only [ownR] at hv ⊢
  obtain ⟨us, e, h1⟩ := hv
  exact ⟨us, e, h.own _ _ _ h1⟩
theorem pure_le {P : Program} {f : FuncId} {ds : List AV} {a b : AV} (h : PureCall P f ds a) (l : AvLe a b) : PureCall P f ds b :=
 ⟨h.enter, fun vs w S hS hd => (h.runs vs w S hS hd).mono fun e w' ⟨v, h1, h2, h3⟩ => ⟨v, h1, h2, by
  unfold Rd at h3 ⊢
  exact l.rep _ _ h3⟩⟩
theorem fresh_le {P : Program} {f : FuncId} {ds : List AV} {a b : AV} (h : FreshCall P f ds a) (l : AvLe a b) : FreshCall P f ds b :=
 ⟨h.enter, fun vs w S hS hd => (h.runs vs w S hS hd).mono fun e w' ⟨v, fp, h1, h2, h3, h4, h5⟩ => ⟨v, fp, h1, h2, l.own _ _ _ h3, h4, h5⟩⟩
end Go.Proofs.YtjpdkdepbkmebaaGreat
