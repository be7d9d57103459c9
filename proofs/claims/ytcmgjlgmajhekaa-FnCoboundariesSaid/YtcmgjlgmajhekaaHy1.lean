import Derived.Test.YtcmgjlgmajhekaaWx1
import Derived.Test.YtcmgjlgmajhekaaHx1
set_option linter.unusedSimpArgs false
set_option linter.unusedVariables false
namespace Go.Proofs.Ytcmgjlgmajhekaa
open Go Go.Aw Go.Pl
theorem rep_nil2 {m : Mem} {v : Value} (h : rep m .nil v) : rep m (.l2 []) v := by
 simp only [rep] at h ⊢
 exact ⟨[], .inl ⟨⟨none, h⟩, rfl⟩, trivial⟩
theorem rep_nil3 {m : Mem} {v : Value} (h : rep m .nil v) : rep m (.l3 []) v := by
 simp only [rep] at h ⊢
 exact ⟨[], .inl ⟨⟨none, h⟩, rfl⟩, trivial⟩
structure AvLe (a b : AV) : Prop where
 rep : ∀ m v, rep m a v → rep m b v
 own : ∀ w fp v, ownR w fp a v → ownR w fp b v
theorem avLe_rfl (a : AV) : AvLe a a := ⟨fun _ _ h => h, fun _ _ _ h => h⟩
theorem avLe_nil1 : AvLe .nil (.l1 []) := ⟨fun _ _ h => rep_nil h, fun _ _ _ h => own_nil h⟩
theorem avLe_nil2 : AvLe .nil (.l2 []) := ⟨fun _ _ h => rep_nil2 h, fun w fp v h => by
 simp only [ownR] at h ⊢
 exact ⟨[], [], [], .inl ⟨h.2, rfl, rfl⟩, trivial, by simp [h.1]⟩⟩
theorem avLe_nil3 : AvLe .nil (.l3 []) := ⟨fun _ _ h => rep_nil3 h, fun w fp v h => by
 simp only [ownR] at h ⊢
 exact ⟨[], [], [], .inl ⟨h.2, rfl, rfl⟩, trivial, by simp [h.1]⟩⟩
structure AvsLe (a b : List AV) : Prop where
 rep : ∀ m v, reps m a v → reps m b v
 own : ∀ w fp v, ownRs w fp a v → ownRs w fp b v
theorem avsLe_rfl (a : List AV) : AvsLe a a := ⟨fun _ _ h => h, fun _ _ _ h => h⟩
theorem avsLe_cons {a b : AV} {xs ys : List AV} (h : AvLe a b) (hs : AvsLe xs ys) : AvsLe (a :: xs) (b :: ys) := by
 constructor
 ·intro m v hv
  simp only [reps] at hv ⊢
  obtain ⟨u, us', e, h1, h2⟩ := hv
  exact ⟨u, us', e, h.rep _ _ h1, hs.rep _ _ h2⟩
 ·intro w fp v hv
  simp only [ownRs] at hv ⊢
  obtain ⟨u, us', f, g, e1, e2, h1, h2⟩ := hv
  exact ⟨u, us', f, g, e1, e2, h.own _ _ _ h1, hs.own _ _ _ h2⟩
theorem avLe_agg {a b : List AV} (h : AvsLe a b) : AvLe (.agg a) (.agg b) := by
 constructor
 ·intro m v hv
  simp only [Aw.rep] at hv ⊢
  obtain ⟨us, e, h1⟩ := hv
  exact ⟨us, e, h.rep _ _ h1⟩
 ·intro w fp v hv
  simp only [ownR] at hv ⊢
  obtain ⟨us, e, h1⟩ := hv
  exact ⟨us, e, h.own _ _ _ h1⟩
theorem avLe_tup {a b : List AV} (h : AvsLe a b) : AvLe (.tup a) (.tup b) := by
 constructor
 ·intro m v hv
  simp only [Aw.rep] at hv ⊢
  obtain ⟨us, e, h1⟩ := hv
  exact ⟨us, e, h.rep _ _ h1⟩
 ·intro w fp v hv
  simp only [ownR] at hv ⊢
  obtain ⟨us, e, h1⟩ := hv
  exact ⟨us, e, h.own _ _ _ h1⟩
theorem pure_le {P : Program} {f : FuncId} {ds : List AV} {a b : AV} (h : PureCall P f ds a) (l : AvLe a b) : PureCall P f ds b :=
 ⟨h.enter, fun vs w S hS hd => (h.runs vs w S hS hd).mono fun e w' ⟨v, h1, h2, h3⟩ => ⟨v, h1, h2, by
  unfold Rd at h3 ⊢
  exact l.rep _ _ h3⟩⟩
theorem fresh_le {P : Program} {f : FuncId} {ds : List AV} {a b : AV} (h : FreshCall P f ds a) (l : AvLe a b) : FreshCall P f ds b :=
 ⟨h.enter, fun vs w S hS hd => (h.runs vs w S hS hd).mono fun e w' ⟨v, fp, h1, h2, h3, h4, h5⟩ => ⟨v, fp, h1, h2, l.own _ _ _ h3, h4, h5⟩⟩
end Go.Proofs.Ytcmgjlgmajhekaa
namespace Go.Proofs.Ytcmgjlgmajhekaa
open Go Go.Aw Go.Pl
theorem any_not {α : Type} {p : α → Bool} {xs : List α} (d : α) : xs.any p = false ↔ ∀ i, i < xs.length → p (xs.getD i d) = false := by
 rw [List.any_eq_false]
 constructor
 ·intro h i hi
  have := h (xs.getD i d) (by rw [List.getD_eq_getElem?_getD, List.getElem?_eq_getElem hi]; exact List.getElem_mem hi)
  simpa using this
 ·intro h x hx
  obtain ⟨i, hi, rfl⟩ := List.getElem_of_mem hx
  have := h i hi
  rw [List.getD_eq_getElem?_getD, List.getElem?_eq_getElem hi] at this
  simpa using this
def rowB (n m : Int) (r : List Int) : Bool := decide ((r.length : Int) = n) && !(r.any fun x => !(decide (0 ≤ x) && decide (x ≤ m - 1)))
def gridB (n m : Int) (g : List (List Int)) : Bool := decide ((g.length : Int) = n) && !(g.any fun r => !rowB n m r)
theorem rowB_iff {n : Nat} {m : Int} {r : List Int} : rowB n m r = true ↔ RowB n m r := by
 unfold rowB RowB
 rw [Bool.and_eq_true, decide_eq_true_eq, Bool.not_eq_true', any_not 0]
 constructor
 ·rintro ⟨h1, h2⟩
  refine ⟨by omega, fun k hk => ?_⟩
  have := h2 k (by omega)
  simpa using this
 ·rintro ⟨h1, h2⟩
  refine ⟨by omega, fun k hk => ?_⟩
  have := h2 k (by omega)
  simpa using this
theorem gridB_iff {n : Nat} {m : Int} {g : List (List Int)} : gridB n m g = true ↔ GridB n m g := by
 unfold gridB GridB
 rw [Bool.and_eq_true, decide_eq_true_eq, Bool.not_eq_true', any_not []]
 constructor
 ·rintro ⟨h1, h2⟩
  refine ⟨by omega, fun k hk => ?_⟩
  have := h2 k (by omega)
  exact rowB_iff.1 (by simpa using this)
 ·rintro ⟨h1, h2⟩
  refine ⟨by omega, fun k hk => ?_⟩
  have := rowB_iff.2 (h2 k (by omega))
  simpa using this
theorem isGrid1_ok (r : List Int) (n m : Int) (h1 : 1 ≤ m) (h2 : m ≤ 1000) : PureCall Try.prog 81 [.l1 r, .cptr [.int n] 0, .cptr [.int m] 0] (.bool (!rowB n m r)) := by
 have e : decide ((r.length : Int) ≠ n) = !decide ((r.length : Int) = n) := by by_cases h : (r.length : Int) = n <;> simp [h]
 refine PureCall.intro (n := 16) (rs := [.tmp 4]) Try.call81 Try.func81 rfl rfl rfl (by simp only [List.length_cons, List.length_nil]; omega) (fun cx hcx => ats_of ?_); simp only [argSlots, Nat.zero_add, Nat.reduceAdd]
 refine gB ?_
 refine gC fun K hK => ?_
 (repeat refine aI (hb := ?_))
 first | refine YR_intro (fun _ => acall_data (allWithin_ok r 0 (m - 1)) rfl) ?_ | refine YR_intro (acall_data (allWithin_ok r 0 (m - 1)) rfl) ?_
 simp only [go_sem, seval]
 (repeat refine aI (hb := ?_))
 refine hK _ ?_; clear hK K
 refine ats_ret (finB rfl ?_)
 unfold rowB
 by_cases h : (r.length : Int) = n <;> simp [h]
theorem isGrid_ok (g : List (List Int)) (n m : Int) (h1 : 1 ≤ m) (h2 : m ≤ 1000) : PureCall Try.prog 71 [.l2 g, .int n, .int m] (.bool (gridB n m g)) := by
 have hc := containsF2_ok g 81 [.cptr [.int n] 0, .cptr [.int m] 0] (fun r => !rowB n m r) rfl (fun r => isGrid1_ok r n m h1 h2)
 refine PureCall.intro (n := 17) (rs := [.tmp 6]) Try.call71 Try.func71 rfl rfl rfl (by simp only [List.length_cons, List.length_nil]; omega) (fun cx hcx => ats_of ?_); simp only [argSlots, Nat.zero_add, Nat.reduceAdd]
 refine gB ?_
 refine gC fun K hK => ?_
 (repeat refine aI (hb := ?_))
 first | refine YR_intro (fun _ => acall_free rfl rfl (hc)) ?_ | refine YR_intro (acall_free rfl rfl (hc)) ?_
 simp only [go_sem, seval]
 (repeat refine aI (hb := ?_))
 refine hK _ ?_; clear hK K
 refine ats_ret (finB rfl ?_)
 unfold gridB
 by_cases h : (g.length : Int) = n <;> simp [h]
theorem isCochain1_ok (g : List (List Int)) (n : Int) (o : List Int) (m : Int) (w : List (List (List Int))) (h1 : 1 ≤ m) (h2 : m ≤ 1000) : PureCall Try.prog 70 [.l2 g, .cptr [.int n] 0, .cptr [.l1 o, .int m, .l3 w] 0] (.bool (!gridB n m g)) := by
 refine PureCall.intro (n := 11) (rs := [.tmp 4]) Try.call70 Try.func70 rfl rfl rfl (by simp only [List.length_cons, List.length_nil]; omega) (fun cx hcx => ats_of ?_); simp only [argSlots, Nat.zero_add, Nat.reduceAdd]
 refine gB ?_
 refine gC fun K hK => ?_
 (repeat refine aI (hb := ?_))
 first | refine fcall_data (isGrid_ok g n m h1 h2) rfl ?_ | refine YR_intro (acall_data (isGrid_ok g n m h1 h2) rfl) ?_
 simp only [go_sem, seval]
 (repeat refine aI (hb := ?_))
 refine hK _ ?_; clear hK K
 refine ats_ret (finB rfl ?_)
 rfl
theorem indexF3c_ok (xs : List (List (List Int))) (f : Nat) (caps : List AV) (p : List (List Int) → Bool) (hd : areData caps = true) (hf : ∀ x, PureCall Try.prog f (.l2 x :: caps) (.bool (p x))) : PureCall Try.prog 79 [.l3 xs, .fn f caps] (.int (fidx p xs)) := by
 refine PureCall.intro (n := 19) (rs := [.tmp 4]) Try.call79 Try.func79 rfl rfl rfl (by simp only [List.length_cons, List.length_nil]; omega) (fun cx hcx => ats_of ?_); simp only [argSlots, Nat.zero_add, Nat.reduceAdd]
 refine gA ?_
 refine ats_know 0 fun h0 => ?_; simp only [St.get, slotGet, Nat.reduceEqDiff, ↓reduceIte, if_true, fact, facts] at h0
 have hlen := h0.1
 refine gA ?_
 (repeat refine ats_seq ?_); refine ats_loop (fun k : Nat => ⟨[(0, .l3 xs), (1, .fn f caps), (7, .int xs.length), (8, .int k)], []⟩) (fun k => k ≤ xs.length ∧ ∀ i, i < k → p (xs.getD i []) = false) (fun k => xs.length - k) 0 ⟨Nat.zero_le _, fun a h => absurd h (Nat.not_lt_zero a)⟩ (by
  refine And.intro ?_ rfl; simp only [leS, Nat.reduceEqDiff, ↓reduceIte, true_and, and_true]
  rfl) (fun k hk => ?_)
 obtain ⟨hk, hK'⟩ := hk
 refine gA ?_
 refine gI (fun h1 => ?_) fun h1 => ?_
 ·refine ats_skip ?_
  (repeat refine ats_seq ?_); refine ats_block ?_
  refine gA ?_
  refine gC fun K hK => ?_
  (repeat refine aI (hb := ?_))
  refine fcall_data (hf _) (by simp only [areData, Aw.isData, hd, Bool.and_true]) ?_
  simp only [go_sem, seval]
  refine hK _ ?_; clear hK K
  refine gI (fun h2 => ?_) fun h2 => ?_
  ·refine gA ?_
   refine ats_ret (finI rfl ?_)
   exact (fidx_some (d := []) (by omega) hK' h2).symm
  ·refine ats_skip ?_
   refine gB ?_
   refine ⟨k + 1,  ⟨by omega, fun a ha => by rcases Nat.lt_succ_iff_lt_or_eq.1 ha with h | rfl; exact hK' a h; exact h2⟩, by omega, .inl ⟨?_, rfl⟩⟩; simp only [leS, Nat.reduceEqDiff, ↓reduceIte, true_and, and_true]
   omega
 ·refine ats_exit (lq_x ?_)
  refine gA ?_
  refine ats_ret (finI rfl ?_)
  exact (fidx_none (d := []) (fun i hi => hK' i (by omega))).symm
theorem containsF3c_ok (xs : List (List (List Int))) (f : Nat) (caps : List AV) (p : List (List Int) → Bool) (hd : areData caps = true) (hf : ∀ x, PureCall Try.prog f (.l2 x :: caps) (.bool (p x))) : PureCall Try.prog 69 [.l3 xs, .fn f caps] (.bool (xs.any p)) := by
 refine PureCall.intro (n := 9) (rs := [.tmp 4]) Try.call69 Try.func69 rfl rfl rfl (by simp only [List.length_cons, List.length_nil]; omega) (fun cx hcx => ats_of ?_); simp only [argSlots, Nat.zero_add, Nat.reduceAdd]
 refine gA ?_
 refine gC fun K hK => ?_
 refine fcall_data (indexF3c_ok xs f caps p hd hf) (by simp only [areData, Aw.isData, hd, Bool.and_true]) ?_
 simp only [go_sem, seval]
 refine hK _ ?_; clear hK K
 refine ats_ret (finB rfl ?_)
 exact fidx_any
theorem isCochain_ok (o : List Int) (m : Int) (w : List (List (List Int))) : PureCall Try.prog 41 [.agg [.l1 o, .int m, .l3 w]] (.bool (bd (CocS o m w))) := by
 have hg := groupSize_ok o
 refine PureCall.intro (n := 28) (rs := [.tmp 2]) Try.call41 Try.func41 rfl rfl rfl (by simp only [List.length_cons, List.length_nil]; omega) (fun cx hcx => ats_of ?_); simp only [argSlots, Nat.zero_add, Nat.reduceAdd]
 refine gB ?_
 refine gC fun K hK => ?_
 (repeat refine aI (hb := ?_))
 first | refine fcall_data (hg) rfl ?_ | refine YR_intro (acall_data (hg) rfl) ?_
 simp only [go_sem, seval]
 (repeat refine aI (hb := ?_))
 refine hK _ ?_; clear hK K
 refine gC fun K hK => ?_
 (repeat refine aI (hb := ?_))
 first | refine fcall_data (within_ok (gsz o) 1 8) rfl ?_ | refine YR_intro (acall_data (within_ok (gsz o) 1 8) rfl) ?_
 simp only [go_sem, seval]
 (repeat refine aI (hb := ?_))
 first | refine YR_intro (fun _ => acall_data (isModulus_ok m) rfl) ?_ | refine YR_intro (acall_data (isModulus_ok m) rfl) ?_
 simp only [go_sem, seval]
 (repeat refine aI (hb := ?_))
 refine hK _ ?_; clear hK K
 refine gI (fun hc1 => ?_) fun hc1 => ?_
 ·refine gB ?_
  refine ats_ret (finB rfl ?_)
  refine (bd_false (fun h => ?_)).symm
  have e : gsz o = prodO o := by
   unfold gsz min17
   rw [if_pos (bd_true h.1), if_pos (by have := h.2.1; omega)]
  have a1 := prodO_pos h.1
  have a2 := h.2.1
  have a3 := h.2.2.1
  have a4 := h.2.2.2.1
  have a5 := h.2.2.2.2.1
  rw [e] at hc1
  simp at hc1
  omega
 ·have hh : ((1 ≤ gsz o ∧ gsz o ≤ 8) ∧ (1 ≤ m ∧ m ≤ 1000)) ∧ (w.length : Int) = gsz o := by simpa using hc1
  obtain ⟨⟨⟨g1, g8⟩, m1, m2⟩, hw⟩ := hh
  have hp : PosO o := by
   by_cases hp : PosO o
   ·exact hp
   ·unfold gsz at g1
    rw [bd_false hp] at g1
    exact absurd g1 (by simp)
  have e : gsz o = prodO o := by
   have h1 : gsz o = min17 (prodO o) := by unfold gsz; rw [if_pos (bd_true hp)]
   rw [h1] at g8 ⊢
   unfold min17 at g8 ⊢
   by_cases hh : prodO o ≤ 17
   ·exact if_pos hh
   ·rw [if_neg hh] at g8; omega
  have hc := containsF3c_ok w 70 [.cptr [.int (gsz o)] 0, .cptr [.l1 o, .int m, .l3 w] 0] (fun g => !gridB (gsz o) m g) rfl (fun g => isCochain1_ok g (gsz o) o m w m1 m2)
  refine ats_skip ?_
  refine gC fun K hK => ?_
  (repeat refine aI (hb := ?_))
  first | refine fcall_free rfl rfl (hc) ?_ | refine YR_intro (acall_free rfl rfl (hc)) ?_
  simp only [go_sem, seval]
  (repeat refine aI (hb := ?_))
  refine hK _ ?_; clear hK K
  refine ats_ret (finB rfl ?_)
  rw [← hw]
  cases hv : w.any fun g => !gridB w.length m g with
  | false =>
   refine (bd_true ⟨hp, by omega, m1, m2, by omega, rfl, fun i hi => ?_⟩).symm
   have := (any_not []).1 hv i hi
   exact gridB_iff.1 (by simpa using this)
  | true =>
   refine (bd_false (fun h => ?_)).symm
   have : (w.any fun g => !gridB w.length m g) = false := by
    rw [any_not []]
    intro i hi
    have := gridB_iff.2 (h.2.2.2.2.2.2 i hi)
    simpa using this
   rw [this] at hv
   cases hv
set_option maxHeartbeats 2000000 in
theorem isNormalised_ok (o : List Int) (m : Int) (w : List (List (List Int))) (h : CocS o m w) : PureCall Try.prog 42 [.agg [.l1 o, .int m, .l3 w]] (.bool (bd (NormW w))) := by
 have n8 := h.n8
 have hc := h.2.2.2.2.2
 refine PureCall.intro (n := 48) (rs := [.tmp 2]) Try.call42 Try.func42 rfl rfl rfl (by simp only [List.length_cons, List.length_nil]; omega) (fun cx hcx => ats_of ?_); simp only [argSlots, Nat.zero_add, Nat.reduceAdd]
 refine gB ?_
 refine gB ?_
 (repeat refine ats_seq ?_); refine ats_loop (fun i : Nat => ⟨[(1, .bptr 0 0), (10, .l3 w), (11, .int w.length), (12, .int i)], [(0, .bx [.l1 o, .int m, .l3 w])]⟩) (fun i => i ≤ w.length ∧ ∀ b, b < i → ∀ j, j < w.length → ∀ k, k < w.length → e3 w b j k ≠ 0 → ¬ (b = 0 ∨ j = 0 ∨ k = 0)) (fun i => w.length - i) 0 ⟨Nat.zero_le _, fun a h => absurd h (Nat.not_lt_zero a)⟩ (by refine And.intro ?_ rfl; simp only [leS, Nat.reduceEqDiff, ↓reduceIte, true_and, and_true]; rfl) (fun i hi => ?_); obtain ⟨hi, Hi⟩ := hi
 refine gB ?_
 refine gI (fun hc2 => ?_) fun hc2 => ?_
 ·have mi := hc.mat (show i < w.length by omega)
  refine ats_skip ?_
  (repeat refine ats_seq ?_); refine ats_block ?_
  refine gB ?_
  refine gB ?_
  rw [mi]
  (repeat refine ats_seq ?_); refine ats_loop (fun j : Nat => ⟨[(1, .bptr 0 0), (3, .int i), (10, .l3 w), (11, .int w.length), (12, .int i), (17, .l2 (w.getD i [])), (18, .int w.length), (19, .int j)], [(0, .bx [.l1 o, .int m, .l3 w])]⟩) (fun j => j ≤ w.length ∧ ∀ b, b < j → ∀ k, k < w.length → e3 w i b k ≠ 0 → ¬ (i = 0 ∨ b = 0 ∨ k = 0)) (fun j => w.length - j) 0 ⟨Nat.zero_le _, fun a h => absurd h (Nat.not_lt_zero a)⟩ (by refine And.intro ?_ rfl; simp only [leS, Nat.reduceEqDiff, ↓reduceIte, true_and, and_true]; rfl) (fun j hj => ?_); obtain ⟨hj, Hj⟩ := hj
  refine gB ?_
  refine gI (fun hc4 => ?_) fun hc4 => ?_
  ·have rij := hc.row (show i < w.length by omega) (show j < w.length by omega)
   refine ats_skip ?_
   (repeat refine ats_seq ?_); refine ats_block ?_
   refine gB ?_
   refine gB ?_
   rw [rij]
   (repeat refine ats_seq ?_); refine ats_loop (fun k : Nat => ⟨[(1, .bptr 0 0), (3, .int i), (5, .int j), (10, .l3 w), (11, .int w.length), (12, .int i), (17, .l2 (w.getD i [])), (18, .int w.length), (19, .int j), (24, .l1 ((w.getD i []).getD j [])), (25, .int w.length), (26, .int k)], [(0, .bx [.l1 o, .int m, .l3 w])]⟩) (fun k => k ≤ w.length ∧ ∀ b, b < k → e3 w i j b ≠ 0 → ¬ (i = 0 ∨ j = 0 ∨ b = 0)) (fun k => w.length - k) 0 ⟨Nat.zero_le _, fun a h => absurd h (Nat.not_lt_zero a)⟩ (by refine And.intro ?_ rfl; simp only [leS, Nat.reduceEqDiff, ↓reduceIte, true_and, and_true]; rfl) (fun k hk => ?_); obtain ⟨hk, Hk⟩ := hk
   refine gB ?_
   refine gI (fun hc6 => ?_) fun hc6 => ?_
   ·refine ats_skip ?_
    (repeat refine ats_seq ?_); refine ats_block ?_
    refine gB ?_
    refine gB ?_
    refine gI (fun hc7 => ?_) fun hc7 => ?_
    ·refine gB ?_
     refine ats_ret (finB rfl ?_)
     refine (bd_false (fun h => ?_)).symm
     simp [-List.getD_eq_getElem?_getD] at hc7
     have a1 := h j (by omega) k (by omega)
     have a2 := h i (by omega) k (by omega)
     have a3 := h i (by omega) j (by omega)
     rcases hc7 with ⟨hn, (rfl | rfl) | rfl⟩
     ·exact hn a1.1
     ·exact hn a2.2.1
     ·exact hn a3.2.2
    ·have hb : e3 w i j k ≠ 0 → ¬ (i = 0 ∨ j = 0 ∨ k = 0) := by
      simp [-List.getD_eq_getElem?_getD] at hc7
      intro hn
      have := hc7 hn
      omega
     refine ats_skip ?_
     refine gB ?_
     refine ⟨k + 1, ⟨by omega, fun a ha => by rcases Nat.lt_succ_iff_lt_or_eq.1 ha with h | rfl; exact Hk a h; exact hb⟩, by omega, .inl ⟨?_, rfl⟩⟩; simp only [leS, Nat.reduceEqDiff, ↓reduceIte, true_and, and_true]; omega
   ·refine ats_exit (lq_x (ats_nil (bq_n ?_)))
    refine gB ?_
    refine ⟨j + 1, ⟨by omega, fun a ha => by rcases Nat.lt_succ_iff_lt_or_eq.1 ha with h | rfl; exact Hj a h; exact fun k hk => Hk k (by omega)⟩, by omega, .inl ⟨?_, rfl⟩⟩; simp only [leS, Nat.reduceEqDiff, ↓reduceIte, true_and, and_true]; omega
  ·refine ats_exit (lq_x (ats_nil (bq_n ?_)))
   refine gB ?_
   refine ⟨i + 1, ⟨by omega, fun a ha => by rcases Nat.lt_succ_iff_lt_or_eq.1 ha with h | rfl; exact Hi a h; exact fun j hj => Hj j (by omega)⟩, by omega, .inl ⟨?_, rfl⟩⟩; simp only [leS, Nat.reduceEqDiff, ↓reduceIte, true_and, and_true]; omega
 ·refine ats_exit (lq_x ?_)
  refine gB ?_
  refine ats_ret (finB rfl ?_)
  refine (bd_true fun i hi j hj => ⟨?_, ?_, ?_⟩).symm
  ·exact Classical.byContradiction fun hn => Hi 0 (by omega) i hi j hj hn (.inl rfl)
  ·exact Classical.byContradiction fun hn => Hi i (by omega) 0 (by omega) j hj hn (.inr (.inl rfl))
  ·exact Classical.byContradiction fun hn => Hi i (by omega) j hj 0 (by omega) hn (.inr (.inr rfl))
theorem plus_ok (o : List Int) (m : Int) (w : List (List (List Int))) (h : PosO o) (h8 : prodO o ≤ 8) (x y : Nat) (hx : x ≤ 8) (hy : y ≤ 8) : PureCall Try.prog 35 [.agg [.l1 o, .int m, .l3 w], .int x, .int y] (.int (ad o x y)) := by
 refine PureCall.intro (n := 12) (rs := [.tmp 6]) Try.call35 Try.func35 rfl rfl rfl (by simp only [List.length_cons, List.length_nil]; omega) (fun cx hcx => ats_of ?_); simp only [argSlots, Nat.zero_add, Nat.reduceAdd]
 refine gB ?_
 refine gC fun K hK => ?_
 (repeat refine aI (hb := ?_))
 first | refine fcall_data (addElements_ok o h h8 x y hx hy) rfl ?_ | refine YR_intro (acall_data (addElements_ok o h h8 x y hx hy) rfl) ?_
 simp only [go_sem, seval]
 (repeat refine aI (hb := ?_))
 refine hK _ ?_; clear hK K
 refine ats_ret (finI rfl ?_)
 rfl
end Go.Proofs.Ytcmgjlgmajhekaa
