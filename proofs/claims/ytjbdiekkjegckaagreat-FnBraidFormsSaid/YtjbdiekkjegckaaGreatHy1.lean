import Derived.Test.YtjbdiekkjegckaaGreatHx1
set_option linter.unusedSimpArgs false
set_option linter.unusedVariables false
namespace Go.Proofs.YtjbdiekkjegckaaGreat
open Go Go.Aw Go.Pl
structure AvLe (a b : AV) : Prop where
 rep : ∀ m v, rep m a v → rep m b v
 own : ∀ w fp v, ownR w fp a v → ownR w fp b v
theorem ae9 (a : AV) : AvLe a a := ⟨fun _ _ h => h, fun _ _ _ h => h⟩
theorem Ya_ : AvLe .nil (.l1 []) := ⟨fun _ _ h => as8 h, fun _ _ _ h => as7 h⟩
structure AvsLe (a b : List AV) : Prop where
 rep : ∀ m v, reps m a v → reps m b v
 own : ∀ w fp v, ownRs w fp a v → ownRs w fp b v
theorem Yb_ (a : List AV) : AvsLe a a := ⟨fun _ _ h => h, fun _ _ _ h => h⟩
theorem zN_ {a b : AV} {xs ys : List AV} (h : AvLe a b) (hs : AvsLe xs ys) : AvsLe (a :: xs) (b :: ys) := by
 constructor
 ·intro m v hv
  simp only [reps] at hv ⊢
  obtain ⟨u, us', e, h1, h2⟩ := hv
  exact ⟨u, us', e, h.rep _ _ h1, hs.rep _ _ h2⟩
 ·intro w fp v hv
  simp only [ownRs] at hv ⊢
  obtain ⟨u, us', f, g, e1, e2, h1, h2⟩ := hv
  exact ⟨u, us', f, g, e1, e2, h.own _ _ _ h1, hs.own _ _ _ h2⟩
theorem af0 {a b : List AV} (h : AvsLe a b) : AvLe (.agg a) (.agg b) := by
 constructor
 ·intro m v hv
  simp only [Aw.rep] at hv ⊢
  obtain ⟨us, e, h1⟩ := hv
  exact ⟨us, e, h.rep _ _ h1⟩
 ·intro w fp v hv
  simp only [ownR] at hv ⊢
  obtain ⟨us, e, h1⟩ := hv
  exact ⟨us, e, h.own _ _ _ h1⟩
theorem Vx_ {a b : List AV} (h : AvsLe a b) : AvLe (.tup a) (.tup b) := by
 constructor
 ·intro m v hv
  simp only [Aw.rep] at hv ⊢
  obtain ⟨us, e, h1⟩ := hv
  exact ⟨us, e, h.rep _ _ h1⟩
 ·intro w fp v hv
  simp only [ownR] at hv ⊢
  obtain ⟨us, e, h1⟩ := hv
  exact ⟨us, e, h.own _ _ _ h1⟩
theorem Vy_ {P : Program} {f : FuncId} {ds : List AV} {a b : AV} (h : PureCall P f ds a) (l : AvLe a b) : PureCall P f ds b :=
 ⟨h.enter, fun vs w S hS hd => (h.runs vs w S hS hd).mono fun e w' ⟨v, h1, h2, h3⟩ => ⟨v, h1, h2, by
  unfold Rd at h3 ⊢
  exact l.rep _ _ h3⟩⟩
theorem Y9_ {P : Program} {f : FuncId} {ds : List AV} {a b : AV} (h : FreshCall P f ds a) (l : AvLe a b) : FreshCall P f ds b :=
 ⟨h.enter, fun vs w S hS hd => (h.runs vs w S hS hd).mono fun e w' ⟨v, fp, h1, h2, h3, h4, h5⟩ => ⟨v, fp, h1, h2, l.own _ _ _ h3, h4, h5⟩⟩
open Go.Pl
theorem w1_ {α : Type} {p : α → Bool} {xs : List α} (d : α) : xs.any p = false ↔ ∀ i, i < xs.length → p (xs.getD i d) = false := by
 rw [List.any_eq_false]
 constructor
 ·intro h i hi
  have := h (xs.getD i d) (by rw [List.getD_eq_getElem?_getD, List.getElem?_eq_getElem hi]; exact List.getElem_mem hi)
  simpa using this
 ·intro h x hx
  obtain ⟨i, hi, rfl⟩ := List.getElem_of_mem hx
  have := h i hi
  rw [List.getD_eq_getElem?_getD, List.getElem?_eq_getElem hi] at this
  simpa using this
def rowB (n m : Int) (r : List Int) : Bool := decide ((r.length : Int) = n) && !(r.any fun x => !(decide (0 ≤ x) && decide (x ≤ m - 1)))
def Vz_ (n m : Int) (g : List (List Int)) : Bool := decide ((g.length : Int) = n) && !(g.any fun r => !rowB n m r)
theorem rowB_iff {n : Nat} {m : Int} {r : List Int} : rowB n m r = true ↔ aw1 n m r := by
 unfold rowB aw1
 rw [Bool.and_eq_true, decide_eq_true_eq, Bool.not_eq_true', w1_ 0]
 constructor
 ·rintro ⟨h1, h2⟩
  refine ⟨by omega, fun k hk => ?_⟩
  have := h2 k (by omega)
  simpa using this
 ·rintro ⟨h1, h2⟩
  refine ⟨by omega, fun k hk => ?_⟩
  have := h2 k (by omega)
  simpa using this
theorem gridB_iff {n : Nat} {m : Int} {g : List (List Int)} : Vz_ n m g = true ↔ GridB n m g := by
 unfold Vz_ GridB
 rw [Bool.and_eq_true, decide_eq_true_eq, Bool.not_eq_true', w1_ []]
 constructor
 ·rintro ⟨h1, h2⟩
  refine ⟨by omega, fun k hk => ?_⟩
  have := h2 k (by omega)
  exact rowB_iff.1 (by simpa using this)
 ·rintro ⟨h1, h2⟩
  refine ⟨by omega, fun k hk => ?_⟩
  have := rowB_iff.2 (h2 k (by omega))
  simpa using this
theorem Ry_ (r : List Int) (n m : Int) (h1 : 1 ≤ m) (h2 : m ≤ 1000) : PureCall Tryz.prog 117 [.l1 r, .cptr [.int n] 0, .cptr [.int m] 0] (.bool (!rowB n m r)) := by
 have e : decide ((r.length : Int) ≠ n) = !decide ((r.length : Int) = n) := by by_cases h : (r.length : Int) = n <;> simp [h]
 refine gPC 16 [.tmp 4] Tryz.call117 Tryz.func117 fun cx hcx => gE ?_
 refine gB ?_
 refine gC fun K hK => ?_
 refine gU ?_
 first | refine xd_ (fun _ => xa_ (zA_ r 0 (m - 1)) rfl) ?_ | refine xd_ (xa_ (zA_ r 0 (m - 1)) rfl) ?_
 refine gW ?_
 refine hK _ ?_; clear hK K
 refine xf_ (yu_ rfl ?_)
 unfold rowB
 by_cases h : (r.length : Int) = n <;> simp [h]
theorem Z0_ (g : List (List Int)) (n m : Int) (h1 : 1 ≤ m) (h2 : m ≤ 1000) : PureCall Tryz.prog 97 [.l2 g, .int n, .int m] (.bool (Vz_ n m g)) := by
 have hc := Vw_ g 117 [.cptr [.int n] 0, .cptr [.int m] 0] (fun r => !rowB n m r) rfl (fun r => Ry_ r n m h1 h2)
 refine gPC 17 [.tmp 6] Tryz.call97 Tryz.func97 fun cx hcx => gE ?_
 refine gB ?_
 refine gC fun K hK => ?_
 refine gU ?_
 first | refine xd_ (fun _ => xR_ rfl rfl (hc)) ?_ | refine xd_ (xR_ rfl rfl (hc)) ?_
 refine gW ?_
 refine hK _ ?_; clear hK K
 refine xf_ (yu_ rfl ?_)
 unfold Vz_
 by_cases h : (g.length : Int) = n <;> simp [h]
theorem VA_ (g : List (List Int)) (n : Int) (o : List Int) (m : Int) (w : List (List (List Int))) (h1 : 1 ≤ m) (h2 : m ≤ 1000) : PureCall Tryz.prog 120 [.l2 g, .cptr [.int n] 0, .cptr [.l1 o, .int m, .l3 w] 0] (.bool (!Vz_ n m g)) := by
 refine gPC 11 [.tmp 4] Tryz.call120 Tryz.func120 fun cx hcx => gE ?_
 refine gB ?_
 refine gC fun K hK => ?_
 refine gU ?_
 first | refine xc_ (Z0_ g n m h1 h2) rfl ?_ | refine xd_ (xa_ (Z0_ g n m h1 h2) rfl) ?_
 refine gW ?_
 refine hK _ ?_; clear hK K
 refine xf_ (yu_ rfl ?_)
 rfl
theorem Tv_ (xs : List (List (List Int))) (f : Nat) (caps : List AV) (p : List (List Int) → Bool) (hd : x1_ caps = true) (hf : ∀ x, PureCall Tryz.prog f (.l2 x :: caps) (.bool (p x))) : PureCall Tryz.prog 125 [.l3 xs, .fn f caps] (.int (RF_ p xs)) := by
 refine gPC 19 [.tmp 4] Tryz.call125 Tryz.func125 fun cx hcx => gE ?_
 refine gA ?_
 refine zp_ 0 fun h0 => ?_; simp only [St.get, xg_, Nat.reduceEqDiff, ↓reduceIte, if_true, fact, facts] at h0
 have hlen := h0.1
 refine gA ?_
 (repeat refine xb_ ?_); refine xt_ (fun k : Nat => ⟨[(0, .l3 xs), (1, .fn f caps), (7, .int xs.length), (8, .int k)], []⟩) (fun k => k ≤ xs.length ∧ ∀ i, i < k → p (xs.getD i []) = false) (fun k => xs.length - k) 0 ⟨Nat.zero_le _, fun a h => absurd h (Nat.not_lt_zero a)⟩ (by
  refine And.intro ?_ rfl; simp only [leS, Nat.reduceEqDiff, ↓reduceIte, true_and, and_true]
  rfl) (fun k hk => ?_)
 obtain ⟨hk, hK'⟩ := hk
 refine gA ?_
 refine gI (fun h1 => ?_) fun h1 => ?_
 ·refine xe_ ?_
  refine gO ?_
  refine gA ?_
  refine gC fun K hK => ?_
  refine gU ?_
  refine xc_ (hf _) (by simp only [x1_, Aw.isData, hd, Bool.and_true]) ?_
  refine gV ?_
  refine hK _ ?_; clear hK K
  refine gI (fun h2 => ?_) fun h2 => ?_
  ·refine gA ?_
   refine xf_ (zY_ rfl ?_)
   exact (Zq_ (d := []) (by omega) hK' h2).symm
  ·refine xe_ ?_
   refine gB ?_
   refine ⟨k + 1,  ⟨by omega, fun a ha => by rcases Nat.lt_succ_iff_lt_or_eq.1 ha with h | rfl; exact hK' a h; exact h2⟩, by omega, .inl ⟨?_, rfl⟩⟩; simp only [leS, Nat.reduceEqDiff, ↓reduceIte, true_and, and_true]
   omega
 ·refine xh_ (x9_ ?_)
  refine gA ?_
  refine xf_ (zY_ rfl ?_)
  exact (Zp_ (d := []) (fun i hi => hK' i (by omega))).symm
theorem Wm_ (xs : List (List (List Int))) (f : Nat) (caps : List AV) (p : List (List Int) → Bool) (hd : x1_ caps = true) (hf : ∀ x, PureCall Tryz.prog f (.l2 x :: caps) (.bool (p x))) : PureCall Tryz.prog 119 [.l3 xs, .fn f caps] (.bool (xs.any p)) := by
 refine gPC 9 [.tmp 4] Tryz.call119 Tryz.func119 fun cx hcx => gE ?_
 refine gA ?_
 refine gC fun K hK => ?_
 refine xc_ (Tv_ xs f caps p hd hf) (by simp only [x1_, Aw.isData, hd, Bool.and_true]) ?_
 refine gV ?_
 refine hK _ ?_; clear hK K
 refine xf_ (yu_ rfl ?_)
 exact W5_
theorem Uy_ (o : List Int) (m : Int) (w : List (List (List Int))) : PureCall Tryz.prog 108 [.agg [.l1 o, .int m, .l3 w]] (.bool (bd (CocS o m w))) := by
 have hg := yv_ o
 refine gPC 28 [.tmp 2] Tryz.call108 Tryz.func108 fun cx hcx => gE ?_
 refine gB ?_
 refine gC fun K hK => ?_
 refine gU ?_
 first | refine xc_ (hg) rfl ?_ | refine xd_ (xa_ (hg) rfl) ?_
 refine gW ?_
 refine hK _ ?_; clear hK K
 refine gC fun K hK => ?_
 refine gU ?_
 first | refine xc_ (yf_ (gsz o) 1 8) rfl ?_ | refine xd_ (xa_ (yf_ (gsz o) 1 8) rfl) ?_
 refine gW ?_
 first | refine xd_ (fun _ => xa_ (wP_ m) rfl) ?_ | refine xd_ (xa_ (wP_ m) rfl) ?_
 refine gW ?_
 refine hK _ ?_; clear hK K
 refine gI (fun hc1 => ?_) fun hc1 => ?_
 ·refine gB ?_
  refine xf_ (yu_ rfl ?_)
  refine (xz_ (fun h => ?_)).symm
  have e : gsz o = xA_ o := by
   unfold gsz yG_
   rw [if_pos (xS_ h.1), if_pos (by have := h.2.1; omega)]
  have a1 := yk_ h.1
  have a2 := h.2.1
  have a3 := h.2.2.1
  have a4 := h.2.2.2.1
  have a5 := h.2.2.2.2.1
  rw [e] at hc1
  simp at hc1
  omega
 ·have hh : ((1 ≤ gsz o ∧ gsz o ≤ 8) ∧ (1 ≤ m ∧ m ≤ 1000)) ∧ (w.length : Int) = gsz o := by simpa using hc1
  obtain ⟨⟨⟨g1, g8⟩, m1, m2⟩, hw⟩ := hh
  have hp : PosO o := by
   by_cases hp : PosO o
   ·exact hp
   ·unfold gsz at g1
    rw [xz_ hp] at g1
    exact absurd g1 (by simp)
  have e : gsz o = xA_ o := by
   have h1 : gsz o = yG_ (xA_ o) := by unfold gsz; rw [if_pos (xS_ hp)]
   rw [h1] at g8 ⊢
   unfold yG_ at g8 ⊢
   by_cases hh : xA_ o ≤ 17
   ·exact if_pos hh
   ·rw [if_neg hh] at g8; omega
  have hc := Wm_ w 120 [.cptr [.int (gsz o)] 0, .cptr [.l1 o, .int m, .l3 w] 0] (fun g => !Vz_ (gsz o) m g) rfl (fun g => VA_ g (gsz o) o m w m1 m2)
  refine xe_ ?_
  refine gC fun K hK => ?_
  refine gU ?_
  first | refine x0_ rfl rfl (hc) ?_ | refine xd_ (xR_ rfl rfl (hc)) ?_
  refine gW ?_
  refine hK _ ?_; clear hK K
  refine xf_ (yu_ rfl ?_)
  rw [← hw]
  cases hv : w.any fun g => !Vz_ w.length m g with
  | false =>
   refine (xS_ ⟨hp, by omega, m1, m2, by omega, rfl, fun i hi => ?_⟩).symm
   have := (w1_ []).1 hv i hi
   exact gridB_iff.1 (by simpa using this)
  | true =>
   refine (xz_ (fun h => ?_)).symm
   have : (w.any fun g => !Vz_ w.length m g) = false := by
    rw [w1_ []]
    intro i hi
    have := gridB_iff.2 (h.2.2.2.2.2.2 i hi)
    simpa using this
   rw [this] at hv
   cases hv
set_option maxHeartbeats 2000000 in
theorem Z1_ (o : List Int) (m : Int) (w : List (List (List Int))) (h : CocS o m w) : PureCall Tryz.prog 109 [.agg [.l1 o, .int m, .l3 w]] (.bool (bd (Sx_ w))) := by
 have n8 := h.n8
 have hc := h.2.2.2.2.2
 refine gPC 48 [.tmp 2] Tryz.call109 Tryz.func109 fun cx hcx => gE ?_
 refine gB ?_
 refine gB ?_
 (repeat refine xb_ ?_); refine xt_ (fun i : Nat => ⟨[(1, .bptr 0 0), (10, .l3 w), (11, .int w.length), (12, .int i)], [(0, .bx [.l1 o, .int m, .l3 w])]⟩) (fun i => i ≤ w.length ∧ ∀ b, b < i → ∀ j, j < w.length → ∀ k, k < w.length → e3 w b j k ≠ 0 → ¬ (b = 0 ∨ j = 0 ∨ k = 0)) (fun i => w.length - i) 0 ⟨Nat.zero_le _, fun a h => absurd h (Nat.not_lt_zero a)⟩ (by refine And.intro ?_ rfl; simp only [leS, Nat.reduceEqDiff, ↓reduceIte, true_and, and_true]; rfl) (fun i hi => ?_); obtain ⟨hi, Hi⟩ := hi
 refine gB ?_
 refine gI (fun hc2 => ?_) fun hc2 => ?_
 ·have mi := hc.mat (show i < w.length by omega)
  refine xe_ ?_
  refine gO ?_
  refine gB ?_
  refine gB ?_
  rw [mi]
  (repeat refine xb_ ?_); refine xt_ (fun j : Nat => ⟨[(1, .bptr 0 0), (3, .int i), (10, .l3 w), (11, .int w.length), (12, .int i), (17, .l2 (w.getD i [])), (18, .int w.length), (19, .int j)], [(0, .bx [.l1 o, .int m, .l3 w])]⟩) (fun j => j ≤ w.length ∧ ∀ b, b < j → ∀ k, k < w.length → e3 w i b k ≠ 0 → ¬ (i = 0 ∨ b = 0 ∨ k = 0)) (fun j => w.length - j) 0 ⟨Nat.zero_le _, fun a h => absurd h (Nat.not_lt_zero a)⟩ (by refine And.intro ?_ rfl; simp only [leS, Nat.reduceEqDiff, ↓reduceIte, true_and, and_true]; rfl) (fun j hj => ?_); obtain ⟨hj, Hj⟩ := hj
  refine gB ?_
  refine gI (fun hc4 => ?_) fun hc4 => ?_
  ·have rij := hc.row (show i < w.length by omega) (show j < w.length by omega)
   refine xe_ ?_
   refine gO ?_
   refine gB ?_
   refine gB ?_
   rw [rij]
   (repeat refine xb_ ?_); refine xt_ (fun k : Nat => ⟨[(1, .bptr 0 0), (3, .int i), (5, .int j), (10, .l3 w), (11, .int w.length), (12, .int i), (17, .l2 (w.getD i [])), (18, .int w.length), (19, .int j), (24, .l1 ((w.getD i []).getD j [])), (25, .int w.length), (26, .int k)], [(0, .bx [.l1 o, .int m, .l3 w])]⟩) (fun k => k ≤ w.length ∧ ∀ b, b < k → e3 w i j b ≠ 0 → ¬ (i = 0 ∨ j = 0 ∨ b = 0)) (fun k => w.length - k) 0 ⟨Nat.zero_le _, fun a h => absurd h (Nat.not_lt_zero a)⟩ (by refine And.intro ?_ rfl; simp only [leS, Nat.reduceEqDiff, ↓reduceIte, true_and, and_true]; rfl) (fun k hk => ?_); obtain ⟨hk, Hk⟩ := hk
   refine gB ?_
   refine gI (fun hc6 => ?_) fun hc6 => ?_
   ·refine xe_ ?_
    refine gO ?_
    refine gB ?_
    refine gB ?_
    refine gI (fun hc7 => ?_) fun hc7 => ?_
    ·refine gB ?_
     refine xf_ (yu_ rfl ?_)
     refine (xz_ (fun h => ?_)).symm
     simp [-List.getD_eq_getElem?_getD] at hc7
     have a1 := h j (by omega) k (by omega)
     have a2 := h i (by omega) k (by omega)
     have a3 := h i (by omega) j (by omega)
     rcases hc7 with ⟨hn, (rfl | rfl) | rfl⟩
     ·exact hn a1.1
     ·exact hn a2.2.1
     ·exact hn a3.2.2
    ·have hb : e3 w i j k ≠ 0 → ¬ (i = 0 ∨ j = 0 ∨ k = 0) := by
      simp [-List.getD_eq_getElem?_getD] at hc7
      intro hn
      have := hc7 hn
      omega
     refine xe_ ?_
     refine gB ?_
     refine ⟨k + 1, ⟨by omega, fun a ha => by rcases Nat.lt_succ_iff_lt_or_eq.1 ha with h | rfl; exact Hk a h; exact hb⟩, by omega, .inl ⟨?_, rfl⟩⟩; simp only [leS, Nat.reduceEqDiff, ↓reduceIte, true_and, and_true]; omega
   ·refine xh_ (x9_ (xJ_ (Yt_ ?_)))
    refine gB ?_
    refine ⟨j + 1, ⟨by omega, fun a ha => by rcases Nat.lt_succ_iff_lt_or_eq.1 ha with h | rfl; exact Hj a h; exact fun k hk => Hk k (by omega)⟩, by omega, .inl ⟨?_, rfl⟩⟩; simp only [leS, Nat.reduceEqDiff, ↓reduceIte, true_and, and_true]; omega
  ·refine xh_ (x9_ (xJ_ (Yt_ ?_)))
   refine gB ?_
   refine ⟨i + 1, ⟨by omega, fun a ha => by rcases Nat.lt_succ_iff_lt_or_eq.1 ha with h | rfl; exact Hi a h; exact fun j hj => Hj j (by omega)⟩, by omega, .inl ⟨?_, rfl⟩⟩; simp only [leS, Nat.reduceEqDiff, ↓reduceIte, true_and, and_true]; omega
 ·refine xh_ (x9_ ?_)
  refine gB ?_
  refine xf_ (yu_ rfl ?_)
  refine (xS_ fun i hi j hj => ⟨?_, ?_, ?_⟩).symm
  ·exact Classical.byContradiction fun hn => Hi 0 (by omega) i hi j hj hn (.inl rfl)
  ·exact Classical.byContradiction fun hn => Hi i (by omega) 0 (by omega) j hj hn (.inr (.inl rfl))
  ·exact Classical.byContradiction fun hn => Hi i (by omega) j hj 0 (by omega) hn (.inr (.inr rfl))
theorem Z2_ (o : List Int) (m : Int) (w : List (List (List Int))) (h : PosO o) (h8 : xA_ o ≤ 8) (x y : Nat) (hx : x ≤ 8) (hy : y ≤ 8) : PureCall Tryz.prog 76 [.agg [.l1 o, .int m, .l3 w], .int x, .int y] (.int (ad o x y)) := by
 refine gPC 12 [.tmp 6] Tryz.call76 Tryz.func76 fun cx hcx => gE ?_
 refine gB ?_
 refine gC fun K hK => ?_
 refine gU ?_
 first | refine xc_ (yQ_ o h h8 x y hx hy) rfl ?_ | refine xd_ (xa_ (yQ_ o h h8 x y hx hy) rfl) ?_
 refine gW ?_
 refine hK _ ?_; clear hK K
 refine xf_ (zY_ rfl ?_)
 rfl
end Go.Proofs.YtjbdiekkjegckaaGreat
