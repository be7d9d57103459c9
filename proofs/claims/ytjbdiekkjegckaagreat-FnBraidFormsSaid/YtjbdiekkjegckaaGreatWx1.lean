import Derived.Test.YtjbdiekkjegckaaGreatTy
import Derived.Test.YtjbdiekkjegckaaGreatPl1
set_option linter.unusedSimpArgs false
set_option linter.unusedVariables false
namespace Go.Proofs.YtjbdiekkjegckaaGreat
open Go Go.Aw
theorem mixed : Tryz.prog.follows .mixedOrders = true := by kernel_rfl
open Go.Pl
theorem as7 {w : World} {fp : List Nat} {v : Value} (h : ownR w fp .nil v) : ownR w fp (.l1 []) v := by
 simp only [ownR] at h ⊢
 exact ⟨.inl ⟨h.2, rfl, h.1⟩, by simp⟩
theorem as8 {m : Mem} {v : Value} (h : rep m .nil v) : rep m (.l1 []) v := by
 simp only [rep] at h ⊢
 exact ⟨.inl ⟨⟨none, h⟩, rfl⟩, by simp⟩
theorem z3_ (n a b : Int) : PureCall Tryz.prog 94 [.int n, .int a, .int b] (.bool (decide (a ≤ n) && decide (n ≤ b))) := by
 refine gPC 15 [.tmp 6] Tryz.call94 Tryz.func94 fun cx hcx => gE ?_
 refine gA ?_
 refine gA ?_
 refine xf_ (yu_ rfl ?_)
 rfl
theorem yf_ (n a b : Int) : PureCall Tryz.prog 53 [.int n, .int a, .int b] (.bool (decide (a ≤ n) && decide (n ≤ b))) := by
 refine gPC 15 [.tmp 6] Tryz.call53 Tryz.func53 fun cx hcx => gE ?_
 refine gA ?_
 refine gA ?_
 refine xf_ (yu_ rfl ?_)
 rfl
theorem Rw_ (xs : List Int) (f : Nat) (caps : List AV) (p : Int → Bool) (hd : x1_ caps = true) (hf : ∀ x, PureCall Tryz.prog f (.int x :: caps) (.bool (p x))) : PureCall Tryz.prog 95 [.l1 xs, .fn f caps] (.int (RF_ p xs)) := by
 refine gPC 19 [.tmp 4] Tryz.call95 Tryz.func95 fun cx hcx => gE ?_
 refine gA ?_
 refine zp_ 0 fun h0 => ?_; simp only [St.get, xg_, Nat.reduceEqDiff, ↓reduceIte, if_true, fact, facts] at h0
 have hlen := h0.1
 refine gA ?_
 (repeat refine xb_ ?_); refine xt_ (fun k : Nat => ⟨[(0, .l1 xs), (1, .fn f caps), (7, .int xs.length), (8, .int k)], []⟩) (fun k => k ≤ xs.length ∧ ∀ i, i < k → p (xs.getD i 0) = false) (fun k => xs.length - k) 0 ⟨Nat.zero_le _, fun a h => absurd h (Nat.not_lt_zero a)⟩ (by
  refine And.intro ?_ rfl; simp only [leS, Nat.reduceEqDiff, ↓reduceIte, true_and, and_true]
  rfl) (fun k hk => ?_)
 obtain ⟨hk, hK'⟩ := hk
 refine gA ?_
 refine gI (fun h1 => ?_) fun h1 => ?_
 ·refine xe_ ?_
  refine gO ?_
  refine gA ?_
  refine gC fun K hK => ?_
  refine gU ?_
  refine xc_ (hf _) (by simp only [x1_, isData, hd, Bool.and_true]) ?_
  refine gV ?_
  refine hK _ ?_; clear hK K
  refine gI (fun h2 => ?_) fun h2 => ?_
  ·refine gA ?_
   refine xf_ (zY_ rfl ?_)
   exact (Zq_ (d := 0) (by omega) hK' h2).symm
  ·refine xe_ ?_
   refine gB ?_
   refine ⟨k + 1,  ⟨by omega, fun a ha => by rcases Nat.lt_succ_iff_lt_or_eq.1 ha with h | rfl; exact hK' a h; exact h2⟩, by omega, .inl ⟨?_, rfl⟩⟩; simp only [leS, Nat.reduceEqDiff, ↓reduceIte, true_and, and_true]
   omega
 ·refine xh_ (x9_ ?_)
  refine gA ?_
  refine xf_ (zY_ rfl ?_)
  exact (Zp_ (d := 0) (fun i hi => hK' i (by omega))).symm
theorem Rx_ (xs : List (List Int)) (f : Nat) (caps : List AV) (p : List Int → Bool) (hd : x1_ caps = true) (hf : ∀ x, PureCall Tryz.prog f (.l1 x :: caps) (.bool (p x))) : PureCall Tryz.prog 123 [.l2 xs, .fn f caps] (.int (RF_ p xs)) := by
 refine gPC 19 [.tmp 4] Tryz.call123 Tryz.func123 fun cx hcx => gE ?_
 refine gA ?_
 refine zp_ 0 fun h0 => ?_; simp only [St.get, xg_, Nat.reduceEqDiff, ↓reduceIte, if_true, fact, facts] at h0
 have hlen := h0.1
 refine gA ?_
 (repeat refine xb_ ?_); refine xt_ (fun k : Nat => ⟨[(0, .l2 xs), (1, .fn f caps), (7, .int xs.length), (8, .int k)], []⟩) (fun k => k ≤ xs.length ∧ ∀ i, i < k → p (xs.getD i []) = false) (fun k => xs.length - k) 0 ⟨Nat.zero_le _, fun a h => absurd h (Nat.not_lt_zero a)⟩ (by
  refine And.intro ?_ rfl; simp only [leS, Nat.reduceEqDiff, ↓reduceIte, true_and, and_true]
  rfl) (fun k hk => ?_)
 obtain ⟨hk, hK'⟩ := hk
 refine gA ?_
 refine gI (fun h1 => ?_) fun h1 => ?_
 ·refine xe_ ?_
  refine gO ?_
  refine gA ?_
  refine gC fun K hK => ?_
  refine gU ?_
  refine xc_ (hf _) (by simp only [x1_, isData, hd, Bool.and_true]) ?_
  refine gV ?_
  refine hK _ ?_; clear hK K
  refine gI (fun h2 => ?_) fun h2 => ?_
  ·refine gA ?_
   refine xf_ (zY_ rfl ?_)
   exact (Zq_ (d := []) (by omega) hK' h2).symm
  ·refine xe_ ?_
   refine gB ?_
   refine ⟨k + 1,  ⟨by omega, fun a ha => by rcases Nat.lt_succ_iff_lt_or_eq.1 ha with h | rfl; exact hK' a h; exact h2⟩, by omega, .inl ⟨?_, rfl⟩⟩; simp only [leS, Nat.reduceEqDiff, ↓reduceIte, true_and, and_true]
   omega
 ·refine xh_ (x9_ ?_)
  refine gA ?_
  refine xf_ (zY_ rfl ?_)
  exact (Zp_ (d := []) (fun i hi => hK' i (by omega))).symm
theorem X8_ (xs : List Int) (f : Nat) (caps : List AV) (p : Int → Bool) (hd : x1_ caps = true) (hf : ∀ x, PureCall Tryz.prog f (.int x :: caps) (.bool (p x))) : PureCall Tryz.prog 67 [.l1 xs, .fn f caps] (.bool (xs.any p)) := by
 refine gPC 9 [.tmp 4] Tryz.call67 Tryz.func67 fun cx hcx => gE ?_
 refine gA ?_
 refine gC fun K hK => ?_
 refine xc_ (Rw_ xs f caps p hd hf) (by simp only [x1_, isData, hd, Bool.and_true]) ?_
 refine gV ?_
 refine hK _ ?_; clear hK K
 refine xf_ (yu_ rfl ?_)
 exact W5_
theorem Vw_ (xs : List (List Int)) (f : Nat) (caps : List AV) (p : List Int → Bool) (hd : x1_ caps = true) (hf : ∀ x, PureCall Tryz.prog f (.l1 x :: caps) (.bool (p x))) : PureCall Tryz.prog 116 [.l2 xs, .fn f caps] (.bool (xs.any p)) := by
 refine gPC 9 [.tmp 4] Tryz.call116 Tryz.func116 fun cx hcx => gE ?_
 refine gA ?_
 refine gC fun K hK => ?_
 refine xc_ (Rx_ xs f caps p hd hf) (by simp only [x1_, isData, hd, Bool.and_true]) ?_
 refine gV ?_
 refine hK _ ?_; clear hK K
 refine xf_ (yu_ rfl ?_)
 exact W5_
theorem X9_ (a b n : Int) : PureCall Tryz.prog 68 [.int n, .cptr [.int a] 0, .cptr [.int b] 0] (.bool (!(decide (a ≤ n) && decide (n ≤ b)))) := by
 refine gPC 10 [.tmp 4] Tryz.call68 Tryz.func68 fun cx hcx => gE ?_
 refine gA ?_
 refine gC fun K hK => ?_
 first | refine xc_ (yf_ _ _ _) rfl ?_ | refine xd_ (xa_ (yf_ _ _ _) rfl) ?_
 refine gV ?_
 refine hK _ ?_; clear hK K
 refine xf_ (yu_ rfl ?_)
 rfl
theorem zA_ (xs : List Int) (a b : Int) : PureCall Tryz.prog 38 [.l1 xs, .int a, .int b] (.bool (!(xs.any fun n => !(decide (a ≤ n) && decide (n ≤ b))))) := by
 refine gPC 11 [.tmp 6] Tryz.call38 Tryz.func38 fun cx hcx => gE ?_
 refine gA ?_
 refine gC fun K hK => ?_
 first | refine x0_ rfl rfl (X8_ xs 68 [.cptr [.int a] 0, .cptr [.int b] 0] (fun n => !(decide (a ≤ n) && decide (n ≤ b))) rfl (fun n => X9_ a b n)) ?_ | refine xd_ (xR_ rfl rfl (X8_ xs 68 [.cptr [.int a] 0, .cptr [.int b] 0] (fun n => !(decide (a ≤ n) && decide (n ≤ b))) rfl (fun n => X9_ a b n))) ?_
 refine gV ?_
 refine hK _ ?_; clear hK K
 refine xf_ (yu_ rfl ?_)
 rfl
end Go.Proofs.YtjbdiekkjegckaaGreat
