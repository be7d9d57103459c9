import Derived.Test.YtjbdiekkjegckaaGreatWx1
set_option linter.unusedSimpArgs false
set_option linter.unusedVariables false
namespace Go.Proofs.YtjbdiekkjegckaaGreat
open Go Go.Aw Go.Pl
open Go.Pl
theorem Yc_ (xs ys : List Int) : PureCall Tryz.prog 77 [.l1 xs, .l1 ys] (.bool (decide (xs = ys))) := by
 refine gPC 26 [.tmp 4] Tryz.call77 Tryz.func77 fun cx hcx => gE ?_
 refine gA ?_
 refine zp_ 0 fun h0 => ?_; simp only [St.get, xg_, Nat.reduceEqDiff, ↓reduceIte, if_true, fact, facts] at h0
 have hlen := h0.1
 refine gA ?_
 refine gI (fun hc => ?_) fun hc => ?_
 ·refine gA ?_
  refine xf_ (yu_ rfl ?_)
  simp only [Bool.false_eq, decide_eq_false_iff_not]
  exact fun e => hc (by rw [e])
 ·refine xe_ ?_
  refine gA ?_
  (repeat refine xb_ ?_); refine xt_ (fun k : Nat => ⟨[(0, .l1 xs), (1, .l1 ys), (12, .int xs.length), (13, .int k)], []⟩) (fun k => k ≤ xs.length ∧ xs.take k = ys.take k) (fun k => xs.length - k) 0 ⟨Nat.zero_le _, rfl⟩ (by
   refine And.intro ?_ rfl; simp only [leS, Nat.reduceEqDiff, ↓reduceIte, true_and, and_true]
   rfl) (fun k hk => ?_)
  refine gA ?_
  refine gI (fun h1 => ?_) fun h1 => ?_
  ·refine xe_ ?_
   refine gO ?_
   refine gA ?_
   (repeat refine xb_ ?_); refine xI_ (xO_ hcx) mixed (by kernel_rfl) fun K hK => ?_; simp only [go_sem, seval]; (repeat refine aI (hb := ?_)); refine hK _ ?_; clear hK K
   refine gI (fun h2 => ?_) fun h2 => ?_
   ·refine gA ?_
    refine xf_ (yu_ rfl ?_)
    simp only [Bool.false_eq, decide_eq_false_iff_not]
    exact Rd_ h2
   ·refine xe_ ?_
    refine gB ?_
    refine ⟨k + 1,  ⟨by omega, Ud_ (by omega) (by omega) hk.2 h2⟩, by omega, .inl ⟨?_, rfl⟩⟩; simp only [leS, Nat.reduceEqDiff, ↓reduceIte, true_and, and_true]
    omega
  ·refine xh_ (x9_ ?_)
   refine gA ?_
   refine xf_ (yu_ rfl ?_)
   have h := hk.2
   rw [List.take_of_length_le (by omega), List.take_of_length_le (by omega)] at h
   simp only [h, decide_true]
theorem Xg_ (r c : Nat) (hr : r ≤ 1048576) (hc : c ≤ 1048576) : FreshCall Tryz.prog 74 [.int r, .int c] (.l2 (List.replicate r (List.replicate c 0))) := by
 refine gFC 17 [.tmp 4] Tryz.call74 Tryz.func74 fun cx hcx => gE ?_
 refine gA ?_
 refine gA ?_
 refine gA ?_
 (repeat refine xb_ ?_); refine xt_ (fun i : Nat => ⟨[(1, .int c), (5, .ref 0 []), (7, .int r), (8, .int i)], [(0, .t2 (List.replicate i (List.replicate c 0)))]⟩) (fun i => i ≤ r) (fun i => r - i) 0 (Nat.zero_le _) (by
  refine And.intro ?_ rfl
  simp only [xs_, St.get, xg_, Nat.reduceEqDiff, ↓reduceIte, true_and, and_true, AV.int.injEq]
  rfl) (fun i hi => ?_)
 have hl : (List.replicate i (List.replicate c (0 : Int))).length = i := List.length_replicate
 refine gA ?_
 refine gI (fun hli => ?_) fun hli => ?_
 ·refine xe_ ?_
  refine gO ?_
  refine gC fun K hK => ?_
  simp only [hl]
  refine gU ?_
  refine hK _ ?_; clear hK K
  refine gB ?_
  refine ⟨i + 1,  by omega, by omega, .inl ⟨gH,  by simp only [List.replicate_succ']⟩⟩
 ·obtain rfl : i = r := by omega
  refine xh_ (x9_ ?_)
  refine gA ?_
  exact xf_ (ai1 (is := [0]) rfl ⟨rfl, trivial⟩ rfl (by simp))
end Go.Proofs.YtjbdiekkjegckaaGreat
