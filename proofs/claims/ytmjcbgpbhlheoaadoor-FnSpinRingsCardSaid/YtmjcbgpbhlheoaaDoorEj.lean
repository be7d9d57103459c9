import Derived.Test.YtmjcbgpbhlheoaaDoorDz2
import Derived.Test.YtmjcbgpbhlheoaaDoorLib6
import Derived.Test.YtmjcbgpbhlheoaaDoorKp1
set_option linter.unusedSimpArgs false
set_option linter.unusedVariables false
namespace Go.Proofs.YtmjcbgpbhlheoaaDoor
open Go Go.Aw Go.Pl
attribute [go_sem] Tryd.underlying27
theorem tmn (a b : Nat) : (a : Int).tmod b = ((a % b : Nat) : Int) := Int.ofNat_tmod a b |>.symm
theorem tdn (a b : Nat) : (a : Int).tdiv b = ((a / b : Nat) : Int) := Int.ofNat_tdiv a b |>.symm
theorem productRing_ok (A B : List (List (List Int))) (hA : Cube A) (hB : Cube B) (h16 : A.length * B.length ≤ 16) : FreshCall Tryd.prog 31 [.agg [.l3 A], .agg [.l3 B]] (.agg [.l3 (krR A B A.length B.length)]) := by
 have a1 := hA.1
 have b1 := hB.1
 have ha16 := hA.2.1
 have hb16 := hB.2.1
 have hp : 0 < A.length * B.length := Nat.mul_pos (by omega) (by omega)
 obtain ⟨N, eN⟩ : ∃ N, A.length * B.length = N := ⟨_, rfl⟩
 have hN' : (A.length : Int) * (B.length : Int) = (N : Int) := by rw [← eN]; exact (Int.natCast_mul _ _).symm
 rw [eN] at h16 hp
 have eR : krR A B A.length B.length = cubF N (fun x y w => e3 A (x / B.length) (y / B.length) (w / B.length) * e3 B (x % B.length) (y % B.length) (w % B.length)) := by rw [← eN]; rfl
 rw [eR]
 refine FreshCall.intro (n := 86) (rs := [.cell 4 27]) Tryd.call31 Tryd.func31 rfl rfl rfl (by simp only [List.length_cons, List.length_nil]; omega) (fun cx hcx => ats_of ?_); simp only [argSlots, Nat.zero_add, Nat.reduceAdd]
 refine gA ?_
 refine gA ?_
 refine gC fun K hK => ?_
 simp only [hN']
 (repeat refine aI (hb := ?_))
 refine fcall_own rfl (emptyCube_ok N (by omega) (by omega)) rfl ?_; simp only [go_sem, seval]
 refine hK _ ?_; clear hK K
 rw [← cubL_zero (g := fun x y w => e3 A (x / B.length) (y / B.length) (w / B.length) * e3 B (x % B.length) (y % B.length) (w % B.length))]
 refine gC fun K hK => ?_
 simp only [cubL_length]
 refine hK _ ?_; clear hK K
 (repeat refine ats_seq ?_); refine ats_loop (fun x : Nat => ⟨[(2, .bptr 0 0), (3, .bptr 1 0), (4, .bptr 2 0), (5, .int B.length), (6, .bptr 4 0), (21, .int N), (22, .int x)], [(3, .t3 (cubL N (fun x y w => e3 A (x / B.length) (y / B.length) (w / B.length) * e3 B (x % B.length) (y % B.length) (w % B.length)) x 0 0)), (0, .bx [.l3 A]), (1, .bx [.l3 B]), (2, .bx [.nil]), (4, .bx [.ref 3 []])]⟩) (fun x => x ≤ N) (fun x => N - x) 0 (Nat.zero_le _) (by refine And.intro ?_ rfl; simp only [leS, Nat.reduceEqDiff, ↓reduceIte, true_and, and_true]; repeat' (first | rfl | with_reducible refine And.intro ?_ ?_ | omega)) (fun x hx => ?_)
 refine gA ?_
 refine gI (fun hc1 => ?_) fun hc1 => ?_
 ·obtain ⟨hx1, hx2⟩ := dm_lt (n := A.length) (m := B.length) (x := x) (by rw [eN]; omega)
  obtain ⟨x1, ex1⟩ : ∃ a, x / B.length = a := ⟨_, rfl⟩
  obtain ⟨x2, ex2⟩ : ∃ a, x % B.length = a := ⟨_, rfl⟩
  rw [ex1] at hx1
  rw [ex2] at hx2
  refine ats_skip ?_
  (repeat refine ats_seq ?_); refine ats_block ?_
  refine gA ?_
  refine gC fun K hK => ?_
  simp only [cubL_length]
  refine hK _ ?_; clear hK K
  (repeat refine ats_seq ?_); refine ats_loop (fun y : Nat => ⟨[(2, .bptr 0 0), (3, .bptr 1 0), (4, .bptr 2 0), (5, .int B.length), (6, .bptr 4 0), (7, .int x), (21, .int N), (22, .int x), (27, .int N), (28, .int y)], [(3, .t3 (cubL N (fun x y w => e3 A (x / B.length) (y / B.length) (w / B.length) * e3 B (x % B.length) (y % B.length) (w % B.length)) x y 0)), (0, .bx [.l3 A]), (1, .bx [.l3 B]), (2, .bx [.nil]), (4, .bx [.ref 3 []])]⟩) (fun y => y ≤ N) (fun y => N - y) 0 (Nat.zero_le _) (by refine And.intro ?_ rfl; simp only [leS, Nat.reduceEqDiff, ↓reduceIte, true_and, and_true]; repeat' (first | rfl | with_reducible refine And.intro ?_ ?_ | omega)) (fun y hy => ?_)
  refine gA ?_
  refine gI (fun hc2 => ?_) fun hc2 => ?_
  ·obtain ⟨hy1, hy2⟩ := dm_lt (n := A.length) (m := B.length) (x := y) (by rw [eN]; omega)
   obtain ⟨y1, ey1⟩ : ∃ a, y / B.length = a := ⟨_, rfl⟩
   obtain ⟨y2, ey2⟩ : ∃ a, y % B.length = a := ⟨_, rfl⟩
   rw [ey1] at hy1
   rw [ey2] at hy2
   refine ats_skip ?_
   (repeat refine ats_seq ?_); refine ats_block ?_
   refine gA ?_
   refine gC fun K hK => ?_
   simp only [cubL_length]
   refine hK _ ?_; clear hK K
   (repeat refine ats_seq ?_); refine ats_loop (fun w : Nat => ⟨[(2, .bptr 0 0), (3, .bptr 1 0), (4, .bptr 2 0), (5, .int B.length), (6, .bptr 4 0), (7, .int x), (8, .int y), (21, .int N), (22, .int x), (27, .int N), (28, .int y), (33, .int N), (34, .int w)], [(3, .t3 (cubL N (fun x y w => e3 A (x / B.length) (y / B.length) (w / B.length) * e3 B (x % B.length) (y % B.length) (w % B.length)) x y w)), (0, .bx [.l3 A]), (1, .bx [.l3 B]), (2, .bx [.nil]), (4, .bx [.ref 3 []])]⟩) (fun w => w ≤ N) (fun w => N - w) 0 (Nat.zero_le _) (by refine And.intro ?_ rfl; simp only [leS, Nat.reduceEqDiff, ↓reduceIte, true_and, and_true]; repeat' (first | rfl | with_reducible refine And.intro ?_ ?_ | omega)) (fun w hw => ?_)
   have hcl := cubL_length (n := N) (g := fun x y w => e3 A (x / B.length) (y / B.length) (w / B.length) * e3 B (x % B.length) (y % B.length) (w % B.length)) (i := x) (j := y) (k := w)
   refine gA ?_
   refine gI (fun hc3 => ?_) fun hc3 => ?_
   ·obtain ⟨hw1, hw2⟩ := dm_lt (n := A.length) (m := B.length) (x := w) (by rw [eN]; omega)
    obtain ⟨w1, ew1⟩ : ∃ a, w / B.length = a := ⟨_, rfl⟩
    obtain ⟨w2, ew2⟩ : ∃ a, w % B.length = a := ⟨_, rfl⟩
    rw [ew1] at hw1
    rw [ew2] at hw2
    have c1 : ((cubL N (fun x y w => e3 A (x / B.length) (y / B.length) (w / B.length) * e3 B (x % B.length) (y % B.length) (w % B.length)) x y w).getD x []).length = N := cubF_mat (by omega)
    have c2 : (((cubL N (fun x y w => e3 A (x / B.length) (y / B.length) (w / B.length) * e3 B (x % B.length) (y % B.length) (w % B.length)) x y w).getD x []).getD y []).length = N := cubF_row (by omega) (by omega)
    have ra := hA.mat hx1
    have ra2 := hA.row hx1 hy1
    have rb := hB.mat hx2
    have rb2 := hB.row hx2 hy2
    have ia := hA.inM hx1 hy1 hw1
    have ib := hB.inM hx2 hy2 hw2
    have mm := mul_le6 (a := e3 A x1 y1 w1) (b := e3 B x2 y2 w2) ia ib
    unfold e3 at mm
    have hst := cubL_set (n := N) (g := fun x y w => e3 A (x / B.length) (y / B.length) (w / B.length) * e3 B (x % B.length) (y % B.length) (w % B.length)) (i := x) (j := y) (k := w) (by omega) (by omega)
    simp only [ex1, ex2, ey1, ey2, ew1, ew2] at hst
    unfold e3 at hst
    refine ats_skip ?_
    (repeat refine ats_seq ?_); refine ats_block ?_
    refine gA ?_
    (repeat refine ats_seq ?_); refine ats_pick (fix0 hcx) mixed (by kernel_rfl) fun K hK => ?_; simp only [go_sem, seval]
    simp only [tdn, tmn, ex1, ex2, ey1, ey2, ew1, ew2, Int.toNat_natCast, hcl, c1, c2, ra, ra2, rb, rb2]
    (repeat refine aI (hb := ?_))
    refine hK _ ?_; clear hK K
    refine gB ?_
    refine ⟨w + 1,  by omega, by omega, .inl ⟨by simp only [leS, Nat.reduceEqDiff, ↓reduceIte, true_and, and_true]; omega,  by rw [← hst]⟩⟩
   ·obtain rfl : w = N := by omega
    refine ats_exit (lq_x ?_)
    refine gB ?_
    refine ⟨y + 1,  by omega, by omega, .inl ⟨by simp only [leS, Nat.reduceEqDiff, ↓reduceIte, true_and, and_true]; omega,  by rw [cubL_row]⟩⟩
  ·obtain rfl : y = N := by omega
   refine ats_exit (lq_x ?_)
   refine gB ?_
   refine ⟨x + 1,  by omega, by omega, .inl ⟨by simp only [leS, Nat.reduceEqDiff, ↓reduceIte, true_and, and_true]; omega,  by rw [cubL_mat]⟩⟩
 ·obtain rfl : x = N := by omega
  refine ats_exit (lq_x ?_)
  rw [cubL_all]
  refine gA ?_
  exact ats_ret (ownC (v := .agg [.ref 3 []]) (by simp only [go_sem, seval]) rfl (by simp))
end Go.Proofs.YtmjcbgpbhlheoaaDoor
