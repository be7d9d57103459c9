import Derived.Test.YtphokmkmpelnfaaDs
import Derived.Test.YtphokmkmpelnfaaAxG
import Derived.Test.YtphokmkmpelnfaaPlP
set_option linter.unusedSimpArgs false
set_option linter.unusedVariables false
namespace Go.Proofs.Ytphokmkmpelnfaa
open Go Go.Aw Go.Pl
attribute [go_sem] Try.underlying62

theorem tmn (a b : Nat) : (a : Int).tmod b = ((a % b : Nat) : Int) := Int.ofNat_tmod a b |>.symm
theorem tdn (a b : Nat) : (a : Int).tdiv b = ((a / b : Nat) : Int) := Int.ofNat_tdiv a b |>.symm
def matX (N : Nat) (f : Nat → Nat → Int) (x y : Nat) : List (List Int) := matF N N fun a b => if a < x ∨ (a = x ∧ b < y) then f a b else 0
theorem matX_length {N : Nat} {f : Nat → Nat → Int} {x y : Nat} : (matX N f x y).length = N := matF_length ..
theorem matX_rowl {N : Nat} {f : Nat → Nat → Int} {x y i : Nat} (h : i < N) : ((matX N f x y).getD i []).length = N := by unfold matX; rw [matF_get h, rowF_length]
theorem matX_zero {N : Nat} {f : Nat → Nat → Int} : matX N f 0 0 = List.replicate N (List.replicate N 0) := by
  rw [zeros_matF]
  exact matF_congr fun a _ b _ => if_neg (by omega)
theorem matX_row {N : Nat} {f : Nat → Nat → Int} {x : Nat} : matX N f x N = matX N f (x + 1) 0 := matF_congr fun a _ b _ => by
  by_cases h : a < x ∨ (a = x ∧ b < N)
  · rw [if_pos h, if_pos (by omega)]
  · rw [if_neg h, if_neg (by omega)]
theorem matX_all {N : Nat} {f : Nat → Nat → Int} : matX N f N 0 = matF N N f := matF_congr fun a _ b _ => if_pos (by omega)
theorem matX_set {N : Nat} {f : Nat → Nat → Int} {x y : Nat} (hx : x < N) : (matX N f x y).set x (((matX N f x y).getD x []).set y (f x y)) = matX N f x (y + 1) := by
  unfold matX
  rw [matF_set hx]
  refine matF_congr fun a _ b _ => ?_
  by_cases h : a = x ∧ b = y
  · obtain ⟨rfl, rfl⟩ := h
    rw [if_pos ⟨rfl, rfl⟩, if_pos (by omega)]
  · rw [if_neg h]
    by_cases h2 : a < x ∨ (a = x ∧ b < y)
    · rw [if_pos h2, if_pos (by omega)]
    · rw [if_neg h2, if_neg (by omega)]
def pF (s z : List (List Int)) (m x y : Nat) : Int := e2 s (x / m) (y / m) * e2 z (x % m) (y % m) % 55441
def qF (t u : List Int) (m x : Nat) : Int := t.getD (x / m) 0 * u.getD (x % m) 0 % 55441

theorem productRing_ok (A B : List (List (List Int))) (hA : Cube A) (hB : Cube B) (h16 : A.length * B.length ≤ 16) : FreshCall Try.prog 43 [.agg [.l3 A], .agg [.l3 B]] (.agg [.l3 (krR A B A.length B.length)]) := by
  have a1 := hA.1
  have b1 := hB.1
  have ha16 := hA.2.1
  have hb16 := hB.2.1
  have hp : 0 < A.length * B.length := Nat.mul_pos (by omega) (by omega)
  obtain ⟨N, eN⟩ : ∃ N, A.length * B.length = N := ⟨_, rfl⟩
  have hN' : (A.length : Int) * (B.length : Int) = (N : Int) := by rw [← eN]; exact (Int.natCast_mul _ _).symm
  rw [eN] at h16 hp
  have eR : krR A B A.length B.length = cubF N (fun x y w => e3 A (x / B.length) (y / B.length) (w / B.length) * e3 B (x % B.length) (y % B.length) (w % B.length)) := by rw [← eN]; rfl
  rw [eR]
  refine FreshCall.intro (n := 86) (rs := [.cell 4 62]) Try.call43 Try.func43 rfl rfl rfl (by simp only [List.length_cons, List.length_nil]; omega) (fun cx hcx => ats_of ?_); simp only [argSlots, Nat.zero_add, Nat.reduceAdd]
  (repeat refine ats_seq ?_); refine ats_go (by first | exact fix0 hcx | exact fix1 hcx rfl) fun K hK => ?_; simp only [go_sem, seval]; refine hK _ ?_; clear hK K
  (repeat refine ats_seq ?_); refine ats_go (by first | exact fix0 hcx | exact fix1 hcx rfl) fun K hK => ?_; simp only [go_sem, seval]; refine hK _ ?_; clear hK K
  (repeat refine ats_seq ?_); refine ats_go (by first | exact fix0 hcx | exact fix1 hcx rfl) fun K hK => ?_; simp only [go_sem, seval]
  simp only [hN']
  (repeat refine And.intro (by first | omega | (intro hq; first | omega | (simp at hq <;> omega) | (simp_all <;> omega))) ?_)
  refine fcall_own rfl (emptyCube_ok N (by omega) (by omega)) rfl ?_; simp only [go_sem, seval]
  refine hK _ ?_; clear hK K
  rw [← cubL_zero (g := fun x y w => e3 A (x / B.length) (y / B.length) (w / B.length) * e3 B (x % B.length) (y % B.length) (w % B.length))]
  (repeat refine ats_seq ?_); refine ats_go (by first | exact fix0 hcx | exact fix1 hcx rfl) fun K hK => ?_; simp only [go_sem, seval]
  simp only [cubL_length]
  refine hK _ ?_; clear hK K
  (repeat refine ats_seq ?_); refine ats_loop (fun x : Nat => ⟨[(2, .bptr 0 0), (3, .bptr 1 0), (4, .bptr 2 0), (5, .int B.length), (6, .bptr 4 0), (21, .int N), (22, .int x)], [(3, .t3 (cubL N (fun x y w => e3 A (x / B.length) (y / B.length) (w / B.length) * e3 B (x % B.length) (y % B.length) (w % B.length)) x 0 0)), (0, .bx [.l3 A]), (1, .bx [.l3 B]), (2, .bx [.nil]), (4, .bx [.ref 3 []])]⟩) (fun x => x ≤ N) (fun x => N - x) 0 (Nat.zero_le _) (by refine And.intro ?_ rfl; simp only [SlotsLe, St.get, slotGet, Nat.reduceEqDiff, ↓reduceIte, true_and, and_true, AV.int.injEq, AV.bool.injEq, AV.l1.injEq, AV.l2.injEq, AV.l3.injEq]; repeat' (first | rfl | omega | refine And.intro ?_ ?_)) (fun x hx => ?_)
  (repeat refine ats_seq ?_); refine ats_go (by first | exact fix0 hcx | exact fix1 hcx rfl) fun K hK => ?_; simp only [go_sem, seval]; refine hK _ ?_; clear hK K
  (repeat refine ats_seq ?_); first | refine ats_ifn (p := _) rfl trivial (fun hc1 => ?_) (fun hc1 => ?_) | refine ats_ifp (p := _) rfl trivial (fun hc1 => ?_) (fun hc1 => ?_) | refine ats_cond rfl trivial (fun hc1 => ?_) (fun hc1 => ?_)
  · obtain ⟨hx1, hx2⟩ := dm_lt (n := A.length) (m := B.length) (x := x) (by rw [eN]; omega)
    obtain ⟨x1, ex1⟩ : ∃ a, x / B.length = a := ⟨_, rfl⟩
    obtain ⟨x2, ex2⟩ : ∃ a, x % B.length = a := ⟨_, rfl⟩
    rw [ex1] at hx1
    rw [ex2] at hx2
    refine ats_skip ?_
    (repeat refine ats_seq ?_); refine ats_block ?_
    (repeat refine ats_seq ?_); refine ats_go (by first | exact fix0 hcx | exact fix1 hcx rfl) fun K hK => ?_; simp only [go_sem, seval]; refine hK _ ?_; clear hK K
    (repeat refine ats_seq ?_); refine ats_go (by first | exact fix0 hcx | exact fix1 hcx rfl) fun K hK => ?_; simp only [go_sem, seval]
    simp only [cubL_length]
    refine hK _ ?_; clear hK K
    (repeat refine ats_seq ?_); refine ats_loop (fun y : Nat => ⟨[(2, .bptr 0 0), (3, .bptr 1 0), (4, .bptr 2 0), (5, .int B.length), (6, .bptr 4 0), (7, .int x), (21, .int N), (22, .int x), (27, .int N), (28, .int y)], [(3, .t3 (cubL N (fun x y w => e3 A (x / B.length) (y / B.length) (w / B.length) * e3 B (x % B.length) (y % B.length) (w % B.length)) x y 0)), (0, .bx [.l3 A]), (1, .bx [.l3 B]), (2, .bx [.nil]), (4, .bx [.ref 3 []])]⟩) (fun y => y ≤ N) (fun y => N - y) 0 (Nat.zero_le _) (by refine And.intro ?_ rfl; simp only [SlotsLe, St.get, slotGet, Nat.reduceEqDiff, ↓reduceIte, true_and, and_true, AV.int.injEq, AV.bool.injEq, AV.l1.injEq, AV.l2.injEq, AV.l3.injEq]; repeat' (first | rfl | omega | refine And.intro ?_ ?_)) (fun y hy => ?_)
    (repeat refine ats_seq ?_); refine ats_go (by first | exact fix0 hcx | exact fix1 hcx rfl) fun K hK => ?_; simp only [go_sem, seval]; refine hK _ ?_; clear hK K
    (repeat refine ats_seq ?_); first | refine ats_ifn (p := _) rfl trivial (fun hc2 => ?_) (fun hc2 => ?_) | refine ats_ifp (p := _) rfl trivial (fun hc2 => ?_) (fun hc2 => ?_) | refine ats_cond rfl trivial (fun hc2 => ?_) (fun hc2 => ?_)
    · obtain ⟨hy1, hy2⟩ := dm_lt (n := A.length) (m := B.length) (x := y) (by rw [eN]; omega)
      obtain ⟨y1, ey1⟩ : ∃ a, y / B.length = a := ⟨_, rfl⟩
      obtain ⟨y2, ey2⟩ : ∃ a, y % B.length = a := ⟨_, rfl⟩
      rw [ey1] at hy1
      rw [ey2] at hy2
      refine ats_skip ?_
      (repeat refine ats_seq ?_); refine ats_block ?_
      (repeat refine ats_seq ?_); refine ats_go (by first | exact fix0 hcx | exact fix1 hcx rfl) fun K hK => ?_; simp only [go_sem, seval]; refine hK _ ?_; clear hK K
      (repeat refine ats_seq ?_); refine ats_go (by first | exact fix0 hcx | exact fix1 hcx rfl) fun K hK => ?_; simp only [go_sem, seval]
      simp only [cubL_length]
      refine hK _ ?_; clear hK K
      (repeat refine ats_seq ?_); refine ats_loop (fun w : Nat => ⟨[(2, .bptr 0 0), (3, .bptr 1 0), (4, .bptr 2 0), (5, .int B.length), (6, .bptr 4 0), (7, .int x), (8, .int y), (21, .int N), (22, .int x), (27, .int N), (28, .int y), (33, .int N), (34, .int w)], [(3, .t3 (cubL N (fun x y w => e3 A (x / B.length) (y / B.length) (w / B.length) * e3 B (x % B.length) (y % B.length) (w % B.length)) x y w)), (0, .bx [.l3 A]), (1, .bx [.l3 B]), (2, .bx [.nil]), (4, .bx [.ref 3 []])]⟩) (fun w => w ≤ N) (fun w => N - w) 0 (Nat.zero_le _) (by refine And.intro ?_ rfl; simp only [SlotsLe, St.get, slotGet, Nat.reduceEqDiff, ↓reduceIte, true_and, and_true, AV.int.injEq, AV.bool.injEq, AV.l1.injEq, AV.l2.injEq, AV.l3.injEq]; repeat' (first | rfl | omega | refine And.intro ?_ ?_)) (fun w hw => ?_)
      have hcl := cubL_length (n := N) (g := fun x y w => e3 A (x / B.length) (y / B.length) (w / B.length) * e3 B (x % B.length) (y % B.length) (w % B.length)) (i := x) (j := y) (k := w)
      (repeat refine ats_seq ?_); refine ats_go (by first | exact fix0 hcx | exact fix1 hcx rfl) fun K hK => ?_; simp only [go_sem, seval]; refine hK _ ?_; clear hK K
      (repeat refine ats_seq ?_); first | refine ats_ifn (p := _) rfl trivial (fun hc3 => ?_) (fun hc3 => ?_) | refine ats_ifp (p := _) rfl trivial (fun hc3 => ?_) (fun hc3 => ?_) | refine ats_cond rfl trivial (fun hc3 => ?_) (fun hc3 => ?_)
      · obtain ⟨hw1, hw2⟩ := dm_lt (n := A.length) (m := B.length) (x := w) (by rw [eN]; omega)
        obtain ⟨w1, ew1⟩ : ∃ a, w / B.length = a := ⟨_, rfl⟩
        obtain ⟨w2, ew2⟩ : ∃ a, w % B.length = a := ⟨_, rfl⟩
        rw [ew1] at hw1
        rw [ew2] at hw2
        have c1 : ((cubL N (fun x y w => e3 A (x / B.length) (y / B.length) (w / B.length) * e3 B (x % B.length) (y % B.length) (w % B.length)) x y w).getD x []).length = N := cubF_mat (by omega)
        have c2 : (((cubL N (fun x y w => e3 A (x / B.length) (y / B.length) (w / B.length) * e3 B (x % B.length) (y % B.length) (w % B.length)) x y w).getD x []).getD y []).length = N := cubF_row (by omega) (by omega)
        have ra := hA.mat hx1
        have ra2 := hA.row hx1 hy1
        have rb := hB.mat hx2
        have rb2 := hB.row hx2 hy2
        have ia := hA.inM hx1 hy1 hw1
        have ib := hB.inM hx2 hy2 hw2
        have mm := mul_le6 (a := e3 A x1 y1 w1) (b := e3 B x2 y2 w2) ia ib
        unfold e3 at mm
        have hst := cubL_set (n := N) (g := fun x y w => e3 A (x / B.length) (y / B.length) (w / B.length) * e3 B (x % B.length) (y % B.length) (w % B.length)) (i := x) (j := y) (k := w) (by omega) (by omega)
        simp only [ex1, ex2, ey1, ey2, ew1, ew2] at hst
        unfold e3 at hst
        refine ats_skip ?_
        (repeat refine ats_seq ?_); refine ats_block ?_
        (repeat refine ats_seq ?_); refine ats_go (by first | exact fix0 hcx | exact fix1 hcx rfl) fun K hK => ?_; simp only [go_sem, seval]; refine hK _ ?_; clear hK K
        (repeat refine ats_seq ?_); refine ats_pick (fix0 hcx) mixed (by kernel_rfl) fun K hK => ?_; simp only [go_sem, seval]
        simp only [tdn, tmn, ex1, ex2, ey1, ey2, ew1, ew2, Int.toNat_natCast, hcl, c1, c2, ra, ra2, rb, rb2]
        (repeat refine And.intro (by first | omega | (intro hq; first | omega | (simp at hq <;> omega) | (simp_all <;> omega))) ?_)
        refine hK _ ?_; clear hK K
        (repeat refine ats_seq ?_); refine ats_go (by first | exact fix0 hcx | exact fix1 hcx rfl) fun K hK => ?_; simp only [go_sem, seval]; (repeat refine And.intro (by first | omega | (intro hq; first | omega | (simp at hq <;> omega) | (simp_all <;> omega))) ?_); refine hK _ ?_; clear hK K
        refine ⟨w + 1,  by omega, by omega, .inl ⟨by simp only [SlotsLe, St.get, slotGet, Nat.reduceEqDiff, ↓reduceIte, AV.int.injEq, AV.bool.injEq, AV.l1.injEq, AV.l2.injEq, AV.l3.injEq, true_and, and_true]; omega,  by rw [← hst]⟩⟩
      · obtain rfl : w = N := by omega
        refine ats_exit (lq_x ?_)
        (repeat refine ats_seq ?_); refine ats_go (by first | exact fix0 hcx | exact fix1 hcx rfl) fun K hK => ?_; simp only [go_sem, seval]; (repeat refine And.intro (by first | omega | (intro hq; first | omega | (simp at hq <;> omega) | (simp_all <;> omega))) ?_); refine hK _ ?_; clear hK K
        refine ⟨y + 1,  by omega, by omega, .inl ⟨by simp only [SlotsLe, St.get, slotGet, Nat.reduceEqDiff, ↓reduceIte, AV.int.injEq, AV.bool.injEq, AV.l1.injEq, AV.l2.injEq, AV.l3.injEq, true_and, and_true]; omega,  by rw [cubL_row]⟩⟩
    · obtain rfl : y = N := by omega
      refine ats_exit (lq_x ?_)
      (repeat refine ats_seq ?_); refine ats_go (by first | exact fix0 hcx | exact fix1 hcx rfl) fun K hK => ?_; simp only [go_sem, seval]; (repeat refine And.intro (by first | omega | (intro hq; first | omega | (simp at hq <;> omega) | (simp_all <;> omega))) ?_); refine hK _ ?_; clear hK K
      refine ⟨x + 1,  by omega, by omega, .inl ⟨by simp only [SlotsLe, St.get, slotGet, Nat.reduceEqDiff, ↓reduceIte, AV.int.injEq, AV.bool.injEq, AV.l1.injEq, AV.l2.injEq, AV.l3.injEq, true_and, and_true]; omega,  by rw [cubL_mat]⟩⟩
  · obtain rfl : x = N := by omega
    refine ats_exit (lq_x ?_)
    rw [cubL_all]
    (repeat refine ats_seq ?_); refine ats_go (by first | exact fix0 hcx | exact fix1 hcx rfl) fun K hK => ?_; simp only [go_sem, seval]; refine hK _ ?_; clear hK K
    exact ats_ret (ownC (v := .agg [.ref 3 []]) (by simp only [go_sem, seval]) rfl (by simp))

set_option maxHeartbeats 4000000 in
theorem productData_ok (s : List (List Int)) (t : List Int) (z : List (List Int)) (u : List Int) (h1 : Shape s t) (h2 : Shape z u) (h16 : t.length * u.length ≤ 16) : FreshCall Try.prog 45 [.agg [.l2 s, .l1 t], .agg [.l2 z, .l1 u]] (.agg [.l2 (prS s z t.length u.length), .l1 (prT t u t.length u.length)]) := by
  have a1 := h1.1
  have b1 := h2.1
  have ha16 := h1.2.1
  have hb16 := h2.2.1
  have hm1 := h1.2.2.1
  have hm2 := h2.2.2.1
  have ls := hm1.1
  have lz := hm2.1
  have hp : 0 < t.length * u.length := Nat.mul_pos (by omega) (by omega)
  obtain ⟨N, eN⟩ : ∃ N, t.length * u.length = N := ⟨_, rfl⟩
  have hN' : (t.length : Int) * (u.length : Int) = (N : Int) := by rw [← eN]; exact (Int.natCast_mul _ _).symm
  rw [eN] at h16 hp
  have eS : prS s z t.length u.length = matF N N (pF s z u.length) := by rw [← eN]; rfl
  have eT : prT t u t.length u.length = rowF N (qF t u u.length) := by rw [← eN]; rfl
  have lrep : (List.replicate N (0 : Int)).length = N := List.length_replicate
  rw [eS, eT]
  refine FreshCall.intro (n := 88) (rs := [.cell 4 29]) Try.call45 Try.func45 rfl rfl rfl (by simp only [List.length_cons, List.length_nil]; omega) (fun cx hcx => ats_of ?_); simp only [argSlots, Nat.zero_add, Nat.reduceAdd]
  (repeat refine ats_seq ?_); refine ats_go (by first | exact fix0 hcx | exact fix1 hcx rfl) fun K hK => ?_; simp only [go_sem, seval]; refine hK _ ?_; clear hK K
  (repeat refine ats_seq ?_); refine ats_go (by first | exact fix0 hcx | exact fix1 hcx rfl) fun K hK => ?_; simp only [go_sem, seval]
  simp only [lz]
  refine hK _ ?_; clear hK K
  (repeat refine ats_seq ?_); refine ats_go (by first | exact fix0 hcx | exact fix1 hcx rfl) fun K hK => ?_; simp only [go_sem, seval]
  simp only [ls, hN']
  (repeat refine And.intro (by first | omega | (intro hq; first | omega | (simp at hq <;> omega) | (simp_all <;> omega))) ?_)
  refine hK _ ?_; clear hK K
  (repeat refine ats_seq ?_)
  refine ats_planG [2] (.one 0 (.one 1 (.alt 2 (.one 3 (.alt 4 (.one 5 (.alt 6 (.alt 7 .fin .stop) .stop)) (.alt 6 (.alt 4 (.one 5 (.alt 7 .fin .stop)) .stop) .stop))) (.alt 3 (.alt 2 (.alt 4 (.one 5 (.alt 6 (.alt 7 .fin .stop) .stop)) (.alt 6 (.alt 4 (.one 5 (.alt 7 .fin .stop)) .stop) .stop)) (.alt 4 (.alt 2 (.one 5 (.alt 6 (.alt 7 .fin .stop) .stop)) (.alt 6 (.alt 2 (.one 5 (.alt 7 .fin .stop)) .stop) .stop)) (.alt 6 (.alt 2 (.alt 4 (.one 5 (.alt 7 .fin .stop)) .stop) (.alt 4 (.alt 2 (.one 5 (.alt 7 .fin .stop)) .stop) .stop)) .stop))) (.alt 6 (.alt 2 (.one 3 (.alt 4 (.one 5 (.alt 7 .fin .stop)) .stop)) (.alt 3 (.alt 2 (.alt 4 (.one 5 (.alt 7 .fin .stop)) .stop) (.alt 4 (.alt 2 (.one 5 (.alt 7 .fin .stop)) .stop) .stop)) .stop)) .stop))))) ⟨[(2, .bptr 0 0), (3, .bptr 1 0), (4, .bptr 2 0), (5, .int u.length), (6, .int N), (7, .bptr 5 0)], [(0, .bx [.l2 s, .l1 t]), (1, .bx [.l2 z, .l1 u]), (2, .bx [.nil, .nil]), (3, .t2 (List.replicate N (List.replicate N 0))), (4, .t1 (List.replicate N 0)), (5, .bx [.ref 3 [], .ref 4 []])]⟩ (fix0 hcx) mixed (by kernel_rfl) (fun K hK => ?_) ?_
  · simp only [go_sem, seval, pl_fin, pl_stop, pl_one, pl_alt, PK_ap, pickO, List.getElem?_toArray, List.getElem?_cons_zero, List.getElem?_cons_succ, Option.getD_some, and_true, true_and, and_self, List.contains_cons, List.contains_nil, Bool.or_false, Bool.or_true]
    repeat' (first | (refine hK _ (ghost_can [] ?_ ?_); (focus (simp only [rnLs, rnL, rn, rns, sw, SlotsLe, St.get, slotGet, List.map_cons, List.map_nil, seval, AV.int.injEq, AV.bool.injEq, AV.l1.injEq, AV.l2.injEq, AV.l3.injEq, true_and, and_true]; done)); (focus (simp only [sortH, insH, rnHs, rnH, rnT, rn, rns, sw, List.map_cons, List.map_nil, seval]; done))) | (refine hK _ (ghost_can [(3, 4)] ?_ ?_); (focus (simp only [rnLs, rnL, rn, rns, sw, SlotsLe, St.get, slotGet, List.map_cons, List.map_nil, seval, AV.int.injEq, AV.bool.injEq, AV.l1.injEq, AV.l2.injEq, AV.l3.injEq, true_and, and_true]; done)); (focus (simp only [sortH, insH, rnHs, rnH, rnT, rn, rns, sw, List.map_cons, List.map_nil, seval]; done))) | (refine hK _ (ghost_can [(3, 5)] ?_ ?_); (focus (simp only [rnLs, rnL, rn, rns, sw, SlotsLe, St.get, slotGet, List.map_cons, List.map_nil, seval, AV.int.injEq, AV.bool.injEq, AV.l1.injEq, AV.l2.injEq, AV.l3.injEq, true_and, and_true]; done)); (focus (simp only [sortH, insH, rnHs, rnH, rnT, rn, rns, sw, List.map_cons, List.map_nil, seval]; done))) | (refine hK _ (ghost_can [(4, 5)] ?_ ?_); (focus (simp only [rnLs, rnL, rn, rns, sw, SlotsLe, St.get, slotGet, List.map_cons, List.map_nil, seval, AV.int.injEq, AV.bool.injEq, AV.l1.injEq, AV.l2.injEq, AV.l3.injEq, true_and, and_true]; done)); (focus (simp only [sortH, insH, rnHs, rnH, rnT, rn, rns, sw, List.map_cons, List.map_nil, seval]; done))) | (refine hK _ (ghost_can [(3, 4), (4, 5)] ?_ ?_); (focus (simp only [rnLs, rnL, rn, rns, sw, SlotsLe, St.get, slotGet, List.map_cons, List.map_nil, seval, AV.int.injEq, AV.bool.injEq, AV.l1.injEq, AV.l2.injEq, AV.l3.injEq, true_and, and_true]; done)); (focus (simp only [sortH, insH, rnHs, rnH, rnT, rn, rns, sw, List.map_cons, List.map_nil, seval]; done))) | (refine hK _ (ghost_can [(4, 5), (3, 4)] ?_ ?_); (focus (simp only [rnLs, rnL, rn, rns, sw, SlotsLe, St.get, slotGet, List.map_cons, List.map_nil, seval, AV.int.injEq, AV.bool.injEq, AV.l1.injEq, AV.l2.injEq, AV.l3.injEq, true_and, and_true]; done)); (focus (simp only [sortH, insH, rnHs, rnH, rnT, rn, rns, sw, List.map_cons, List.map_nil, seval]; done))) | omega | refine And.intro ?_ ?_ | (refine fcall_own rfl (zeros_ok N N (by omega) (by omega)) rfl ?_; simp only [go_sem, seval, pl_fin, pl_stop, pl_one, pl_alt, PK_ap, pickO, List.getElem?_toArray, List.getElem?_cons_zero, List.getElem?_cons_succ, Option.getD_some, and_true, true_and, and_self, List.contains_cons, List.contains_nil, Bool.or_false, Bool.or_true]))
  rw [← matX_zero (f := pF s z u.length), ← updR_zero (f := qF t u u.length) lrep]
  (repeat refine ats_seq ?_); refine ats_go (by first | exact fix0 hcx | exact fix1 hcx rfl) fun K hK => ?_; simp only [go_sem, seval]; refine hK _ ?_; clear hK K
  (repeat refine ats_seq ?_); refine ats_loop (fun x : Nat => ⟨[(2, .bptr 0 0), (3, .bptr 1 0), (4, .bptr 2 0), (5, .int u.length), (6, .int N), (7, .bptr 5 0), (24, .int N), (25, .int x)], [(0, .bx [.l2 s, .l1 t]), (1, .bx [.l2 z, .l1 u]), (2, .bx [.nil, .nil]), (3, .t2 (matX N (pF s z u.length) x 0)), (4, .t1 (updR (qF t u u.length) (List.replicate N 0) N x)), (5, .bx [.ref 3 [], .ref 4 []])]⟩) (fun x => x ≤ N) (fun x => N - x) 0 (Nat.zero_le _) (by refine And.intro ?_ rfl; simp only [SlotsLe, St.get, slotGet, Nat.reduceEqDiff, ↓reduceIte, true_and, and_true, AV.int.injEq, AV.bool.injEq, AV.l1.injEq, AV.l2.injEq, AV.l3.injEq]; repeat' (first | rfl | omega | refine And.intro ?_ ?_)) (fun x hx => ?_)
  (repeat refine ats_seq ?_); refine ats_go (by first | exact fix0 hcx | exact fix1 hcx rfl) fun K hK => ?_; simp only [go_sem, seval]; refine hK _ ?_; clear hK K
  (repeat refine ats_seq ?_); first | refine ats_ifn (p := _) rfl trivial (fun hc1 => ?_) (fun hc1 => ?_) | refine ats_ifp (p := _) rfl trivial (fun hc1 => ?_) (fun hc1 => ?_) | refine ats_cond rfl trivial (fun hc1 => ?_) (fun hc1 => ?_)
  · obtain ⟨hx1, hx2⟩ := dm_lt (n := t.length) (m := u.length) (x := x) (by rw [eN]; omega)
    have hst4 := updR_step (f := qF t u u.length) (r := List.replicate N 0) (n := N) (j := x) (by omega)
    unfold qF at hst4
    obtain ⟨x1, ex1⟩ : ∃ a, x / u.length = a := ⟨_, rfl⟩
    obtain ⟨x2, ex2⟩ : ∃ a, x % u.length = a := ⟨_, rfl⟩
    rw [ex1] at hx1
    rw [ex2] at hx2
    have mt := mulP (h1.2.2.2 x1 hx1) (h2.2.2.2 x2 hx2)
    have rs1 := hm1.row hx1
    have rz1 := hm2.row hx2
    refine ats_skip ?_
    (repeat refine ats_seq ?_); refine ats_block ?_
    (repeat refine ats_seq ?_); refine ats_go (by first | exact fix0 hcx | exact fix1 hcx rfl) fun K hK => ?_; simp only [go_sem, seval]; refine hK _ ?_; clear hK K
    (repeat refine ats_seq ?_); refine ats_pick (fix0 hcx) mixed (by kernel_rfl) fun K hK => ?_; simp only [go_sem, seval]
    simp only [tdn, tmn, ex1, ex2, Int.toNat_natCast, updR_length]
    try simp (disch := omega) only [tmP, tdP]
    (repeat refine And.intro (by first | omega | (intro hq; first | omega | (simp at hq <;> omega) | (simp_all <;> omega))) ?_)
    refine hK _ ?_; clear hK K
    have e4 : (updR (qF t u u.length) (List.replicate N 0) N x).set x (t.getD x1 0 * u.getD x2 0 % 55441) = updR (qF t u u.length) (List.replicate N 0) N (x + 1) := by
      rw [← ex1, ← ex2]
      exact hst4
    simp only [e4]
    (repeat refine ats_seq ?_); refine ats_go (by first | exact fix0 hcx | exact fix1 hcx rfl) fun K hK => ?_; simp only [go_sem, seval]; refine hK _ ?_; clear hK K
    (repeat refine ats_seq ?_); refine ats_loop (fun y : Nat => ⟨[(2, .bptr 0 0), (3, .bptr 1 0), (4, .bptr 2 0), (5, .int u.length), (6, .int N), (7, .bptr 5 0), (8, .int x), (24, .int N), (25, .int x), (48, .int N), (49, .int y)], [(0, .bx [.l2 s, .l1 t]), (1, .bx [.l2 z, .l1 u]), (2, .bx [.nil, .nil]), (3, .t2 (matX N (pF s z u.length) x y)), (4, .t1 (updR (qF t u u.length) (List.replicate N 0) N (x + 1))), (5, .bx [.ref 3 [], .ref 4 []])]⟩) (fun y => y ≤ N) (fun y => N - y) 0 (Nat.zero_le _) (by refine And.intro ?_ rfl; simp only [SlotsLe, St.get, slotGet, Nat.reduceEqDiff, ↓reduceIte, true_and, and_true, AV.int.injEq, AV.bool.injEq, AV.l1.injEq, AV.l2.injEq, AV.l3.injEq]; repeat' (first | rfl | omega | refine And.intro ?_ ?_)) (fun y hy => ?_)
    have hcl := matX_length (N := N) (f := pF s z u.length) (x := x) (y := y)
    (repeat refine ats_seq ?_); refine ats_go (by first | exact fix0 hcx | exact fix1 hcx rfl) fun K hK => ?_; simp only [go_sem, seval]; refine hK _ ?_; clear hK K
    (repeat refine ats_seq ?_); first | refine ats_ifn (p := _) rfl trivial (fun hc2 => ?_) (fun hc2 => ?_) | refine ats_ifp (p := _) rfl trivial (fun hc2 => ?_) (fun hc2 => ?_) | refine ats_cond rfl trivial (fun hc2 => ?_) (fun hc2 => ?_)
    · obtain ⟨hy1, hy2⟩ := dm_lt (n := t.length) (m := u.length) (x := y) (by rw [eN]; omega)
      have hst3 := matX_set (N := N) (f := pF s z u.length) (x := x) (y := y) (by omega)
      have c1 := matX_rowl (N := N) (f := pF s z u.length) (x := x) (y := y) (i := x) (by omega)
      obtain ⟨y1, ey1⟩ : ∃ a, y / u.length = a := ⟨_, rfl⟩
      obtain ⟨y2, ey2⟩ : ∃ a, y % u.length = a := ⟨_, rfl⟩
      rw [ey1] at hy1
      rw [ey2] at hy2
      have ef : pF s z u.length x y = (s.getD x1 []).getD y1 0 * (z.getD x2 []).getD y2 0 % 55441 := by unfold pF; rw [ex1, ex2, ey1, ey2]
      rw [ef] at hst3
      have ms := mulP (hm1.inP hx1 hy1) (hm2.inP hx2 hy2)
      simp only [e2] at ms
      refine ats_skip ?_
      (repeat refine ats_seq ?_); refine ats_block ?_
      (repeat refine ats_seq ?_); refine ats_go (by first | exact fix0 hcx | exact fix1 hcx rfl) fun K hK => ?_; simp only [go_sem, seval]; refine hK _ ?_; clear hK K
      (repeat refine ats_seq ?_); refine ats_pick (fix0 hcx) mixed (by kernel_rfl) fun K hK => ?_; simp only [go_sem, seval]
      simp only [tdn, tmn, ex1, ex2, ey1, ey2, Int.toNat_natCast, hcl, c1, ls, lz, rs1, rz1]
      try simp (disch := omega) only [tmP, tdP]
      (repeat refine And.intro (by first | omega | (intro hq; first | omega | (simp at hq <;> omega) | (simp_all <;> omega))) ?_)
      refine hK _ ?_; clear hK K
      (repeat refine ats_seq ?_); refine ats_go (by first | exact fix0 hcx | exact fix1 hcx rfl) fun K hK => ?_; simp only [go_sem, seval]; (repeat refine And.intro (by first | omega | (intro hq; first | omega | (simp at hq <;> omega) | (simp_all <;> omega))) ?_); refine hK _ ?_; clear hK K
      refine ⟨y + 1,  by omega, by omega, .inl ⟨by simp only [SlotsLe, St.get, slotGet, Nat.reduceEqDiff, ↓reduceIte, AV.int.injEq, AV.bool.injEq, AV.l1.injEq, AV.l2.injEq, AV.l3.injEq, true_and, and_true]; omega,  by rw [hst3]⟩⟩
    · obtain rfl : y = N := by omega
      refine ats_exit (lq_x ?_)
      (repeat refine ats_seq ?_); refine ats_go (by first | exact fix0 hcx | exact fix1 hcx rfl) fun K hK => ?_; simp only [go_sem, seval]; (repeat refine And.intro (by first | omega | (intro hq; first | omega | (simp at hq <;> omega) | (simp_all <;> omega))) ?_); refine hK _ ?_; clear hK K
      refine ⟨x + 1,  by omega, by omega, .inl ⟨by simp only [SlotsLe, St.get, slotGet, Nat.reduceEqDiff, ↓reduceIte, AV.int.injEq, AV.bool.injEq, AV.l1.injEq, AV.l2.injEq, AV.l3.injEq, true_and, and_true]; omega,  by rw [matX_row]⟩⟩
  · obtain rfl : x = N := by omega
    refine ats_exit (lq_x ?_)
    rw [matX_all, updR_end]
    (repeat refine ats_seq ?_); refine ats_go (by first | exact fix0 hcx | exact fix1 hcx rfl) fun K hK => ?_; simp only [go_sem, seval]; refine hK _ ?_; clear hK K
    exact ats_ret (ownC (v := .agg [.ref 3 [], .ref 4 []]) (by simp only [go_sem, seval]) rfl (by simp))
end Go.Proofs.Ytphokmkmpelnfaa
