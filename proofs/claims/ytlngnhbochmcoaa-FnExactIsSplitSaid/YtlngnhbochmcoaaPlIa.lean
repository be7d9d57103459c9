import Derived.Test.YtlngnhbochmcoaaQd9
set_option linter.unusedSimpArgs false
set_option linter.unusedVariables false
namespace Go.Pl
open Go.Aw
structure VerP (s : List (List Int)) (t : List Int) (N : Nat → Nat → Nat → Int) : Prop where
 shape : Shape s t
 start : Jo_ s t
 whole : y7_ s t.length ≠ 0
 sq : ∀ i, i < t.length → ∀ j, j < t.length → e2 (sqD s t.length) i j = if i = j then y7_ s t.length else 0
 turn : aU5 s t
 bd : ∀ i, i < t.length → ∀ j, j < t.length → ∀ k, k < t.length → InP (N i j k)
 ver : ∀ i, i < t.length → ∀ j, j < t.length → ∀ l, l < t.length → Cg (e2 s i l * e2 s j l) (e2 s 0 l * sumTo (fun c => N i j c * e2 s c l) t.length)
variable {s : List (List Int)} {t : List Int} {N : Nat → Nat → Nat → Int}
theorem VerP.cI (h : VerP s t N) {i : Nat} (hi : i < t.length) : cI s t.length i = i := by
 have hw := h.whole
 refine Jq_ (d := 0) (by rw [au7 hi]; exact hi) ?_ fun j hj hne => ?_
 ·have := h.sq i hi i hi
  rw [if_pos rfl] at this
  unfold e2 at this
  rw [this]
  simp [hw]
 ·rw [au7 hi] at hj
  have := h.sq i hi j hj
  rw [if_neg (fun e => hne e.symm)] at this
  unfold e2 at this
  rw [this]
  simp
theorem VerP.step (h : VerP s t N) {i : Nat} (hi : i < t.length) : au6 s t i := by
 have hc := h.cI hi
 refine ⟨⟨by omega, ?_, fun k hk hne => ?_⟩, fun j hj e => ?_, by rw [hc]; rfl, by rw [hc]; omega⟩
 ·rw [hc, Int.toNat_natCast, h.sq i hi i hi, if_pos rfl]
 ·rw [hc, Int.toNat_natCast] at hne
  rw [h.sq i hi k hk, if_neg (fun e => hne e.symm)]
 ·rw [h.cI (by omega : j < t.length), hc] at e
  omega
theorem VerP.num (h : VerP s t N) {i j k : Nat} (hi : i < t.length) (hj : j < t.length) (hk : k < t.length) : bg7 s t.length (cL s t.length) i j k = N i j k := by
 have hck : ((cL s t.length).getD k 0).toNat = k := by rw [aU6 hk, h.cI hk, Int.toNat_natCast]
 refine Cg.eq (x7_ _) (h.bd i hi j hj k hk) ?_
 unfold bg7
 refine (Cg.md _).trans ?_
 have h1 : Cg (sumTo (nG s t.length (cL s t.length) i j k) t.length) (N i j k * y7_ s t.length) := by
  have e1 : ∀ l, l < t.length → Cg (nG s t.length (cL s t.length) i j k l) (sumTo (fun c => N i j c * e2 s c l) t.length * e2 s k l) := by
   intro l hl
   unfold nG
   rw [hck]
   refine Cg.mul ?_ rfl
   have h0 : InP (e2 s 0 l) := h.shape.2.2.1.inP (by omega) hl
   have hne := h.start.2.2.2.1 l hl
   have hm := wZ_ h0 hne
   have e2' : Cg (e2 s i l * e2 s j l * inv (e2 s 0 l)) (e2 s 0 l * sumTo (fun c => N i j c * e2 s c l) t.length * inv (e2 s 0 l)) := Cg.mul (h.ver i hi j hj l hl) rfl
   refine e2'.trans ?_
   rw [show e2 s 0 l * sumTo (fun c => N i j c * e2 s c l) t.length * inv (e2 s 0 l) = (e2 s 0 l * inv (e2 s 0 l)) * sumTo (fun c => N i j c * e2 s c l) t.length by
    rw [Int.mul_assoc, Int.mul_comm (sumTo _ _), ← Int.mul_assoc]]
   have h3 : Cg (e2 s 0 l * inv (e2 s 0 l)) 1 := hm
   have := Cg.mul h3 (b := sumTo (fun c => N i j c * e2 s c l) t.length) rfl
   rwa [Int.one_mul] at this
  refine (Cg.sum e1).trans ?_
  have e3 : sumTo (fun l => sumTo (fun c => N i j c * e2 s c l) t.length * e2 s k l) t.length = sumTo (fun c => N i j c * sumTo (fun l => e2 s c l * e2 s k l) t.length) t.length := by
   have : ∀ l, l < t.length → sumTo (fun c => N i j c * e2 s c l) t.length * e2 s k l = sumTo (fun c => N i j c * e2 s c l * e2 s k l) t.length := fun l _ => sum_mul.symm
   rw [xs_ this, z0_]
   refine xs_ fun c _ => ?_
   rw [← mul_sum]
   exact xs_ fun l _ => Int.mul_assoc ..
  rw [e3]
  have e4 : ∀ c, c < t.length → Cg (N i j c * sumTo (fun l => e2 s c l * e2 s k l) t.length) (if c = k then N i j c * y7_ s t.length else 0) := by
   intro c hc
   have hq : Cg (sumTo (fun l => e2 s c l * e2 s k l) t.length) (if c = k then y7_ s t.length else 0) := by
    have hs := h.sq c hc k hk
    unfold sqD wz_ at hs
    rw [zN_ hc hk] at hs
    have e5 : sumTo (fun l => e2 s c l * e2 s k l) t.length = sumTo (pG s s c k) t.length := xs_ fun l hl => by
     unfold pG
     rw [h.start.1 k hk l hl]
    rw [e5, ← hs]
    exact (Cg.md _).symm
   have := Cg.mul (a := N i j c) rfl hq
   refine this.trans ?_
   split
   ·rfl
   ·rw [Int.mul_zero]
  refine (Cg.sum e4).trans ?_
  rw [Z4_ (f := fun c => N i j c * y7_ s t.length) hk]
 have h2 := Cg.mul h1 (b := inv (y7_ s t.length)) rfl
 refine h2.trans ?_
 have hw : y7_ s t.length * inv (y7_ s t.length) % 55441 = 1 := wZ_ (x7_ _) h.whole
 have := Cg.mul (a := N i j k) rfl (show Cg (y7_ s t.length * inv (y7_ s t.length)) 1 from hw)
 rw [Int.mul_one] at this
 rwa [Int.mul_assoc]
theorem Rd_ {f : Nat → Int} {n j : Nat} (hj : j < n) (h : ∀ c, c < n → j < c → f c = 0) : sumTo f n = sumTo f j + f j := by
 have : ∀ m, j < m → m ≤ n → sumTo f m = sumTo f j + f j := by
  intro m
  induction m with
  | zero => intro h; omega
  | succ m ih =>
   intro h1 h2
   by_cases e : m = j
   ·subst e; rfl
   ·rw [sumTo, ih (by omega) (by omega), h m (by omega) (by omega), Int.add_zero]
 exact this n hj (Nat.le_refl _)
theorem Cg.add_right {a b c d e : Int} (h : Cg (a + c) (b + d)) (h2 : Cg c e) (h3 : Cg d e) : Cg a b := by
 unfold Cg at h h2 h3 ⊢
 omega
theorem aH4 {n : Nat} {x : Nat → Int} {N : Nat → Nat → Nat → Int} (h1n : 1 < n) (h0 : InP (x 0)) (hne : x 0 ≠ 0)
  (hu : ∀ i, i < n → ∀ k, k < n → N i 0 k = dl i k)
  (hbr : ∀ i, i < n → ∀ j, j < n → ∀ d, d < n → sumTo (fun m => N i j m * N m 1 d) n = sumTo (fun m => N j 1 m * N i m d) n)
  (htri : ∀ j, j + 1 < n → N j 1 (j + 1) = 1 ∧ ∀ c, c < n → j + 1 < c → N j 1 c = 0)
  (hg : ∀ i, i < n → Cg (x i * x 1) (x 0 * sumTo (fun c => N i 1 c * x c) n)) :
  ∀ j, j < n → ∀ i, i < n → Cg (x i * x j) (x 0 * sumTo (fun d => N i j d * x d) n) := by
 intro j
 induction j using Nat.strongRecOn with
 | _ j ih =>
  intro hj i hi
  cases j with
  | zero =>
   have e : sumTo (fun d => N i 0 d * x d) n = x i := by
    have : ∀ d, d < n → N i 0 d * x d = if d = i then x d else 0 := fun d hd => by
     rw [hu i hi d hd, av4]
     by_cases c : d = i
     ·subst c; simp
     ·rw [if_neg c, if_neg (fun e => c (by omega)), Int.zero_mul]
    rw [xs_ this, Z4_ hi]
   rw [e, Int.mul_comm]
   rfl
  | succ j =>
   have hj' : j < n := by omega
   obtain ⟨t1, t2⟩ := htri j hj
   have E1 : sumTo (fun c => N j 1 c * x c) n = sumTo (fun c => N j 1 c * x c) (j + 1) + x (j + 1) := by
    rw [Rd_ hj fun c hc hlt => by rw [t2 c hc hlt, Int.zero_mul], t1, Int.one_mul]
   have E2 : sumTo (fun c => N i j c * sumTo (fun d => N c 1 d * x d) n) n = sumTo (fun c => N j 1 c * sumTo (fun d => N i c d * x d) n) (j + 1) + sumTo (fun d => N i (j + 1) d * x d) n := by
    have a1 : sumTo (fun c => N i j c * sumTo (fun d => N c 1 d * x d) n) n = sumTo (fun d => sumTo (fun c => N i j c * N c 1 d) n * x d) n := by
     have : ∀ c, c < n → N i j c * sumTo (fun d => N c 1 d * x d) n = sumTo (fun d => N i j c * N c 1 d * x d) n := fun c _ => by
      rw [← mul_sum]
      exact xs_ fun d _ => (Int.mul_assoc ..).symm
     rw [xs_ this, z0_]
     exact xs_ fun d _ => sum_mul
    have a2 : sumTo (fun c => N j 1 c * sumTo (fun d => N i c d * x d) n) n = sumTo (fun d => sumTo (fun c => N j 1 c * N i c d) n * x d) n := by
     have : ∀ c, c < n → N j 1 c * sumTo (fun d => N i c d * x d) n = sumTo (fun d => N j 1 c * N i c d * x d) n := fun c _ => by
      rw [← mul_sum]
      exact xs_ fun d _ => (Int.mul_assoc ..).symm
     rw [xs_ this, z0_]
     exact xs_ fun d _ => sum_mul
    have a3 : sumTo (fun d => sumTo (fun c => N i j c * N c 1 d) n * x d) n = sumTo (fun d => sumTo (fun c => N j 1 c * N i c d) n * x d) n := xs_ fun d hd => by rw [hbr i hi j hj' d hd]
    rw [a1, a3, ← a2, Rd_ hj fun c hc hlt => by rw [t2 c hc hlt, Int.zero_mul], t1, Int.one_mul]
   refine Cg.cancel h0 hne ?_
   have L1 : Cg (x i * (x j * x 1)) (x 0 * (x 0 * sumTo (fun c => N i j c * sumTo (fun d => N c 1 d * x d) n) n)) := by
    have b1 : Cg (x i * x j * x 1) (x 0 * sumTo (fun d => N i j d * x d) n * x 1) := Cg.mul (ih j (by omega) hj' i hi) rfl
    rw [Int.mul_assoc, Int.mul_assoc] at b1
    refine b1.trans (Cg.mul rfl ?_)
    rw [← sum_mul]
    have b2 : Cg (sumTo (fun d => N i j d * x d * x 1) n) (sumTo (fun d => x 0 * (N i j d * sumTo (fun e => N d 1 e * x e) n)) n) := Cg.sum fun d hd => by
     rw [Int.mul_assoc, show x 0 * (N i j d * sumTo (fun e => N d 1 e * x e) n) = N i j d * (x 0 * sumTo (fun e => N d 1 e * x e) n) by rw [← Int.mul_assoc, ← Int.mul_assoc, Int.mul_comm (x 0)]]
     exact Cg.mul rfl (hg d hd)
    rwa [mul_sum] at b2
   have L2 : Cg (x i * (x j * x 1)) (x i * (x 0 * (sumTo (fun c => N j 1 c * x c) (j + 1) + x (j + 1)))) := by
    refine Cg.mul rfl ?_
    rw [← E1]
    exact hg j hj'
   have L3 : Cg (x i * (x 0 * sumTo (fun c => N j 1 c * x c) (j + 1))) (x 0 * (x 0 * sumTo (fun c => N j 1 c * sumTo (fun d => N i c d * x d) n) (j + 1))) := by
    rw [show x i * (x 0 * sumTo (fun c => N j 1 c * x c) (j + 1)) = x 0 * (x i * sumTo (fun c => N j 1 c * x c) (j + 1)) by rw [← Int.mul_assoc, ← Int.mul_assoc, Int.mul_comm (x i)],
     (mul_sum (f := fun c => N j 1 c * x c) (c := x i) (n := j + 1)).symm, (mul_sum (f := fun c => N j 1 c * sumTo (fun d => N i c d * x d) n) (c := x 0) (n := j + 1)).symm]
    refine Cg.mul rfl (Cg.sum fun c hc => ?_)
    rw [show x i * (N j 1 c * x c) = N j 1 c * (x i * x c) by rw [← Int.mul_assoc, ← Int.mul_assoc, Int.mul_comm (x i)],
     show x 0 * (N j 1 c * sumTo (fun d => N i c d * x d) n) = N j 1 c * (x 0 * sumTo (fun d => N i c d * x d) n) by rw [← Int.mul_assoc, ← Int.mul_assoc, Int.mul_comm (x 0)]]
    exact Cg.mul rfl (ih c hc (by omega) i hi)
   rw [E2] at L1
   have L4 := L2.symm.trans L1
   rw [Int.mul_add, Int.mul_add, Int.mul_add, Int.mul_add, Int.add_comm, Int.add_comm (x 0 * (x 0 * sumTo (fun c => N j 1 c * sumTo (fun d => N i c d * x d) n) (j + 1)))] at L4
   have L5 := Cg.add_right L4 L3 rfl
   rw [show x i * (x 0 * x (j + 1)) = x 0 * (x i * x (j + 1)) by rw [← Int.mul_assoc, ← Int.mul_assoc, Int.mul_comm (x i)]] at L5
   exact L5
end Go.Pl
