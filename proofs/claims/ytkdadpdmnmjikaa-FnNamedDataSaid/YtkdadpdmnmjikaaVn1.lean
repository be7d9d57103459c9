import Derived.Test.YtkdadpdmnmjikaaKp1
import Derived.Test.YtkdadpdmnmjikaaQd9
set_option linter.unusedSimpArgs false
set_option linter.unusedVariables false
namespace Go.Pl
open Go.Aw
structure VerP (s : List (List Int)) (t : List Int) (N : Nat → Nat → Nat → Int) : Prop where
 shape : Shape s t
 start : StartP s t
 whole : wholeD s t.length ≠ 0
 sq : ∀ i, i < t.length → ∀ j, j < t.length → e2 (sqD s t.length) i j = if i = j then wholeD s t.length else 0
 turn : TurnP s t
 bd : ∀ i, i < t.length → ∀ j, j < t.length → ∀ k, k < t.length → InP (N i j k)
 ver : ∀ i, i < t.length → ∀ j, j < t.length → ∀ l, l < t.length → Cg (e2 s i l * e2 s j l) (e2 s 0 l * sumTo (fun c => N i j c * e2 s c l) t.length)
variable {s : List (List Int)} {t : List Int} {N : Nat → Nat → Nat → Int}
theorem VerP.cI (h : VerP s t N) {i : Nat} (hi : i < t.length) : cI s t.length i = i := by
 have hw := h.whole
 refine fidx_uniq (d := 0) (by rw [sq_row hi]; exact hi) ?_ fun j hj hne => ?_
 ·have := h.sq i hi i hi
  rw [if_pos rfl] at this
  unfold e2 at this
  rw [this]
  simp [hw]
 ·rw [sq_row hi] at hj
  have := h.sq i hi j hj
  rw [if_neg (fun e => hne e.symm)] at this
  unfold e2 at this
  rw [this]
  simp
theorem VerP.step (h : VerP s t N) {i : Nat} (hi : i < t.length) : StepOk s t i := by
 have hc := h.cI hi
 refine ⟨⟨by omega, ?_, fun k hk hne => ?_⟩, fun j hj e => ?_, by rw [hc]; rfl, by rw [hc]; omega⟩
 ·rw [hc, Int.toNat_natCast, h.sq i hi i hi, if_pos rfl]
 ·rw [hc, Int.toNat_natCast] at hne
  rw [h.sq i hi k hk, if_neg (fun e => hne e.symm)]
 ·rw [h.cI (by omega : j < t.length), hc] at e
  omega
theorem VerP.num (h : VerP s t N) {i j k : Nat} (hi : i < t.length) (hj : j < t.length) (hk : k < t.length) : numV s t.length (cL s t.length) i j k = N i j k := by
 have hck : ((cL s t.length).getD k 0).toNat = k := by rw [cL_get hk, h.cI hk, Int.toNat_natCast]
 refine Cg.eq (inP_md _) (h.bd i hi j hj k hk) ?_
 unfold numV
 refine (Cg.md _).trans ?_
 have h1 : Cg (sumTo (nG s t.length (cL s t.length) i j k) t.length) (N i j k * wholeD s t.length) := by
  have e1 : ∀ l, l < t.length → Cg (nG s t.length (cL s t.length) i j k l) (sumTo (fun c => N i j c * e2 s c l) t.length * e2 s k l) := by
   intro l hl
   unfold nG
   rw [hck]
   refine Cg.mul ?_ rfl
   have h0 : InP (e2 s 0 l) := h.shape.2.2.1.inP (by omega) hl
   have hne := h.start.2.2.2.1 l hl
   have hm := mul_inv h0 hne
   have e2' : Cg (e2 s i l * e2 s j l * inv (e2 s 0 l)) (e2 s 0 l * sumTo (fun c => N i j c * e2 s c l) t.length * inv (e2 s 0 l)) := Cg.mul (h.ver i hi j hj l hl) rfl
   refine e2'.trans ?_
   rw [show e2 s 0 l * sumTo (fun c => N i j c * e2 s c l) t.length * inv (e2 s 0 l) = (e2 s 0 l * inv (e2 s 0 l)) * sumTo (fun c => N i j c * e2 s c l) t.length by
    rw [Int.mul_assoc, Int.mul_comm (sumTo _ _), ← Int.mul_assoc]]
   have h3 : Cg (e2 s 0 l * inv (e2 s 0 l)) 1 := hm
   have := Cg.mul h3 (b := sumTo (fun c => N i j c * e2 s c l) t.length) rfl
   rwa [Int.one_mul] at this
  refine (Cg.sum e1).trans ?_
  have e3 : sumTo (fun l => sumTo (fun c => N i j c * e2 s c l) t.length * e2 s k l) t.length = sumTo (fun c => N i j c * sumTo (fun l => e2 s c l * e2 s k l) t.length) t.length := by
   have : ∀ l, l < t.length → sumTo (fun c => N i j c * e2 s c l) t.length * e2 s k l = sumTo (fun c => N i j c * e2 s c l * e2 s k l) t.length := fun l _ => sum_mul.symm
   rw [sum_congr this, sum_comm]
   refine sum_congr fun c _ => ?_
   rw [← mul_sum]
   exact sum_congr fun l _ => Int.mul_assoc ..
  rw [e3]
  have e4 : ∀ c, c < t.length → Cg (N i j c * sumTo (fun l => e2 s c l * e2 s k l) t.length) (if c = k then N i j c * wholeD s t.length else 0) := by
   intro c hc
   have hq : Cg (sumTo (fun l => e2 s c l * e2 s k l) t.length) (if c = k then wholeD s t.length else 0) := by
    have hs := h.sq c hc k hk
    unfold sqD mulM at hs
    rw [matF_e2 hc hk] at hs
    have e5 : sumTo (fun l => e2 s c l * e2 s k l) t.length = sumTo (pG s s c k) t.length := sum_congr fun l hl => by
     unfold pG
     rw [h.start.1 k hk l hl]
    rw [e5, ← hs]
    exact (Cg.md _).symm
   have := Cg.mul (a := N i j c) rfl hq
   refine this.trans ?_
   split
   ·rfl
   ·rw [Int.mul_zero]
  refine (Cg.sum e4).trans ?_
  rw [sum_one (f := fun c => N i j c * wholeD s t.length) hk]
 have h2 := Cg.mul h1 (b := inv (wholeD s t.length)) rfl
 refine h2.trans ?_
 have hw : wholeD s t.length * inv (wholeD s t.length) % 55441 = 1 := mul_inv (inP_md _) h.whole
 have := Cg.mul (a := N i j k) rfl (show Cg (wholeD s t.length * inv (wholeD s t.length)) 1 from hw)
 rw [Int.mul_one] at this
 rwa [Int.mul_assoc]
theorem VerP.data (h : VerP s t N) (hr : isRing (cubF t.length N) = true) : isData s t = true ∧ numD s t.length (cL s t.length) = cubF t.length N := by
 have hn : numD s t.length (cL s t.length) = cubF t.length N := by
  rw [numD_eq]
  exact cubF_congr fun i hi j hj k hk => h.num hi hj hk
 refine ⟨isData_iff.2 ⟨h.shape, ?_⟩, hn⟩
 exact dF_5 h.start h.whole (cj_some_st fun i hi => h.step hi) h.turn (by rw [hn]; exact hr)
theorem sum_upto {f : Nat → Int} {n j : Nat} (hj : j < n) (h : ∀ c, c < n → j < c → f c = 0) : sumTo f n = sumTo f j + f j := by
 have : ∀ m, j < m → m ≤ n → sumTo f m = sumTo f j + f j := by
  intro m
  induction m with
  | zero => intro h; omega
  | succ m ih =>
   intro h1 h2
   by_cases e : m = j
   ·subst e; rfl
   ·rw [sumTo, ih (by omega) (by omega), h m (by omega) (by omega), Int.add_zero]
 exact this n hj (Nat.le_refl _)
theorem Cg.add_right {a b c d e : Int} (h : Cg (a + c) (b + d)) (h2 : Cg c e) (h3 : Cg d e) : Cg a b := by
 unfold Cg at h h2 h3 ⊢
 omega
theorem ver_gen {n : Nat} {x : Nat → Int} {N : Nat → Nat → Nat → Int} (h1n : 1 < n) (h0 : InP (x 0)) (hne : x 0 ≠ 0)
  (hu : ∀ i, i < n → ∀ k, k < n → N i 0 k = dl i k)
  (hbr : ∀ i, i < n → ∀ j, j < n → ∀ d, d < n → sumTo (fun m => N i j m * N m 1 d) n = sumTo (fun m => N j 1 m * N i m d) n)
  (htri : ∀ j, j + 1 < n → N j 1 (j + 1) = 1 ∧ ∀ c, c < n → j + 1 < c → N j 1 c = 0)
  (hg : ∀ i, i < n → Cg (x i * x 1) (x 0 * sumTo (fun c => N i 1 c * x c) n)) :
  ∀ j, j < n → ∀ i, i < n → Cg (x i * x j) (x 0 * sumTo (fun d => N i j d * x d) n) := by
 intro j
 induction j using Nat.strongRecOn with
 | _ j ih =>
  intro hj i hi
  cases j with
  | zero =>
   have e : sumTo (fun d => N i 0 d * x d) n = x i := by
    have : ∀ d, d < n → N i 0 d * x d = if d = i then x d else 0 := fun d hd => by
     rw [hu i hi d hd, dl_ite]
     by_cases c : d = i
     ·subst c; simp
     ·rw [if_neg c, if_neg (fun e => c (by omega)), Int.zero_mul]
    rw [sum_congr this, sum_one hi]
   rw [e, Int.mul_comm]
   rfl
  | succ j =>
   have hj' : j < n := by omega
   obtain ⟨t1, t2⟩ := htri j hj
   have E1 : sumTo (fun c => N j 1 c * x c) n = sumTo (fun c => N j 1 c * x c) (j + 1) + x (j + 1) := by
    rw [sum_upto hj fun c hc hlt => by rw [t2 c hc hlt, Int.zero_mul], t1, Int.one_mul]
   have E2 : sumTo (fun c => N i j c * sumTo (fun d => N c 1 d * x d) n) n = sumTo (fun c => N j 1 c * sumTo (fun d => N i c d * x d) n) (j + 1) + sumTo (fun d => N i (j + 1) d * x d) n := by
    have a1 : sumTo (fun c => N i j c * sumTo (fun d => N c 1 d * x d) n) n = sumTo (fun d => sumTo (fun c => N i j c * N c 1 d) n * x d) n := by
     have : ∀ c, c < n → N i j c * sumTo (fun d => N c 1 d * x d) n = sumTo (fun d => N i j c * N c 1 d * x d) n := fun c _ => by
      rw [← mul_sum]
      exact sum_congr fun d _ => (Int.mul_assoc ..).symm
     rw [sum_congr this, sum_comm]
     exact sum_congr fun d _ => sum_mul
    have a2 : sumTo (fun c => N j 1 c * sumTo (fun d => N i c d * x d) n) n = sumTo (fun d => sumTo (fun c => N j 1 c * N i c d) n * x d) n := by
     have : ∀ c, c < n → N j 1 c * sumTo (fun d => N i c d * x d) n = sumTo (fun d => N j 1 c * N i c d * x d) n := fun c _ => by
      rw [← mul_sum]
      exact sum_congr fun d _ => (Int.mul_assoc ..).symm
     rw [sum_congr this, sum_comm]
     exact sum_congr fun d _ => sum_mul
    have a3 : sumTo (fun d => sumTo (fun c => N i j c * N c 1 d) n * x d) n = sumTo (fun d => sumTo (fun c => N j 1 c * N i c d) n * x d) n := sum_congr fun d hd => by rw [hbr i hi j hj' d hd]
    rw [a1, a3, ← a2, sum_upto hj fun c hc hlt => by rw [t2 c hc hlt, Int.zero_mul], t1, Int.one_mul]
   refine Cg.cancel h0 hne ?_
   have L1 : Cg (x i * (x j * x 1)) (x 0 * (x 0 * sumTo (fun c => N i j c * sumTo (fun d => N c 1 d * x d) n) n)) := by
    have b1 : Cg (x i * x j * x 1) (x 0 * sumTo (fun d => N i j d * x d) n * x 1) := Cg.mul (ih j (by omega) hj' i hi) rfl
    rw [Int.mul_assoc, Int.mul_assoc] at b1
    refine b1.trans (Cg.mul rfl ?_)
    rw [← sum_mul]
    have b2 : Cg (sumTo (fun d => N i j d * x d * x 1) n) (sumTo (fun d => x 0 * (N i j d * sumTo (fun e => N d 1 e * x e) n)) n) := Cg.sum fun d hd => by
     rw [Int.mul_assoc, show x 0 * (N i j d * sumTo (fun e => N d 1 e * x e) n) = N i j d * (x 0 * sumTo (fun e => N d 1 e * x e) n) by rw [← Int.mul_assoc, ← Int.mul_assoc, Int.mul_comm (x 0)]]
     exact Cg.mul rfl (hg d hd)
    rwa [mul_sum] at b2
   have L2 : Cg (x i * (x j * x 1)) (x i * (x 0 * (sumTo (fun c => N j 1 c * x c) (j + 1) + x (j + 1)))) := by
    refine Cg.mul rfl ?_
    rw [← E1]
    exact hg j hj'
   have L3 : Cg (x i * (x 0 * sumTo (fun c => N j 1 c * x c) (j + 1))) (x 0 * (x 0 * sumTo (fun c => N j 1 c * sumTo (fun d => N i c d * x d) n) (j + 1))) := by
    rw [show x i * (x 0 * sumTo (fun c => N j 1 c * x c) (j + 1)) = x 0 * (x i * sumTo (fun c => N j 1 c * x c) (j + 1)) by rw [← Int.mul_assoc, ← Int.mul_assoc, Int.mul_comm (x i)],
     (mul_sum (f := fun c => N j 1 c * x c) (c := x i) (n := j + 1)).symm, (mul_sum (f := fun c => N j 1 c * sumTo (fun d => N i c d * x d) n) (c := x 0) (n := j + 1)).symm]
    refine Cg.mul rfl (Cg.sum fun c hc => ?_)
    rw [show x i * (N j 1 c * x c) = N j 1 c * (x i * x c) by rw [← Int.mul_assoc, ← Int.mul_assoc, Int.mul_comm (x i)],
     show x 0 * (N j 1 c * sumTo (fun d => N i c d * x d) n) = N j 1 c * (x 0 * sumTo (fun d => N i c d * x d) n) by rw [← Int.mul_assoc, ← Int.mul_assoc, Int.mul_comm (x 0)]]
    exact Cg.mul rfl (ih c hc (by omega) i hi)
   rw [E2] at L1
   have L4 := L2.symm.trans L1
   rw [Int.mul_add, Int.mul_add, Int.mul_add, Int.mul_add, Int.add_comm, Int.add_comm (x 0 * (x 0 * sumTo (fun c => N j 1 c * sumTo (fun d => N i c d * x d) n) (j + 1)))] at L4
   have L5 := Cg.add_right L4 L3 rfl
   rw [show x i * (x 0 * x (j + 1)) = x 0 * (x i * x (j + 1)) by rw [← Int.mul_assoc, ← Int.mul_assoc, Int.mul_comm (x i)]] at L5
   exact L5
end Go.Pl
namespace Go.Pl
open Go.Aw
def dotK : List Nat → List Nat → Nat
 | x :: xs, y :: ys => x * y + dotK xs ys
 | _, _ => 0
def zipN (f : Nat → Nat → Nat) : List Nat → List Nat → List Nat
 | x :: xs, y :: ys => f x y :: zipN f xs ys
 | _, _ => []
def mpN (r : List Nat) : List (List Nat) → List Nat → List Nat
 | s :: ss, t :: ts => (dotK r s % 55441) * t % 55441 :: mpN r ss ts
 | _, _ => []
def dtN (r : List Nat) : List (List Nat) → List Nat
 | s :: ss => dotK r s % 55441 :: dtN r ss
 | _ => []
def eqN : List Nat → List Nat → Bool
 | x :: xs, y :: ys => Nat.beq x y && eqN xs ys
 | [], [] => true
 | _, _ => false
def selR (f : Nat → Bool) : Nat → List Nat → List (List Nat) → List Nat
 | _, acc, [] => acc
 | c, acc, r :: rs => selR f (c + 1) (bif f c then zipN Nat.add acc r else acc) rs
def unitN (n i w : Nat) : List Nat := (List.range n).map fun j => bif Nat.beq i j then w else 0
def shapeN (S : List (List Nat)) (t : List Nat) : Bool :=
 Nat.ble 1 t.length && Nat.ble t.length 16 && Nat.beq S.length t.length && S.all (fun r => Nat.beq r.length t.length && r.all (Nat.blt · 55441)) && t.all (Nat.blt · 55441)
def startN (S : List (List Nat)) (t : List Nat) : Bool :=
 ((List.range t.length).all fun i => (List.range t.length).all fun j => Nat.beq ((S.getD i []).getD j 0) ((S.getD j []).getD i 0)) &&
 Nat.beq ((S.getD 0 []).getD 0 0) 1 && Nat.beq (t.getD 0 0) 1 && (S.getD 0 []).all (Nat.blt 0) && t.all (Nat.blt 0)
def wN (S : List (List Nat)) : Nat := dotK (S.getD 0 []) (S.getD 0 []) % 55441
def gN (S : List (List Nat)) (t : List Nat) : Nat := dotK (zipN (fun a b => a * b % 55441) (S.getD 0 []) (S.getD 0 [])) t % 55441
def mlN (c : Nat) : List Nat → List Nat
 | x :: xs => x * c % 55441 :: mlN c xs
 | [] => []
def rowN (S : List (List Nat)) (t : List Nat) (N : Nat → Nat → Nat → Bool) (g i : Nat) (r : List Nat) : Bool :=
 eqN (dtN r S) (unitN t.length i (wN S)) &&
 eqN (mlN (t.getD i 0) (mpN (zipN (fun a b => a * b % 55441) r t) S t)) (mlN g r) &&
 (Nat.ble t.length 1 || eqN (zipN (fun a b => a * b % 55441) r (S.getD 1 [])) (zipN (fun a b => a * b % 55441) (S.getD 0 []) (selR (N i 1) 0 (List.replicate t.length 0) S)))
def chkV (S : List (List Nat)) (t : List Nat) (N : Nat → Nat → Nat → Bool) : Bool :=
 shapeN S t && startN S t && Nat.blt 0 (wN S) && (List.range t.length).all fun i => rowN S t N (gN S t) i (S.getD i [])
def cL1 (x : List Nat) : List Int := x.map fun a : Nat => (a : Int)
def cL2 (x : List (List Nat)) : List (List Int) := x.map cL1
theorem cL1_get (x : List Nat) (i : Nat) : (cL1 x).getD i 0 = ((x.getD i 0 : Nat) : Int) := by
 unfold cL1
 rw [List.getD_eq_getElem?_getD, List.getD_eq_getElem?_getD, List.getElem?_map]
 cases x[i]? <;> rfl
theorem cL2_get (x : List (List Nat)) (i : Nat) : (cL2 x).getD i [] = cL1 (x.getD i []) := by
 unfold cL2
 rw [List.getD_eq_getElem?_getD, List.getD_eq_getElem?_getD, List.getElem?_map]
 cases x[i]? <;> rfl
theorem cL2_e2 (x : List (List Nat)) (i j : Nat) : e2 (cL2 x) i j = (((x.getD i []).getD j 0 : Nat) : Int) := by
 unfold e2
 rw [cL2_get, cL1_get]
theorem dotK_sum : ∀ (n : Nat) (x y : List Nat), x.length = n → y.length = n → ((dotK x y : Nat) : Int) = sumTo (fun k => ((x.getD k 0 : Nat) : Int) * ((y.getD k 0 : Nat) : Int)) n
 | 0, x, y, hx, hy => by
  obtain rfl := List.length_eq_zero_iff.1 hx
  rfl
 | n + 1, x :: xs, y :: ys, hx, hy => by
  have ih := dotK_sum n xs ys (by simpa using hx) (by simpa using hy)
  rw [dotK, Int.natCast_add, Int.natCast_mul, ih]
  have : ∀ (f : Nat → Int) (n : Nat), sumTo f (n + 1) = f 0 + sumTo (fun k => f (k + 1)) n := by
   intro f n
   induction n with
   | zero => simp [sumTo]
   | succ n ih => rw [sumTo, ih, sumTo]; omega
  rw [this]
  rfl
theorem zipN_get {f : Nat → Nat → Nat} : ∀ {x y : List Nat} {k : Nat}, k < x.length → k < y.length → (zipN f x y).getD k 0 = f (x.getD k 0) (y.getD k 0)
 | _ :: _, _ :: _, 0, _, _ => rfl
 | x :: xs, y :: ys, k + 1, h1, h2 => by
  have := zipN_get (f := f) (x := xs) (y := ys) (k := k) (by simpa using h1) (by simpa using h2)
  simpa [zipN] using this
theorem zipN_len {f : Nat → Nat → Nat} : ∀ {x y : List Nat} {n : Nat}, x.length = n → y.length = n → (zipN f x y).length = n
 | [], [], _, h1, _ => by simpa [zipN] using h1
 | x :: xs, y :: ys, n + 1, h1, h2 => by
  have := zipN_len (f := f) (x := xs) (y := ys) (n := n) (by simpa using h1) (by simpa using h2)
  simpa [zipN] using this
 | [], _ :: _, n, h1, h2 => by simp at h1 h2; omega
 | _ :: _, [], n, h1, h2 => by simp at h1 h2; omega
theorem mpN_get {r : List Nat} : ∀ {S : List (List Nat)} {t : List Nat} {k : Nat}, k < S.length → k < t.length → (mpN r S t).getD k 0 = (dotK r (S.getD k []) % 55441) * t.getD k 0 % 55441
 | _ :: _, _ :: _, 0, _, _ => rfl
 | s :: ss, t :: ts, k + 1, h1, h2 => by
  have := mpN_get (r := r) (S := ss) (t := ts) (k := k) (by simpa using h1) (by simpa using h2)
  simpa [mpN] using this
theorem mpN_len {r : List Nat} : ∀ {S : List (List Nat)} {t : List Nat} {n : Nat}, S.length = n → t.length = n → (mpN r S t).length = n
 | [], [], _, h1, _ => by simpa [mpN] using h1
 | x :: xs, y :: ys, n + 1, h1, h2 => by
  have := mpN_len (r := r) (S := xs) (t := ys) (n := n) (by simpa using h1) (by simpa using h2)
  simpa [mpN] using this
 | [], _ :: _, n, h1, h2 => by simp at h1 h2; omega
 | _ :: _, [], n, h1, h2 => by simp at h1 h2; omega
theorem dtN_get {r : List Nat} : ∀ {S : List (List Nat)} {k : Nat}, k < S.length → (dtN r S).getD k 0 = dotK r (S.getD k []) % 55441
 | _ :: _, 0, _ => rfl
 | s :: ss, k + 1, h1 => by
  have := dtN_get (r := r) (S := ss) (k := k) (by simpa using h1)
  simpa [dtN] using this
theorem mlN_get {c : Nat} : ∀ {x : List Nat} {k : Nat}, k < x.length → (mlN c x).getD k 0 = x.getD k 0 * c % 55441
 | _ :: _, 0, _ => rfl
 | x :: xs, k + 1, h1 => by
  have := mlN_get (c := c) (x := xs) (k := k) (by simpa using h1)
  simpa [mlN] using this
theorem eqN_eq : ∀ {x y : List Nat}, eqN x y = true → x = y
 | [], [], _ => rfl
 | x :: xs, y :: ys, h => by
  simp only [eqN, Bool.and_eq_true, Nat.beq_eq] at h
  rw [h.1, eqN_eq h.2]
 | [], _ :: _, h => by simp [eqN] at h
 | _ :: _, [], h => by simp [eqN] at h
theorem unitN_get {n i w j : Nat} (h : j < n) : (unitN n i w).getD j 0 = if i = j then w else 0 := by
 unfold unitN
 rw [List.getD_eq_getElem?_getD, List.getElem?_map, List.getElem?_range h]
 by_cases e : i = j
 ·subst e; simp
 ·have : Nat.beq i j = false := by
   cases hb : Nat.beq i j with
   | false => rfl
   | true => exact absurd (Nat.eq_of_beq_eq_true hb) e
  simp [this, e]
theorem selR_len {f : Nat → Bool} {n : Nat} : ∀ {S : List (List Nat)} {c : Nat} {acc : List Nat}, acc.length = n → (∀ r ∈ S, r.length = n) → (selR f c acc S).length = n
 | [], _, _, h, _ => h
 | r :: rs, c, acc, h, hr => by
  unfold selR
  refine selR_len ?_ fun x hx => hr x (List.mem_cons_of_mem _ hx)
  cases f c with
  | true => exact zipN_len h (hr r (List.mem_cons_self ..))
  | false => exact h
theorem selR_get {f : Nat → Bool} {n l : Nat} (hl : l < n) : ∀ {S : List (List Nat)} {c : Nat} {acc : List Nat}, acc.length = n → (∀ r ∈ S, r.length = n) →
  (((selR f c acc S).getD l 0 : Nat) : Int) = ((acc.getD l 0 : Nat) : Int) + sumTo (fun k => (if f (c + k) then (1 : Int) else 0) * (((S.getD k []).getD l 0 : Nat) : Int)) S.length
 | [], c, acc, h, _ => by simp [selR, sumTo]
 | r :: rs, c, acc, h, hr => by
  have hrl := hr r (List.mem_cons_self ..)
  have hrs : ∀ x ∈ rs, x.length = n := fun x hx => hr x (List.mem_cons_of_mem _ hx)
  have hs : ∀ (f : Nat → Int) (n : Nat), sumTo f (n + 1) = f 0 + sumTo (fun k => f (k + 1)) n := by
   intro f n
   induction n with
   | zero => simp [sumTo]
   | succ n ih => rw [sumTo, ih, sumTo]; omega
  unfold selR
  rw [List.length_cons, hs]
  have hsh : ∀ k, c + 1 + k = c + (k + 1) := fun k => by omega
  cases hf : f c with
  | true =>
   rw [cond_true, selR_get hl (zipN_len h hrl) hrs, zipN_get (by omega) (by omega)]
   simp only [hsh, Nat.add_zero, hf, if_true, Int.one_mul]
   show ((acc.getD l 0 + r.getD l 0 : Nat) : Int) + _ = _
   rw [Int.natCast_add, Int.add_assoc]
   rfl
  | false =>
   rw [cond_false, selR_get hl h hrs]
   simp only [hsh, Nat.add_zero, hf, Bool.false_eq_true, if_false, Int.zero_mul, Int.zero_add]
   rfl
end Go.Pl
namespace Go.Pl
open Go.Aw
theorem Cg.trans {a b c : Int} (h : Cg a b) (h2 : Cg b c) : Cg a c := Eq.trans h h2
structure ChkP (S : List (List Nat)) (t : List Nat) (N : Nat → Nat → Nat → Bool) : Prop where
 n1 : 1 ≤ t.length
 n16 : t.length ≤ 16
 len : S.length = t.length
 row : ∀ i, i < t.length → (S.getD i []).length = t.length
 lt : ∀ i, i < t.length → ∀ j, j < t.length → (S.getD i []).getD j 0 < 55441
 tlt : ∀ i, i < t.length → t.getD i 0 < 55441
 sym : ∀ i, i < t.length → ∀ j, j < t.length → (S.getD i []).getD j 0 = (S.getD j []).getD i 0
 s00 : (S.getD 0 []).getD 0 0 = 1
 t0 : t.getD 0 0 = 1
 s0 : ∀ i, i < t.length → 0 < (S.getD 0 []).getD i 0
 tp : ∀ i, i < t.length → 0 < t.getD i 0
 w : 0 < wN S
 r : ∀ i, i < t.length → rowN S t N (gN S t) i (S.getD i []) = true
theorem all_at {α : Type} {p : α → Bool} {l : List α} {d : α} (h : l.all p = true) {i : Nat} (hi : i < l.length) : p (l.getD i d) = true := by
 rw [List.getD_eq_getElem?_getD, List.getElem?_eq_getElem hi]
 exact List.all_eq_true.1 h _ (List.getElem_mem hi)
theorem rng_at {p : Nat → Bool} {n : Nat} (h : (List.range n).all p = true) {i : Nat} (hi : i < n) : p i = true :=
 List.all_eq_true.1 h i (List.mem_range.2 hi)
theorem blt_lt {a b : Nat} (h : Nat.blt a b = true) : a < b := by
 have : a + 1 ≤ b := by simpa [Nat.blt] using h
 omega
theorem chkV_P {S : List (List Nat)} {t : List Nat} {N : Nat → Nat → Nat → Bool} (h : chkV S t N = true) : ChkP S t N := by
 unfold chkV shapeN startN at h
 simp only [Bool.and_eq_true, Nat.ble_eq, Nat.beq_eq] at h
 obtain ⟨⟨⟨⟨⟨⟨⟨a1, a2⟩, a3⟩, a4⟩, a5⟩, ⟨⟨⟨⟨b1, b2⟩, b3⟩, b4⟩, b5⟩⟩, c1⟩, d1⟩ := h
 have hrow : ∀ i, i < t.length → (S.getD i []).length = t.length ∧ (S.getD i []).all (Nat.blt · 55441) = true := by
  intro i hi
  have := all_at (d := []) a4 (show i < S.length by omega)
  simpa only [Bool.and_eq_true, Nat.beq_eq] using this
 refine ⟨a1, a2, a3, fun i hi => (hrow i hi).1, fun i hi j hj => blt_lt (all_at (p := (Nat.blt · 55441)) (hrow i hi).2 (by rw [(hrow i hi).1]; exact hj)), fun i hi => blt_lt (all_at (p := (Nat.blt · 55441)) a5 hi),
  fun i hi j hj => ?_, b2, b3, fun i hi => blt_lt (all_at (p := Nat.blt 0) b4 (by rw [(hrow 0 (by omega)).1]; exact hi)), fun i hi => blt_lt (all_at (p := Nat.blt 0) b5 hi), blt_lt c1, fun i hi => rng_at d1 hi⟩
 have := rng_at (rng_at b1 hi) hj
 exact Nat.eq_of_beq_eq_true this
section
variable {S : List (List Nat)} {t : List Nat} {N : Nat → Nat → Nat → Bool}
theorem ct_len : (cL1 t).length = t.length := List.length_map ..
theorem ChkP.whole (h : ChkP S t N) : wholeD (cL2 S) t.length = (wN S : Int) := by
 unfold wholeD wN
 rw [Int.natCast_emod, dotK_sum t.length _ _ (h.row 0 h.n1) (h.row 0 h.n1)]
 rw [show ((55441 : Nat) : Int) = 55441 from rfl]
 congr 1
 exact sum_congr fun k _ => by unfold wG; rw [cL2_e2]
theorem ChkP.gauss (h : ChkP S t N) : gaussD (cL2 S) (cL1 t) t.length = (gN S t : Int) := by
 unfold gaussD gN
 rw [Int.natCast_emod, dotK_sum t.length _ _ (zipN_len (h.row 0 h.n1) (h.row 0 h.n1)) rfl]
 rw [show ((55441 : Nat) : Int) = 55441 from rfl]
 congr 1
 exact sum_congr fun k hk => by
  unfold gG
  rw [cL2_e2, cL1_get, zipN_get (by rw [h.row 0 h.n1]; exact hk) (by rw [h.row 0 h.n1]; exact hk), Int.natCast_emod, Int.natCast_mul]
  rfl
theorem ChkP.sq (h : ChkP S t N) {i j : Nat} (hi : i < t.length) (hj : j < t.length) : e2 (sqD (cL2 S) t.length) i j = if i = j then (wN S : Int) else 0 := by
 have hr := h.r i hi
 unfold rowN at hr
 simp only [Bool.and_eq_true] at hr
 have h1 := congrArg (fun l => ((l.getD j 0 : Nat) : Int)) (eqN_eq hr.1.1)
 rw [dtN_get (by rw [h.len]; exact hj), unitN_get hj, Int.natCast_emod, dotK_sum t.length _ _ (h.row i hi) (h.row j hj)] at h1
 unfold sqD mulM
 rw [matF_e2 hi hj]
 have e : sumTo (pG (cL2 S) (cL2 S) i j) t.length = sumTo (fun k => (((S.getD i []).getD k 0 : Nat) : Int) * (((S.getD j []).getD k 0 : Nat) : Int)) t.length := sum_congr fun k hk => by
  unfold pG
  rw [cL2_e2, cL2_e2, h.sym k hk j hj]
 rw [e]
 refine h1.trans ?_
 split <;> rfl
theorem ChkP.sts (h : ChkP S t N) {i j : Nat} (hi : i < t.length) (hj : j < t.length) :
  Cg (sumTo (fun k => e2 (uD (cL2 S) (cL1 t) t.length) i k * e2 (cL2 S) k j) t.length * (cL1 t).getD j 0 * (cL1 t).getD i 0) ((gN S t : Int) * e2 (cL2 S) i j) := by
 have hr := h.r i hi
 unfold rowN at hr
 simp only [Bool.and_eq_true] at hr
 have h1 := congrArg (fun l => ((l.getD j 0 : Nat) : Int)) (eqN_eq hr.1.2)
 have hz : (zipN (fun a b => a * b % 55441) (S.getD i []) t).length = t.length := zipN_len (h.row i hi) rfl
 have hm := mpN_len (r := zipN (fun a b => a * b % 55441) (S.getD i []) t) h.len (rfl : t.length = t.length)
 rw [mlN_get (by rw [hm]; exact hj), mlN_get (by rw [h.row i hi]; exact hj), mpN_get (by rw [h.len]; exact hj) hj, Int.natCast_emod, Int.natCast_emod, Int.natCast_mul, Int.natCast_mul, Int.natCast_emod, Int.natCast_mul, Int.natCast_emod,
  dotK_sum t.length _ _ hz (h.row j hj)] at h1
 rw [show ((55441 : Nat) : Int) = 55441 from rfl] at h1
 have e : sumTo (fun k => (((zipN (fun a b => a * b % 55441) (S.getD i []) t).getD k 0 : Nat) : Int) * (((S.getD j []).getD k 0 : Nat) : Int)) t.length = sumTo (fun k => e2 (uD (cL2 S) (cL1 t) t.length) i k * e2 (cL2 S) k j) t.length := sum_congr fun k hk => by
  unfold uD
  rw [matF_e2 hi hk, cL2_e2, cL2_e2, cL1_get, zipN_get (by rw [h.row i hi]; exact hk) hk, Int.natCast_emod, Int.natCast_mul, h.sym k hk j hj]
  rfl
 rw [e] at h1
 rw [cL1_get, cL1_get, cL2_e2]
 refine Cg.trans ?_ (h1.trans ?_)
 ·exact Cg.mul (Cg.trans (Cg.mul (Cg.md _).symm rfl) (Cg.md _).symm) rfl
 ·rw [Int.mul_comm]
theorem ChkP.turn (h : ChkP S t N) {i j : Nat} (hi : i < t.length) (hj : j < t.length) : e2 (cubeD (cL2 S) (cL1 t) t.length) i j = if i = j then ((gN S t * wN S % 55441 : Nat) : Int) else 0 := by
 have hp : InP ((cL1 t).getD i 0) := by
  rw [cL1_get]
  have := h.tlt i hi
  exact ⟨by omega, by omega⟩
 have hne : (cL1 t).getD i 0 ≠ 0 := by
  rw [cL1_get]
  have := h.tp i hi
  omega
 have hR : InP (if i = j then ((gN S t * wN S % 55441 : Nat) : Int) else 0) := by
  split
  ·exact ⟨by omega, by omega⟩
  ·exact ⟨by omega, by omega⟩
 have hL : InP (e2 (cubeD (cL2 S) (cL1 t) t.length) i j) := by
  unfold cubeD
  exact (mulM_MatP _ _ _).inP hi hj
 refine Cg.eq hL hR (Cg.cancel hp hne ?_)
 -- e2 cubeD i j = sum_m (u u)_im u_mj, (u u)_im = STS_im t_m
 have c1 : ∀ m, m < t.length → Cg ((cL1 t).getD i 0 * e2 (mulM (uD (cL2 S) (cL1 t) t.length) (uD (cL2 S) (cL1 t) t.length) t.length) i m) ((gN S t : Int) * e2 (cL2 S) i m) := by
  intro m hm
  refine Cg.trans ?_ (h.sts hi hm)
  unfold mulM
  rw [matF_e2 hi hm, Int.mul_comm]
  refine Cg.mul ((Cg.md _).trans ?_) rfl
  rw [← sum_mul]
  refine Cg.sum fun k hk => ?_
  unfold pG
  rw [Int.mul_assoc]
  refine Cg.mul rfl ?_
  conv => lhs; unfold uD
  rw [matF_e2 hk hm]
  exact Cg.md _
 have c2 : Cg ((cL1 t).getD i 0 * e2 (cubeD (cL2 S) (cL1 t) t.length) i j) (sumTo (fun m => (gN S t : Int) * e2 (cL2 S) i m * e2 (uD (cL2 S) (cL1 t) t.length) m j) t.length) := by
  unfold cubeD
  conv => lhs; unfold mulM
  rw [matF_e2 hi hj]
  refine (Cg.mul rfl (Cg.md _)).trans ?_
  rw [← mul_sum]
  refine Cg.sum fun m hm => ?_
  unfold pG
  rw [← Int.mul_assoc]
  exact Cg.mul (c1 m hm) rfl
 refine c2.trans ?_
 have c3 : Cg (sumTo (fun m => (gN S t : Int) * e2 (cL2 S) i m * e2 (uD (cL2 S) (cL1 t) t.length) m j) t.length) ((gN S t : Int) * (sumTo (fun m => e2 (cL2 S) i m * e2 (cL2 S) m j) t.length) * (cL1 t).getD j 0) := by
  rw [← mul_sum, ← sum_mul]
  refine Cg.sum fun m hm => ?_
  unfold uD
  rw [matF_e2 hm hj, Int.mul_assoc, Int.mul_assoc, Int.mul_assoc]
  exact Cg.mul rfl (Cg.mul rfl (Cg.md _))
 refine c3.trans ?_
 have c4 : Cg (sumTo (fun m => e2 (cL2 S) i m * e2 (cL2 S) m j) t.length) (if i = j then (wN S : Int) else 0) := by
  rw [← h.sq hi hj]
  unfold sqD mulM
  rw [matF_e2 hi hj]
  exact (Cg.md _).symm
 refine (Cg.mul (Cg.mul rfl c4) rfl).trans ?_
 by_cases e : i = j
 ·subst e
  rw [if_pos rfl, if_pos rfl, Int.natCast_emod, Int.natCast_mul, Int.mul_comm]
  exact Cg.mul rfl (Cg.md _).symm
 ·rw [if_neg e, if_neg e]
  simp only [Int.mul_zero, Int.zero_mul]
  rfl
theorem ChkP.ver (h : ChkP S t N) (hR : RingP (cubF t.length fun i j k => if N i j k then 1 else 0)) (htri : ∀ j, j + 1 < t.length → N j 1 (j + 1) = true ∧ ∀ c, c < t.length → j + 1 < c → N j 1 c = false) : VerP (cL2 S) (cL1 t) (fun i j k => if N i j k then 1 else 0) := by
 have hl := ct_len (t := t)
 have hrows : ∀ r ∈ S, r.length = t.length := by
  intro r hr
  obtain ⟨i, hi, rfl⟩ := List.mem_iff_getElem.1 hr
  have := h.row i (by rw [← h.len]; exact hi)
  rwa [List.getD_eq_getElem?_getD, List.getElem?_eq_getElem hi] at this
 have hcl : (cubF t.length fun i j k => if N i j k then (1 : Int) else 0).length = t.length := cubF_length ..
 have hs : StartP (cL2 S) (cL1 t) := by
  refine ⟨fun i hi j hj => ?_, ?_, ?_, fun i hi => ?_, fun i hi => ?_⟩
  ·rw [hl] at hi hj
   rw [cL2_e2, cL2_e2, h.sym i hi j hj]
  ·rw [cL2_e2, h.s00]; rfl
  ·rw [cL1_get, h.t0]; rfl
  ·rw [hl] at hi
   rw [cL2_e2]
   have := h.s0 i hi
   omega
  ·rw [hl] at hi
   rw [cL1_get]
   have := h.tp i hi
   omega
 refine ⟨⟨by rw [hl]; exact h.n1, by rw [hl]; exact h.n16, ?_, fun i hi => ?_⟩, hs, ?_, fun i hi j hj => ?_, fun i hi j hj => ?_, fun i _ j _ k _ => ?_, fun i hi j hj l hx => ?_⟩
 ·rw [hl]
  refine ⟨by rw [← h.len]; exact List.length_map .., fun i hi => ⟨?_, fun j hj => ?_⟩⟩
  ·rw [cL2_get]
   exact (ct_len (t := S.getD i [])).trans (h.row i hi)
  ·rw [cL2_e2]
   have := h.lt i hi j hj
   exact ⟨by omega, by omega⟩
 ·rw [hl] at hi
  rw [cL1_get]
  have := h.tlt i hi
  exact ⟨by omega, by omega⟩
 ·rw [hl, h.whole]
  have := h.w
  omega
 ·rw [hl] at hi hj ⊢
  rw [h.sq hi hj, h.whole]
 ·rw [hl] at hi hj ⊢
  rw [h.turn hi hj, h.sq hi hj, h.gauss]
  split
  ·rw [Int.natCast_emod, Int.natCast_mul]; rfl
  ·rw [Int.mul_zero]; rfl
 ·show InP (if N i j k then 1 else 0)
  split
  ·exact ⟨by omega, by omega⟩
  ·exact ⟨by omega, by omega⟩
 ·rw [hl] at hi hj hx ⊢
  have hu : ∀ i, i < t.length → ∀ k, k < t.length → (if N i 0 k then (1 : Int) else 0) = dl i k := fun i hi k hk => by
   have := hR.right i (by rw [hcl]; exact hi) k (by rw [hcl]; exact hk)
   rwa [cubF_e3 hi h.n1 hk] at this
  have h0p : InP (e2 (cL2 S) 0 l) := by
   rw [cL2_e2]
   have := h.lt 0 h.n1 l hx
   exact ⟨by omega, by omega⟩
  have h0n : e2 (cL2 S) 0 l ≠ 0 := by
   rw [cL2_e2]
   have := h.s0 l hx
   omega
  by_cases h1n : 1 < t.length
  ·refine ver_gen (x := fun a => e2 (cL2 S) a l) (N := fun i j k => if N i j k then 1 else 0) h1n h0p h0n hu (fun i hi j hj d hd => ?_) (fun j hj => ?_) (fun i hi => ?_) j hj i hi
   ·have := hR.brack i (by rw [hcl]; exact hi) j (by rw [hcl]; exact hj) 1 (by rw [hcl]; exact h1n) d (by rw [hcl]; exact hd)
    rw [hcl] at this
    have e1 : sumTo (brL (cubF t.length fun i j k => if N i j k then (1 : Int) else 0) i j 1 d) t.length = sumTo (fun m => (if N i j m then (1 : Int) else 0) * (if N m 1 d then 1 else 0)) t.length := sum_congr fun m hm => by
     unfold brL
     rw [cubF_e3 hi hj hm, cubF_e3 hm h1n hd]
    have e2 : sumTo (brR (cubF t.length fun i j k => if N i j k then (1 : Int) else 0) i j 1 d) t.length = sumTo (fun m => (if N j 1 m then (1 : Int) else 0) * (if N i m d then 1 else 0)) t.length := sum_congr fun m hm => by
     unfold brR
     rw [cubF_e3 hj h1n hm, cubF_e3 hi hm hd]
    rw [← e1, ← e2]
    exact this
   ·obtain ⟨a, b⟩ := htri j hj
    exact ⟨by rw [a]; rfl, fun c hc hlt => by rw [b c hc hlt]; rfl⟩
   ·have hr := h.r i hi
    unfold rowN at hr
    simp only [Bool.and_eq_true, Bool.or_eq_true, Nat.ble_eq] at hr
    have hr2 := hr.2.resolve_left (by omega)
    have h1 := congrArg (fun q => ((q.getD l 0 : Nat) : Int)) (eqN_eq hr2)
    have hsl : (selR (N i 1) 0 (List.replicate t.length 0) S).length = t.length := selR_len (List.length_replicate ..) hrows
    rw [zipN_get (by rw [h.row i hi]; exact hx) (by rw [h.row 1 h1n]; exact hx), zipN_get (by rw [h.row 0 h.n1]; exact hx) (by rw [hsl]; exact hx), Int.natCast_emod, Int.natCast_emod, Int.natCast_mul, Int.natCast_mul,
     selR_get hx (List.length_replicate ..) hrows, h.len] at h1
    have hz : (List.replicate t.length 0).getD l 0 = 0 := by
     rw [List.getD_eq_getElem?_getD, List.getElem?_replicate, if_pos hx]; rfl
    rw [hz] at h1
    unfold Cg
    simp only [cL2_e2]
    refine h1.trans ?_
    congr 2
    rw [show ((0 : Nat) : Int) = 0 from rfl, Int.zero_add]
    exact sum_congr fun k _ => by rw [Nat.zero_add]
  ·obtain rfl : i = 0 := by omega
   obtain rfl : j = 0 := by omega
   obtain rfl : l = 0 := by omega
   have e1 : t.length = 1 := by have := h.n1; omega
   rw [e1]
   have := hu 0 h.n1 0 h.n1
   simp only [sumTo]
   rw [this, dl_ite, if_pos rfl, Int.one_mul, Int.zero_add]
   rfl
end
theorem chkV_data {S : List (List Nat)} {t : List Nat} {N : Nat → Nat → Nat → Bool} (h : chkV S t N = true) (hR : RingP (cubF t.length fun i j k => if N i j k then 1 else 0))
  (htri : ∀ j, j + 1 < t.length → N j 1 (j + 1) = true ∧ ∀ c, c < t.length → j + 1 < c → N j 1 c = false) :
  isData (cL2 S) (cL1 t) = true ∧ numD (cL2 S) t.length (cL (cL2 S) t.length) = cubF t.length fun i j k => if N i j k then 1 else 0 := by
 have := ((chkV_P h).ver hR htri).data (by rw [ct_len]; exact hR.faults)
 rwa [ct_len] at this
end Go.Pl
namespace Go.Pl
open Go.Aw
noncomputable def consF (n : Nat) (l : List Nat) : List Nat := @Nat.rec (fun _ => List Nat) (0 :: l) (fun k _ => Nat.succ k :: l) n
theorem consF_eq (n : Nat) (l : List Nat) : consF n l = n :: l := by cases n <;> rfl
noncomputable def dotF (x : List Nat) : List Nat → Nat :=
 @List.rec Nat (fun _ => List Nat → Nat) (fun _ => 0) (fun a _ ih y => @List.rec Nat (fun _ => Nat) 0 (fun b ys _ => Nat.add (Nat.mul a b) (ih ys)) y) x
theorem dotF_eq : ∀ x y, dotF x y = dotK x y
 | [], _ => by cases ‹List Nat› <;> rfl
 | _ :: _, [] => rfl
 | a :: x, b :: y => by
  show Nat.add (Nat.mul a b) (dotF x y) = a * b + dotK x y
  rw [dotF_eq x y]; rfl
noncomputable def mulF (x : List Nat) : List Nat → List Nat :=
 @List.rec Nat (fun _ => List Nat → List Nat) (fun _ => []) (fun a _ ih y => @List.rec Nat (fun _ => List Nat) [] (fun b ys _ => consF (Nat.mod (Nat.mul a b) 55441) (ih ys)) y) x
theorem mulF_eq : ∀ x y, mulF x y = zipN (fun a b => a * b % 55441) x y
 | [], _ => by cases ‹List Nat› <;> rfl
 | _ :: _, [] => rfl
 | a :: x, b :: y => by
  show consF (Nat.mod (Nat.mul a b) 55441) (mulF x y) = _
  rw [consF_eq, mulF_eq x y]; rfl
noncomputable def addF (x : List Nat) : List Nat → List Nat :=
 @List.rec Nat (fun _ => List Nat → List Nat) (fun _ => []) (fun a _ ih y => @List.rec Nat (fun _ => List Nat) [] (fun b ys _ => consF (Nat.add a b) (ih ys)) y) x
theorem addF_eq : ∀ x y, addF x y = zipN Nat.add x y
 | [], _ => by cases ‹List Nat› <;> rfl
 | _ :: _, [] => rfl
 | a :: x, b :: y => by
  show consF (Nat.add a b) (addF x y) = _
  rw [consF_eq, addF_eq x y]; rfl
noncomputable def mpF (r : List Nat) (S : List (List Nat)) : List Nat → List Nat :=
 @List.rec (List Nat) (fun _ => List Nat → List Nat) (fun _ => []) (fun a _ ih y => @List.rec Nat (fun _ => List Nat) [] (fun b ys _ => consF (Nat.mod (Nat.mul (Nat.mod (dotF r a) 55441) b) 55441) (ih ys)) y) S
theorem mpF_eq (r : List Nat) : ∀ S y, mpF r S y = mpN r S y
 | [], _ => by cases ‹List Nat› <;> rfl
 | _ :: _, [] => rfl
 | a :: x, b :: y => by
  show consF (Nat.mod (Nat.mul (Nat.mod (dotF r a) 55441) b) 55441) (mpF r x y) = _
  rw [consF_eq, mpF_eq r x y, dotF_eq]; rfl
noncomputable def dtF (r : List Nat) (S : List (List Nat)) : List Nat :=
 @List.rec (List Nat) (fun _ => List Nat) [] (fun a _ ih => consF (Nat.mod (dotF r a) 55441) ih) S
theorem dtF_eq (r : List Nat) : ∀ S, dtF r S = dtN r S
 | [] => rfl
 | a :: x => by
  show consF (Nat.mod (dotF r a) 55441) (dtF r x) = _
  rw [consF_eq, dtF_eq r x, dotF_eq]; rfl
noncomputable def eqF (x : List Nat) : List Nat → Bool :=
 @List.rec Nat (fun _ => List Nat → Bool) (fun y => @List.rec Nat (fun _ => Bool) true (fun _ _ _ => false) y) (fun a _ ih y => @List.rec Nat (fun _ => Bool) false (fun b ys _ => @Bool.rec (fun _ => Bool) false (ih ys) (Nat.beq a b)) y) x
theorem eqF_eq : ∀ x y, eqF x y = eqN x y
 | [], [] => rfl
 | [], _ :: _ => rfl
 | _ :: _, [] => rfl
 | a :: x, b :: y => by
  show @Bool.rec (fun _ => Bool) false (eqF x y) (Nat.beq a b) = (Nat.beq a b && eqN x y)
  rw [eqF_eq x y]
  cases Nat.beq a b <;> rfl
noncomputable def mlF (c : Nat) (x : List Nat) : List Nat :=
 @List.rec Nat (fun _ => List Nat) [] (fun a _ ih => consF (Nat.mod (Nat.mul a c) 55441) ih) x
theorem mlF_eq (c : Nat) : ∀ x, mlF c x = mlN c x
 | [] => rfl
 | a :: x => by
  show consF (Nat.mod (Nat.mul a c) 55441) (mlF c x) = _
  rw [consF_eq, mlF_eq c x]; rfl
noncomputable def selF (f : Nat → Bool) (S : List (List Nat)) : Nat → List Nat → List Nat :=
 @List.rec (List Nat) (fun _ => Nat → List Nat → List Nat) (fun _ acc => acc) (fun r _ ih c acc => @Bool.rec (fun _ => List Nat) (ih (Nat.succ c) acc) (ih (Nat.succ c) (addF acc r)) (f c)) S
theorem selF_eq (f : Nat → Bool) : ∀ S c acc, selF f S c acc = selR f c acc S
 | [], _, _ => rfl
 | r :: S, c, acc => by
  show @Bool.rec (fun _ => List Nat) (selF f S (Nat.succ c) acc) (selF f S (Nat.succ c) (addF acc r)) (f c) = selR f (c + 1) (bif f c then zipN Nat.add acc r else acc) S
  rw [selF_eq f S, selF_eq f S, addF_eq]
  cases f c <;> rfl
noncomputable def rowK (S : List (List Nat)) (t : List Nat) (N : Nat → Nat → Nat → Bool) (g w : Nat) (i : Nat) (r : List Nat) : Bool :=
 @Bool.rec (fun _ => Bool) false (@Bool.rec (fun _ => Bool) false (@Bool.rec (fun _ => Bool) (eqF (mulF r (S.getD 1 [])) (mulF (S.getD 0 []) (selF (N i 1) S 0 (List.replicate t.length 0)))) true (Nat.ble t.length 1))
  (eqF (mlF (t.getD i 0) (mpF (mulF r t) S t)) (mlF g r))) (eqF (dtF r S) (unitN t.length i w))
theorem rowK_eq (S : List (List Nat)) (t : List Nat) (N : Nat → Nat → Nat → Bool) (g i : Nat) (r : List Nat) : rowK S t N g (wN S) i r = rowN S t N g i r := by
 unfold rowK rowN
 rw [eqF_eq, eqF_eq, eqF_eq, dtF_eq, mlF_eq, mpF_eq, mulF_eq, mlF_eq, mulF_eq, mulF_eq, selF_eq]
 cases eqN (dtN r S) (unitN t.length i (wN S)) <;> cases eqN (mlN (t.getD i 0) (mpN (zipN (fun a b => a * b % 55441) r t) S t)) (mlN g r) <;> cases Nat.ble t.length 1 <;> rfl
noncomputable def chkK (S : List (List Nat)) (t : List Nat) (N : Nat → Nat → Nat → Bool) : Bool :=
 shapeN S t && startN S t && Nat.blt 0 (wN S) && (List.range t.length).all fun i => rowK S t N (gN S t) (wN S) i (S.getD i [])
theorem chkK_eq (S : List (List Nat)) (t : List Nat) (N : Nat → Nat → Nat → Bool) : chkK S t N = chkV S t N := by
 unfold chkK chkV
 simp only [rowK_eq]
def rtN (o : Nat) : Nat := 38 ^ (55440 / o) % 55441
def invN (a : Nat) : Nat := a ^ fE % 55441
def brN (q b e a : Nat) : Nat := Nat.mod (Nat.mul (Nat.mod (Nat.sub (Nat.add (Nat.mod (Nat.pow q a) 55441) 55441) (Nat.mod (Nat.pow b a) 55441)) 55441) e) 55441
noncomputable def genF (f : Nat → Nat) (n : Nat) : Nat → List Nat := @Nat.rec (fun _ => Nat → List Nat) (fun _ => []) (fun _ ih j => consF (f j) (ih (Nat.succ j))) n
theorem genF_eq (f : Nat → Nat) : ∀ n j, genF f n j = (List.range n).map fun i => f (i + j)
 | 0, _ => rfl
 | n + 1, j => by
  show consF (f j) (genF f n (Nat.succ j)) = _
  rw [consF_eq, genF_eq f n, List.range_succ_eq_map, List.map_cons, List.map_map, Nat.zero_add]
  congr 1
  exact List.map_congr_left fun i _ => by
   show f (i + (j + 1)) = f (i + 1 + j)
   rw [Nat.add_right_comm, Nat.add_assoc]
noncomputable def spSN (n st q b e : Nat) : List (List Nat) := (List.range n).map fun i => genF (fun j => brN q b e (Nat.mul (Nat.succ (Nat.mul i st)) (Nat.succ (Nat.mul j st)))) n 0
noncomputable def spTN (n st z : Nat) : List Nat := genF (fun i => Nat.mod (Nat.pow z (Nat.mul (Nat.mul i st) (Nat.add (Nat.mul i st) 2))) 55441) n 0
def spNB (k st i j m : Nat) : Bool := Nat.ble (i * st) (m * st + j * st) && Nat.ble (j * st) (m * st + i * st) && Nat.ble (m * st) (i * st + j * st) && Nat.ble (i * st + j * st + m * st) (2 * k) && Nat.beq ((i * st + j * st + m * st) % 2) 0
noncomputable def spV2 (k st z q b : Nat) : Bool := chkK (spSN (k / st + 1) st q b (invN ((q + 55441 - b) % 55441))) (spTN (k / st + 1) st z) (spNB k st)
noncomputable def spV (k st z : Nat) : Bool := spV2 k st z (z * z % 55441) (invN (z * z % 55441))
end Go.Pl
namespace Go.Pl
open Go.Aw
noncomputable def casR (k st o lo c : Nat) : Bool := (List.range c).all fun r => bif Nat.beq (Nat.gcd (lo + r) o) 1 then spV k st (rtN o ^ (lo + r) % 55441) else true
theorem casR_at {k st o lo c : Nat} (h : casR k st o lo c = true) {r : Nat} (h1 : lo ≤ r) (h2 : r < lo + c) (hg : Nat.gcd r o = 1) : spV k st (rtN o ^ r % 55441) = true := by
 have := rng_at h (show r - lo < c by omega)
 rw [show lo + (r - lo) = r by omega, hg] at this
 exact this
theorem cs1_0 : casR 0 1 8 0 8 = true := by decide +kernel
theorem cs1_1 : casR 1 1 12 0 12 = true := by decide +kernel
theorem cs1_2 : casR 2 1 16 0 16 = true := by decide +kernel
theorem cs1_3 : casR 3 1 20 0 20 = true := by decide +kernel
theorem cs1_4 : casR 4 1 24 0 24 = true := by decide +kernel
theorem cs1_5 : casR 5 1 28 0 28 = true := by decide +kernel
theorem cs1_7 : casR 7 1 36 0 36 = true := by decide +kernel
theorem cs1_8 : casR 8 1 40 0 40 = true := by decide +kernel
theorem cs1_9 : casR 9 1 44 0 44 = true := by decide +kernel
theorem cs1_10 : casR 10 1 48 0 48 = true := by decide +kernel
theorem cs1_12 : casR 12 1 56 0 56 = true := by decide +kernel
theorem cs1_13 : casR 13 1 60 0 60 = true := by decide +kernel
theorem cs2_1 : casR 1 2 12 0 12 = true := by decide +kernel
theorem cs2_3 : casR 3 2 20 0 20 = true := by decide +kernel
theorem cs2_5 : casR 5 2 28 0 28 = true := by decide +kernel
theorem cs2_7 : casR 7 2 36 0 36 = true := by decide +kernel
theorem cs2_9 : casR 9 2 44 0 44 = true := by decide +kernel
theorem cs2_13 : casR 13 2 60 0 60 = true := by decide +kernel
theorem cs2_19 : casR 19 2 84 0 84 = true := by decide +kernel
theorem cs2_31_0 : casR 31 2 132 0 33 = true := by decide +kernel
theorem cs2_31_1 : casR 31 2 132 33 33 = true := by decide +kernel
theorem cs2_31_2 : casR 31 2 132 66 33 = true := by decide +kernel
theorem cs2_31_3 : casR 31 2 132 99 33 = true := by decide +kernel
theorem rt_one : ((List.range 34).all fun i => bif Nat.beq (55440 % (4 * (i + 2))) 0 then Nat.beq (rtN (4 * (i + 2)) ^ (4 * (i + 2)) % 55441) 1 else true) = true := by decide +kernel
theorem sp_one {k r : Nat} (hk : k ≤ 15) (hd : 55440 % (4 * (k + 2)) = 0) (hr : r < 4 * (k + 2)) (hg : Nat.gcd r (4 * (k + 2)) = 1) : spV k 1 (rtN (4 * (k + 2)) ^ r % 55441) = true := by
 have hc : k = 0 ∨ k = 1 ∨ k = 2 ∨ k = 3 ∨ k = 4 ∨ k = 5 ∨ k = 6 ∨ k = 7 ∨ k = 8 ∨ k = 9 ∨ k = 10 ∨ k = 11 ∨ k = 12 ∨ k = 13 ∨ k = 14 ∨ k = 15 := by omega
 rcases hc with rfl | rfl | rfl | rfl | rfl | rfl | rfl | rfl | rfl | rfl | rfl | rfl | rfl | rfl | rfl | rfl
 ·exact casR_at cs1_0 (Nat.zero_le _) (by omega) hg
 ·exact casR_at cs1_1 (Nat.zero_le _) (by omega) hg
 ·exact casR_at cs1_2 (Nat.zero_le _) (by omega) hg
 ·exact casR_at cs1_3 (Nat.zero_le _) (by omega) hg
 ·exact casR_at cs1_4 (Nat.zero_le _) (by omega) hg
 ·exact casR_at cs1_5 (Nat.zero_le _) (by omega) hg
 ·omega
 ·exact casR_at cs1_7 (Nat.zero_le _) (by omega) hg
 ·exact casR_at cs1_8 (Nat.zero_le _) (by omega) hg
 ·exact casR_at cs1_9 (Nat.zero_le _) (by omega) hg
 ·exact casR_at cs1_10 (Nat.zero_le _) (by omega) hg
 ·omega
 ·exact casR_at cs1_12 (Nat.zero_le _) (by omega) hg
 ·exact casR_at cs1_13 (Nat.zero_le _) (by omega) hg
 ·omega
 ·omega
theorem sp_two {k r : Nat} (hk : k ≤ 31) (ho : k % 2 = 1) (hd : 55440 % (4 * (k + 2)) = 0) (hr : r < 4 * (k + 2)) (hg : Nat.gcd r (4 * (k + 2)) = 1) : spV k 2 (rtN (4 * (k + 2)) ^ r % 55441) = true := by
 have hc : k = 1 ∨ k = 3 ∨ k = 5 ∨ k = 7 ∨ k = 9 ∨ k = 11 ∨ k = 13 ∨ k = 15 ∨ k = 17 ∨ k = 19 ∨ k = 21 ∨ k = 23 ∨ k = 25 ∨ k = 27 ∨ k = 29 ∨ k = 31 := by omega
 rcases hc with rfl | rfl | rfl | rfl | rfl | rfl | rfl | rfl | rfl | rfl | rfl | rfl | rfl | rfl | rfl | rfl
 ·exact casR_at cs2_1 (Nat.zero_le _) (by omega) hg
 ·exact casR_at cs2_3 (Nat.zero_le _) (by omega) hg
 ·exact casR_at cs2_5 (Nat.zero_le _) (by omega) hg
 ·exact casR_at cs2_7 (Nat.zero_le _) (by omega) hg
 ·exact casR_at cs2_9 (Nat.zero_le _) (by omega) hg
 ·omega
 ·exact casR_at cs2_13 (Nat.zero_le _) (by omega) hg
 ·omega
 ·omega
 ·exact casR_at cs2_19 (Nat.zero_le _) (by omega) hg
 ·omega
 ·omega
 ·omega
 ·omega
 ·omega
 ·have hc : r < 33 ∨ (33 ≤ r ∧ r < 66) ∨ (66 ≤ r ∧ r < 99) ∨ (99 ≤ r ∧ r < 132) := by omega
  rcases hc with h | h | h | h
  ·exact casR_at cs2_31_0 (Nat.zero_le _) (by omega) hg
  ·exact casR_at cs2_31_1 h.1 (by omega) hg
  ·exact casR_at cs2_31_2 h.1 (by omega) hg
  ·exact casR_at cs2_31_3 h.1 (by omega) hg
def fbD (z : Nat) : Nat := (1 + z + invN z) % 55441
def fbS (z : Nat) : List (List Nat) := [[1, fbD z], [fbD z, 55440]]
def fbT (z : Nat) : List Nat := [1, z * z % 55441]
def fbZ (k : Nat) : Nat := rtN 5 ^ k % 55441
theorem fb_all : ((List.range 4).all fun i => chkV (fbS (fbZ (i + 1))) (fbT (fbZ (i + 1))) (spNB 3 2)) = true := by decide +kernel
def igD0 : Nat := (rtN 8 + invN (rtN 8)) % 55441
def igD : Nat → Nat
 | 0 => igD0
 | _ => (55441 - igD0) % 55441
def igS (d : Nat) : List (List Nat) := [[1, d, 1], [d, 0, (55441 - d) % 55441], [1, (55441 - d) % 55441, 1]]
def igT (v : Nat) : List Nat := [1, rtN 16 ^ v % 55441, 55440]
theorem is_all : ((List.range 2).all fun s => (List.range 8).all fun i => chkV (igS (igD s)) (igT (2 * i + 1)) (spNB 2 1)) = true := by decide +kernel
def lv3 : List Nat := [1, 3, 7, 9, 11, 13, 17, 19]
def lvZ (m : Nat) : Nat := rtN 20 ^ m % 55441
def lvQ (m : Nat) : Nat := lvZ m * lvZ m % 55441
noncomputable def lvS (m : Nat) : List (List Nat) := spSN 2 2 (lvQ m) (invN (lvQ m)) (invN ((lvQ m + 55441 - invN (lvQ m)) % 55441))
theorem lv_all : (lv3.all fun m => (List.range 4).any fun i => eqF ((lvS m).getD 0 []) ((fbS (fbZ (i + 1))).getD 0 []) && eqF ((lvS m).getD 1 []) ((fbS (fbZ (i + 1))).getD 1 []) && eqF (spTN 2 2 (lvZ m)) (fbT (fbZ (i + 1)))) = true := by decide +kernel
end Go.Pl
namespace Go.Pl
open Go.Aw
def rtI (o : Nat) : Int := pw 38 (55440 / o)
def zI (k m : Nat) : Int := pw (rtI (4 * (k + 2))) m
def sqI (q : Int) (a : Nat) : Int := (pw q a - pw (inv q) a) % 55441 * inv ((q - inv q) % 55441) % 55441
def spSI (n st : Nat) (q : Int) : List (List Int) := matF n n fun i j => sqI q ((i * st + 1) * (j * st + 1))
def spTI (n st : Nat) (z : Int) : List Int := rowF n fun i => pw z (i * st * (i * st + 2))
theorem pw_nat {x : Nat} (h : x < 55441) (k : Nat) : pw (x : Int) k = ((x ^ k % 55441 : Nat) : Int) := by
 rw [pw_eq ⟨by omega, by omega⟩, Int.natCast_emod, Int.natCast_pow]
 rfl
theorem inv_nat {x : Nat} (h : x < 55441) : inv (x : Int) = ((invN x : Nat) : Int) := pw_nat h fE
theorem rt_nat (o : Nat) : rtI o = ((rtN o : Nat) : Int) := pw_nat (x := 38) (by omega) _
theorem rtN_lt (o : Nat) : rtN o < 55441 := Nat.mod_lt _ (by omega)
theorem invN_lt (o : Nat) : invN o < 55441 := Nat.mod_lt _ (by omega)
theorem br_nat {q : Nat} (h : q < 55441) (a : Nat) : sqI (q : Int) a = ((brN q (invN q) (invN ((q + 55441 - invN q) % 55441)) a : Nat) : Int) := by
 have hb := invN_lt q
 unfold sqI
 rw [inv_nat h, pw_nat h, pw_nat hb]
 have e1 : ((q : Int) - ((invN q : Nat) : Int)) % 55441 = (((q + 55441 - invN q) % 55441 : Nat) : Int) := by omega
 rw [e1, inv_nat (Nat.mod_lt _ (by omega))]
 have hx : q ^ a % 55441 < 55441 := Nat.mod_lt _ (by omega)
 have hy : invN q ^ a % 55441 < 55441 := Nat.mod_lt _ (by omega)
 have e2 : (((q ^ a % 55441 : Nat) : Int) - ((invN q ^ a % 55441 : Nat) : Int)) % 55441 = (((q ^ a % 55441 + 55441 - invN q ^ a % 55441) % 55441 : Nat) : Int) := by
  generalize q ^ a % 55441 = x at hx ⊢
  generalize invN q ^ a % 55441 = y at hy ⊢
  omega
 rw [e2, ← Int.natCast_mul]
 exact (Int.natCast_emod _ _).symm
theorem spS_nat {n st q : Nat} (h : q < 55441) : spSI n st (q : Int) = cL2 (spSN n st q (invN q) (invN ((q + 55441 - invN q) % 55441))) := by
 unfold spSI spSN cL2 matF
 rw [List.map_map]
 refine List.map_congr_left fun i _ => ?_
 show rowF n _ = cL1 (genF _ n 0)
 rw [genF_eq]
 unfold rowF cL1
 rw [List.map_map]
 exact List.map_congr_left fun j _ => br_nat h _
theorem spT_nat {n st z : Nat} (h : z < 55441) : spTI n st (z : Int) = cL1 (spTN n st z) := by
 unfold spTI spTN
 rw [genF_eq]
 unfold rowF cL1
 rw [List.map_map]
 exact List.map_congr_left fun j _ => pw_nat h _
theorem spT_len {n st z : Nat} : (spTN n st z).length = n := by
 unfold spTN
 rw [genF_eq]; simp
theorem zI_nat {k m : Nat} (hk : k ≤ 31) (hd : 55440 % (4 * (k + 2)) = 0) : zI k m = ((rtN (4 * (k + 2)) ^ (m % (4 * (k + 2))) % 55441 : Nat) : Int) := by
 unfold zI
 rw [rt_nat, pw_nat (rtN_lt _)]
 congr 1
 have h1 := rng_at rt_one (show k < 34 by omega)
 rw [hd] at h1
 have h2 : rtN (4 * (k + 2)) ^ (4 * (k + 2)) % 55441 = 1 := Nat.eq_of_beq_eq_true h1
 generalize 4 * (k + 2) = o at h2 ⊢
 generalize rtN o = r at h2 ⊢
 have e : m = o * (m / o) + m % o := (Nat.div_add_mod m o).symm
 conv => lhs; rw [e, Nat.pow_add, Nat.pow_mul, Nat.mul_mod, Nat.pow_mod, h2, Nat.one_pow]
 rw [show 1 % 55441 = 1 from rfl, Nat.one_mul, Nat.mod_mod]
theorem spNB_iff {k st i j m : Nat} : spNB k st i j m = true ↔ SpnP k (i * st) (j * st) (m * st) := by
 unfold spNB
 rw [spP_iff]
 simp only [Bool.and_eq_true, Nat.ble_eq, Nat.beq_eq]
 omega
theorem spn_cub (k st : Nat) (hst : st = 1 ∨ st = 2) : (cubF (k / st + 1) fun i j m => if spNB k st i j m then (1 : Int) else 0) = spnT k st := by
 rcases hst with rfl | rfl
 ·rw [spnT_one, Nat.div_one]
  refine cubF_congr fun i _ j _ m _ => ?_
  exact ite_iff (by rw [spNB_iff, Nat.mul_one, Nat.mul_one, Nat.mul_one])
 ·rw [spnT_two]
  refine cubF_congr fun i _ j _ m _ => ?_
  exact ite_iff (by rw [spNB_iff, Nat.mul_comm i, Nat.mul_comm j, Nat.mul_comm m])
theorem spn_tri {k st : Nat} (hst : st = 1 ∨ st = 2) (j : Nat) (hj : j + 1 < k / st + 1) : spNB k st j 1 (j + 1) = true ∧ ∀ c, c < k / st + 1 → j + 1 < c → spNB k st j 1 c = false := by
 constructor
 ·rw [spNB_iff, spP_iff]
  rcases hst with rfl | rfl
  ·rw [Nat.div_one] at hj; omega
  ·omega
 ·intro c _ hlt
  cases h : spNB k st j 1 c with
  | false => rfl
  | true =>
   rw [spNB_iff, spP_iff] at h
   rcases hst with rfl | rfl <;> omega
theorem spn_data {k st : Nat} {S : List (List Nat)} {t : List Nat} (hst : st = 1 ∧ k ≤ 15 ∨ st = 2 ∧ k ≤ 31) (hl : t.length = k / st + 1) (h : chkV S t (spNB k st) = true) :
  isData (cL2 S) (cL1 t) = true ∧ numD (cL2 S) t.length (cL (cL2 S) t.length) = spnT k st := by
 have h2 : st = 1 ∨ st = 2 := by omega
 have hc := spn_cub k st h2
 have hR : RingP (spnT k st) := by
  rcases hst with ⟨rfl, hk⟩ | ⟨rfl, hk⟩
  ·rw [spnT_one]; exact sp_ringP hk
  ·rw [spnT_two]; exact ev_ringP hk
 rw [← hc, ← hl] at hR ⊢
 exact chkV_data h hR fun j hj => by rw [hl] at hj ⊢; exact spn_tri h2 j hj
theorem spin_data {k st m : Nat} (hst : st = 1 ∧ k ≤ 15 ∨ st = 2 ∧ k ≤ 31 ∧ k % 2 = 1) (hd : 55440 % (4 * (k + 2)) = 0) (hg : Nat.gcd m (4 * (k + 2)) = 1) :
  isData (spSI (k / st + 1) st (zI k m * zI k m % 55441)) (spTI (k / st + 1) st (zI k m)) = true ∧
  numD (spSI (k / st + 1) st (zI k m * zI k m % 55441)) (k / st + 1) (cL (spSI (k / st + 1) st (zI k m * zI k m % 55441)) (k / st + 1)) = spnT k st := by
 have hg' : Nat.gcd (m % (4 * (k + 2))) (4 * (k + 2)) = 1 := by
  rw [← Nat.gcd_rec, Nat.gcd_comm] at *
  rw [Nat.gcd_comm] at hg
  exact hg
 have hv : spV k st (rtN (4 * (k + 2)) ^ (m % (4 * (k + 2))) % 55441) = true := by
  have hlt : m % (4 * (k + 2)) < 4 * (k + 2) := Nat.mod_lt _ (by omega)
  rcases hst with ⟨rfl, hk⟩ | ⟨rfl, hk, ho⟩
  ·exact sp_one hk hd hlt hg'
  ·exact sp_two hk ho hd hlt hg'
 rw [zI_nat (by omega) hd]
 have hz : rtN (4 * (k + 2)) ^ (m % (4 * (k + 2))) % 55441 < 55441 := Nat.mod_lt _ (by omega)
 generalize rtN (4 * (k + 2)) ^ (m % (4 * (k + 2))) % 55441 = z at hv hz ⊢
 have hq : ((z : Int) * (z : Int) % 55441) = ((z * z % 55441 : Nat) : Int) := by
  rw [← Int.natCast_mul]
  exact (Int.natCast_emod _ _).symm
 rw [hq, spS_nat (Nat.mod_lt _ (by omega)), spT_nat hz]
 unfold spV spV2 at hv
 rw [chkK_eq] at hv
 have := spn_data (by omega) spT_len hv
 rwa [spT_len] at this
end Go.Pl
