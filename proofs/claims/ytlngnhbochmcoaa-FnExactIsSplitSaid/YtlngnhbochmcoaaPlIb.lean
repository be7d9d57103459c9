import Derived.Test.YtlngnhbochmcoaaPlIa
set_option linter.unusedSimpArgs false
set_option linter.unusedVariables false
namespace Go.Pl
open Go.Aw
def ar1 : List Nat → List Nat → Nat
 | x :: xs, y :: ys => x * y + ar1 xs ys
 | _, _ => 0
def Ra_ (f : Nat → Nat → Nat) : List Nat → List Nat → List Nat
 | x :: xs, y :: ys => f x y :: Ra_ f xs ys
 | _, _ => []
def mpN (r : List Nat) : List (List Nat) → List Nat → List Nat
 | s :: ss, t :: ts => (ar1 r s % 55441) * t % 55441 :: mpN r ss ts
 | _, _ => []
def dtN (r : List Nat) : List (List Nat) → List Nat
 | s :: ss => ar1 r s % 55441 :: dtN r ss
 | _ => []
def eqN : List Nat → List Nat → Bool
 | x :: xs, y :: ys => Nat.beq x y && eqN xs ys
 | [], [] => true
 | _, _ => false
def av3 (f : Nat → Bool) : Nat → List Nat → List (List Nat) → List Nat
 | _, acc, [] => acc
 | c, acc, r :: rs => av3 f (c + 1) (bif f c then Ra_ Nat.add acc r else acc) rs
def aH3 (n i w : Nat) : List Nat := (List.range n).map fun j => bif Nat.beq i j then w else 0
def wN (S : List (List Nat)) : Nat := ar1 (S.getD 0 []) (S.getD 0 []) % 55441
def gN (S : List (List Nat)) (t : List Nat) : Nat := ar1 (Ra_ (fun a b => a * b % 55441) (S.getD 0 []) (S.getD 0 [])) t % 55441
def mlN (c : Nat) : List Nat → List Nat
 | x :: xs => x * c % 55441 :: mlN c xs
 | [] => []
def aZ9 (S : List (List Nat)) (t : List Nat) (N : Nat → Nat → Nat → Bool) (g i : Nat) (r : List Nat) : Bool :=
 eqN (dtN r S) (aH3 t.length i (wN S)) &&
 eqN (mlN (t.getD i 0) (mpN (Ra_ (fun a b => a * b % 55441) r t) S t)) (mlN g r) &&
 (Nat.ble t.length 1 || eqN (Ra_ (fun a b => a * b % 55441) r (S.getD 1 [])) (Ra_ (fun a b => a * b % 55441) (S.getD 0 []) (av3 (N i 1) 0 (List.replicate t.length 0) S)))
def cL1 (x : List Nat) : List Int := x.map fun a : Nat => (a : Int)
def cL2 (x : List (List Nat)) : List (List Int) := x.map cL1
theorem z7_ (x : List Nat) (i : Nat) : (cL1 x).getD i 0 = ((x.getD i 0 : Nat) : Int) := by
 unfold cL1
 rw [List.getD_eq_getElem?_getD, List.getD_eq_getElem?_getD, List.getElem?_map]
 cases x[i]? <;> rfl
theorem JV_ (x : List (List Nat)) (i : Nat) : (cL2 x).getD i [] = cL1 (x.getD i []) := by
 unfold cL2
 rw [List.getD_eq_getElem?_getD, List.getD_eq_getElem?_getD, List.getElem?_map]
 cases x[i]? <;> rfl
theorem zR_ (x : List (List Nat)) (i j : Nat) : e2 (cL2 x) i j = (((x.getD i []).getD j 0 : Nat) : Int) := by
 unfold e2
 rw [JV_, z7_]
theorem Ya_ : ∀ (n : Nat) (x y : List Nat), x.length = n → y.length = n → ((ar1 x y : Nat) : Int) = sumTo (fun k => ((x.getD k 0 : Nat) : Int) * ((y.getD k 0 : Nat) : Int)) n
 | 0, x, y, hx, hy => by
  obtain rfl := List.length_eq_zero_iff.1 hx
  rfl
 | n + 1, x :: xs, y :: ys, hx, hy => by
  have ih := Ya_ n xs ys (by simpa using hx) (by simpa using hy)
  rw [ar1, Int.natCast_add, Int.natCast_mul, ih]
  have : ∀ (f : Nat → Int) (n : Nat), sumTo f (n + 1) = f 0 + sumTo (fun k => f (k + 1)) n := by
   intro f n
   induction n with
   | zero => simp [sumTo]
   | succ n ih => rw [sumTo, ih, sumTo]; omega
  rw [this]
  rfl
theorem Xb_ {f : Nat → Nat → Nat} : ∀ {x y : List Nat} {k : Nat}, k < x.length → k < y.length → (Ra_ f x y).getD k 0 = f (x.getD k 0) (y.getD k 0)
 | _ :: _, _ :: _, 0, _, _ => rfl
 | x :: xs, y :: ys, k + 1, h1, h2 => by
  have := Xb_ (f := f) (x := xs) (y := ys) (k := k) (by simpa using h1) (by simpa using h2)
  simpa [Ra_] using this
theorem Yb_ {f : Nat → Nat → Nat} : ∀ {x y : List Nat} {n : Nat}, x.length = n → y.length = n → (Ra_ f x y).length = n
 | [], [], _, h1, _ => by simpa [Ra_] using h1
 | x :: xs, y :: ys, n + 1, h1, h2 => by
  have := Yb_ (f := f) (x := xs) (y := ys) (n := n) (by simpa using h1) (by simpa using h2)
  simpa [Ra_] using this
 | [], _ :: _, n, h1, h2 => by simp at h1 h2; omega
 | _ :: _, [], n, h1, h2 => by simp at h1 h2; omega
theorem JW_ {r : List Nat} : ∀ {S : List (List Nat)} {t : List Nat} {k : Nat}, k < S.length → k < t.length → (mpN r S t).getD k 0 = (ar1 r (S.getD k []) % 55441) * t.getD k 0 % 55441
 | _ :: _, _ :: _, 0, _, _ => rfl
 | s :: ss, t :: ts, k + 1, h1, h2 => by
  have := JW_ (r := r) (S := ss) (t := ts) (k := k) (by simpa using h1) (by simpa using h2)
  simpa [mpN] using this
theorem JX_ {r : List Nat} : ∀ {S : List (List Nat)} {t : List Nat} {n : Nat}, S.length = n → t.length = n → (mpN r S t).length = n
 | [], [], _, h1, _ => by simpa [mpN] using h1
 | x :: xs, y :: ys, n + 1, h1, h2 => by
  have := JX_ (r := r) (S := xs) (t := ys) (n := n) (by simpa using h1) (by simpa using h2)
  simpa [mpN] using this
 | [], _ :: _, n, h1, h2 => by simp at h1 h2; omega
 | _ :: _, [], n, h1, h2 => by simp at h1 h2; omega
theorem JY_ {r : List Nat} : ∀ {S : List (List Nat)} {k : Nat}, k < S.length → (dtN r S).getD k 0 = ar1 r (S.getD k []) % 55441
 | _ :: _, 0, _ => rfl
 | s :: ss, k + 1, h1 => by
  have := JY_ (r := r) (S := ss) (k := k) (by simpa using h1)
  simpa [dtN] using this
theorem T9_ {c : Nat} : ∀ {x : List Nat} {k : Nat}, k < x.length → (mlN c x).getD k 0 = x.getD k 0 * c % 55441
 | _ :: _, 0, _ => rfl
 | x :: xs, k + 1, h1 => by
  have := T9_ (c := c) (x := xs) (k := k) (by simpa using h1)
  simpa [mlN] using this
theorem Rb_ : ∀ {x y : List Nat}, eqN x y = true → x = y
 | [], [], _ => rfl
 | x :: xs, y :: ys, h => by
  simp only [eqN, Bool.and_eq_true, Nat.beq_eq] at h
  rw [h.1, Rb_ h.2]
 | [], _ :: _, h => by simp [eqN] at h
 | _ :: _, [], h => by simp [eqN] at h
theorem JZ_ {n i w j : Nat} (h : j < n) : (aH3 n i w).getD j 0 = if i = j then w else 0 := by
 unfold aH3
 rw [List.getD_eq_getElem?_getD, List.getElem?_map, List.getElem?_range h]
 by_cases e : i = j
 ·subst e; simp
 ·have : Nat.beq i j = false := by
   cases hb : Nat.beq i j with
   | false => rfl
   | true => exact absurd (Nat.eq_of_beq_eq_true hb) e
  simp [this, e]
theorem Rc_ {f : Nat → Bool} {n : Nat} : ∀ {S : List (List Nat)} {c : Nat} {acc : List Nat}, acc.length = n → (∀ r ∈ S, r.length = n) → (av3 f c acc S).length = n
 | [], _, _, h, _ => h
 | r :: rs, c, acc, h, hr => by
  unfold av3
  refine Rc_ ?_ fun x hx => hr x (List.mem_cons_of_mem _ hx)
  cases f c with
  | true => exact Yb_ h (hr r (List.mem_cons_self ..))
  | false => exact h
theorem VU_ {f : Nat → Bool} {n l : Nat} (hl : l < n) : ∀ {S : List (List Nat)} {c : Nat} {acc : List Nat}, acc.length = n → (∀ r ∈ S, r.length = n) →
  (((av3 f c acc S).getD l 0 : Nat) : Int) = ((acc.getD l 0 : Nat) : Int) + sumTo (fun k => (if f (c + k) then (1 : Int) else 0) * (((S.getD k []).getD l 0 : Nat) : Int)) S.length
 | [], c, acc, h, _ => by simp [av3, sumTo]
 | r :: rs, c, acc, h, hr => by
  have hrl := hr r (List.mem_cons_self ..)
  have hrs : ∀ x ∈ rs, x.length = n := fun x hx => hr x (List.mem_cons_of_mem _ hx)
  have hs : ∀ (f : Nat → Int) (n : Nat), sumTo f (n + 1) = f 0 + sumTo (fun k => f (k + 1)) n := by
   intro f n
   induction n with
   | zero => simp [sumTo]
   | succ n ih => rw [sumTo, ih, sumTo]; omega
  unfold av3
  rw [List.length_cons, hs]
  have hsh : ∀ k, c + 1 + k = c + (k + 1) := fun k => by omega
  cases hf : f c with
  | true =>
   rw [cond_true, VU_ hl (Yb_ h hrl) hrs, Xb_ (by omega) (by omega)]
   simp only [hsh, Nat.add_zero, hf, if_true, Int.one_mul]
   show ((acc.getD l 0 + r.getD l 0 : Nat) : Int) + _ = _
   rw [Int.natCast_add, Int.add_assoc]
   rfl
  | false =>
   rw [cond_false, VU_ hl h hrs]
   simp only [hsh, Nat.add_zero, hf, Bool.false_eq_true, if_false, Int.zero_mul, Int.zero_add]
   rfl
end Go.Pl
