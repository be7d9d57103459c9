import Derived.Test.YtlngnhbochmcoaaPl2
set_option linter.unusedSimpArgs false
set_option linter.unusedVariables false
namespace Go.Pl
open Go.Aw
end Go.Pl
namespace Go.Pl
open Go.Aw
def neg (P : List Int) : Nat := P.countP fun v => decide (v < 0)
theorem getD_set_ne {P : List Int} {y z : Nat} {n : Int} (h : y ≠ z) : (P.set y n).getD z 0 = P.getD z 0 := by
 simp [List.getD, List.getElem?_set_ne h]
theorem Sa_ {P : List Int} {y : Nat} {n : Int} (h : y < P.length) : (P.set y n).getD y 0 = n := by
 simp [List.getD, List.getElem?_set_self h]
structure POk (m : Nat) (n : Int) (P : List Int) : Prop where
 len : P.length = m
 bd : ∀ i, i < m → -1 ≤ P.getD i 0 ∧ P.getD i 0 ≤ n
def QOk (m : Nat) (L : List Int) : Prop := ∀ i, i < L.length → 0 ≤ L.getD i 0 ∧ L.getD i 0 < m
theorem POk.set {m : Nat} {n : Int} {P : List Int} (h : POk m n P) {y : Nat} (hn : -1 ≤ n) : POk m n (P.set y n) := by
 refine ⟨by rw [List.length_set]; exact h.len, fun i hi => ?_⟩
 by_cases e : y = i
 ·subst e
  rw [Sa_ (by rw [h.len]; exact hi)]
  omega
 ·rw [getD_set_ne e]; exact h.bd i hi
theorem QOk.one {m y : Nat} (h : y < m) : QOk m [(y : Int)] := by
 intro i hi
 simp only [List.length_cons, List.length_nil] at hi
 obtain rfl : i = 0 := by omega
 simp only [List.getD_cons_zero]
 omega
theorem QOk.nil {m : Nat} : QOk m [] := fun i hi => by simp at hi
theorem POk.mono {m : Nat} {n n' : Int} {P : List Int} (h : POk m n P) (hn : n ≤ n') : POk m n' P := ⟨h.len, fun i hi => by have := h.bd i hi; omega⟩
end Go.Pl
namespace Go.Pl
open Go.Aw
theorem QOk.mono {m m' : Nat} {L : List Int} (h : QOk m L) (hm : m ≤ m') : QOk m' L := fun i hi => by have := h i hi; omega
theorem rowF_succ {k : Nat} {f : Nat → Int} : xU_ (k + 1) f = xU_ k f ++ [f k] := by simp [xU_, List.range_succ]
end Go.Pl
namespace Go.Pl
open Go.Aw
end Go.Pl
namespace Go.Pl
open Go.Aw
def LS {α : Type} (S : α → Prop) (n : Nat) (l : List α) : Prop := l.length = n ∧ ∀ a ∈ l, S a
theorem LS.get {α : Type} {S : α → Prop} {n : Nat} {l : List α} (h : LS S n l) {d : α} {i : Nat} (hi : i < n) : S (l.getD i d) := by
 rw [List.getD_eq_getElem?_getD, List.getElem?_eq_getElem (by rw [h.1]; exact hi)]
 exact h.2 _ (List.getElem_mem _)
structure IsP (n : Nat) (p : List Int) : Prop where
 len : p.length = n
 q : QOk n p
 nd : p.Nodup
theorem Re_ : ∀ (n : Nat) (p : List Int), p.Nodup → (∀ x ∈ p, 0 ≤ x ∧ x < n) → p.length ≤ n
 | 0, p, _, h => by
  cases p with
  | nil => exact Nat.le_refl _
  | cons x _ => have := h x (List.mem_cons_self ..); omega
 | n + 1, p, hn, h => by
  have ih := Re_ n (p.filter fun x => decide (x ≠ (n : Int))) (hn.sublist List.filter_sublist) (fun x hx => by
   have := List.mem_filter.1 hx
   have h2 := h x this.1
   have h3 := this.2
   simp at h3
   omega)
  have h2 : p.length ≤ (p.filter fun x => decide (x ≠ (n : Int))).length + 1 := by
   clear ih h
   induction p with
   | nil => simp
   | cons y ys ihy =>
    rw [List.nodup_cons] at hn
    have := ihy hn.2
    by_cases e : y = (n : Int)
    ·subst e
     have hall : (ys.filter fun x => decide (x ≠ (n : Int))) = ys := by
      rw [List.filter_eq_self]
      intro z hz
      simp only [decide_eq_true_eq]
      exact fun e => hn.1 (e ▸ hz)
     rw [List.filter_cons_of_neg (by simp), hall]
     simp
    ·rw [List.filter_cons_of_pos (by simp [e])]
     simp only [List.length_cons]
     omega
  omega
theorem QOk.mem {n : Nat} {p : List Int} (h : QOk n p) {x : Int} (hx : x ∈ p) : 0 ≤ x ∧ x < n := by
 obtain ⟨i, hi, rfl⟩ := List.getElem_of_mem hx
 have := h i hi
 rw [List.getD_eq_getElem?_getD, List.getElem?_eq_getElem hi] at this
 exact this
theorem IsP.all {n : Nat} {p : List Int} (h : IsP n p) {u : Nat} (hu : u < n) : (u : Int) ∈ p := by
 refine Classical.byContradiction fun hni => ?_
 have := Re_ n ((u : Int) :: p) (List.nodup_cons.2 ⟨hni, h.nd⟩) (fun x hx => by
  rcases List.mem_cons.1 hx with rfl | hx
  ·omega
  ·exact h.q.mem hx)
 rw [List.length_cons, h.len] at this
 omega
def pos (p : List Int) (u : Nat) : Nat := (Qp_ (fun y => decide (y = (u : Int))) p).toNat
end Go.Pl
