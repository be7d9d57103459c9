import Derived.Test.YtfnokakbdehlgaaDoorPl2
import Derived.Test.YtfnokakbdehlgaaDoorLib2
set_option linter.unusedSimpArgs false
set_option linter.unusedVariables false
namespace Go.Pl
open Go.Aw
def smM (p q : Nat) (A B : List (List Int)) : List (List Int) := A.map (fun r => r ++ List.replicate q 0) ++ B.map (fun r => List.replicate p 0 ++ r)
def smL (a b : List (List (List Int))) (i : Nat) : List (List (List Int)) := (List.range i).map fun k => smM (a.getD 0 []).length (b.getD 0 []).length (a.getD k []) (b.getD k [])
noncomputable def smA (t a b : List (List (List Int))) : AV := if isAct t a = true ∧ isAct t b = true then (if (a.getD 0 []).length + (b.getD 0 []).length ≤ 16 then .tup [.agg [.l3 (smL a b a.length)], .int 0] else .tup [.agg [.nil], .int 3]) else .tup [.agg [.nil], .int 1]
def smP (q : Nat) (A : List (List Int)) (c x : Nat) : List (List Int) := (A.take x).map (fun r => r ++ List.replicate q 0) ++ List.replicate (c - x) (List.replicate c 0)
def smQ (p q : Nat) (A B : List (List Int)) (c y : Nat) : List (List Int) := A.map (fun r => r ++ List.replicate q 0) ++ (B.take y).map (fun r => List.replicate p 0 ++ r) ++ List.replicate (c - p - y) (List.replicate c 0)
end Go.Pl
namespace Go.Pl
open Go.Aw
def jn (a : List (List (List Int))) (x y : Nat) : Bool := a.any fun m => !decide (e2 m x y = 0)
def yS (a : List (List (List Int))) (u : Nat) (n : Int) (P : List Int) : Nat → List Int × List Int
 | 0 => (P, [])
 | y + 1 => if (yS a u n P y).1.getD y 0 < 0 ∧ jn a u y = true then ((yS a u n P y).1.set y n, (yS a u n P y).2 ++ [(y : Int)]) else yS a u n P y
def neg (P : List Int) : Nat := P.countP fun v => decide (v < 0)
theorem getD_set_ne {P : List Int} {y z : Nat} {n : Int} (h : y ≠ z) : (P.set y n).getD z 0 = P.getD z 0 := by
 simp [List.getD, List.getElem?_set_ne h]
theorem getD_set_eq {P : List Int} {y : Nat} {n : Int} (h : y < P.length) : (P.set y n).getD y 0 = n := by
 simp [List.getD, List.getElem?_set_self h]
structure POk (m : Nat) (n : Int) (P : List Int) : Prop where
 len : P.length = m
 bd : ∀ i, i < m → -1 ≤ P.getD i 0 ∧ P.getD i 0 ≤ n
def QOk (m : Nat) (L : List Int) : Prop := ∀ i, i < L.length → 0 ≤ L.getD i 0 ∧ L.getD i 0 < m
theorem POk.set {m : Nat} {n : Int} {P : List Int} (h : POk m n P) {y : Nat} (hn : -1 ≤ n) : POk m n (P.set y n) := by
 refine ⟨by rw [List.length_set]; exact h.len, fun i hi => ?_⟩
 by_cases e : y = i
 ·subst e
  rw [getD_set_eq (by rw [h.len]; exact hi)]
  omega
 ·rw [getD_set_ne e]; exact h.bd i hi
theorem QOk.one {m y : Nat} (h : y < m) : QOk m [(y : Int)] := by
 intro i hi
 simp only [List.length_cons, List.length_nil] at hi
 obtain rfl : i = 0 := by omega
 simp only [List.getD_cons_zero]
 omega
theorem QOk.nil {m : Nat} : QOk m [] := fun i hi => by simp at hi
def bS (a : List (List (List Int))) (m : Nat) (n : Int) (s : List Int × List Int) : List Int × List Int := match s.2 with
 | [] => s
 | u :: L => ((yS a u.toNat n s.1 m).1, L ++ (yS a u.toNat n s.1 m).2)
def bI (a : List (List (List Int))) (m : Nat) (n : Int) (s : List Int × List Int) : Nat → List Int × List Int
 | 0 => s
 | k + 1 => bS a m n (bI a m n s k)
def mu (s : List Int × List Int) : Nat := s.2.length + neg s.1
structure BOk (m : Nat) (n : Int) (s : List Int × List Int) : Prop where
 p : POk m n s.1
 q : QOk m s.2
def qF (a : List (List (List Int))) (m : Nat) (n : Int) (s : List Int × List Int) : Nat → List Int
 | 0 => s.2
 | k + 1 => qF a m n s k ++ (match (bI a m n s k).2 with
  | [] => []
  | u :: _ => (yS a u.toNat n (bI a m n s k).1 m).2)
def pS (a : List (List (List Int))) (m : Nat) : Nat → List Int × Int
 | 0 => (List.replicate m (-1), 0)
 | x + 1 => if 0 ≤ (pS a m x).1.getD x 0 then pS a m x else ((bI a m (pS a m x).2 ((pS a m x).1.set x (pS a m x).2, [(x : Int)]) (m + 1)).1, (pS a m x).2 + 1)
def partsL (a : List (List (List Int))) : List Int := (pS a (a.getD 0 []).length (a.getD 0 []).length).1
theorem POk.mono {m : Nat} {n n' : Int} {P : List Int} (h : POk m n P) (hn : n ≤ n') : POk m n' P := ⟨h.len, fun i hi => by have := h.bd i hi; omega⟩
noncomputable def partsA (t a : List (List (List Int))) : AV := if isAct t a = true then .tup [.l1 (partsL a), .int 0] else .tup [.nil, .int 1]
end Go.Pl
namespace Go.Pl
open Go.Aw
def ownF (P : List Int) (v : Int) : Nat → List Int
 | 0 => []
 | y + 1 => if P.getD y 0 = v then ownF P v y ++ [(y : Int)] else ownF P v y
theorem QOk.mono {m m' : Nat} {L : List Int} (h : QOk m L) (hm : m ≤ m') : QOk m' L := fun i hi => by have := h i hi; omega
def ownL (a : List (List (List Int))) (x : Nat) : List Int := ownF (partsL a) ((partsL a).getD x 0) (a.getD 0 []).length
def subF (M : List (List Int)) (L : List Int) (i k : Nat) : Int := e2 M (L.getD i 0).toNat (L.getD k 0).toNat
def subM (M : List (List Int)) (L : List Int) : List (List Int) := matF L.length L.length (subF M L)
def paL (a : List (List (List Int))) (L : List Int) (i : Nat) : List (List (List Int)) := (List.range i).map fun k => subM (a.getD k []) L
def fillF (f : Nat → Nat → Int) (j k x y : Nat) : Int := if x < j ∨ (x = j ∧ y < k) then f x y else 0
noncomputable def paA (t a : List (List (List Int))) (x : Int) : AV := if isAct t a = true then (if ptB a x = true then .tup [.agg [.l3 (paL a (ownL a x.toNat) a.length)], .int 0] else .tup [.agg [.nil], .int 2]) else .tup [.agg [.nil], .int 1]
end Go.Pl
namespace Go.Pl
open Go.Aw
def hasI (p : List Int) (x : Nat) : Bool := p.any fun y => decide (y = (x : Int))
def ordS {σ : Type} (vis : List Int → σ → σ) (n : Nat) : Nat → List Int → σ → σ
 | 0, p, s => vis p s
 | d + 1, p, s => (List.range n).foldl (fun s x => if hasI p x = true then s else ordS vis n d (p ++ [(x : Int)]) s) s
def ordF {σ : Type} (vis : List Int → σ → σ) (n d : Nat) (p : List Int) (s : σ) (x : Nat) : σ := (List.range x).foldl (fun s x => if hasI p x = true then s else ordS vis n d (p ++ [(x : Int)]) s) s
end Go.Pl
namespace Go.Pl
open Go.Aw
def lexB {α : Type} [DecidableEq α] (lt : α → α → Bool) : List α → List α → Bool
 | a :: as, b :: bs => if a = b then lexB lt as bs else lt a b
 | _, _ => false
structure Tot {α : Type} (S : α → Prop) (lt : α → α → Bool) : Prop where
 irr : ∀ a, S a → lt a a = false
 tot : ∀ a b, S a → S b → lt a b = false → lt b a = false → a = b
 tr : ∀ a b c, S a → S b → S c → lt a b = true → lt b c = true → lt a c = true
def LS {α : Type} (S : α → Prop) (n : Nat) (l : List α) : Prop := l.length = n ∧ ∀ a ∈ l, S a
theorem LS.get {α : Type} {S : α → Prop} {n : Nat} {l : List α} (h : LS S n l) {d : α} {i : Nat} (hi : i < n) : S (l.getD i d) := by
 rw [List.getD_eq_getElem?_getD, List.getElem?_eq_getElem (by rw [h.1]; exact hi)]
 exact h.2 _ (List.getElem_mem _)
def lt0 (x y : Int) : Bool := decide (x < y)
def lt1 : List Int → List Int → Bool := lexB lt0
def lt2 : List (List Int) → List (List Int) → Bool := lexB lt1
def lt3 : List (List (List Int)) → List (List (List Int)) → Bool := lexB lt2
def Sh (k n : Nat) : List (List (List Int)) → Prop := LS (LS (LS (fun _ => True) n) n) k
def better {α : Type} (lt : α → α → Bool) (m c : α) : α := if lt c m = true then c else m
structure IsP (n : Nat) (p : List Int) : Prop where
 len : p.length = n
 q : QOk n p
 nd : p.Nodup
def permsF (n : Nat) : Nat → List Int → List (List Int)
 | 0, p => [p]
 | d + 1, p => (List.range n).flatMap (fun x => if hasI p x = true then [] else permsF n d (p ++ [(x : Int)]))
theorem nodup_le : ∀ (n : Nat) (p : List Int), p.Nodup → (∀ x ∈ p, 0 ≤ x ∧ x < n) → p.length ≤ n
 | 0, p, _, h => by
  cases p with
  | nil => exact Nat.le_refl _
  | cons x _ => have := h x (List.mem_cons_self ..); omega
 | n + 1, p, hn, h => by
  have ih := nodup_le n (p.filter fun x => decide (x ≠ (n : Int))) (hn.sublist List.filter_sublist) (fun x hx => by
   have := List.mem_filter.1 hx
   have h2 := h x this.1
   have h3 := this.2
   simp at h3
   omega)
  have h2 : p.length ≤ (p.filter fun x => decide (x ≠ (n : Int))).length + 1 := by
   clear ih h
   induction p with
   | nil => simp
   | cons y ys ihy =>
    rw [List.nodup_cons] at hn
    have := ihy hn.2
    by_cases e : y = (n : Int)
    ·subst e
     have hall : (ys.filter fun x => decide (x ≠ (n : Int))) = ys := by
      rw [List.filter_eq_self]
      intro z hz
      simp only [decide_eq_true_eq]
      exact fun e => hn.1 (e ▸ hz)
     rw [List.filter_cons_of_neg (by simp), hall]
     simp
    ·rw [List.filter_cons_of_pos (by simp [e])]
     simp only [List.length_cons]
     omega
  omega
theorem QOk.mem {n : Nat} {p : List Int} (h : QOk n p) {x : Int} (hx : x ∈ p) : 0 ≤ x ∧ x < n := by
 obtain ⟨i, hi, rfl⟩ := List.getElem_of_mem hx
 have := h i hi
 rw [List.getD_eq_getElem?_getD, List.getElem?_eq_getElem hi] at this
 exact this
theorem IsP.all {n : Nat} {p : List Int} (h : IsP n p) {u : Nat} (hu : u < n) : (u : Int) ∈ p := by
 refine Classical.byContradiction fun hni => ?_
 have := nodup_le n ((u : Int) :: p) (List.nodup_cons.2 ⟨hni, h.nd⟩) (fun x hx => by
  rcases List.mem_cons.1 hx with rfl | hx
  ·omega
  ·exact h.q.mem hx)
 rw [List.length_cons, h.len] at this
 omega
def pos (p : List Int) (u : Nat) : Nat := (fidx (fun y => decide (y = (u : Int))) p).toNat
def invL (n : Nat) (p : List Int) : List Int := (List.range n).map fun u => ((pos p u : Nat) : Int)
def reM (m : List (List Int)) (n : Nat) (p : List Int) : List (List Int) := matF n n (fun u v => e2 m (pos p u) (pos p v))
def reL (a : List (List (List Int))) (n : Nat) (p : List Int) (i : Nat) : List (List (List Int)) := (List.range i).map fun k => reM (a.getD k []) n p
def cmpV {α : Type} [DecidableEq α] (lt : α → α → Bool) (a b : α) : Int := if a = b then 0 else if lt a b = true then -1 else 1
def wS (m : List (List Int)) (n : Nat) (p : List Int) (j k : Nat) : List (List Int) := matF n n (fun u v => fillF (e2 m) j k (pos p u) (pos p v))
def visI (a : List (List (List Int))) (n : Nat) (p : List Int) (s : Option (List (List (List Int)))) : Option (List (List (List Int))) := match s with
 | none => some (reL a n p a.length)
 | some M => if lt3 (reL a n p a.length) M = true then some (reL a n p a.length) else some M
def visS (a : List (List (List Int))) (p : List Int) (M : List (List (List Int))) : List (List (List Int)) := if lt3 (paL a p a.length) M = true then paL a p a.length else M
def idP (n : Nat) : List Int := (List.range n).map fun (i : Nat) => (i : Int)
def leastL (a : List (List (List Int))) (n : Nat) : List (List (List Int)) := ordS (visS a) n n [] (paL a (idP n) a.length)
noncomputable def laA (t a : List (List (List Int))) : AV := if isAct t a = true then (if (a.getD 0 []).length ≤ 7 then .tup [.agg [.l3 (leastL a (a.getD 0 []).length)], .int 0] else .tup [.agg [.nil], .int 3]) else .tup [.agg [.nil], .int 1]
end Go.Pl
