/-
  Joined out of: PlQ PlR PlS PlU PlV.
-/
import Derived.Test.YtbddekioaigbhaaPl2
import Derived.Test.YtbddekioaigbhaaLib2
set_option linter.unusedSimpArgs false
set_option linter.unusedVariables false
namespace Go.Pl
open Go.Aw

def smM (p q : Nat) (A B : List (List Int)) : List (List Int) := A.map (fun r => r ++ List.replicate q 0) ++ B.map (fun r => List.replicate p 0 ++ r)
def smL (a b : List (List (List Int))) (i : Nat) : List (List (List Int)) := (List.range i).map fun k => smM (a.getD 0 []).length (b.getD 0 []).length (a.getD k []) (b.getD k [])
theorem smL_length {a b : List (List (List Int))} {i : Nat} : (smL a b i).length = i := by simp [smL]
theorem smL_succ {a b : List (List (List Int))} {i : Nat} : smL a b (i + 1) = smL a b i ++ [smM (a.getD 0 []).length (b.getD 0 []).length (a.getD i []) (b.getD i [])] := by simp [smL, List.range_succ]
noncomputable def smA (t a b : List (List (List Int))) : AV := if isAct t a = true ∧ isAct t b = true then (if (a.getD 0 []).length + (b.getD 0 []).length ≤ 16 then .tup [.agg [.l3 (smL a b a.length)], .int 0] else .tup [.agg [.nil], .int 3]) else .tup [.agg [.nil], .int 1]

def smP (q : Nat) (A : List (List Int)) (c x : Nat) : List (List Int) := (A.take x).map (fun r => r ++ List.replicate q 0) ++ List.replicate (c - x) (List.replicate c 0)
def smQ (p q : Nat) (A B : List (List Int)) (c y : Nat) : List (List Int) := A.map (fun r => r ++ List.replicate q 0) ++ (B.take y).map (fun r => List.replicate p 0 ++ r) ++ List.replicate (c - p - y) (List.replicate c 0)
theorem set_mid {α : Type} {d z v : α} {L : List α} {n k : Nat} (h : L.length = k) (hk : 0 < n) : (L ++ List.replicate n z).getD k d = z ∧ (L ++ List.replicate n z).set k v = L ++ [v] ++ List.replicate (n - 1) z := by
  obtain ⟨m, rfl⟩ : ∃ m, n = m + 1 := ⟨n - 1, by omega⟩
  subst h
  constructor
  · simp [List.getD, List.getElem?_append_right]
  · rw [List.set_append_right _ _ (Nat.le_refl _), Nat.sub_self, List.replicate_succ, List.set_cons_zero]
    simp
theorem cp_low {p q : Nat} {r : List Int} (hr : r.length = p) : cpL (List.replicate (p + q) 0) r 0 (p + q) = r ++ List.replicate q 0 := by
  unfold cpL
  rw [List.take_of_length_le (l := r) (by omega), List.drop_replicate]
  simp only [List.take_zero, List.nil_append]
  congr 2
  omega
theorem cp_high {p q : Nat} {r : List Int} (hr : r.length = q) : cpL (List.replicate (p + q) 0) r p (p + q) = List.replicate p 0 ++ r := by
  unfold cpL
  rw [List.take_of_length_le (l := r) (by omega), List.take_replicate, List.drop_replicate]
  have h1 : min p (p + q) = p := by omega
  have h2 : p + q - (p + min (p + q - p) r.length) = 0 := by omega
  rw [h1, h2]
  simp
theorem smP_length {q : Nat} {A : List (List Int)} {c x : Nat} (h1 : x ≤ A.length) (h2 : A.length ≤ c) : (smP q A c x).length = c := by
  simp [smP]; omega
theorem smP_get {p q : Nat} {A : List (List Int)} {x : Nat} (h1 : A.length = p) (hx : x < p) : (smP q A (p + q) x).getD x [] = List.replicate (p + q) 0 := (set_mid (v := []) (by simp; omega) (by omega)).1
theorem smP_step {p q : Nat} {A : List (List Int)} {x : Nat} (h1 : A.length = p) (hx : x < p) (hr : (A.getD x []).length = p) :
    (smP q A (p + q) x).set x (cpL (List.replicate (p + q) 0) (A.getD x []) 0 (p + q)) = smP q A (p + q) (x + 1) := by
  rw [cp_low hr]
  unfold smP
  rw [(set_mid (d := []) (by simp; omega) (by omega)).2, take_succ_map (d := []) (by omega)]
  congr 2
theorem smP_end {p q : Nat} {A B : List (List Int)} (h1 : A.length = p) : smP q A (p + q) p = smQ p q A B (p + q) 0 := by
  unfold smP smQ
  rw [List.take_of_length_le (by omega)]
  simp
theorem smQ_length {p q : Nat} {A B : List (List Int)} {y : Nat} (h1 : A.length = p) (h2 : B.length = q) (hy : y ≤ q) : (smQ p q A B (p + q) y).length = p + q := by
  simp [smQ]; omega
theorem smQ_get {p q : Nat} {A B : List (List Int)} {y : Nat} (h1 : A.length = p) (h2 : B.length = q) (hy : y < q) : (smQ p q A B (p + q) y).getD (p + y) [] = List.replicate (p + q) 0 := (set_mid (v := []) (by simp; omega) (by omega)).1
theorem smQ_step {p q : Nat} {A B : List (List Int)} {y : Nat} (h1 : A.length = p) (h2 : B.length = q) (hy : y < q) (hr : (B.getD y []).length = q) :
    (smQ p q A B (p + q) y).set (p + y) (cpL (List.replicate (p + q) 0) (B.getD y []) p (p + q)) = smQ p q A B (p + q) (y + 1) := by
  rw [cp_high hr]
  unfold smQ
  rw [(set_mid (d := []) (by simp; omega) (by omega)).2, take_succ_map (d := []) (by omega), List.append_assoc (A.map _)]
  congr 2
theorem smQ_end {p q : Nat} {A B : List (List Int)} (h2 : B.length = q) : smQ p q A B (p + q) q = smM p q A B := by
  unfold smQ smM
  rw [List.take_of_length_le (by omega)]
  simp
end Go.Pl

namespace Go.Pl
open Go.Aw

/-- Some matrix has a number other than 0 at a place. -/
def jn (a : List (List (List Int))) (x y : Nat) : Bool := a.any fun m => !decide (e2 m x y = 0)
theorem jn_true {a : List (List (List Int))} {x y i : Nat} (h : i < a.length) (hi : ¬ e2 (a.getD i []) x y = 0) : jn a x y = true := by
  unfold jn
  rw [List.any_eq_true]
  refine ⟨a.getD i [], ?_, by simpa using hi⟩
  rw [List.getD_eq_getElem?_getD, List.getElem?_eq_getElem h]
  exact List.getElem_mem h
theorem jn_elim {a : List (List (List Int))} {x y : Nat} (h : jn a x y = true) : ∃ i, i < a.length ∧ ¬ e2 (a.getD i []) x y = 0 := by
  unfold jn at h
  rw [List.any_eq_true] at h
  obtain ⟨m, hm, h2⟩ := h
  obtain ⟨i, hi, rfl⟩ := List.getElem_of_mem hm
  refine ⟨i, hi, ?_⟩
  rw [List.getD_eq_getElem?_getD, List.getElem?_eq_getElem hi]
  simpa using h2
theorem jn_false {a : List (List (List Int))} {x y : Nat} (h : ∀ i, i < a.length → e2 (a.getD i []) x y = 0) : jn a x y = false := by
  cases hj : jn a x y with
  | false => rfl
  | true => obtain ⟨i, hi, h2⟩ := jn_elim hj; exact absurd (h i hi) h2

/-- One row of the search: the points below 'y' that are joined to 'u' and have no number yet get one. -/
def yS (a : List (List (List Int))) (u : Nat) (n : Int) (P : List Int) : Nat → List Int × List Int
  | 0 => (P, [])
  | y + 1 => if (yS a u n P y).1.getD y 0 < 0 ∧ jn a u y = true then ((yS a u n P y).1.set y n, (yS a u n P y).2 ++ [(y : Int)]) else yS a u n P y
theorem yS_yes {a : List (List (List Int))} {u : Nat} {n : Int} {P : List Int} {y : Nat} (h : (yS a u n P y).1.getD y 0 < 0 ∧ jn a u y = true) : yS a u n P (y + 1) = ((yS a u n P y).1.set y n, (yS a u n P y).2 ++ [(y : Int)]) := by
  rw [yS, if_pos h]
theorem yS_no {a : List (List (List Int))} {u : Nat} {n : Int} {P : List Int} {y : Nat} (h : ¬ ((yS a u n P y).1.getD y 0 < 0 ∧ jn a u y = true)) : yS a u n P (y + 1) = yS a u n P y := by
  rw [yS, if_neg h]

/-- How many have no number yet. -/
def neg (P : List Int) : Nat := P.countP fun v => decide (v < 0)
theorem neg_set : ∀ {P : List Int} {y : Nat} {n : Int}, y < P.length → P.getD y 0 < 0 → 0 ≤ n → neg (P.set y n) + 1 = neg P
  | v :: P, 0, n, _, h, hn => by
    simp only [List.getD_cons_zero] at h
    have : ¬ n < 0 := by omega
    simp [neg, h, this]
  | v :: P, y + 1, n, hy, h, hn => by
    simp only [List.getD_cons_succ] at h
    have ih := neg_set (P := P) (y := y) (n := n) (by simpa using hy) h hn
    simp only [neg, List.set_cons_succ, List.countP_cons] at ih ⊢
    omega
  | [], _, _, hy, _, _ => by simp at hy
theorem neg_le (P : List Int) : neg P ≤ P.length := List.countP_le_length

theorem getD_set_ne {P : List Int} {y z : Nat} {n : Int} (h : y ≠ z) : (P.set y n).getD z 0 = P.getD z 0 := by
  simp [List.getD, List.getElem?_set_ne h]
theorem getD_set_eq {P : List Int} {y : Nat} {n : Int} (h : y < P.length) : (P.set y n).getD y 0 = n := by
  simp [List.getD, List.getElem?_set_self h]

/-- What holds of numbers of parts and of the points that wait. -/
structure POk (m : Nat) (n : Int) (P : List Int) : Prop where
  len : P.length = m
  bd : ∀ i, i < m → -1 ≤ P.getD i 0 ∧ P.getD i 0 ≤ n
def QOk (m : Nat) (L : List Int) : Prop := ∀ i, i < L.length → 0 ≤ L.getD i 0 ∧ L.getD i 0 < m

theorem POk.set {m : Nat} {n : Int} {P : List Int} (h : POk m n P) {y : Nat} (hn : -1 ≤ n) : POk m n (P.set y n) := by
  refine ⟨by rw [List.length_set]; exact h.len, fun i hi => ?_⟩
  by_cases e : y = i
  · subst e
    rw [getD_set_eq (by rw [h.len]; exact hi)]
    omega
  · rw [getD_set_ne e]; exact h.bd i hi
theorem QOk.app {m : Nat} {L N : List Int} (h : QOk m L) (h2 : QOk m N) : QOk m (L ++ N) := by
  intro i hi
  by_cases c : i < L.length
  · have e : (L ++ N).getD i 0 = L.getD i 0 := by simp [List.getD, List.getElem?_append_left c]
    rw [e]; exact h i c
  · have e : (L ++ N).getD i 0 = N.getD (i - L.length) 0 := by simp [List.getD, List.getElem?_append_right (show L.length ≤ i by omega)]
    rw [e]; exact h2 _ (by rw [List.length_append] at hi; omega)
theorem QOk.one {m y : Nat} (h : y < m) : QOk m [(y : Int)] := by
  intro i hi
  simp only [List.length_cons, List.length_nil] at hi
  obtain rfl : i = 0 := by omega
  simp only [List.getD_cons_zero]
  omega
theorem QOk.nil {m : Nat} : QOk m [] := fun i hi => by simp at hi

theorem yS_ok {a : List (List (List Int))} {u m : Nat} {n : Int} {P : List Int} (h : POk m n P) (hn : 0 ≤ n) : ∀ y, y ≤ m → POk m n (yS a u n P y).1 ∧ QOk m (yS a u n P y).2 ∧ neg (yS a u n P y).1 + (yS a u n P y).2.length = neg P
  | 0, _ => ⟨h, QOk.nil, rfl⟩
  | y + 1, hy => by
    obtain ⟨h1, h2, h3⟩ := yS_ok h hn y (by omega)
    by_cases c : (yS a u n P y).1.getD y 0 < 0 ∧ jn a u y = true
    · rw [yS_yes c]
      refine ⟨h1.set (by omega), h2.app (QOk.one (by omega)), ?_⟩
      have := neg_set (n := n) (show y < (yS a u n P y).1.length by rw [h1.len]; omega) c.1 hn
      simp only [List.length_append, List.length_cons, List.length_nil]
      omega
    · rw [yS_no c]; exact ⟨h1, h2, h3⟩

/-- One point of those that wait. -/
def bS (a : List (List (List Int))) (m : Nat) (n : Int) (s : List Int × List Int) : List Int × List Int := match s.2 with
  | [] => s
  | u :: L => ((yS a u.toNat n s.1 m).1, L ++ (yS a u.toNat n s.1 m).2)
def bI (a : List (List (List Int))) (m : Nat) (n : Int) (s : List Int × List Int) : Nat → List Int × List Int
  | 0 => s
  | k + 1 => bS a m n (bI a m n s k)
theorem bI_succ {a : List (List (List Int))} {m : Nat} {n : Int} {s : List Int × List Int} {k : Nat} {u : Int} {L : List Int} (h : (bI a m n s k).2 = u :: L) :
    bI a m n s (k + 1) = ((yS a u.toNat n (bI a m n s k).1 m).1, L ++ (yS a u.toNat n (bI a m n s k).1 m).2) := by
  rw [bI, bS, h]
theorem bI_stay {a : List (List (List Int))} {m : Nat} {n : Int} {s : List Int × List Int} {k : Nat} (h : (bI a m n s k).2 = []) : ∀ j, bI a m n s (k + j) = bI a m n s k
  | 0 => rfl
  | j + 1 => by
    have := bI_stay h j
    rw [← Nat.add_assoc, bI, this, bS, h]

def mu (s : List Int × List Int) : Nat := s.2.length + neg s.1
structure BOk (m : Nat) (n : Int) (s : List Int × List Int) : Prop where
  p : POk m n s.1
  q : QOk m s.2
theorem QOk.tail {m : Nat} {u : Int} {L : List Int} (h : QOk m (u :: L)) : QOk m L := fun i hi => by
  have := h (i + 1) (by simpa using hi)
  simpa using this
theorem bS_ok {a : List (List (List Int))} {m : Nat} {n : Int} {s : List Int × List Int} (h : BOk m n s) (hn : 0 ≤ n) : BOk m n (bS a m n s) ∧ (s.2 ≠ [] → mu (bS a m n s) + 1 = mu s) := by
  unfold bS
  cases e : s.2 with
  | nil => exact ⟨by simpa only [e] using h, fun hh => absurd rfl hh⟩
  | cons u L =>
    have hq := h.q
    rw [e] at hq
    obtain ⟨h1, h2, h3⟩ := yS_ok (a := a) (u := u.toNat) h.p hn m (Nat.le_refl _)
    refine ⟨⟨h1, hq.tail.app h2⟩, fun _ => ?_⟩
    simp only [mu, List.length_append, e, List.length_cons]
    omega
theorem bI_ok {a : List (List (List Int))} {m : Nat} {n : Int} {s : List Int × List Int} (h : BOk m n s) (hn : 0 ≤ n) : ∀ k, BOk m n (bI a m n s k) ∧ ((∀ j, j < k → (bI a m n s j).2 ≠ []) → mu (bI a m n s k) + k = mu s)
  | 0 => ⟨h, fun _ => rfl⟩
  | k + 1 => by
    obtain ⟨h1, h2⟩ := bI_ok h hn k
    obtain ⟨h3, h4⟩ := bS_ok (a := a) h1 hn
    refine ⟨h3, fun hh => ?_⟩
    have := h2 (fun j hj => hh j (by omega))
    have := h4 (hh k (by omega))
    rw [bI]
    omega
/-- The search ends. -/
theorem bI_end {a : List (List (List Int))} {m : Nat} {n : Int} {s : List Int × List Int} (h : BOk m n s) (hn : 0 ≤ n) {k : Nat} (hk : (bI a m n s k).2 = []) {M : Nat} (hM : mu s ≤ M) : bI a m n s M = bI a m n s k := by
  by_cases hkM : k ≤ M
  · obtain ⟨j, rfl⟩ := Nat.exists_eq_add_of_le hkM
    exact bI_stay hk j
  · by_cases hE : (bI a m n s M).2 = []
    · obtain ⟨j, rfl⟩ := Nat.exists_eq_add_of_le (show M ≤ k by omega)
      exact (bI_stay hE j).symm
    · exfalso
      have hall : ∀ j, j < M + 1 → (bI a m n s j).2 ≠ [] := fun j hj e => by
        obtain ⟨i, hi⟩ := Nat.exists_eq_add_of_le (show j ≤ M by omega)
        rw [hi, bI_stay e i] at hE
        exact hE e
      have := (bI_ok (a := a) h hn (M + 1)).2 hall
      omega

/-- The points found so far, those that are done too. -/
def qF (a : List (List (List Int))) (m : Nat) (n : Int) (s : List Int × List Int) : Nat → List Int
  | 0 => s.2
  | k + 1 => qF a m n s k ++ (match (bI a m n s k).2 with
    | [] => []
    | u :: _ => (yS a u.toNat n (bI a m n s k).1 m).2)
theorem qF_ok {a : List (List (List Int))} {m : Nat} {n : Int} {s : List Int × List Int} : ∀ k, (∀ j, j < k → (bI a m n s j).2 ≠ []) → (qF a m n s k).drop k = (bI a m n s k).2 ∧ k ≤ (qF a m n s k).length
  | 0, _ => ⟨rfl, Nat.zero_le _⟩
  | k + 1, hh => by
    obtain ⟨h1, h2⟩ := qF_ok k (fun j hj => hh j (by omega))
    have hne := hh k (by omega)
    cases e : (bI a m n s k).2 with
    | nil => exact absurd e hne
    | cons u L =>
      rw [e] at h1
      have hl : k < (qF a m n s k).length := by
        have := congrArg List.length h1
        simp only [List.length_drop, List.length_cons] at this
        omega
      rw [bI_succ e, qF, e]
      simp only
      have h3 : (qF a m n s k).drop (k + 1) = L := by
        rw [← List.drop_drop, h1]; rfl
      refine ⟨?_, by rw [List.length_append]; omega⟩
      rw [List.drop_append_of_le_length (by omega), h3]
theorem qF_get {a : List (List (List Int))} {m : Nat} {n : Int} {s : List Int × List Int} {k : Nat} (hh : ∀ j, j < k → (bI a m n s j).2 ≠ []) {u : Int} {L : List Int} (e : (bI a m n s k).2 = u :: L) : k < (qF a m n s k).length ∧ (qF a m n s k).getD k 0 = u ∧ qF a m n s (k + 1) = qF a m n s k ++ (yS a u.toNat n (bI a m n s k).1 m).2 := by
  obtain ⟨h1, h2⟩ := qF_ok k hh
  rw [e] at h1
  have hl : k < (qF a m n s k).length := by
    have := congrArg List.length h1
    simp only [List.length_drop, List.length_cons] at this
    omega
  refine ⟨hl, ?_, by rw [qF, e]⟩
  have := congrArg (fun l => l.getD 0 0) h1
  simpa [List.getD, List.getElem?_drop] using this
theorem qF_end {a : List (List (List Int))} {m : Nat} {n : Int} {s : List Int × List Int} {k : Nat} (hh : ∀ j, j < k → (bI a m n s j).2 ≠ []) (e : (bI a m n s k).2 = []) : (qF a m n s k).length = k := by
  obtain ⟨h1, h2⟩ := qF_ok k hh
  rw [e] at h1
  have := congrArg List.length h1
  simp only [List.length_drop, List.length_nil] at this
  omega

/-- The numbers of parts after the points below 'x', and the next number. -/
def pS (a : List (List (List Int))) (m : Nat) : Nat → List Int × Int
  | 0 => (List.replicate m (-1), 0)
  | x + 1 => if 0 ≤ (pS a m x).1.getD x 0 then pS a m x else ((bI a m (pS a m x).2 ((pS a m x).1.set x (pS a m x).2, [(x : Int)]) (m + 1)).1, (pS a m x).2 + 1)
def partsL (a : List (List (List Int))) : List Int := (pS a (a.getD 0 []).length (a.getD 0 []).length).1
theorem pS_no {a : List (List (List Int))} {m x : Nat} (h : 0 ≤ (pS a m x).1.getD x 0) : pS a m (x + 1) = pS a m x := by rw [pS, if_pos h]

theorem POk.mono {m : Nat} {n n' : Int} {P : List Int} (h : POk m n P) (hn : n ≤ n') : POk m n' P := ⟨h.len, fun i hi => by have := h.bd i hi; omega⟩
theorem pS_st {a : List (List (List Int))} {m x : Nat} (hx : x < m) (h : POk m (pS a m x).2 (pS a m x).1) (hn : 0 ≤ (pS a m x).2) (hc : ¬ 0 ≤ (pS a m x).1.getD x 0) :
    BOk m (pS a m x).2 ((pS a m x).1.set x (pS a m x).2, [(x : Int)]) ∧ mu ((pS a m x).1.set x (pS a m x).2, [(x : Int)]) ≤ m := by
  refine ⟨⟨h.set (by omega), QOk.one hx⟩, ?_⟩
  have h1 := neg_set (n := (pS a m x).2) (show x < (pS a m x).1.length by rw [h.len]; exact hx) (by omega) hn
  have h2 := neg_le (pS a m x).1
  have h3 := h.len
  simp only [mu, List.length_cons, List.length_nil]
  omega
theorem pS_yes {a : List (List (List Int))} {m x : Nat} (hx : x < m) (h : POk m (pS a m x).2 (pS a m x).1) (hn : 0 ≤ (pS a m x).2) (hc : ¬ 0 ≤ (pS a m x).1.getD x 0) {k : Nat}
    (hk : (bI a m (pS a m x).2 ((pS a m x).1.set x (pS a m x).2, [(x : Int)]) k).2 = []) : pS a m (x + 1) = ((bI a m (pS a m x).2 ((pS a m x).1.set x (pS a m x).2, [(x : Int)]) k).1, (pS a m x).2 + 1) := by
  obtain ⟨h1, h2⟩ := pS_st hx h hn hc
  rw [pS, if_neg hc, bI_end h1 hn hk (by omega)]
theorem pS_ok {a : List (List (List Int))} {m : Nat} : ∀ x, x ≤ m → POk m (pS a m x).2 (pS a m x).1 ∧ 0 ≤ (pS a m x).2 ∧ (pS a m x).2 ≤ x
  | 0, _ => ⟨⟨by simp [pS], fun i hi => by simp [pS, List.getD, hi]⟩, by simp [pS], by simp [pS]⟩
  | x + 1, hx => by
    obtain ⟨h1, h2, h3⟩ := pS_ok (a := a) (m := m) x (by omega)
    by_cases c : 0 ≤ (pS a m x).1.getD x 0
    · rw [pS_no c]; exact ⟨h1, h2, by omega⟩
    · obtain ⟨h4, h5⟩ := pS_st (by omega) h1 h2 c
      rw [pS, if_neg c]
      exact ⟨((bI_ok (a := a) h4 h2 (m + 1)).1.p).mono (by simp only; omega), by simp only; omega, by simp only; omega⟩

/-! Numbers once given stay, so in the end each point has one. -/
theorem yS_keep {a : List (List (List Int))} {u : Nat} {n : Int} {P : List Int} (hn : 0 ≤ n) {z : Nat} (h : 0 ≤ P.getD z 0) : ∀ y, 0 ≤ (yS a u n P y).1.getD z 0
  | 0 => h
  | y + 1 => by
    have ih := yS_keep (a := a) (u := u) hn h y
    by_cases c : (yS a u n P y).1.getD y 0 < 0 ∧ jn a u y = true
    · rw [yS_yes c]
      by_cases e : y = z
      · subst e; omega
      · rw [getD_set_ne e]; exact ih
    · rw [yS_no c]; exact ih
theorem bI_keep {a : List (List (List Int))} {m : Nat} {n : Int} {s : List Int × List Int} (hn : 0 ≤ n) {z : Nat} (h : 0 ≤ s.1.getD z 0) : ∀ k, 0 ≤ (bI a m n s k).1.getD z 0
  | 0 => h
  | k + 1 => by
    have ih := bI_keep (a := a) (m := m) hn h k
    cases e : (bI a m n s k).2 with
    | nil => rw [bI, bS, e]; exact ih
    | cons u L => rw [bI_succ e]; exact yS_keep hn ih m
theorem pS_all {a : List (List (List Int))} {m : Nat} : ∀ x, x ≤ m → ∀ z, z < x → 0 ≤ (pS a m x).1.getD z 0
  | 0, _, z, hz => by omega
  | x + 1, hx, z, hz => by
    obtain ⟨h1, h2, h3⟩ := pS_ok (a := a) (m := m) x (by omega)
    by_cases c : 0 ≤ (pS a m x).1.getD x 0
    · rw [pS_no c]
      by_cases e : z = x
      · subst e; exact c
      · exact pS_all x (by omega) z (by omega)
    · rw [pS, if_neg c]
      refine bI_keep h2 ?_ _
      by_cases e : x = z
      · subst e
        show 0 ≤ ((pS a m x).1.set x (pS a m x).2).getD x 0
        rw [getD_set_eq (by rw [h1.len]; omega)]; exact h2
      · show 0 ≤ ((pS a m x).1.set x (pS a m x).2).getD z 0
        rw [getD_set_ne e]; exact pS_all x (by omega) z (by omega)

theorem partsL_length (a : List (List (List Int))) : (partsL a).length = (a.getD 0 []).length := (pS_ok _ (Nat.le_refl _)).1.len
theorem partsL_pos (a : List (List (List Int))) {z : Nat} (h : z < (a.getD 0 []).length) : 0 ≤ (partsL a).getD z 0 ∧ (partsL a).getD z 0 ≤ (a.getD 0 []).length := by
  obtain ⟨h1, h2, h3⟩ := pS_ok (a := a) (m := (a.getD 0 []).length) _ (Nat.le_refl _)
  have := h1.bd z h
  exact ⟨pS_all _ (Nat.le_refl _) z h, by unfold partsL; omega⟩

/-- The matrices of duals are turned, so it does not matter in which order two points are named. -/
theorem e2_turn {a : List (List Int)} {p : Nat} (h1 : a.length = p) (h2 : (a.getD 0 []).length = p) {x y : Nat} (hx : x < p) (hy : y < p) : e2 (turnM a) y x = e2 a x y := by
  rw [turnM_matF, h1, h2]
  unfold e2
  rw [matF_get hy, rowF_get hx]
theorem jn_turn {t a : List (List (List Int))} (h : isAct t a = true) {x y : Nat} (hx : x < (a.getD 0 []).length) (hy : y < (a.getD 0 []).length) (hj : jn a x y = true) : jn a y x = true := by
  obtain ⟨i, hi, hne⟩ := jn_elim hj
  have fa := isAct_fam h
  have la := fa.1
  have hf := (isAct_iff.1 h).2.2
  have hr := isAct_ring h
  have hd := faultF_dual hr.2
  obtain ⟨d1, d2, d3⟩ := dual_ok hd (show i < t.length by omega)
  have hH : actH t a i = none := by
    unfold actF orE at hf
    cases c1 : actA a with
    | some _ => rw [c1] at hf; simp at hf
    | none =>
      rw [c1] at hf
      simp only at hf
      cases c2 : first t.length (fun i => first t.length (actG t a i)) with
      | some _ => rw [c2] at hf; simp at hf
      | none =>
        rw [c2] at hf
        simp only at hf
        exact first_none_iff.1 hf i (by omega)
  unfold actH at hH
  split at hH
  · rename_i e
    have hm := fa.2.2.2.2 i hi
    have hm0 := hm.row (show 0 < (a.getD 0 []).length by omega)
    refine jn_true (i := (dual t i).toNat) (by omega) ?_
    rw [e, e2_turn hm.1 hm0 hx hy]
    exact hne
  · cases hH
theorem jn_sym {t a : List (List (List Int))} (h : isAct t a = true) {x y : Nat} (hx : x < (a.getD 0 []).length) (hy : y < (a.getD 0 []).length) : jn a x y = jn a y x := by
  cases h1 : jn a x y with
  | true => exact (jn_turn h hx hy h1).symm
  | false =>
    cases h2 : jn a y x with
    | true => rw [jn_turn h hy hx h2] at h1; cases h1
    | false => rfl

noncomputable def partsA (t a : List (List (List Int))) : AV := if isAct t a = true then .tup [.l1 (partsL a), .int 0] else .tup [.nil, .int 1]
theorem partsA_shape (t a : List (List (List Int))) : ∃ (u : Option (List Int)) (c : Int), partsA t a = .tup [optA u, .int c] ∧ ∀ v, u = some v → v.length ≤ 1048576 := by
  unfold partsA
  split
  · rename_i hc
    refine ⟨some (partsL a), 0, rfl, fun v hv => ?_⟩
    cases hv
    have := (isAct_fam hc).2.2.2.1
    rw [partsL_length]
    omega
  · exact ⟨none, 1, rfl, fun v hv => by cases hv⟩
end Go.Pl

namespace Go.Pl
open Go.Aw

/-- The places below 'y' with the number 'v'. -/
def ownF (P : List Int) (v : Int) : Nat → List Int
  | 0 => []
  | y + 1 => if P.getD y 0 = v then ownF P v y ++ [(y : Int)] else ownF P v y
theorem ownF_yes {P : List Int} {v : Int} {y : Nat} (h : P.getD y 0 = v) : ownF P v (y + 1) = ownF P v y ++ [(y : Int)] := by rw [ownF, if_pos h]
theorem ownF_no {P : List Int} {v : Int} {y : Nat} (h : ¬ P.getD y 0 = v) : ownF P v (y + 1) = ownF P v y := by rw [ownF, if_neg h]
theorem QOk.mono {m m' : Nat} {L : List Int} (h : QOk m L) (hm : m ≤ m') : QOk m' L := fun i hi => by have := h i hi; omega
theorem ownF_ok {P : List Int} {v : Int} : ∀ y, QOk y (ownF P v y) ∧ (ownF P v y).length ≤ y
  | 0 => ⟨QOk.nil, Nat.le_refl _⟩
  | y + 1 => by
    obtain ⟨h1, h2⟩ := ownF_ok (P := P) (v := v) y
    by_cases c : P.getD y 0 = v
    · rw [ownF_yes c]
      exact ⟨(h1.mono (by omega)).app (QOk.one (by omega)), by rw [List.length_append, List.length_cons, List.length_nil]; omega⟩
    · rw [ownF_no c]; exact ⟨h1.mono (by omega), by omega⟩
def ownL (a : List (List (List Int))) (x : Nat) : List Int := ownF (partsL a) ((partsL a).getD x 0) (a.getD 0 []).length

def subF (M : List (List Int)) (L : List Int) (i k : Nat) : Int := e2 M (L.getD i 0).toNat (L.getD k 0).toNat
def subM (M : List (List Int)) (L : List Int) : List (List Int) := matF L.length L.length (subF M L)
def paL (a : List (List (List Int))) (L : List Int) (i : Nat) : List (List (List Int)) := (List.range i).map fun k => subM (a.getD k []) L
theorem paL_length {a : List (List (List Int))} {L : List Int} {i : Nat} : (paL a L i).length = i := by simp [paL]
theorem paL_succ {a : List (List (List Int))} {L : List Int} {i : Nat} : paL a L (i + 1) = paL a L i ++ [subM (a.getD i []) L] := by simp [paL, List.range_succ]
theorem matF_succ {j n : Nat} {f : Nat → Nat → Int} : matF (j + 1) n f = matF j n f ++ [rowF n (f j)] := by simp [matF, List.range_succ]
theorem rowF_succ {k : Nat} {f : Nat → Int} : rowF (k + 1) f = rowF k f ++ [f k] := by simp [rowF, List.range_succ]

/-- A square that is filled row by row. -/
def fillF (f : Nat → Nat → Int) (j k x y : Nat) : Int := if x < j ∨ (x = j ∧ y < k) then f x y else 0
theorem qfill_zero {n : Nat} {f : Nat → Nat → Int} : List.replicate n (List.replicate n (0 : Int)) = matF n n (fillF f 0 0) := by
  rw [zeros_matF]
  exact matF_congr fun i _ j _ => by unfold fillF; rw [if_neg (by omega)]
theorem qfill_set {n : Nat} {f : Nat → Nat → Int} {j k : Nat} (hj : j < n) : (matF n n (fillF f j k)).set j (((matF n n (fillF f j k)).getD j []).set k (f j k)) = matF n n (fillF f j (k + 1)) := by
  rw [matF_set hj]
  refine matF_congr fun x _ y _ => ?_
  unfold fillF
  by_cases c : x = j ∧ y = k
  · rw [if_pos c, if_pos (by omega), c.1, c.2]
  · rw [if_neg c]
    by_cases c2 : x < j ∨ (x = j ∧ y < k)
    · rw [if_pos c2, if_pos (by omega)]
    · rw [if_neg c2, if_neg (by omega)]
theorem qfill_row {n : Nat} {f : Nat → Nat → Int} {j : Nat} : matF n n (fillF f j n) = matF n n (fillF f (j + 1) 0) :=
  matF_congr fun x _ y _ => by
    unfold fillF
    by_cases c : x < j ∨ (x = j ∧ y < n)
    · rw [if_pos c, if_pos (by omega)]
    · rw [if_neg c, if_neg (by omega)]
theorem qfill_end {n : Nat} {f : Nat → Nat → Int} : matF n n (fillF f n 0) = matF n n f :=
  matF_congr fun x _ y _ => by unfold fillF; rw [if_pos (by omega)]

noncomputable def paA (t a : List (List (List Int))) (x : Int) : AV := if isAct t a = true then (if ptB a x = true then .tup [.agg [.l3 (paL a (ownL a x.toNat) a.length)], .int 0] else .tup [.agg [.nil], .int 2]) else .tup [.agg [.nil], .int 1]
end Go.Pl

namespace Go.Pl
open Go.Aw

def hasI (p : List Int) (x : Nat) : Bool := p.any fun y => decide (y = (x : Int))
def ordS {σ : Type} (vis : List Int → σ → σ) (n : Nat) : Nat → List Int → σ → σ
  | 0, p, s => vis p s
  | d + 1, p, s => (List.range n).foldl (fun s x => if hasI p x = true then s else ordS vis n d (p ++ [(x : Int)]) s) s
def ordF {σ : Type} (vis : List Int → σ → σ) (n d : Nat) (p : List Int) (s : σ) (x : Nat) : σ := (List.range x).foldl (fun s x => if hasI p x = true then s else ordS vis n d (p ++ [(x : Int)]) s) s
theorem ordS_succ {σ : Type} {vis : List Int → σ → σ} {n d : Nat} {p : List Int} {s : σ} : ordS vis n (d + 1) p s = ordF vis n d p s n := rfl
theorem ordF_zero {σ : Type} {vis : List Int → σ → σ} {n d : Nat} {p : List Int} {s : σ} : ordF vis n d p s 0 = s := rfl
theorem ordF_step {σ : Type} {vis : List Int → σ → σ} {n d : Nat} {p : List Int} {s : σ} {x : Nat} : ordF vis n d p s (x + 1) = if hasI p x = true then ordF vis n d p s x else ordS vis n d (p ++ [(x : Int)]) (ordF vis n d p s x) := by
  unfold ordF
  rw [List.range_succ, List.foldl_append]
  rfl
theorem hasI_iff {p : List Int} {x : Nat} : hasI p x = true ↔ (x : Int) ∈ p := by
  unfold hasI
  rw [List.any_eq_true]
  constructor
  · rintro ⟨y, hy, e⟩
    have : y = (x : Int) := by simpa using e
    rw [← this]; exact hy
  · intro h
    exact ⟨_, h, by simp⟩
theorem nodup_snoc {p : List Int} {x : Nat} (h : p.Nodup) (hn : ¬ hasI p x = true) : (p ++ [(x : Int)]).Nodup := by
  rw [List.nodup_append]
  refine ⟨h, by simp, fun a ha b hb e => ?_⟩
  simp only [List.mem_singleton] at hb
  subst hb
  subst e
  exact hn (hasI_iff.2 ha)
/-- What each visit keeps, the search keeps. -/
theorem ordS_keep {σ : Type} {vis : List Int → σ → σ} {n : Nat} {G : σ → Prop} (hG : ∀ p s, p.length = n → QOk n p → p.Nodup → G s → G (vis p s)) : ∀ d p s, p.length + d = n → QOk n p → p.Nodup → G s → G (ordS vis n d p s)
  | 0, p, s, hl, hq, hn, h => hG p s (by omega) hq hn h
  | d + 1, p, s, hl, hq, hn, h => by
    have key : ∀ (l : List Nat), (∀ x ∈ l, x < n) → ∀ s, G s → G (l.foldl (fun s x => if hasI p x = true then s else ordS vis n d (p ++ [(x : Int)]) s) s) := by
      intro l
      induction l with
      | nil => intro _ s h; exact h
      | cons x l ih =>
        intro hl2 s h
        rw [List.foldl_cons]
        refine ih (fun y hy => hl2 y (List.mem_cons_of_mem _ hy)) _ ?_
        split
        · exact h
        · rename_i hc
          exact ordS_keep hG d _ _ (by rw [List.length_append, List.length_cons, List.length_nil]; omega) (hq.app (QOk.one (hl2 x (List.mem_cons_self ..)))) (nodup_snoc hn hc) h
    exact key _ (fun x hx => List.mem_range.1 hx) s h
theorem ordF_keep {σ : Type} {vis : List Int → σ → σ} {n : Nat} {G : σ → Prop} (hG : ∀ p s, p.length = n → QOk n p → p.Nodup → G s → G (vis p s)) {d : Nat} {p : List Int} {s : σ} (hl : p.length + (d + 1) = n) (hq : QOk n p) (hn : p.Nodup) (h : G s) : ∀ x, x ≤ n → G (ordF vis n d p s x)
  | 0, _ => h
  | x + 1, hx => by
    have ih := ordF_keep hG hl hq hn h x (by omega)
    rw [ordF_step]
    split
    · exact ih
    · rename_i hc
      exact ordS_keep hG d _ _ (by rw [List.length_append, List.length_cons, List.length_nil]; omega) (hq.app (QOk.one (by omega))) (nodup_snoc hn hc) ih
end Go.Pl

namespace Go.Pl
open Go.Aw

/-! ### Lexicographic orders -/
def lexB {α : Type} [DecidableEq α] (lt : α → α → Bool) : List α → List α → Bool
  | a :: as, b :: bs => if a = b then lexB lt as bs else lt a b
  | _, _ => false
structure Tot {α : Type} (S : α → Prop) (lt : α → α → Bool) : Prop where
  irr : ∀ a, S a → lt a a = false
  tot : ∀ a b, S a → S b → lt a b = false → lt b a = false → a = b
  tr : ∀ a b c, S a → S b → S c → lt a b = true → lt b c = true → lt a c = true
def LS {α : Type} (S : α → Prop) (n : Nat) (l : List α) : Prop := l.length = n ∧ ∀ a ∈ l, S a
theorem LS.tail {α : Type} {S : α → Prop} {n : Nat} {a : α} {l : List α} (h : LS S (n + 1) (a :: l)) : S a ∧ LS S n l :=
  ⟨h.2 a (List.mem_cons_self ..), by have := h.1; simpa using this, fun b hb => h.2 b (List.mem_cons_of_mem _ hb)⟩
theorem LS.get {α : Type} {S : α → Prop} {n : Nat} {l : List α} (h : LS S n l) {d : α} {i : Nat} (hi : i < n) : S (l.getD i d) := by
  rw [List.getD_eq_getElem?_getD, List.getElem?_eq_getElem (by rw [h.1]; exact hi)]
  exact h.2 _ (List.getElem_mem _)
theorem lex_tot {α : Type} [DecidableEq α] {S : α → Prop} {lt : α → α → Bool} (h : Tot S lt) : ∀ n, Tot (LS S n) (lexB lt)
  | 0 => by
    have nil : ∀ a : List α, LS S 0 a → a = [] := fun a ha => List.eq_nil_of_length_eq_zero ha.1
    exact ⟨fun a ha => by rw [nil a ha]; rfl, fun a b ha hb _ _ => by rw [nil a ha, nil b hb], fun a b c ha hb _ h1 _ => by rw [nil a ha, nil b hb] at h1; cases h1⟩
  | n + 1 => by
    have ih := lex_tot h n
    refine ⟨fun a ha => ?_, fun a b ha hb h1 h2 => ?_, fun a b c ha hb hc h1 h2 => ?_⟩
    · cases a with
      | nil => rfl
      | cons x xs =>
        rw [lexB, if_pos rfl]
        exact ih.irr xs ha.tail.2
    · cases a with
      | nil => have := ha.1; simp at this
      | cons x xs =>
        cases b with
        | nil => have := hb.1; simp at this
        | cons y ys =>
          rw [lexB] at h1 h2
          by_cases e : x = y
          · subst e
            rw [if_pos rfl] at h1 h2
            rw [ih.tot xs ys ha.tail.2 hb.tail.2 h1 h2]
          · rw [if_neg e] at h1
            rw [if_neg (fun h => e h.symm)] at h2
            exact absurd (h.tot x y ha.tail.1 hb.tail.1 h1 h2) e
    · cases a with
      | nil => have := ha.1; simp at this
      | cons x xs =>
        cases b with
        | nil => have := hb.1; simp at this
        | cons y ys =>
          cases c with
          | nil => have := hc.1; simp at this
          | cons z zs =>
            rw [lexB] at h1 h2 ⊢
            by_cases e : x = y
            · subst e
              rw [if_pos rfl] at h1
              by_cases e2 : x = z
              · subst e2
                rw [if_pos rfl] at h2 ⊢
                exact ih.tr xs ys zs ha.tail.2 hb.tail.2 hc.tail.2 h1 h2
              · rw [if_neg e2] at h2 ⊢
                exact h2
            · rw [if_neg e] at h1
              by_cases e2 : y = z
              · subst e2
                rw [if_neg e]
                exact h1
              · rw [if_neg e2] at h2
                have h3 := h.tr x y z ha.tail.1 hb.tail.1 hc.tail.1 h1 h2
                have e3 : x ≠ z := fun e3 => by
                  subst e3
                  rw [h.irr x ha.tail.1] at h3
                  cases h3
                rw [if_neg e3]
                exact h3
def lt0 (x y : Int) : Bool := decide (x < y)
theorem tot0 : Tot (fun _ : Int => True) lt0 := ⟨fun a _ => by simp [lt0], fun a b _ _ h1 h2 => by simp [lt0] at h1 h2; omega, fun a b c _ _ _ h1 h2 => by simp [lt0] at h1 h2 ⊢; omega⟩
def lt1 : List Int → List Int → Bool := lexB lt0
def lt2 : List (List Int) → List (List Int) → Bool := lexB lt1
def lt3 : List (List (List Int)) → List (List (List Int)) → Bool := lexB lt2
/-- Cubes of one shape. -/
def Sh (k n : Nat) : List (List (List Int)) → Prop := LS (LS (LS (fun _ => True) n) n) k
theorem tot3L (k n : Nat) : Tot (Sh k n) lt3 := lex_tot (lex_tot (lex_tot tot0 n) n) k

/-! ### The least of some -/
theorem tot_le {α : Type} {S : α → Prop} {lt : α → α → Bool} (h : Tot S lt) {a b c : α} (ha : S a) (hb : S b) (hc : S c) (h1 : lt b a = false) (h2 : lt c b = false) : lt c a = false := by
  cases h3 : lt c a with
  | false => rfl
  | true =>
    cases h4 : lt a b with
    | true => rw [h.tr c a b hc ha hb h3 h4] at h2; cases h2
    | false =>
      have := h.tot a b ha hb h4 h1
      subst this
      rw [h3] at h2; cases h2
def better {α : Type} (lt : α → α → Bool) (m c : α) : α := if lt c m = true then c else m
theorem fold_min {α : Type} {S : α → Prop} {lt : α → α → Bool} (h : Tot S lt) : ∀ (cs : List α) (m : α), S m → (∀ c ∈ cs, S c) → (cs.foldl (better lt) m ∈ m :: cs) ∧ ∀ c ∈ m :: cs, lt c (cs.foldl (better lt) m) = false
  | [], m, hm, _ => ⟨by simp, fun c hc => by simp only [List.mem_singleton] at hc; subst hc; exact h.irr c hm⟩
  | x :: cs, m, hm, hcs => by
    have hx := hcs x (List.mem_cons_self ..)
    have hb : S (better lt m x) := by unfold better; split; exact hx; exact hm
    obtain ⟨h1, h2⟩ := fold_min h cs (better lt m x) hb (fun c hc => hcs c (List.mem_cons_of_mem _ hc))
    rw [List.foldl_cons]
    have hR : S (cs.foldl (better lt) (better lt m x)) := by
      rcases List.mem_cons.1 h1 with e | e
      · rw [e]; exact hb
      · exact hcs _ (List.mem_cons_of_mem _ e)
    have hbm := h2 _ (List.mem_cons_self ..)
    have hm2 : lt m (better lt m x) = false := by
      unfold better
      cases e : lt x m with
      | true =>
        rw [if_pos rfl]
        cases e2 : lt m x with
        | false => rfl
        | true => have := h.tr m x m hm hx hm e2 e; rw [h.irr m hm] at this; cases this
      | false => rw [if_neg (by decide)]; exact h.irr m hm
    have hx2 : lt x (better lt m x) = false := by
      unfold better
      cases e : lt x m with
      | true => rw [if_pos rfl]; exact h.irr x hx
      | false => rw [if_neg (by decide)]; exact e
    refine ⟨?_, fun c hc => ?_⟩
    · rcases List.mem_cons.1 h1 with e | e
      · rw [e]
        unfold better
        split <;> simp
      · exact List.mem_cons_of_mem _ (List.mem_cons_of_mem _ e)
    · rcases List.mem_cons.1 hc with rfl | hc
      · exact tot_le h hR hb hm hbm hm2
      · rcases List.mem_cons.1 hc with rfl | hc
        · exact tot_le h hR hb hx hbm hx2
        · exact h2 c (List.mem_cons_of_mem _ hc)
/-- Two searches for the least of the same things end with the same. -/
theorem fold_same {α : Type} {S : α → Prop} {lt : α → α → Bool} (h : Tot S lt) {cs ds : List α} {m m' : α} (hm : S m) (hm' : S m') (hcs : ∀ c ∈ cs, S c) (hds : ∀ c ∈ ds, S c) (h1 : ∀ c ∈ m :: cs, c ∈ m' :: ds) (h2 : ∀ c ∈ m' :: ds, c ∈ m :: cs) :
    cs.foldl (better lt) m = ds.foldl (better lt) m' := by
  obtain ⟨a1, a2⟩ := fold_min h cs m hm hcs
  obtain ⟨b1, b2⟩ := fold_min h ds m' hm' hds
  have s1 : S (cs.foldl (better lt) m) := by
    rcases List.mem_cons.1 a1 with e | e
    · rw [e]; exact hm
    · exact hcs _ e
  have s2 : S (ds.foldl (better lt) m') := by
    rcases List.mem_cons.1 b1 with e | e
    · rw [e]; exact hm'
    · exact hds _ e
  exact h.tot _ _ s1 s2 (b2 _ (h1 _ a1)) (a2 _ (h2 _ b1))

/-! ### Permutations -/
structure IsP (n : Nat) (p : List Int) : Prop where
  len : p.length = n
  q : QOk n p
  nd : p.Nodup
def permsF (n : Nat) : Nat → List Int → List (List Int)
  | 0, p => [p]
  | d + 1, p => (List.range n).flatMap (fun x => if hasI p x = true then [] else permsF n d (p ++ [(x : Int)]))
theorem fold_flat {σ : Type} {vis : List Int → σ → σ} {n d : Nat} {p : List Int} (ih : ∀ p s, ordS vis n d p s = (permsF n d p).foldl (fun s q => vis q s) s) : ∀ (l : List Nat) (s : σ),
    l.foldl (fun s x => if hasI p x = true then s else ordS vis n d (p ++ [(x : Int)]) s) s = (l.flatMap (fun x => if hasI p x = true then [] else permsF n d (p ++ [(x : Int)]))).foldl (fun s q => vis q s) s
  | [], _ => rfl
  | x :: l, s => by
    rw [List.foldl_cons, List.flatMap_cons, List.foldl_append, fold_flat ih l]
    congr 1
    split
    · rfl
    · exact ih _ _
theorem ordS_fold {σ : Type} {vis : List Int → σ → σ} {n : Nat} : ∀ d p (s : σ), ordS vis n d p s = (permsF n d p).foldl (fun s q => vis q s) s
  | 0, _, _ => rfl
  | d + 1, p, s => fold_flat (fun p s => ordS_fold d p s) _ s
theorem perms_isP {n : Nat} : ∀ d p, p.length + d = n → QOk n p → p.Nodup → ∀ q ∈ permsF n d p, IsP n q
  | 0, p, hl, hq, hn, q, h => by
    simp only [permsF, List.mem_singleton] at h
    subst h
    exact ⟨by omega, hq, hn⟩
  | d + 1, p, hl, hq, hn, q, h => by
    simp only [permsF, List.mem_flatMap, List.mem_range] at h
    obtain ⟨x, hx, h⟩ := h
    split at h
    · simp at h
    · rename_i hc
      exact perms_isP d _ (by rw [List.length_append, List.length_cons, List.length_nil]; omega) (hq.app (QOk.one hx)) (nodup_snoc hn hc) q h
theorem isP_perms {n : Nat} {q : List Int} (h : IsP n q) : ∀ d, d ≤ n → q ∈ permsF n d (q.take (n - d))
  | 0, _ => by
    simp only [permsF, List.mem_singleton]
    rw [List.take_of_length_le (by rw [h.len]; omega)]
  | d + 1, hd => by
    have ih := isP_perms h d (by omega)
    have hk : n - (d + 1) < q.length := by rw [h.len]; omega
    have hb := h.q (n - (d + 1)) hk
    have eg : q.getD (n - (d + 1)) 0 = q[n - (d + 1)] := by rw [List.getD_eq_getElem?_getD, List.getElem?_eq_getElem hk]; rfl
    rw [eg] at hb
    have e1 : q.take (n - d) = q.take (n - (d + 1)) ++ [((q[n - (d + 1)]).toNat : Int)] := by
      have : n - d = n - (d + 1) + 1 := by omega
      rw [this, ← List.take_append_getElem hk]
      congr 2
      omega
    simp only [permsF, List.mem_flatMap, List.mem_range]
    refine ⟨(q[n - (d + 1)]).toNat, by omega, ?_⟩
    rw [if_neg ?_, ← e1]
    · exact ih
    · intro hc
      have h1 := hasI_iff.1 hc
      have h2 : (((q[n - (d + 1)]).toNat : Nat) : Int) = q[n - (d + 1)] := by omega
      rw [h2] at h1
      have h3 : (q.take (n - (d + 1)) ++ [q[n - (d + 1)]]).Nodup := by
        rw [List.take_append_getElem hk]
        exact h.nd.sublist (List.take_sublist _ _)
      rw [List.nodup_append] at h3
      exact h3.2.2 _ h1 _ (List.mem_singleton.2 rfl) rfl
theorem perms_iff {n : Nat} {q : List Int} : q ∈ permsF n n [] ↔ IsP n q := by
  constructor
  · exact perms_isP n [] (by simp) QOk.nil (by simp) q
  · intro h
    have := isP_perms h n (Nat.le_refl _)
    simpa using this

/-! ### Each of the points has its place -/
theorem nodup_le : ∀ (n : Nat) (p : List Int), p.Nodup → (∀ x ∈ p, 0 ≤ x ∧ x < n) → p.length ≤ n
  | 0, p, _, h => by
    cases p with
    | nil => exact Nat.le_refl _
    | cons x _ => have := h x (List.mem_cons_self ..); omega
  | n + 1, p, hn, h => by
    have ih := nodup_le n (p.filter fun x => decide (x ≠ (n : Int))) (hn.sublist List.filter_sublist) (fun x hx => by
      have := List.mem_filter.1 hx
      have h2 := h x this.1
      have h3 := this.2
      simp at h3
      omega)
    have h2 : p.length ≤ (p.filter fun x => decide (x ≠ (n : Int))).length + 1 := by
      clear ih h
      induction p with
      | nil => simp
      | cons y ys ihy =>
        rw [List.nodup_cons] at hn
        have := ihy hn.2
        by_cases e : y = (n : Int)
        · subst e
          have hall : (ys.filter fun x => decide (x ≠ (n : Int))) = ys := by
            rw [List.filter_eq_self]
            intro z hz
            simp only [decide_eq_true_eq]
            exact fun e => hn.1 (e ▸ hz)
          rw [List.filter_cons_of_neg (by simp), hall]
          simp
        · rw [List.filter_cons_of_pos (by simp [e])]
          simp only [List.length_cons]
          omega
    omega
theorem QOk.mem {n : Nat} {p : List Int} (h : QOk n p) {x : Int} (hx : x ∈ p) : 0 ≤ x ∧ x < n := by
  obtain ⟨i, hi, rfl⟩ := List.getElem_of_mem hx
  have := h i hi
  rw [List.getD_eq_getElem?_getD, List.getElem?_eq_getElem hi] at this
  exact this
theorem IsP.all {n : Nat} {p : List Int} (h : IsP n p) {u : Nat} (hu : u < n) : (u : Int) ∈ p := by
  refine Classical.byContradiction fun hni => ?_
  have := nodup_le n ((u : Int) :: p) (List.nodup_cons.2 ⟨hni, h.nd⟩) (fun x hx => by
    rcases List.mem_cons.1 hx with rfl | hx
    · omega
    · exact h.q.mem hx)
  rw [List.length_cons, h.len] at this
  omega
def pos (p : List Int) (u : Nat) : Nat := (fidx (fun y => decide (y = (u : Int))) p).toNat
theorem IsP.pos_ok {n : Nat} {p : List Int} (h : IsP n p) {u : Nat} (hu : u < n) : pos p u < n ∧ p.getD (pos p u) 0 = u := by
  have hm := h.all hu
  obtain ⟨i, hi, e⟩ := List.getElem_of_mem hm
  have hany : p.any (fun y => decide (y = (u : Int))) = true := List.any_eq_true.2 ⟨_, hm, by simp⟩
  have h0 : 0 ≤ fidx (fun y => decide (y = (u : Int))) p := by
    have := fidx_any (p := fun y => decide (y = (u : Int))) (xs := p)
    rw [hany] at this
    simpa using this
  have h1 := (fidx_lt (p := fun y => decide (y = (u : Int))) (xs := p)).2
  have h2 := (fidx_at (d := 0) h0).1
  rw [h.len] at h1
  unfold pos
  exact ⟨by omega, by simpa using h2⟩
theorem ext_getD' {xs ys : List Int} (hl : xs.length = ys.length) (h : ∀ i, i < xs.length → xs.getD i 0 = ys.getD i 0) : xs = ys := by
  apply List.ext_getElem hl
  intro i h1 h2
  have := h i h1
  simpa [List.getD, List.getElem?_eq_getElem h1, List.getElem?_eq_getElem h2] using this
theorem nodup_getD {p : List Int} (h : p.Nodup) {i j : Nat} (hi : i < p.length) (hj : j < p.length) (e : p.getD i 0 = p.getD j 0) : i = j := by
  rw [List.getD_eq_getElem?_getD, List.getElem?_eq_getElem hi, List.getD_eq_getElem?_getD, List.getElem?_eq_getElem hj] at e
  exact (List.getElem_inj h).1 (by simpa using e)
theorem IsP.pos_iff {n : Nat} {p : List Int} (h : IsP n p) {u x : Nat} (hu : u < n) (hx : x < n) : pos p u = x ↔ p.getD x 0 = u := by
  obtain ⟨h1, h2⟩ := h.pos_ok hu
  constructor
  · intro e; rw [← e]; exact h2
  · intro e
    exact nodup_getD h.nd (by rw [h.len]; exact h1) (by rw [h.len]; exact hx) (by rw [h2, e])
/-- The inverse permutation. -/
def invL (n : Nat) (p : List Int) : List Int := (List.range n).map fun u => ((pos p u : Nat) : Int)
theorem invL_get {n : Nat} {p : List Int} {u : Nat} (hu : u < n) : (invL n p).getD u 0 = (pos p u : Nat) := by simp [invL, List.getD, hu]
theorem invL_isP {n : Nat} {p : List Int} (h : IsP n p) : IsP n (invL n p) := by
  refine ⟨by simp [invL], fun i hi => ?_, ?_⟩
  · rw [show (invL n p).length = n by simp [invL]] at hi
    rw [invL_get hi]
    have := (h.pos_ok hi).1
    omega
  · unfold invL
    refine List.Pairwise.map _ (R := fun u v => u < n ∧ v < n ∧ u ≠ v) (fun u v huv e => ?_) ?_
    · obtain ⟨h1, h2, h3⟩ := huv
      have e' : pos p u = pos p v := Int.ofNat.inj e
      have a1 := (h.pos_ok h1).2
      have a2 := (h.pos_ok h2).2
      rw [e', a2] at a1
      exact h3 (by omega)
    · have hr := List.nodup_range (n := n)
      refine List.Pairwise.imp_of_mem (R := fun a b => a ≠ b) (fun {a b} ha hb hab => ⟨List.mem_range.1 ha, List.mem_range.1 hb, hab⟩) hr
theorem invL_inv {n : Nat} {p : List Int} (h : IsP n p) : invL n (invL n p) = p := by
  have hi := invL_isP h
  refine ext_getD' (by rw [(invL_isP hi).len, h.len]) (fun i hi' => ?_)
  rw [(invL_isP hi).len] at hi'
  rw [invL_get hi']
  have hb := h.q i (by rw [h.len]; exact hi')
  obtain ⟨w, hw⟩ : ∃ w : Nat, p.getD i 0 = w := ⟨(p.getD i 0).toNat, by omega⟩
  rw [hw]
  have : pos (invL n p) i = w := (hi.pos_iff hi' (by omega)).2 (by
    rw [invL_get (by omega)]
    have := (h.pos_iff (u := w) (x := i) (by omega) hi').2 hw
    rw [this])
  rw [this]
/-- Matrices with their points renumbered by a permutation. -/
def reM (m : List (List Int)) (n : Nat) (p : List Int) : List (List Int) := matF n n (fun u v => e2 m (pos p u) (pos p v))
def reL (a : List (List (List Int))) (n : Nat) (p : List Int) (i : Nat) : List (List (List Int)) := (List.range i).map fun k => reM (a.getD k []) n p
theorem reM_sub {m : List (List Int)} {n : Nat} {p : List Int} (h : IsP n p) : reM m n p = subM m (invL n p) := by
  unfold reM subM
  rw [(invL_isP h).len]
  refine matF_congr fun i hi j hj => ?_
  unfold subF
  rw [invL_get hi, invL_get hj, Int.toNat_natCast, Int.toNat_natCast]
theorem reL_pa {a : List (List (List Int))} {n : Nat} {p : List Int} {i : Nat} (h : IsP n p) : reL a n p i = paL a (invL n p) i := by
  unfold reL paL
  exact List.map_congr_left fun k _ => reM_sub h

/-! ### Comparing, as a number -/
def cmpV {α : Type} [DecidableEq α] (lt : α → α → Bool) (a b : α) : Int := if a = b then 0 else if lt a b = true then -1 else 1
theorem lex_diff {α : Type} [DecidableEq α] {d : α} {lt : α → α → Bool} : ∀ (i : Nat) (xs ys : List α), xs.take i = ys.take i → i < xs.length → i < ys.length → xs.getD i d ≠ ys.getD i d → xs ≠ ys ∧ lexB lt xs ys = lt (xs.getD i d) (ys.getD i d)
  | _, [], _, _, h, _, _ => by simp at h
  | _, _ :: _, [], _, _, h, _ => by simp at h
  | 0, x :: xs, y :: ys, _, _, _, hne => by
    simp only [List.getD_cons_zero] at hne ⊢
    exact ⟨fun e => hne (List.cons.inj e).1, by rw [lexB, if_neg hne]⟩
  | i + 1, x :: xs, y :: ys, ht, h1, h2, hne => by
    simp only [List.take_succ_cons, List.cons.injEq, List.getD_cons_succ, List.length_cons] at ht h1 h2 hne ⊢
    obtain ⟨rfl, ht⟩ := ht
    obtain ⟨a1, a2⟩ := lex_diff (lt := lt) i xs ys ht (by omega) (by omega) hne
    exact ⟨fun e => a1 (List.cons.inj e).2, by rw [lexB, if_pos rfl]; exact a2⟩
theorem cmp_diff {α : Type} [DecidableEq α] {d : α} {lt : α → α → Bool} {i : Nat} {xs ys : List α} (h : xs.take i = ys.take i) (h1 : i < xs.length) (h2 : i < ys.length) (hne : ¬ cmpV lt (xs.getD i d) (ys.getD i d) = 0) : cmpV (lexB lt) xs ys = cmpV lt (xs.getD i d) (ys.getD i d) := by
  have hn : xs.getD i d ≠ ys.getD i d := fun e => hne (by unfold cmpV; rw [if_pos e])
  obtain ⟨a1, a2⟩ := lex_diff (lt := lt) i xs ys h h1 h2 hn
  unfold cmpV
  rw [if_neg a1, if_neg hn, a2]
theorem cmp_zero {α : Type} [DecidableEq α] {lt : α → α → Bool} {a b : α} (h : cmpV lt a b = 0) : a = b := by
  unfold cmpV at h
  split at h
  · assumption
  · split at h <;> omega
theorem cmp_neg {α : Type} [DecidableEq α] {S : α → Prop} {lt : α → α → Bool} (h : Tot S lt) {a b : α} (ha : S a) : decide (cmpV lt a b < 0) = lt a b := by
  unfold cmpV
  by_cases e : a = b
  · subst e
    rw [if_pos rfl, h.irr a ha]; rfl
  · rw [if_neg e]
    cases lt a b <;> rfl
theorem cmpV_bd {α : Type} [DecidableEq α] {lt : α → α → Bool} {a b : α} : -1 ≤ cmpV lt a b ∧ cmpV lt a b ≤ 1 := by
  unfold cmpV
  split
  · omega
  · split <;> omega

/-! ### A square that is filled at permuted places -/
def wS (m : List (List Int)) (n : Nat) (p : List Int) (j k : Nat) : List (List Int) := matF n n (fun u v => fillF (e2 m) j k (pos p u) (pos p v))
theorem wS_zero {m : List (List Int)} {n : Nat} {p : List Int} : List.replicate n (List.replicate n (0 : Int)) = wS m n p 0 0 := by
  rw [zeros_matF]
  exact matF_congr fun i _ j _ => by unfold fillF; rw [if_neg (by omega)]
theorem wS_set {m : List (List Int)} {n : Nat} {p : List Int} (h : IsP n p) {j k : Nat} (hj : j < n) (hk : k < n) :
    (wS m n p j k).set (p.getD j 0).toNat (((wS m n p j k).getD (p.getD j 0).toNat []).set (p.getD k 0).toNat (e2 m j k)) = wS m n p j (k + 1) := by
  have hbj := h.q j (by rw [h.len]; exact hj)
  have hbk := h.q k (by rw [h.len]; exact hk)
  unfold wS
  rw [matF_set (by omega)]
  refine matF_congr fun x hx y hy => ?_
  have ex := h.pos_iff hx hj
  have ey := h.pos_iff hy hk
  unfold fillF
  by_cases c : x = (p.getD j 0).toNat ∧ y = (p.getD k 0).toNat
  · have e1 : pos p x = j := ex.2 (by omega)
    have e2' : pos p y = k := ey.2 (by omega)
    rw [if_pos c, e1, e2', if_pos (by omega)]
  · rw [if_neg c]
    have hne : ¬ (pos p x = j ∧ pos p y = k) := fun hh => c ⟨by have := ex.1 hh.1; omega, by have := ey.1 hh.2; omega⟩
    by_cases c2 : pos p x < j ∨ (pos p x = j ∧ pos p y < k)
    · rw [if_pos c2, if_pos (by omega)]
    · rw [if_neg c2, if_neg (by omega)]
theorem wS_row {m : List (List Int)} {n : Nat} {p : List Int} (h : IsP n p) {j : Nat} : wS m n p j n = wS m n p (j + 1) 0 :=
  matF_congr fun x _ y hy => by
    have := (h.pos_ok hy).1
    unfold fillF
    by_cases c : pos p x < j ∨ (pos p x = j ∧ pos p y < n)
    · rw [if_pos c, if_pos (by omega)]
    · rw [if_neg c, if_neg (by omega)]
theorem wS_end {m : List (List Int)} {n : Nat} {p : List Int} (h : IsP n p) : wS m n p n 0 = reM m n p :=
  matF_congr fun x hx y _ => by
    have := (h.pos_ok hx).1
    unfold fillF
    rw [if_pos (by omega)]
theorem reL_length {a : List (List (List Int))} {n : Nat} {p : List Int} {i : Nat} : (reL a n p i).length = i := by simp [reL]
theorem reL_succ {a : List (List (List Int))} {n : Nat} {p : List Int} {i : Nat} : reL a n p (i + 1) = reL a n p i ++ [reM (a.getD i []) n p] := by simp [reL, List.range_succ]
theorem matF_Sh {n : Nat} {f : Nat → Nat → Int} : LS (LS (fun _ => True) n) n (matF n n f) :=
  ⟨matF_length .., fun r hr => by
    simp only [matF, List.mem_map, List.mem_range] at hr
    obtain ⟨i, _, rfl⟩ := hr
    exact ⟨rowF_length .., fun _ _ => trivial⟩⟩
theorem reL_Sh {a : List (List (List Int))} {n : Nat} {p : List Int} {i : Nat} : Sh i n (reL a n p i) :=
  ⟨reL_length, fun m hm => by
    simp only [reL, List.mem_map, List.mem_range] at hm
    obtain ⟨k, _, rfl⟩ := hm
    exact matF_Sh⟩

/-- The program's visitor, the reference's search. -/
def visI (a : List (List (List Int))) (n : Nat) (p : List Int) (s : Option (List (List (List Int)))) : Option (List (List (List Int))) := match s with
  | none => some (reL a n p a.length)
  | some M => if lt3 (reL a n p a.length) M = true then some (reL a n p a.length) else some M
def visS (a : List (List (List Int))) (p : List Int) (M : List (List (List Int))) : List (List (List Int)) := if lt3 (paL a p a.length) M = true then paL a p a.length else M
def idP (n : Nat) : List Int := (List.range n).map fun (i : Nat) => (i : Int)
theorem idP_isP (n : Nat) : IsP n (idP n) := by
  refine ⟨by simp [idP], fun i hi => ?_, ?_⟩
  · simp only [idP, List.length_map, List.length_range] at hi
    have : (idP n).getD i 0 = i := by simp [idP, List.getD, hi]
    rw [this]; omega
  · unfold idP
    refine List.Pairwise.map _ (R := fun u v => u ≠ v) (fun u v huv e => huv (Int.ofNat.inj e)) (List.nodup_range (n := n))
theorem visI_fold {a : List (List (List Int))} {n : Nat} : ∀ (ps : List (List Int)) (M : List (List (List Int))), ps.foldl (fun s q => visI a n q s) (some M) = some ((ps.map fun q => reL a n q a.length).foldl (better lt3) M)
  | [], _ => rfl
  | p :: ps, M => by
    rw [List.foldl_cons, List.map_cons, List.foldl_cons]
    have e : visI a n p (some M) = some (better lt3 M (reL a n p a.length)) := by
      show (if lt3 (reL a n p a.length) M = true then some (reL a n p a.length) else some M) = _
      unfold better
      split <;> rfl
    rw [e]
    exact visI_fold ps _
theorem visS_fold {a : List (List (List Int))} : ∀ (ps : List (List Int)) (M : List (List (List Int))), ps.foldl (fun s q => visS a q s) M = (ps.map fun q => paL a q a.length).foldl (better lt3) M
  | [], _ => rfl
  | p :: ps, M => by
    rw [List.foldl_cons, List.map_cons, List.foldl_cons]
    exact visS_fold ps _
theorem paL_Sh {a : List (List (List Int))} {n : Nat} {p : List Int} {i : Nat} (h : IsP n p) : Sh i n (paL a p i) :=
  ⟨paL_length, fun m hm => by
    simp only [paL, List.mem_map, List.mem_range] at hm
    obtain ⟨k, _, rfl⟩ := hm
    unfold subM
    rw [h.len]
    exact matF_Sh⟩
/-- Both searches end with the same. -/
theorem least_same {a : List (List (List Int))} {n : Nat} : ordS (visI a n) n n [] none = some (ordS (visS a) n n [] (paL a (idP n) a.length)) := by
  rw [ordS_fold, ordS_fold, visS_fold]
  have hid := perms_iff.2 (idP_isP n)
  cases hps : permsF n n [] with
  | nil => rw [hps] at hid; simp at hid
  | cons p0 ps =>
    have hall : ∀ q ∈ p0 :: ps, IsP n q := fun q hq => perms_iff.1 (by rw [hps]; exact hq)
    have hin : ∀ q, IsP n q → q ∈ p0 :: ps := fun q hq => by rw [← hps]; exact perms_iff.2 hq
    rw [List.foldl_cons]
    show ps.foldl (fun s q => visI a n q s) (some (reL a n p0 a.length)) = _
    rw [visI_fold]
    congr 1
    have h0 := hall p0 (List.mem_cons_self ..)
    refine fold_same (S := Sh a.length n) (tot3L a.length n) reL_Sh (paL_Sh (idP_isP n)) (fun c hc => ?_) (fun c hc => ?_) (fun c hc => ?_) (fun c hc => ?_)
    · obtain ⟨q, _, rfl⟩ := List.mem_map.1 hc
      exact reL_Sh
    · obtain ⟨q, hq, rfl⟩ := List.mem_map.1 hc
      exact paL_Sh (hall q hq)
    · have : ∃ q, IsP n q ∧ c = reL a n q a.length := by
        rcases List.mem_cons.1 hc with rfl | hc
        · exact ⟨p0, h0, rfl⟩
        · obtain ⟨q, hq, rfl⟩ := List.mem_map.1 hc
          exact ⟨q, hall q (List.mem_cons_of_mem _ hq), rfl⟩
      obtain ⟨q, hq, rfl⟩ := this
      rw [reL_pa hq]
      exact List.mem_cons_of_mem _ (List.mem_map.2 ⟨_, hin _ (invL_isP hq), rfl⟩)
    · have : ∃ q, IsP n q ∧ c = paL a q a.length := by
        rcases List.mem_cons.1 hc with rfl | hc
        · exact ⟨idP n, idP_isP n, rfl⟩
        · obtain ⟨q, hq, rfl⟩ := List.mem_map.1 hc
          exact ⟨q, hall q hq, rfl⟩
      obtain ⟨q, hq, rfl⟩ := this
      have e : paL a q a.length = reL a n (invL n q) a.length := by rw [reL_pa (invL_isP hq), invL_inv hq]
      rw [e]
      have := hin _ (invL_isP hq)
      rcases List.mem_cons.1 this with h | h
      · rw [h]; exact List.mem_cons_self ..
      · exact List.mem_cons_of_mem _ (List.mem_map.2 ⟨_, h, rfl⟩)

/-! ### The least action -/
def leastL (a : List (List (List Int))) (n : Nat) : List (List (List Int)) := ordS (visS a) n n [] (paL a (idP n) a.length)
theorem leastL_Sh {a : List (List (List Int))} {n : Nat} : Sh a.length n (leastL a n) :=
  ordS_keep (G := Sh a.length n) (fun p M hl hq hn hM => by unfold visS; split; exact paL_Sh ⟨hl, hq, hn⟩; exact hM) n [] _ (by simp) QOk.nil (by simp) (paL_Sh (idP_isP n))
noncomputable def laA (t a : List (List (List Int))) : AV := if isAct t a = true then (if (a.getD 0 []).length ≤ 7 then .tup [.agg [.l3 (leastL a (a.getD 0 []).length)], .int 0] else .tup [.agg [.nil], .int 3]) else .tup [.agg [.nil], .int 1]
end Go.Pl
