/-
  The parts of an action: a search from each point, told as functions of lists. Of no program.
-/
import Derived.Test.YtkkgmjclfclaoaaPlQ
set_option linter.unusedSimpArgs false
set_option linter.unusedVariables false
namespace Go.Pl
open Go.Aw

/-- Some matrix has a number other than 0 at a place. -/
def jn (a : List (List (List Int))) (x y : Nat) : Bool := a.any fun m => !decide (e2 m x y = 0)
theorem jn_true {a : List (List (List Int))} {x y i : Nat} (h : i < a.length) (hi : ¬ e2 (a.getD i []) x y = 0) : jn a x y = true := by
  unfold jn
  rw [List.any_eq_true]
  refine ⟨a.getD i [], ?_, by simpa using hi⟩
  rw [List.getD_eq_getElem?_getD, List.getElem?_eq_getElem h]
  exact List.getElem_mem h
theorem jn_elim {a : List (List (List Int))} {x y : Nat} (h : jn a x y = true) : ∃ i, i < a.length ∧ ¬ e2 (a.getD i []) x y = 0 := by
  unfold jn at h
  rw [List.any_eq_true] at h
  obtain ⟨m, hm, h2⟩ := h
  obtain ⟨i, hi, rfl⟩ := List.getElem_of_mem hm
  refine ⟨i, hi, ?_⟩
  rw [List.getD_eq_getElem?_getD, List.getElem?_eq_getElem hi]
  simpa using h2
theorem jn_false {a : List (List (List Int))} {x y : Nat} (h : ∀ i, i < a.length → e2 (a.getD i []) x y = 0) : jn a x y = false := by
  cases hj : jn a x y with
  | false => rfl
  | true => obtain ⟨i, hi, h2⟩ := jn_elim hj; exact absurd (h i hi) h2

/-- One row of the search: the points below 'y' that are joined to 'u' and have no number yet get one. -/
def yS (a : List (List (List Int))) (u : Nat) (n : Int) (P : List Int) : Nat → List Int × List Int
  | 0 => (P, [])
  | y + 1 => if (yS a u n P y).1.getD y 0 < 0 ∧ jn a u y = true then ((yS a u n P y).1.set y n, (yS a u n P y).2 ++ [(y : Int)]) else yS a u n P y
theorem yS_yes {a : List (List (List Int))} {u : Nat} {n : Int} {P : List Int} {y : Nat} (h : (yS a u n P y).1.getD y 0 < 0 ∧ jn a u y = true) : yS a u n P (y + 1) = ((yS a u n P y).1.set y n, (yS a u n P y).2 ++ [(y : Int)]) := by
  rw [yS, if_pos h]
theorem yS_no {a : List (List (List Int))} {u : Nat} {n : Int} {P : List Int} {y : Nat} (h : ¬ ((yS a u n P y).1.getD y 0 < 0 ∧ jn a u y = true)) : yS a u n P (y + 1) = yS a u n P y := by
  rw [yS, if_neg h]

/-- How many have no number yet. -/
def neg (P : List Int) : Nat := P.countP fun v => decide (v < 0)
theorem neg_set : ∀ {P : List Int} {y : Nat} {n : Int}, y < P.length → P.getD y 0 < 0 → 0 ≤ n → neg (P.set y n) + 1 = neg P
  | v :: P, 0, n, _, h, hn => by
    simp only [List.getD_cons_zero] at h
    have : ¬ n < 0 := by omega
    simp [neg, h, this]
  | v :: P, y + 1, n, hy, h, hn => by
    simp only [List.getD_cons_succ] at h
    have ih := neg_set (P := P) (y := y) (n := n) (by simpa using hy) h hn
    simp only [neg, List.set_cons_succ, List.countP_cons] at ih ⊢
    omega
  | [], _, _, hy, _, _ => by simp at hy
theorem neg_le (P : List Int) : neg P ≤ P.length := List.countP_le_length

theorem getD_set_ne {P : List Int} {y z : Nat} {n : Int} (h : y ≠ z) : (P.set y n).getD z 0 = P.getD z 0 := by
  simp [List.getD, List.getElem?_set_ne h]
theorem getD_set_eq {P : List Int} {y : Nat} {n : Int} (h : y < P.length) : (P.set y n).getD y 0 = n := by
  simp [List.getD, List.getElem?_set_self h]

/-- What holds of numbers of parts and of the points that wait. -/
structure POk (m : Nat) (n : Int) (P : List Int) : Prop where
  len : P.length = m
  bd : ∀ i, i < m → -1 ≤ P.getD i 0 ∧ P.getD i 0 ≤ n
def QOk (m : Nat) (L : List Int) : Prop := ∀ i, i < L.length → 0 ≤ L.getD i 0 ∧ L.getD i 0 < m

theorem POk.set {m : Nat} {n : Int} {P : List Int} (h : POk m n P) {y : Nat} (hn : -1 ≤ n) : POk m n (P.set y n) := by
  refine ⟨by rw [List.length_set]; exact h.len, fun i hi => ?_⟩
  by_cases e : y = i
  · subst e
    rw [getD_set_eq (by rw [h.len]; exact hi)]
    omega
  · rw [getD_set_ne e]; exact h.bd i hi
theorem QOk.app {m : Nat} {L N : List Int} (h : QOk m L) (h2 : QOk m N) : QOk m (L ++ N) := by
  intro i hi
  by_cases c : i < L.length
  · have e : (L ++ N).getD i 0 = L.getD i 0 := by simp [List.getD, List.getElem?_append_left c]
    rw [e]; exact h i c
  · have e : (L ++ N).getD i 0 = N.getD (i - L.length) 0 := by simp [List.getD, List.getElem?_append_right (show L.length ≤ i by omega)]
    rw [e]; exact h2 _ (by rw [List.length_append] at hi; omega)
theorem QOk.one {m y : Nat} (h : y < m) : QOk m [(y : Int)] := by
  intro i hi
  simp only [List.length_cons, List.length_nil] at hi
  obtain rfl : i = 0 := by omega
  simp only [List.getD_cons_zero]
  omega
theorem QOk.nil {m : Nat} : QOk m [] := fun i hi => by simp at hi

theorem yS_ok {a : List (List (List Int))} {u m : Nat} {n : Int} {P : List Int} (h : POk m n P) (hn : 0 ≤ n) : ∀ y, y ≤ m → POk m n (yS a u n P y).1 ∧ QOk m (yS a u n P y).2 ∧ neg (yS a u n P y).1 + (yS a u n P y).2.length = neg P
  | 0, _ => ⟨h, QOk.nil, rfl⟩
  | y + 1, hy => by
    obtain ⟨h1, h2, h3⟩ := yS_ok h hn y (by omega)
    by_cases c : (yS a u n P y).1.getD y 0 < 0 ∧ jn a u y = true
    · rw [yS_yes c]
      refine ⟨h1.set (by omega), h2.app (QOk.one (by omega)), ?_⟩
      have := neg_set (n := n) (show y < (yS a u n P y).1.length by rw [h1.len]; omega) c.1 hn
      simp only [List.length_append, List.length_cons, List.length_nil]
      omega
    · rw [yS_no c]; exact ⟨h1, h2, h3⟩

/-- One point of those that wait. -/
def bS (a : List (List (List Int))) (m : Nat) (n : Int) (s : List Int × List Int) : List Int × List Int := match s.2 with
  | [] => s
  | u :: L => ((yS a u.toNat n s.1 m).1, L ++ (yS a u.toNat n s.1 m).2)
def bI (a : List (List (List Int))) (m : Nat) (n : Int) (s : List Int × List Int) : Nat → List Int × List Int
  | 0 => s
  | k + 1 => bS a m n (bI a m n s k)
theorem bI_succ {a : List (List (List Int))} {m : Nat} {n : Int} {s : List Int × List Int} {k : Nat} {u : Int} {L : List Int} (h : (bI a m n s k).2 = u :: L) :
    bI a m n s (k + 1) = ((yS a u.toNat n (bI a m n s k).1 m).1, L ++ (yS a u.toNat n (bI a m n s k).1 m).2) := by
  rw [bI, bS, h]
theorem bI_stay {a : List (List (List Int))} {m : Nat} {n : Int} {s : List Int × List Int} {k : Nat} (h : (bI a m n s k).2 = []) : ∀ j, bI a m n s (k + j) = bI a m n s k
  | 0 => rfl
  | j + 1 => by
    have := bI_stay h j
    rw [← Nat.add_assoc, bI, this, bS, h]

def mu (s : List Int × List Int) : Nat := s.2.length + neg s.1
structure BOk (m : Nat) (n : Int) (s : List Int × List Int) : Prop where
  p : POk m n s.1
  q : QOk m s.2
theorem QOk.tail {m : Nat} {u : Int} {L : List Int} (h : QOk m (u :: L)) : QOk m L := fun i hi => by
  have := h (i + 1) (by simpa using hi)
  simpa using this
theorem bS_ok {a : List (List (List Int))} {m : Nat} {n : Int} {s : List Int × List Int} (h : BOk m n s) (hn : 0 ≤ n) : BOk m n (bS a m n s) ∧ (s.2 ≠ [] → mu (bS a m n s) + 1 = mu s) := by
  unfold bS
  cases e : s.2 with
  | nil => exact ⟨by simpa only [e] using h, fun hh => absurd rfl hh⟩
  | cons u L =>
    have hq := h.q
    rw [e] at hq
    obtain ⟨h1, h2, h3⟩ := yS_ok (a := a) (u := u.toNat) h.p hn m (Nat.le_refl _)
    refine ⟨⟨h1, hq.tail.app h2⟩, fun _ => ?_⟩
    simp only [mu, List.length_append, e, List.length_cons]
    omega
theorem bI_ok {a : List (List (List Int))} {m : Nat} {n : Int} {s : List Int × List Int} (h : BOk m n s) (hn : 0 ≤ n) : ∀ k, BOk m n (bI a m n s k) ∧ ((∀ j, j < k → (bI a m n s j).2 ≠ []) → mu (bI a m n s k) + k = mu s)
  | 0 => ⟨h, fun _ => rfl⟩
  | k + 1 => by
    obtain ⟨h1, h2⟩ := bI_ok h hn k
    obtain ⟨h3, h4⟩ := bS_ok (a := a) h1 hn
    refine ⟨h3, fun hh => ?_⟩
    have := h2 (fun j hj => hh j (by omega))
    have := h4 (hh k (by omega))
    rw [bI]
    omega
/-- The search ends. -/
theorem bI_end {a : List (List (List Int))} {m : Nat} {n : Int} {s : List Int × List Int} (h : BOk m n s) (hn : 0 ≤ n) {k : Nat} (hk : (bI a m n s k).2 = []) {M : Nat} (hM : mu s ≤ M) : bI a m n s M = bI a m n s k := by
  by_cases hkM : k ≤ M
  · obtain ⟨j, rfl⟩ := Nat.exists_eq_add_of_le hkM
    exact bI_stay hk j
  · by_cases hE : (bI a m n s M).2 = []
    · obtain ⟨j, rfl⟩ := Nat.exists_eq_add_of_le (show M ≤ k by omega)
      exact (bI_stay hE j).symm
    · exfalso
      have hall : ∀ j, j < M + 1 → (bI a m n s j).2 ≠ [] := fun j hj e => by
        obtain ⟨i, hi⟩ := Nat.exists_eq_add_of_le (show j ≤ M by omega)
        rw [hi, bI_stay e i] at hE
        exact hE e
      have := (bI_ok (a := a) h hn (M + 1)).2 hall
      omega

/-- The points found so far, those that are done too. -/
def qF (a : List (List (List Int))) (m : Nat) (n : Int) (s : List Int × List Int) : Nat → List Int
  | 0 => s.2
  | k + 1 => qF a m n s k ++ (match (bI a m n s k).2 with
    | [] => []
    | u :: _ => (yS a u.toNat n (bI a m n s k).1 m).2)
theorem qF_ok {a : List (List (List Int))} {m : Nat} {n : Int} {s : List Int × List Int} : ∀ k, (∀ j, j < k → (bI a m n s j).2 ≠ []) → (qF a m n s k).drop k = (bI a m n s k).2 ∧ k ≤ (qF a m n s k).length
  | 0, _ => ⟨rfl, Nat.zero_le _⟩
  | k + 1, hh => by
    obtain ⟨h1, h2⟩ := qF_ok k (fun j hj => hh j (by omega))
    have hne := hh k (by omega)
    cases e : (bI a m n s k).2 with
    | nil => exact absurd e hne
    | cons u L =>
      rw [e] at h1
      have hl : k < (qF a m n s k).length := by
        have := congrArg List.length h1
        simp only [List.length_drop, List.length_cons] at this
        omega
      rw [bI_succ e, qF, e]
      simp only
      have h3 : (qF a m n s k).drop (k + 1) = L := by
        rw [← List.drop_drop, h1]; rfl
      refine ⟨?_, by rw [List.length_append]; omega⟩
      rw [List.drop_append_of_le_length (by omega), h3]
theorem qF_get {a : List (List (List Int))} {m : Nat} {n : Int} {s : List Int × List Int} {k : Nat} (hh : ∀ j, j < k → (bI a m n s j).2 ≠ []) {u : Int} {L : List Int} (e : (bI a m n s k).2 = u :: L) : k < (qF a m n s k).length ∧ (qF a m n s k).getD k 0 = u ∧ qF a m n s (k + 1) = qF a m n s k ++ (yS a u.toNat n (bI a m n s k).1 m).2 := by
  obtain ⟨h1, h2⟩ := qF_ok k hh
  rw [e] at h1
  have hl : k < (qF a m n s k).length := by
    have := congrArg List.length h1
    simp only [List.length_drop, List.length_cons] at this
    omega
  refine ⟨hl, ?_, by rw [qF, e]⟩
  have := congrArg (fun l => l.getD 0 0) h1
  simpa [List.getD, List.getElem?_drop] using this
theorem qF_end {a : List (List (List Int))} {m : Nat} {n : Int} {s : List Int × List Int} {k : Nat} (hh : ∀ j, j < k → (bI a m n s j).2 ≠ []) (e : (bI a m n s k).2 = []) : (qF a m n s k).length = k := by
  obtain ⟨h1, h2⟩ := qF_ok k hh
  rw [e] at h1
  have := congrArg List.length h1
  simp only [List.length_drop, List.length_nil] at this
  omega

/-- The numbers of parts after the points below 'x', and the next number. -/
def pS (a : List (List (List Int))) (m : Nat) : Nat → List Int × Int
  | 0 => (List.replicate m (-1), 0)
  | x + 1 => if 0 ≤ (pS a m x).1.getD x 0 then pS a m x else ((bI a m (pS a m x).2 ((pS a m x).1.set x (pS a m x).2, [(x : Int)]) (m + 1)).1, (pS a m x).2 + 1)
def partsL (a : List (List (List Int))) : List Int := (pS a (a.getD 0 []).length (a.getD 0 []).length).1
theorem pS_no {a : List (List (List Int))} {m x : Nat} (h : 0 ≤ (pS a m x).1.getD x 0) : pS a m (x + 1) = pS a m x := by rw [pS, if_pos h]

theorem POk.mono {m : Nat} {n n' : Int} {P : List Int} (h : POk m n P) (hn : n ≤ n') : POk m n' P := ⟨h.len, fun i hi => by have := h.bd i hi; omega⟩
theorem pS_st {a : List (List (List Int))} {m x : Nat} (hx : x < m) (h : POk m (pS a m x).2 (pS a m x).1) (hn : 0 ≤ (pS a m x).2) (hc : ¬ 0 ≤ (pS a m x).1.getD x 0) :
    BOk m (pS a m x).2 ((pS a m x).1.set x (pS a m x).2, [(x : Int)]) ∧ mu ((pS a m x).1.set x (pS a m x).2, [(x : Int)]) ≤ m := by
  refine ⟨⟨h.set (by omega), QOk.one hx⟩, ?_⟩
  have h1 := neg_set (n := (pS a m x).2) (show x < (pS a m x).1.length by rw [h.len]; exact hx) (by omega) hn
  have h2 := neg_le (pS a m x).1
  have h3 := h.len
  simp only [mu, List.length_cons, List.length_nil]
  omega
theorem pS_yes {a : List (List (List Int))} {m x : Nat} (hx : x < m) (h : POk m (pS a m x).2 (pS a m x).1) (hn : 0 ≤ (pS a m x).2) (hc : ¬ 0 ≤ (pS a m x).1.getD x 0) {k : Nat}
    (hk : (bI a m (pS a m x).2 ((pS a m x).1.set x (pS a m x).2, [(x : Int)]) k).2 = []) : pS a m (x + 1) = ((bI a m (pS a m x).2 ((pS a m x).1.set x (pS a m x).2, [(x : Int)]) k).1, (pS a m x).2 + 1) := by
  obtain ⟨h1, h2⟩ := pS_st hx h hn hc
  rw [pS, if_neg hc, bI_end h1 hn hk (by omega)]
theorem pS_ok {a : List (List (List Int))} {m : Nat} : ∀ x, x ≤ m → POk m (pS a m x).2 (pS a m x).1 ∧ 0 ≤ (pS a m x).2 ∧ (pS a m x).2 ≤ x
  | 0, _ => ⟨⟨by simp [pS], fun i hi => by simp [pS, List.getD, hi]⟩, by simp [pS], by simp [pS]⟩
  | x + 1, hx => by
    obtain ⟨h1, h2, h3⟩ := pS_ok (a := a) (m := m) x (by omega)
    by_cases c : 0 ≤ (pS a m x).1.getD x 0
    · rw [pS_no c]; exact ⟨h1, h2, by omega⟩
    · obtain ⟨h4, h5⟩ := pS_st (by omega) h1 h2 c
      rw [pS, if_neg c]
      exact ⟨((bI_ok (a := a) h4 h2 (m + 1)).1.p).mono (by simp only; omega), by simp only; omega, by simp only; omega⟩

/-! Numbers once given stay, so in the end each point has one. -/
theorem yS_keep {a : List (List (List Int))} {u : Nat} {n : Int} {P : List Int} (hn : 0 ≤ n) {z : Nat} (h : 0 ≤ P.getD z 0) : ∀ y, 0 ≤ (yS a u n P y).1.getD z 0
  | 0 => h
  | y + 1 => by
    have ih := yS_keep (a := a) (u := u) hn h y
    by_cases c : (yS a u n P y).1.getD y 0 < 0 ∧ jn a u y = true
    · rw [yS_yes c]
      by_cases e : y = z
      · subst e; omega
      · rw [getD_set_ne e]; exact ih
    · rw [yS_no c]; exact ih
theorem bI_keep {a : List (List (List Int))} {m : Nat} {n : Int} {s : List Int × List Int} (hn : 0 ≤ n) {z : Nat} (h : 0 ≤ s.1.getD z 0) : ∀ k, 0 ≤ (bI a m n s k).1.getD z 0
  | 0 => h
  | k + 1 => by
    have ih := bI_keep (a := a) (m := m) hn h k
    cases e : (bI a m n s k).2 with
    | nil => rw [bI, bS, e]; exact ih
    | cons u L => rw [bI_succ e]; exact yS_keep hn ih m
theorem pS_all {a : List (List (List Int))} {m : Nat} : ∀ x, x ≤ m → ∀ z, z < x → 0 ≤ (pS a m x).1.getD z 0
  | 0, _, z, hz => by omega
  | x + 1, hx, z, hz => by
    obtain ⟨h1, h2, h3⟩ := pS_ok (a := a) (m := m) x (by omega)
    by_cases c : 0 ≤ (pS a m x).1.getD x 0
    · rw [pS_no c]
      by_cases e : z = x
      · subst e; exact c
      · exact pS_all x (by omega) z (by omega)
    · rw [pS, if_neg c]
      refine bI_keep h2 ?_ _
      by_cases e : x = z
      · subst e
        show 0 ≤ ((pS a m x).1.set x (pS a m x).2).getD x 0
        rw [getD_set_eq (by rw [h1.len]; omega)]; exact h2
      · show 0 ≤ ((pS a m x).1.set x (pS a m x).2).getD z 0
        rw [getD_set_ne e]; exact pS_all x (by omega) z (by omega)

theorem partsL_length (a : List (List (List Int))) : (partsL a).length = (a.getD 0 []).length := (pS_ok _ (Nat.le_refl _)).1.len
theorem partsL_pos (a : List (List (List Int))) {z : Nat} (h : z < (a.getD 0 []).length) : 0 ≤ (partsL a).getD z 0 ∧ (partsL a).getD z 0 ≤ (a.getD 0 []).length := by
  obtain ⟨h1, h2, h3⟩ := pS_ok (a := a) (m := (a.getD 0 []).length) _ (Nat.le_refl _)
  have := h1.bd z h
  exact ⟨pS_all _ (Nat.le_refl _) z h, by unfold partsL; omega⟩

/-- The matrices of duals are turned, so it does not matter in which order two points are named. -/
theorem e2_turn {a : List (List Int)} {p : Nat} (h1 : a.length = p) (h2 : (a.getD 0 []).length = p) {x y : Nat} (hx : x < p) (hy : y < p) : e2 (turnM a) y x = e2 a x y := by
  rw [turnM_matF, h1, h2]
  unfold e2
  rw [matF_get hy, rowF_get hx]
theorem jn_turn {t a : List (List (List Int))} (h : isAct t a = true) {x y : Nat} (hx : x < (a.getD 0 []).length) (hy : y < (a.getD 0 []).length) (hj : jn a x y = true) : jn a y x = true := by
  obtain ⟨i, hi, hne⟩ := jn_elim hj
  have fa := isAct_fam h
  have la := fa.1
  have hf := (isAct_iff.1 h).2.2
  have hr := isAct_ring h
  have hd := faultF_dual hr.2
  obtain ⟨d1, d2, d3⟩ := dual_ok hd (show i < t.length by omega)
  have hH : actH t a i = none := by
    unfold actF orE at hf
    cases c1 : actA a with
    | some _ => rw [c1] at hf; simp at hf
    | none =>
      rw [c1] at hf
      simp only at hf
      cases c2 : first t.length (fun i => first t.length (actG t a i)) with
      | some _ => rw [c2] at hf; simp at hf
      | none =>
        rw [c2] at hf
        simp only at hf
        exact first_none_iff.1 hf i (by omega)
  unfold actH at hH
  split at hH
  · rename_i e
    have hm := fa.2.2.2.2 i hi
    have hm0 := hm.row (show 0 < (a.getD 0 []).length by omega)
    refine jn_true (i := (dual t i).toNat) (by omega) ?_
    rw [e, e2_turn hm.1 hm0 hx hy]
    exact hne
  · cases hH
theorem jn_sym {t a : List (List (List Int))} (h : isAct t a = true) {x y : Nat} (hx : x < (a.getD 0 []).length) (hy : y < (a.getD 0 []).length) : jn a x y = jn a y x := by
  cases h1 : jn a x y with
  | true => exact (jn_turn h hx hy h1).symm
  | false =>
    cases h2 : jn a y x with
    | true => rw [jn_turn h hy hx h2] at h1; cases h1
    | false => rfl

noncomputable def partsA (t a : List (List (List Int))) : AV := if isAct t a = true then .tup [.l1 (partsL a), .int 0] else .tup [.nil, .int 1]
theorem partsA_shape (t a : List (List (List Int))) : ∃ (u : Option (List Int)) (c : Int), partsA t a = .tup [optA u, .int c] ∧ ∀ v, u = some v → v.length ≤ 1048576 := by
  unfold partsA
  split
  · rename_i hc
    refine ⟨some (partsL a), 0, rfl, fun v hv => ?_⟩
    cases hv
    have := (isAct_fam hc).2.2.2.1
    rw [partsL_length]
    omega
  · exact ⟨none, 1, rfl, fun v hv => by cases hv⟩
end Go.Pl
