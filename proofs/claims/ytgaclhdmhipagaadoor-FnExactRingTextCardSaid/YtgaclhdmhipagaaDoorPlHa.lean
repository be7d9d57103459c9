/-
  Texts of rings, by bytes. Of no program.
-/
import Derived.Test.YtgaclhdmhipagaaDoorPl1
import Derived.Lib.ItoaNum
import Derived.Lib.Join
import Derived.Laws.BytesArg
set_option linter.unusedSimpArgs false
set_option linter.unusedVariables false
namespace Go.Pl
open Go.Aw

def bs (l : List UInt8) : ByteArray := ⟨l.toArray⟩
theorem bs_app (a b : List UInt8) : bs a ++ bs b = bs (a ++ b) := by
  apply ByteArray.ext
  simp [bs]
theorem bs_size (l : List UInt8) : (bs l).size = l.length := by simp [bs, ByteArray.size]
theorem bs_inj {a b : List UInt8} : bs a = bs b ↔ a = b := by
  constructor
  · intro h
    have := congrArg (fun s : ByteArray => s.data.toList) h
    simpa [bs] using this
  · intro h; rw [h]
theorem bs_list (l : List UInt8) : (bs l).data.toList = l := by simp [bs]
def dec (n : Int) : List UInt8 := Lib.itoa n
theorem dec_small {n : Nat} (h : n < 10) : dec n = [UInt8.ofNat (48 + n)] := by
  unfold dec Lib.itoa
  rw [if_neg (by omega), Int.toNat_natCast, Lib.decDigits, dif_pos h]
theorem dec_big {n : Nat} (h : ¬ n < 10) : dec n = dec (n / 10 : Nat) ++ [UInt8.ofNat (48 + n % 10)] := by
  unfold dec Lib.itoa
  rw [if_neg (by omega), if_neg (by omega), Int.toNat_natCast, Int.toNat_natCast, Lib.decDigits, dif_neg h]
theorem dec_len : ∀ (k n : Nat), n < 10 ^ (k + 1) → (dec n).length ≤ k + 1
  | 0, n, h => by rw [dec_small (by simpa using h)]; exact Nat.le_refl 1
  | k + 1, n, h => by
    by_cases c : n < 10
    · rw [dec_small c]
      exact Nat.le_add_left 1 _
    · rw [dec_big c, List.length_append]
      have := dec_len k (n / 10) (Nat.div_lt_of_lt_mul (by rw [Nat.pow_succ, Nat.mul_comm] at h; exact h))
      simp only [List.length_cons, List.length_nil]
      omega
theorem dec_ne {n : Nat} : dec n ≠ [] := by
  by_cases c : n < 10
  · rw [dec_small c]; exact List.cons_ne_nil _ _
  · rw [dec_big c]; simp

/-! ### Lists joined -/
theorem join_snoc (l : List (List UInt8)) (x sep : List UInt8) : Lib.join (l ++ [x]) sep = Lib.join l sep ++ ((if l = [] then [] else sep) ++ x) := by
  cases l with
  | nil => rw [List.nil_append, Lib.join_one, Lib.join_nil, if_pos rfl]; rfl
  | cons a l =>
    rw [if_neg (List.cons_ne_nil _ _), List.cons_append, Lib.join_cons, Lib.join_cons]
    unfold Lib.joinTail
    rw [List.map_append, List.flatten_append]
    simp
theorem join_len {sep : List UInt8} {B : Nat} (hs : sep.length ≤ 1) : ∀ {l : List (List UInt8)}, (∀ x ∈ l, x.length ≤ B) → (Lib.join l sep).length ≤ l.length * (B + 1) := by
  intro l h
  cases l with
  | nil => rw [Lib.join_nil]; exact Nat.zero_le _
  | cons a l =>
    rw [Lib.join_cons, List.length_append]
    have h1 := h a (List.mem_cons_self ..)
    have h2 : ∀ (l : List (List UInt8)), (∀ x ∈ l, x.length ≤ B) → (Lib.joinTail sep l).length ≤ l.length * (B + 1) := by
      intro l
      induction l with
      | nil => intro _; simp [Lib.joinTail]
      | cons b l ih =>
        intro hb
        have i1 := ih fun x hx => hb x (List.mem_cons_of_mem _ hx)
        have i2 := hb b (List.mem_cons_self ..)
        unfold Lib.joinTail at i1 ⊢
        rw [List.map_cons, List.flatten_cons, List.length_append, List.length_append, List.length_cons, Nat.succ_mul]
        omega
    have h3 := h2 l fun x hx => h x (List.mem_cons_of_mem _ hx)
    rw [List.length_cons, Nat.succ_mul]
    omega
/-! ### The text of a ring -/
def seqT (xs : List Int) : List UInt8 := Lib.join (xs.map dec) [32]
def matT (m : List (List Int)) : List UInt8 := seqT m.flatten
def cubT (t : List (List (List Int))) : List UInt8 := Lib.join (t.map matT) [47]
theorem seq_snoc (xs : List Int) (x : Int) : seqT (xs ++ [x]) = seqT xs ++ ((if xs = [] then [] else [32]) ++ dec x) := by
  unfold seqT
  rw [List.map_append, List.map_cons, List.map_nil, join_snoc]
  congr 2
  cases xs <;> rfl
theorem seq_len {xs : List Int} (h : ∀ x ∈ xs, 0 ≤ x ∧ x ≤ 1000) : (seqT xs).length ≤ xs.length * 5 := by
  have := join_len (sep := [32]) (B := 4) (l := xs.map dec) (Nat.le_refl 1) fun y hy => by
    obtain ⟨x, hx, rfl⟩ := List.mem_map.1 hy
    have hb := h x hx
    obtain ⟨n, rfl⟩ : ∃ n : Nat, x = n := ⟨x.toNat, by omega⟩
    exact dec_len 3 n (by have : n ≤ 1000 := by omega
                          exact Nat.lt_of_le_of_lt this (by decide))
  rw [List.length_map] at this
  exact this
theorem take_next {α : Type} {l : List α} {k : Nat} {d : α} (h : k < l.length) : l.take (k + 1) = l.take k ++ [l.getD k d] := by
  rw [← List.take_append_getElem h, List.getD_eq_getElem?_getD, List.getElem?_eq_getElem h]
  rfl
/-- The part of a matrix's text ahead of (j, k). -/
def matA (m : List (List Int)) (j k : Nat) : List Int := (m.take j).flatten ++ (m.getD j []).take k
theorem matA_next {m : List (List Int)} {j k : Nat} (h : k < (m.getD j []).length) : matA m j (k + 1) = matA m j k ++ [(m.getD j []).getD k 0] := by
  unfold matA
  rw [take_next (d := 0) h, List.append_assoc]
theorem matA_row {m : List (List Int)} {j : Nat} (h : j < m.length) : matA m j (m.getD j []).length = matA m (j + 1) 0 := by
  unfold matA
  rw [List.take_length, take_next (d := []) h, List.flatten_append, List.take_zero, List.append_nil]
  simp
theorem matA_end {m : List (List Int)} : matA m m.length 0 = m.flatten := by
  unfold matA
  rw [List.take_length, List.take_zero, List.append_nil]
theorem matA_zero {m : List (List Int)} : matA m 0 0 = [] := by
  unfold matA
  rw [List.take_zero, List.take_zero]; rfl
theorem matA_nil {m : List (List Int)} {n j k : Nat} (hn : 1 ≤ n) (hm : m.length = n) (hr : ∀ j, j < n → (m.getD j []).length = n) (hj : j < n) (hk : k ≤ n) : matA m j k = [] ↔ j = 0 ∧ k = 0 := by
  unfold matA
  rw [List.append_eq_nil_iff]
  constructor
  · rintro ⟨h1, h2⟩
    have hk0 : k = 0 := by
      have := congrArg List.length h2
      rw [List.length_take, hr j hj, List.length_nil] at this
      omega
    refine ⟨?_, hk0⟩
    cases j with
    | zero => rfl
    | succ j =>
      rw [take_next (d := []) (show j < m.length by omega), List.flatten_append, List.append_eq_nil_iff] at h1
      have := congrArg List.length h1.2
      simp only [List.flatten_cons, List.flatten_nil, List.append_nil, List.length_nil] at this
      rw [hr j (by omega)] at this
      omega
  · rintro ⟨rfl, rfl⟩
    exact ⟨by rw [List.take_zero]; rfl, List.take_zero⟩
theorem matA_len {m : List (List Int)} {n : Nat} (hm : m.length = n) (hr : ∀ j, j < n → (m.getD j []).length = n) : ∀ j k, j ≤ n → (matA m j k).length ≤ j * n + k
  | 0, k, _ => by
    unfold matA
    rw [List.take_zero, List.length_append, List.length_take]
    simp only [List.flatten_nil, List.length_nil]
    omega
  | j + 1, k, hj => by
    have ih := matA_len hm hr j 0 (by omega)
    unfold matA at ih ⊢
    rw [take_next (d := []) (show j < m.length by omega), List.flatten_append, List.length_append, List.length_append, List.length_take]
    rw [List.take_zero, List.append_nil] at ih
    simp only [List.flatten_cons, List.flatten_nil, List.append_nil]
    rw [hr j (by omega), Nat.succ_mul]
    omega
theorem matA_mem {m : List (List Int)} {P : Int → Prop} (h : ∀ r ∈ m, ∀ x ∈ r, P x) (j k : Nat) : ∀ x ∈ matA m j k, P x := by
  intro x hx
  unfold matA at hx
  rcases List.mem_append.1 hx with hx | hx
  · obtain ⟨r, hr, hxr⟩ := List.mem_flatten.1 hx
    exact h r (List.mem_of_mem_take hr) x hxr
  · have hx := List.mem_of_mem_take hx
    by_cases c : j < m.length
    · have e : m.getD j [] = m[j] := by rw [List.getD_eq_getElem?_getD, List.getElem?_eq_getElem c]; rfl
      rw [e] at hx
      exact h _ (List.getElem_mem c) x hx
    · have e : m.getD j [] = [] := by rw [List.getD_eq_getElem?_getD, List.getElem?_eq_none (by omega)]; rfl
      rw [e] at hx
      cases hx
/-- The text ahead of matrix i. -/
def cubA (t : List (List (List Int))) (i : Nat) : List UInt8 := Lib.join ((t.take i).map matT) [47]
theorem cubA_next {t : List (List (List Int))} {i : Nat} (h : i < t.length) : cubA t (i + 1) = cubA t i ++ ((if i = 0 then [] else [47]) ++ matT (t.getD i [])) := by
  unfold cubA
  rw [take_next (d := []) h, List.map_append, List.map_cons, List.map_nil, join_snoc]
  congr 2
  cases i with
  | zero => rw [List.take_zero]; rfl
  | succ i =>
    rw [if_neg (show ¬ i + 1 = 0 by omega), if_neg]
    intro e
    have := congrArg List.length e
    rw [List.length_map, List.length_take, List.length_nil] at this
    omega
theorem cubA_zero {t : List (List (List Int))} : cubA t 0 = [] := by unfold cubA; rw [List.take_zero]; rfl
theorem cubA_end {t : List (List (List Int))} : cubA t t.length = cubT t := by unfold cubA cubT; rw [List.take_length]
/-! ### Of rings -/
theorem mem_getD' {α : Type} {l : List α} {x d : α} (h : x ∈ l) : ∃ i, i < l.length ∧ l.getD i d = x := by
  obtain ⟨i, hi, e⟩ := List.mem_iff_getElem.1 h
  exact ⟨i, hi, by rw [List.getD_eq_getElem?_getD, List.getElem?_eq_getElem hi]; exact e⟩
theorem inM_mem {t : List (List (List Int))} (hc : Cube t) {i : Nat} (hi : i < t.length) : ∀ r ∈ t.getD i [], ∀ x ∈ r, 0 ≤ x ∧ x ≤ 1000 := by
  intro r hr x hx
  obtain ⟨j, hj, rfl⟩ := mem_getD' (d := []) hr
  obtain ⟨k, hk, rfl⟩ := mem_getD' (d := 0) hx
  rw [hc.mat hi] at hj
  rw [hc.row hi hj] at hk
  exact hc.inM hi hj hk
theorem matA_text {t : List (List (List Int))} (hc : Cube t) {i j k : Nat} (hi : i < t.length) (hj : j ≤ t.length) (hk : k ≤ t.length) : (seqT (matA (t.getD i []) j k)).length ≤ 1360 := by
  have h16 := hc.2.1
  have h1 := seq_len (matA_mem (inM_mem hc hi) j k)
  have h2 := matA_len (hc.mat hi) (fun j hj => hc.row hi hj) j k hj
  have h3 := Nat.mul_le_mul (show j ≤ 16 by omega) h16
  omega
theorem matT_len {t : List (List (List Int))} (hc : Cube t) {i : Nat} (hi : i < t.length) : (matT (t.getD i [])).length ≤ 1360 := by
  have := matA_text hc hi (j := t.length) (k := 0) (Nat.le_refl _) (Nat.zero_le _)
  rw [← hc.mat hi, matA_end] at this
  exact this
theorem cubA_len {t : List (List (List Int))} (hc : Cube t) (i : Nat) : (cubA t i).length ≤ 21776 := by
  have h16 := hc.2.1
  have := join_len (sep := [47]) (B := 1360) (l := (t.take i).map matT) (Nat.le_refl 1) fun y hy => by
    obtain ⟨x, hx, rfl⟩ := List.mem_map.1 hy
    obtain ⟨j, hj, rfl⟩ := mem_getD' (d := []) (List.mem_of_mem_take hx)
    exact matT_len hc hj
  rw [List.length_map] at this
  have h2 := List.length_take_le i t
  have h3 : (t.take i).length ≤ 16 := by rw [List.length_take]; omega
  have h4 := Nat.mul_le_mul_right (1360 + 1) h3
  unfold cubA
  omega
/-- Ahead of the matrix i stands its mark. -/
def preT (t : List (List (List Int))) (i : Nat) : List UInt8 := cubA t i ++ (if i = 0 then [] else [47])
theorem preT_len {t : List (List (List Int))} (hc : Cube t) (i : Nat) : (preT t i).length ≤ 21777 := by
  have := cubA_len hc i
  unfold preT
  rw [List.length_append]
  split <;> simp only [List.length_nil, List.length_cons] <;> omega
theorem preT_zero {t : List (List (List Int))} {i : Nat} (h : ¬ 0 < i) : preT t i = cubA t i := by
  unfold preT
  rw [if_pos (by omega), List.append_nil]
theorem preT_pos {t : List (List (List Int))} {i : Nat} (h : 0 < i) : cubA t i ++ [47] = preT t i := by
  unfold preT
  rw [if_neg (by omega)]
theorem cubA_pre {t : List (List (List Int))} {i : Nat} (hc : Cube t) (h : i < t.length) : cubA t (i + 1) = preT t i ++ seqT (matA (t.getD i []) t.length 0) := by
  rw [cubA_next h, ← List.append_assoc]
  show preT t i ++ matT _ = _
  rw [← hc.mat h, matA_end]; rfl
/-- The text ahead of the place i j k. -/
def atT (t : List (List (List Int))) (i j k : Nat) : List UInt8 := preT t i ++ seqT (matA (t.getD i []) j k)
def atS (t : List (List (List Int))) (i j k : Nat) : List UInt8 := atT t i j k ++ (if j = 0 ∧ k = 0 then [] else [32])
theorem atT_len {t : List (List (List Int))} (hc : Cube t) {i j k : Nat} (hi : i < t.length) (hj : j ≤ t.length) (hk : k ≤ t.length) : (atT t i j k).length ≤ 23200 := by
  have := preT_len hc i
  have := matA_text hc hi hj hk
  unfold atT
  rw [List.length_append]
  omega
theorem atS_len {t : List (List (List Int))} (hc : Cube t) {i j k : Nat} (hi : i < t.length) (hj : j ≤ t.length) (hk : k ≤ t.length) : (atS t i j k).length ≤ 23201 := by
  have := atT_len hc hi hj hk
  unfold atS
  rw [List.length_append]
  split <;> simp only [List.length_nil, List.length_cons] <;> omega
theorem atS_pos {t : List (List (List Int))} {i j k : Nat} (h : ¬ (j = 0 ∧ k = 0)) : atT t i j k ++ [32] = atS t i j k := by
  unfold atS
  rw [if_neg h]
theorem atS_zero {t : List (List (List Int))} {i j k : Nat} (h : j = 0 ∧ k = 0) : atS t i j k = atT t i j k := by
  unfold atS
  rw [if_pos h, List.append_nil]
theorem atT_next {t : List (List (List Int))} (hc : Cube t) {i j k : Nat} (hi : i < t.length) (hj : j < t.length) (hk : k < t.length) : atT t i j (k + 1) = atS t i j k ++ dec (((t.getD i []).getD j []).getD k 0) := by
  unfold atS atT
  rw [matA_next (by rw [hc.row hi hj]; exact hk), seq_snoc]
  simp only [matA_nil (n := t.length) hc.1 (hc.mat hi) (fun j hj => hc.row hi hj) hj (Nat.le_of_lt hk), List.append_assoc]
theorem atT_row {t : List (List (List Int))} (hc : Cube t) {i j : Nat} (hi : i < t.length) (hj : j < t.length) : atT t i j t.length = atT t i (j + 1) 0 := by
  unfold atT
  rw [← matA_row (m := t.getD i []) (j := j) (by rw [hc.mat hi]; exact hj), hc.row hi hj]
theorem atT_start {t : List (List (List Int))} {i : Nat} : atT t i 0 0 = preT t i := by
  unfold atT
  rw [matA_zero]
  exact List.append_nil _
theorem atT_end {t : List (List (List Int))} (hc : Cube t) {i : Nat} (hi : i < t.length) : atT t i t.length 0 = cubA t (i + 1) := (cubA_pre hc hi).symm
end Go.Pl
