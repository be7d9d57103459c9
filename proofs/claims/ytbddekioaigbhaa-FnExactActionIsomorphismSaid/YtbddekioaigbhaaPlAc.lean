/-
  Isomorphisms of actions: what both searches find. Of no program.
-/
import Derived.Test.YtbddekioaigbhaaPlAb
set_option linter.unusedSimpArgs false
set_option linter.unusedVariables false
namespace Go.Pl
open Go

section
variable (k n : Nat) (a b : List (List (List Int)))
structure OkA (p : List Int) (y : Nat) : Prop where
  no : hasI p y = false
  e : ∀ i, i < k → ∀ x, x ≤ p.length → e3 a i x p.length = e3 b i ((p ++ [(y : Int)]).getD x 0).toNat y ∧ e3 a i p.length x = e3 b i y ((p ++ [(y : Int)]).getD x 0).toNat
noncomputable def extA : Nat → List Int → List (List Int)
  | 0, p => [p]
  | d + 1, p => (List.range n).flatMap fun (y : Nat) => if bd (OkA k a b p y) = true then extA d (p ++ [(y : Int)]) else []
structure ConsA (p : List Int) : Prop where
  q : QOk n p
  nd : p.Nodup
  e : ∀ i, i < k → ∀ x, x < p.length → ∀ z, z < p.length → e3 a i x z = e3 b i (p.getD x 0).toNat (p.getD z 0).toNat
def i1 (p : List Int) : List Int := rowF n fun x => if x < p.length then (x : Int) + 1 else 0
def i2F (p : List Int) : Nat → Nat → Int
  | 0, _ => 0
  | j + 1, z => if p.getD j 0 = (z : Int) then (j : Int) + 1 else i2F p j z
def i2 (p : List Int) : List Int := rowF n (i2F p p.length)
noncomputable def mapsA : Nat → List Int → Option (List Int)
  | 0, p => some p
  | d + 1, p => match refG n (lookM k n a) (lookM k n b) (2 * n + 2) 0 (i1 n p) (i2 n p) with
    | none => none
    | some (f, g) => (List.range n).findSome? fun (y : Nat) => if hasI p y = true ∨ f.getD p.length 0 ≠ g.getD y 0 then none else if bd (OkA k a b p y) = true then mapsA d (p ++ [(y : Int)]) else none
end
section
variable {k n : Nat} {a b : List (List (List Int))}
theorem ConsA.snoc {p : List Int} {y : Nat} (h : ConsA k n a b p) (hy : y < n) (ho : OkA k a b p y) : ConsA k n a b (p ++ [(y : Int)]) := by
  have hlen : (p ++ [(y : Int)]).length = p.length + 1 := by simp
  refine ⟨h.q.app (QOk.one hy), nodup_snoc h.nd (by rw [ho.no]; decide), fun i hi x hx z hz => ?_⟩
  rw [hlen] at hx hz
  by_cases c : x < p.length
  · by_cases c2 : z < p.length
    · rw [getD_snocL c, getD_snocL c2]; exact h.e i hi x c z c2
    · obtain rfl : z = p.length := by omega
      have := (ho.e i hi x (by omega)).1
      rw [getD_snocR, Int.toNat_natCast]
      exact this
  · obtain rfl : x = p.length := by omega
    have := (ho.e i hi z (by omega)).2
    rw [getD_snocR, Int.toNat_natCast]
    exact this
theorem extA_iso : ∀ d p, p.length + d = n → ConsA k n a b p → ∀ q ∈ extA k n a b d p, IsoA k n a b q ∧ ∀ x, x < p.length → q.getD x 0 = p.getD x 0
  | 0, p, hl, hc, q, hq => by
    simp only [extA, List.mem_singleton] at hq
    subst hq
    exact ⟨⟨⟨by omega, hc.q, hc.nd⟩, fun i hi x hx z hz => hc.e i hi x (by omega) z (by omega)⟩, fun _ _ => rfl⟩
  | d + 1, p, hl, hc, q, hq => by
    simp only [extA, List.mem_flatMap, List.mem_range] at hq
    obtain ⟨y, hy, hq⟩ := hq
    split at hq
    · rename_i ho
      have hk := hc.snoc hy (bd_iff.1 ho)
      obtain ⟨h1, h2⟩ := extA_iso d (p ++ [(y : Int)]) (by simp; omega) hk q hq
      exact ⟨h1, fun k hk => by rw [h2 k (by simp; omega), getD_snocL hk]⟩
    · cases hq
theorem getD_inj {p : List Int} (hn : p.Nodup) {x j : Nat} (hx : x < p.length) (hj : j < p.length) (e : p.getD x 0 = p.getD j 0) : x = j := by
  rw [List.getD_eq_getElem?_getD, List.getElem?_eq_getElem hx, List.getD_eq_getElem?_getD, List.getElem?_eq_getElem hj] at e
  exact (List.getElem_inj hn).1 (show p[x] = p[j] from e)
theorem i2_hit {p : List Int} (hn : p.Nodup) {z x : Nat} (hz : p.getD x 0 = (z : Int)) : ∀ j, j ≤ p.length → x < j → i2F p j z = (x : Int) + 1
  | 0, _, h => absurd h (Nat.not_lt_zero x)
  | j + 1, hj, h => by
    rw [i2F]
    by_cases e : p.getD j 0 = (z : Int)
    · rw [if_pos e]
      have := getD_inj hn (x := x) (j := j) (by omega) (by omega) (by rw [hz, e])
      omega
    · rw [if_neg e]
      refine i2_hit hn hz j (by omega) ?_
      rcases Nat.lt_succ_iff_lt_or_eq.1 h with h | h
      · exact h
      · subst h; exact absurd hz e
theorem i2_miss {p : List Int} {z : Nat} : ∀ j, (∀ x, x < j → p.getD x 0 ≠ (z : Int)) → i2F p j z = 0
  | 0, _ => rfl
  | j + 1, h => by
    rw [i2F, if_neg (h j (by omega))]
    exact i2_miss j fun x hx => h x (by omega)
theorem i2_le {p : List Int} {z : Nat} : ∀ j, 0 ≤ i2F p j z ∧ i2F p j z ≤ j
  | 0 => by simp [i2F]
  | j + 1 => by
    have := i2_le (p := p) (z := z) j
    rw [i2F]
    split <;> omega
theorem i_KP {p q : List Int} (hn : p.Nodup) (hq : IsP n q) (hl : p.length ≤ n) (hpq : ∀ x, x < p.length → q.getD x 0 = p.getD x 0) : KP n (i1 n p) (i2 n p) q := fun x hx => by
  have hqx := hq.q x (by rw [hq.len]; exact hx)
  unfold i1 i2
  rw [rowF_get hx, rowF_get (by omega)]
  by_cases c : x < p.length
  · rw [if_pos c]
    exact (i2_hit hn (x := x) (by rw [← hpq x c]; omega) p.length (Nat.le_refl _) c).symm
  · rw [if_neg c]
    refine (i2_miss p.length fun z hz e => ?_).symm
    have e2 : q.getD z 0 = q.getD x 0 := by rw [hpq z hz, e]; omega
    have := getD_inj hq.nd (x := z) (j := x) (by rw [hq.len]; omega) (by rw [hq.len]; exact hx) e2
    omega
theorem i_ok {p : List Int} (h16 : n ≤ 16) (hl : p.length ≤ n) : ColOk n (i1 n p) ∧ ColOk n (i2 n p) := by
  refine ⟨⟨rowF_length .., fun x hx => ?_⟩, ⟨rowF_length .., fun x hx => ?_⟩⟩
  · unfold i1
    rw [rowF_get hx]
    split <;> omega
  · unfold i2
    rw [rowF_get hx]
    have := i2_le (p := p) (z := x) p.length
    omega
theorem findSome_congr {α β : Type} {f g : α → Option β} : ∀ {l : List α}, (∀ x ∈ l, f x = g x) → l.findSome? f = l.findSome? g
  | [], _ => rfl
  | x :: l, h => by
    rw [List.findSome?_cons, List.findSome?_cons, h x (List.mem_cons_self ..), findSome_congr (fun y hy => h y (List.mem_cons_of_mem _ hy))]
theorem mapsA_eq (hk : 0 < k) : ∀ d p, p.length + d = n → ConsA k n a b p → mapsA k n a b d p = (extA k n a b d p).head?
  | 0, p, _, _ => rfl
  | d + 1, p, hl, hc => by
    have hiso := fun q hq => extA_iso (d + 1) p hl hc q hq
    have hA : ∀ f x, SL (2 + k + n * (2 * k + 1)) (lookM k n a f x) := fun f x => lookM_SL k n
    have hB : ∀ f x, SL (2 + k + n * (2 * k + 1)) (lookM k n b f x) := fun f x => lookM_SL k n
    have hkeep : ∀ q ∈ extA k n a b (d + 1) p, ∃ f g, refG n (lookM k n a) (lookM k n b) (2 * n + 2) 0 (i1 n p) (i2 n p) = some (f, g) ∧ KP n f g q := fun q hq => by
      obtain ⟨h1, h2⟩ := hiso q hq
      exact refG_iso hA hB h1.p (fun f g hK x hx => look_iso k n hk h1 hK hx) (2 * n + 2) 0 _ _ (i_KP hc.nd h1.p (by omega) h2)
    rw [mapsA]
    cases hr : refG n (lookM k n a) (lookM k n b) (2 * n + 2) 0 (i1 n p) (i2 n p) with
    | none =>
      have he : extA k n a b (d + 1) p = [] := by
        refine List.eq_nil_iff_forall_not_mem.2 fun q hq => ?_
        obtain ⟨f, g, e, _⟩ := hkeep q hq
        rw [hr] at e
        cases e
      rw [he]
      rfl
    | some fg =>
      obtain ⟨f, g⟩ := fg
      simp only
      have hK : ∀ q ∈ extA k n a b (d + 1) p, KP n f g q := fun q hq => by
        obtain ⟨f', g', e, h⟩ := hkeep q hq
        rw [hr] at e
        cases e
        exact h
      rw [extA, List.head?_flatMap]
      refine findSome_congr fun y hy => ?_
      have hy := List.mem_range.1 hy
      by_cases c : OkA k a b p y
      · rw [if_pos (bd_true c)]
        have hin : ∀ q ∈ extA k n a b d (p ++ [(y : Int)]), q ∈ extA k n a b (d + 1) p := fun q hq => by
          simp only [extA, List.mem_flatMap, List.mem_range]
          exact ⟨y, hy, by rw [if_pos (bd_true c)]; exact hq⟩
        have hcs := hc.snoc hy c
        by_cases c2 : hasI p y = true ∨ f.getD p.length 0 ≠ g.getD y 0
        · rw [if_pos c2]
          rcases c2 with c2 | c2
          · rw [c.no] at c2; cases c2
          · have he : extA k n a b d (p ++ [(y : Int)]) = [] := by
              refine List.eq_nil_iff_forall_not_mem.2 fun q hq => c2 ?_
              have h1 := (extA_iso d (p ++ [(y : Int)]) (by simp; omega) hcs q hq).2 p.length (by simp)
              rw [hK q (hin q hq) p.length (by omega), h1, getD_snocR, Int.toNat_natCast]
            rw [he]
            simp
        · rw [if_neg c2, if_pos (bd_true c)]
          exact mapsA_eq hk d _ (by simp; omega) hcs
      · simp only [bd_false c, Bool.false_eq_true, if_false]
        split <;> rfl
end
end Go.Pl
