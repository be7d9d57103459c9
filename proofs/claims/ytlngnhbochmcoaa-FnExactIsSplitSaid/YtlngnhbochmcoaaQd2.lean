import Derived.Test.YtlngnhbochmcoaaQd1
import Derived.Lib.TrailingZeros
set_option linter.unusedSimpArgs false
set_option linter.unusedVariables false
namespace Go.Pl
open Go.Aw
variable {t : Cu} {s : Nat}
theorem J2_ {α : Type} {l : List α} {i j : Nat} {v d : α} (h : i < l.length) : (l.set i v).getD j d = if j = i then v else l.getD j d := by
 rw [List.getD_eq_getElem?_getD, List.getElem?_set]
 by_cases e : j = i
 ·subst e; rw [if_pos rfl, if_pos rfl, if_pos h]; rfl
 ·rw [if_neg (fun h => e h.symm), if_neg e, List.getD_eq_getElem?_getD]
theorem J3_ {o : List Int} {n : Nat} {f : Nat → Int} (hl : o.length = n) (h : ∀ k, k < n → o.getD k 0 = f k) : o = xU_ n f := by
 refine List.ext_getElem (by rw [xn_, hl]) fun i h1 h2 => ?_
 have := h i (by omega)
 rw [List.getD_eq_getElem?_getD, List.getElem?_eq_getElem h1] at this
 simp only [xU_, List.getElem_map, List.getElem_range]
 exact this
structure CoO (t : Cu) (s : Nat) (o : List Int) (i : Nat) : Prop where
 len : o.length = t.length
 old : ∀ k, k < t.length → rp (CoR t s) k < i → o.getD k 0 = num (CoR t s) k
 new : ∀ k, k < t.length → i ≤ rp (CoR t s) k → o.getD k 0 = -1
theorem CoO.start {o : List Int} (hl : o = List.replicate t.length (-1)) : CoO t s o 0 where
 len := by rw [hl, List.length_replicate]
 old := fun k _ h => absurd h (Nat.not_lt_zero _)
 new := fun k hk _ => by rw [hl, List.getD_eq_getElem?_getD, List.getElem?_replicate, if_pos hk]; rfl
theorem CoO.skip {o : List Int} {i : Nat} (h : RingP t) (hs : ClosP t s) (hO : CoO t s o i) (hi : i < t.length) (h0 : 0 ≤ o.getD i 0) : rp (CoR t s) i ≠ i ∧ CoO t s o (i + 1) := by
 have hne : rp (CoR t s) i ≠ i := fun e => by have := hO.new i hi (by omega); omega
 have hno : ∀ k, k < t.length → rp (CoR t s) k ≠ i := fun k hk e => hne (by have := (J1_ h hs).rp_rp hk; rw [e] at this; exact this)
 exact ⟨hne, hO.len, fun k hk hr => hO.old k hk (by have := hno k hk; omega), fun k hk hr => hO.new k hk (by omega)⟩
theorem CoO.rep {o : List Int} {i : Nat} (hO : CoO t s o i) (hi : i < t.length) (h0 : o.getD i 0 < 0) : rp (CoR t s) i = i := by
 have hle := J0_ (R := CoR t s) i
 by_cases e : rp (CoR t s) i < i
 ·have := hO.old i hi e; omega
 ·omega
structure Co (t : Cu) (s : Nat) (o : List Int) (i j k : Nat) : Prop where
 len : o.length = t.length
 old : ∀ b, b < t.length → rp (CoR t s) b < i → o.getD b 0 = num (CoR t s) b
 new : ∀ b, b < t.length → i ≤ rp (CoR t s) b → o.getD b 0 = -1 ∨ (rp (CoR t s) b = i ∧ o.getD b 0 = num (CoR t s) b)
 done : ∀ a, a < t.length → ∀ b, b < t.length → s.testBit a = true → Oc t i a b → (a < j ∨ a = j ∧ b < k) → o.getD b 0 = num (CoR t s) b
theorem Co.put {o : List Int} {i j k : Nat} (h : RingP t) (hs : ClosP t s) (hC : Co t s o i j k) (hi : i < t.length) (hrp : rp (CoR t s) i = i) (hj : j < t.length) (hk : k < t.length) (hb : s.testBit j = true) (ho : Oc t i j k) :
  Co t s (o.set k (cnt (CoR t s) i : Nat)) i j (k + 1) := by
 have hr : rp (CoR t s) k = i := by rw [← ((J1_ h hs).rp_eq hi hk).2 ⟨j, hj, hb, ho⟩, hrp]
 have hn : num (CoR t s) k = cnt (CoR t s) i := by unfold num; rw [hr]
 have hl := hC.len
 have hg : ∀ b, (o.set k (cnt (CoR t s) i : Nat)).getD b 0 = if b = k then ((cnt (CoR t s) i : Nat) : Int) else o.getD b 0 := fun b => J2_ (by omega)
 refine ⟨by rw [List.length_set, hl], fun b hb2 h1 => ?_, fun b hb2 h1 => ?_, fun a ha b hb2 h1 h2 h3 => ?_⟩
 ·rw [hg]
  by_cases e : b = k
  ·rw [if_pos e, e, hn]
  ·rw [if_neg e]; exact hC.old b hb2 h1
 ·rw [hg]
  by_cases e : b = k
  ·rw [if_pos e, e]; exact .inr ⟨hr, by rw [hn]⟩
  ·rw [if_neg e]; exact hC.new b hb2 h1
 ·rw [hg]
  by_cases e : b = k
  ·rw [if_pos e, e, hn]
  ·rw [if_neg e]; exact hC.done a ha b hb2 h1 h2 (by omega)
theorem Co.next {o : List Int} {i j k : Nat} (hC : Co t s o i j k) (hn : s.testBit j = true → t.length ≤ k) : Co t s o i (j + 1) 0 :=
 ⟨hC.len, hC.old, hC.new, fun a ha b hb2 h1 h2 h3 => by
  by_cases e : a = j
  ·subst e
   have := hn h1
   exact hC.done a ha b hb2 h1 h2 (by omega)
  ·exact hC.done a ha b hb2 h1 h2 (by omega)⟩
theorem Co.fin {o : List Int} {i : Nat} (h : RingP t) (hs : ClosP t s) (hC : Co t s o i t.length 0) (hi : i < t.length) (hrp : rp (CoR t s) i = i) : CoO t s o (i + 1) :=
 ⟨hC.len, fun k hk hr => by
  by_cases e : rp (CoR t s) k < i
  ·exact hC.old k hk e
  ·have e2 : rp (CoR t s) i = rp (CoR t s) k := by omega
   obtain ⟨a, ha, hb, ho⟩ := ((J1_ h hs).rp_eq hi hk).1 e2
   exact hC.done a ha k hk hb ho (.inl ha), fun k hk hr => by
  rcases hC.new k hk (by omega) with h1 | h1
  ·exact h1
  ·omega⟩
theorem CoO.fin {o : List Int} (hO : CoO t s o t.length) : o = cg6 t.length (CoR t s) := J3_ hO.len fun k hk => hO.old k hk (Nat.lt_of_le_of_lt (J0_ k) hk)
theorem QI_ {j m : Nat} {f : Nat → Nat → Int} : xy_ j m f ++ [xU_ m (f j)] = xy_ (j + 1) m f := by simp [xy_, List.range_succ]
end Go.Pl
namespace Go.Pl
open Go.Aw
variable {t : Cu} {s : Nat}
structure Cl (t : Cu) (s o a b : Nat) : Prop where
 lt : o < 2 ^ t.length
 sub : Sub s o
 sound : ∀ x, o.testBit x = true → SpP t s x
 dual : ∀ c, c < (lbl t.length s).length → c < a → o.testBit (dN t ((lbl t.length s).getD c 0)) = true
 mul : ∀ c, c < (lbl t.length s).length → ∀ d, d < (lbl t.length s).length → (c < a ∨ c = a ∧ d < b) → ∀ k, k < t.length → Oc t ((lbl t.length s).getD c 0) ((lbl t.length s).getD d 0) k → o.testBit k = true
theorem Cl.start (hs : s < 2 ^ t.length) : Cl t s s 0 0 := ⟨hs, Sub.refl s, fun x h => .inl h, fun c _ h => absurd h (Nat.not_lt_zero c), fun c _ d _ h => by omega⟩
theorem Cl.grow {o a b u : Nat} (h : Cl t s o a b) (hu : u < 2 ^ t.length) (hp : ∀ x, u.testBit x = true → SpP t s x) : Cl t s (o ||| u) a b :=
 ⟨aH9 h.lt hu, fun i hi => or_bit.2 (.inl (h.sub i hi)), fun x hx => (or_bit.1 hx).elim (h.sound x) (hp x), fun c hc h1 => or_bit.2 (.inl (h.dual c hc h1)), fun c hc d hd h1 k hk ho => or_bit.2 (.inl (h.mul c hc d hd h1 k hk ho))⟩
theorem Cl.fin {o : Nat} (h : RingP t) (hs : s < 2 ^ t.length) (h0 : s.testBit 0 = true) (hC : Cl t s o (lbl t.length s).length 0) : o = spr t s := by
 refine av6 hs hC.lt hC.sub (hC.sub 0 h0) hC.sound (fun i hi hb => ?_) fun i hi j hj k hk h1 h2 ho => ?_
 ·obtain ⟨c, hc, rfl⟩ := Sb_ hi hb
  exact hC.dual c hc hc
 ·obtain ⟨c, hc, rfl⟩ := Sb_ hi h1
  obtain ⟨d, hd, rfl⟩ := Sb_ hj h2
  exact hC.mul c hc d hd (.inl hc) k hk ho
end Go.Pl
namespace Go.Pl
open Go.Aw
end Go.Pl
namespace Go.Pl
open Go.Aw
variable {t : Cu} {s : Nat}
end Go.Pl
namespace Go.Pl
variable {t : Cu}
end Go.Pl
