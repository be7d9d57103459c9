import Derived.Test.YtjbdiekkjegckaaGreatBr
import Derived.Test.YtjbdiekkjegckaaGreatKp1
set_option linter.unusedSimpArgs false
set_option linter.unusedVariables false
namespace Go.Proofs.YtjbdiekkjegckaaGreat
open Go Go.Aw Go.Pl
def KR_ (c : List Int) : Prop := ∀ i, i < c.length → 0 ≤ c.getD i 0 ∧ c.getD i 0 ≤ 255
section
variable {P : Program} {H : Type} {enc : TypeId × Value → H} {w : World} {base : Nat} {v : Value} {d : DataW H} {p : List MemPlace} {held : Bool}
theorem ag5 {t e : TypeId} (ht : P.underlying t = some (.slice e)) (he : P.underlying e = some (.int .u8)) (hc : P.cellsOf e = 1) (hv : Value.okWide P w .any base t v) (h : DataW.Trod enc P w 0 (fun _ => true) held t v d p) : ∃ c, KR_ c ∧ Rd w (lower w) (.lv (bsV c)) v := by
 obtain ⟨n, y, hy⟩ := aK7 h (Wg_ ht hv)
 obtain ⟨xs, us, h1, h2⟩ := bh1 (R := fun (z : Int) u => u = .int .u8 z ∧ 0 ≤ z ∧ z ≤ 255) ht hc (fun m u y hy => by
  obtain ⟨z, hz, _, hw⟩ := DataW.trod_int he hy
  refine ⟨z, List.singleton_inj.1 hz, ?_⟩
  simpa [Lit.wf, IntKind.min, IntKind.max, IntKind.signed, IntKind.bits] using hw) hy
 have hr : ∀ z ∈ xs, 0 ≤ z ∧ z ≤ 255 := fun z hz => by
  obtain ⟨i, hi⟩ := List.getElem?_of_mem hz
  obtain ⟨b, _, hb⟩ := h2.get i z hi
  exact hb.2
 refine ⟨xs, fun i hi => hr _ (by rw [List.getD_eq_getElem?_getD, List.getElem?_eq_getElem hi]; exact List.getElem_mem hi), ?_⟩
 simp only [Rd, rep]
 refine ⟨us, h1, ?_⟩
 rw [xC_]
 clear h1 hr
 revert us
 induction xs with
 | nil => intro us h2; cases us with
  | nil => trivial
  | cons _ _ => exact h2.elim
 | cons z zs ih => intro us h2; cases us with
  | nil => exact h2.elim
  | cons u us => exact ⟨by simp only [rep]; exact h2.1.1, ih us h2.2⟩
end
section
variable {H : Type} {enc : TypeId × Value → H} {W : World} {base : Nat} {v : Value} {d : DataW H} {p : List MemPlace}
set_option maxRecDepth 100000 in
theorem au9 (hv : Value.okWide Tryz.prog W .any base 22 v) (h : DataW.Trod enc Tryz.prog W 0 (fun _ => true) true 22 v d p) : ∃ c, KR_ c ∧ Rd W (lower W) (.lv (bsV c)) v := ag5 Tryz.underlying22 Tryz.underlying5 ck5 hv h
end
end Go.Proofs.YtjbdiekkjegckaaGreat
