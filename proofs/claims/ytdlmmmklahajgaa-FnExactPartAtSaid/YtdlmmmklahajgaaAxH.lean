/-
  A whole list told as a part of itself. Of no program.
-/
import Derived.Test.YtdlmmmklahajgaaAxG
set_option linter.unusedSimpArgs false
set_option linter.unusedVariables false
namespace Go.Aw
open Go.RowKit

section
variable {P : Program} {cx : Cx} {n : Nat} {c : Code} {cs : List Code} {Q : SQ} {st : St}
/-- Slot 'k' holds the whole list 'id': it may be told as its part from 0 on. -/
theorem ats_part (k id : Nat) {xs : List Int} (hk : st.get k = .ref id []) (hf : find st.H id = some (.t1 xs)) (h : ATs P cx n (c :: cs) Q ⟨(k, .sub id [] 0 xs.length) :: st.s, st.H⟩) : ATs P cx n (c :: cs) Q st := by
  intro tmps w hs
  obtain ⟨hsz, ι, F, ho, hr⟩ := hs
  refine h tmps w ⟨hsz, ι, F, ho, fun j => ?_⟩
  show rep _ (slotGet ((k, AV.sub id [] 0 xs.length) :: st.s) j) _
  unfold slotGet
  split
  · rename_i e
    subst e
    have h1 := hr k
    have hk' : st.get k = .ref id [] := hk
    rw [show (St.get st k) = .ref id [] from hk'] at h1
    simp only [rep] at h1 ⊢
    obtain ⟨hd, h2⟩ := h1
    have ht := ho.trees _ (find_mem hf)
    simp only [treeRep, mem] at ht
    simp only [pathV, Option.some.injEq, mem] at h2 ⊢
    obtain ⟨a, cap, h3, h4⟩ := sl_of ht.1
    have hl := ownSl_len ht.1
    have e1 : (ints xs).length = xs.length := by simp [ints]
    rw [e1] at h3 h4 hl
    exact ⟨hd, a, xs.length, cap, a, h3, Nat.zero_le _, Nat.le_refl _, hl, ⟨0, Nat.le_refl _, fun _ => rfl, by cases a <;> simp [Addr.add]⟩, by rw [← h2, h3]; simp⟩
  · exact hr j
end
end Go.Aw
