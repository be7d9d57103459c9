/-
  A whole list told as a part of itself. Of no program.
-/
import Derived.Test.YtkkgmjclfclaoaaAxG
set_option linter.unusedSimpArgs false
set_option linter.unusedVariables false
namespace Go.Aw
open Go.RowKit

section
variable {P : Program} {cx : Cx} {n : Nat} {c : Code} {cs : List Code} {Q : SQ} {st : St}
/-- Slot 'k' holds the whole list 'id': it may be told as its part from 0 on. -/
theorem ats_part (k id : Nat) {xs : List Int} (hk : st.get k = .ref id []) (hf : find st.H id = some (.t1 xs)) (h : ATs P cx n (c :: cs) Q ⟨(k, .sub id [] 0 xs.length) :: st.s, st.H⟩) : ATs P cx n (c :: cs) Q st := by
  intro tmps w hs
  obtain ⟨hsz, ι, F, ho, hr⟩ := hs
  refine h tmps w ⟨hsz, ι, F, ho, fun j => ?_⟩
  show rep _ (slotGet ((k, AV.sub id [] 0 xs.length) :: st.s) j) _
  unfold slotGet
  split
  · rename_i e
    subst e
    have h1 := hr k
    have hk' : st.get k = .ref id [] := hk
    rw [show (St.get st k) = .ref id [] from hk'] at h1
    simp only [rep] at h1 ⊢
    obtain ⟨hd, h2⟩ := h1
    have ht := ho.trees _ (find_mem hf)
    simp only [treeRep, mem] at ht
    simp only [pathV, Option.some.injEq, mem] at h2 ⊢
    obtain ⟨a, cap, h3, h4⟩ := sl_of ht.1
    have hl := ownSl_len ht.1
    have e1 : (ints xs).length = xs.length := by simp [ints]
    rw [e1] at h3 h4 hl
    exact ⟨hd, a, xs.length, cap, a, h3, Nat.zero_le _, Nat.le_refl _, hl, ⟨0, Nat.le_refl _, fun _ => rfl, by cases a <;> simp [Addr.add]⟩, by rw [← h2, h3]; simp⟩
  · exact hr j
/-- Slot 'k' holds a part of the list 'id': what is not in it may be forgotten, and the part told as the whole. -/
theorem ats_cutT (k id : Nat) {lo hi : Nat} {t t' : Tree} (hk : st.get k = .sub id [] lo hi) (hf : find st.H id = some t) (hc : cutTree lo hi t = some t') (hfl : flatT t' = true)
    (h : ATs P cx n (c :: cs) Q ⟨(k, .ref id []) :: killL [id] [] st.s, putT (killH (qOf [id] []) st.H) id t'⟩) : ATs P cx n (c :: cs) Q st := by
  intro tmps w hs
  obtain ⟨hsz, ι, F, ho, hr⟩ := hs
  have h1 := hr k
  rw [hk] at h1
  obtain ⟨fp, k1, k2, k3⟩ := target_rep (P := P) (e := 0) ho (s := .sub id [] lo hi) (t0 := t') (id := id) (by simp [target, hf, hc]) h1
  have hlt : ∀ b ∈ fp, b < w.heap.size := fun b hb => by
    obtain ⟨j1, j2⟩ := k3 b hb
    obtain ⟨p, hp, rfl⟩ := List.mem_map.1 j1
    exact (ho.mine b (mem_foot.2 ⟨p, hp, j2⟩)).1
  obtain ⟨v, all, subs, H', ι', F', ⟨rfl, rfl, rfl, rfl⟩, g1, g2, g3⟩ := ho.grow (R := []) (id := id) (t' := t') (v' := tmps.getD k undef) (fp := []) (fp' := fp) (w' := w) (by simp) ⟨rfl, rfl, rfl, Nat.le_refl _, fun _ _ _ => rfl⟩ k2
    (fun b hb => ⟨hlt b hb, .inl (k3 b hb)⟩) (fun m hm _ => (flatT_rep hfl k1).tree hm) (fun vs e => by rw [e] at hfl; cases hfl)
    (K := fun v all subs H' => v = .ref id [] ∧ all = [id] ∧ subs = [] ∧ H' = putT (killH (qOf [id] []) st.H) id t') ⟨rfl, rfl, rfl, by rw [rmT_no]; rfl⟩
  refine h tmps w ⟨hsz, ι', F', g1, fun j => ?_⟩
  show rep _ (slotGet ((k, AV.ref id []) :: killL [id] [] st.s) j) _
  unfold slotGet
  split
  · rename_i e
    subst e
    exact g2
  · have e := congrFun (get_kill ⟨st.s, st.H⟩ [id] []) j
    rw [e]
    exact g3 _ _ (hr j)
end
end Go.Aw
