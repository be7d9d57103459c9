/-
  Runs in one order with calls that turn memory or hand back memory of their caller's; the contract of a function that turns what it is handed. Of no program.
-/
import Derived.Test.YtomfedhhfcelkaaAwT
set_option linter.unusedSimpArgs false
set_option linter.unusedVariables false
namespace Go.Aw
open Go.RowKit

section
variable {P : Program} {cx : Cx} {H : List (Nat × Tree)} {w w' : World} {ι : Nat → Value} {F : Nat → List Nat}

/-- A row turned within its rows. -/
theorem on_turn {α : Type} {R : World → List Nat → α → Value → Prop} (frame : ∀ {w w' fp a v}, (∀ b ∈ fp, w'.heap[b]? = w.heap[b]?) → R w fp a v → R w' fp a v) {f0 : List Nat} {fs : List (List Nat)} {as : List α} {us : List Value} {v x : Value} {i : Nat} {f g : List Nat} {a' : α}
    (h1 : OwnSl w f0 us v) (h2 : All3 (R w) fs as us) (hn : (f0 ++ fs.flatten).Nodup) (hlt : ∀ b ∈ f0 ++ fs.flatten, b < w.heap.size) (hf : fs[i]? = some f) (hx : us[i]? = some x) (hw : Turned w w' f) (hg : g.Nodup) (hgm : ∀ b ∈ g, b ∈ f ∨ w.heap.size ≤ b) (hr : R w' g a' x) :
    OwnSl w' f0 us v ∧ All3 (R w') (fs.set i g) (as.set i a') us ∧ (f0 ++ (fs.set i g).flatten).Nodup ∧ ∀ b ∈ f0 ++ (fs.set i g).flatten, b ∈ f0 ++ fs.flatten ∨ w.heap.size ≤ b := by
  have hn' := hn
  rw [List.nodup_append] at hn
  have hff : ∀ b ∈ f, b ∈ fs.flatten := fun b hb => List.mem_flatten.2 ⟨f, List.mem_of_getElem? hf, hb⟩
  have h0 : ∀ k ∈ f0, w'.heap[k]? = w.heap[k]? := fun k hk => hw.block k (hlt k (List.mem_append.2 (.inl hk))) (fun e => hn.2.2 k hk k (hff k e) rfl)
  refine ⟨h1.heap h0, ?_, ?_, fun b hb => ?_⟩
  · refine All3.of_get (by rw [List.length_set, List.length_set]; exact h2.length.1) (by rw [List.length_set]; exact h2.length.2) (fun j g' a u hg' ha hu => ?_)
    rw [List.getElem?_set] at ha hg'
    split at ha
    · rename_i hij; subst hij
      rw [hx] at hu; cases hu
      rw [if_pos rfl] at hg'
      split at ha <;> split at hg' <;> first | (cases ha; done) | (cases hg'; done) | skip
      cases ha; cases hg'
      exact hr
    · rename_i hij
      rw [if_neg hij] at hg'
      refine frame (fun k hk => hw.block k (hlt k (List.mem_append.2 (.inr (List.mem_flatten.2 ⟨g', List.mem_of_getElem? hg', hk⟩)))) (fun e => ?_)) (h2.at hg' ha hu)
      exact flatten_disj hn.2.1 hg' hf (fun e => hij e.symm) hk e
  · have hset : fs.set i g = fs.take i ++ g :: fs.drop (i + 1) := by
      rw [List.set_eq_take_append_cons_drop, if_pos (List.getElem?_eq_some_iff.1 hf).1]
    have hfs : fs = fs.take i ++ f :: fs.drop (i + 1) := by
      have hl := (List.getElem?_eq_some_iff.1 hf).1
      have he := (List.getElem?_eq_some_iff.1 hf).2
      rw [← he, List.getElem_cons_drop, List.take_append_drop]
    have hgn : ∀ b ∈ g, b ∉ f0 ∧ b ∉ (fs.take i).flatten ∧ b ∉ (fs.drop (i + 1)).flatten := by
      intro b hb
      rw [hfs] at hn' hlt
      simp only [List.flatten_append, List.flatten_cons, List.nodup_append, List.mem_append] at hn' hlt
      rcases hgm b hb with h | h
      · refine ⟨fun e => hn'.2.2 b e b (.inr (.inl h)) rfl, fun e => hn'.2.1.2.2 b e b (.inl h) rfl, fun e => hn'.2.1.2.1.2.2 b h b e rfl⟩
      · refine ⟨fun e => ?_, fun e => ?_, fun e => ?_⟩
        · exact absurd (hlt b (.inl e)) (Nat.not_lt.2 h)
        · exact absurd (hlt b (.inr (.inl e))) (Nat.not_lt.2 h)
        · exact absurd (hlt b (.inr (.inr (.inr e)))) (Nat.not_lt.2 h)
    rw [hset]
    rw [hfs] at hn'
    simp only [List.flatten_append, List.flatten_cons, List.nodup_append, List.mem_append] at hn' ⊢
    obtain ⟨a1, ⟨a2, ⟨a3, a4, a5⟩, a6⟩, a7⟩ := hn'
    refine ⟨a1, ⟨a2, ⟨hg, a4, fun x hx y hy e => (hgn x hx).2.2 (e ▸ hy)⟩, fun x hx y hy e => ?_⟩, fun x hx y hy e => ?_⟩
    · rcases hy with hy | hy
      · exact (hgn y hy).2.1 (e ▸ hx)
      · exact a6 x hx y (.inr hy) e
    · rcases hy with hy | hy | hy
      · exact a7 x hx y (.inl hy) e
      · exact (hgn y hy).1 (e ▸ hx)
      · exact a7 x hx y (.inr (.inr hy)) e
  · rcases List.mem_append.1 hb with hb | hb
    · exact .inl (List.mem_append.2 (.inl hb))
    · rcases mem_flatten_set hb with hb | hb
      · rcases hgm b hb with h | h
        · exact .inl (List.mem_append.2 (.inr (hff b h)))
        · exact .inr h
      · exact .inl (List.mem_append.2 (.inr hb))

/-- A row of a tree's own, turned by a call. -/
def TurnRow (P : Program) (H : List (Nat × Tree)) (f : FuncId) (args : List AV) (r : AV) (id : Nat) (H' : List (Nat × Tree)) : Prop :=
  ∃ (i : Nat) (k : Int), args = [.ref id [i], .int k] ∧
    ((∃ xss ys, find H id = some (.t2 xss) ∧ i < xss.length ∧ TurnCall P f [.ref 0 [], .int k] [(0, .t1 (xss.getD i []))] [(0, .t1 ys)] r ∧ H' = (id, .t2 (xss.set i ys)) :: killH (qOf [] [id]) (rmT [id] H)) ∨
     (∃ xss ys, find H id = some (.t3 xss) ∧ i < xss.length ∧ TurnCall P f [.ref 0 [], .int k] [(0, .t2 (xss.getD i []))] [(0, .t2 ys)] r ∧ H' = (id, .t3 (xss.set i ys)) :: killH (qOf [] [id]) (rmT [id] H)))

theorem turnRow_sound (ho : Owns cx H w ι F) {f : FuncId} {args : List AV} {r : AV} {id : Nat} {H' : List (Nat × Tree)} (h : TurnRow P H f args r id H') {us : List Value} (hr : reps (mem cx w H ι F) args us) :
    (∀ args w, (callFunc f args).run P w = .ok (.enter f args) w) ∧ Calls P f us.toArray w fun e w' => ∃ u F', e = .returned u ∧ Owns cx H' w' ι F' ∧ rep (mem cx w' H' ι F') r u ∧ ∀ av v, rep (mem cx w H ι F) av v → rep (mem cx w' H' ι F') (killA (qOf [] [id]) av) v := by
  obtain ⟨i, k, rfl, h⟩ := h
  simp only [reps] at hr
  obtain ⟨x, us', rfl, hx, y, us'', rfl, hy, rfl⟩ := hr
  simp only [rep] at hx
  have hx2 := hx.2
  have gen : ∀ {α : Type} {R : World → List Nat → α → Value → Prop} (d : α) (frame : ∀ {w w' fp a v}, (∀ b ∈ fp, w'.heap[b]? = w.heap[b]?) → R w fp a v → R w' fp a v) (tr : α → Tree) (big : List α → Tree)
      (hflat : ∀ {w fp a v}, R w fp a v ↔ flatRep w fp (tr a) v) (hbig : ∀ {w fp as v}, flatRep w fp (big as) v ↔ ON R w fp as v) (hft : ∀ as, flatT (big as) = true) {as : List α} {a' : α}
      (_ : find H id = some (big as)) (_ : i < as.length) (_ : TurnCall P f [.ref 0 [], .int k] [(0, tr (as.getD i d))] [(0, tr a')] r),
      (∀ args w, (callFunc f args).run P w = .ok (.enter f args) w) ∧ Calls P f [x, y].toArray w fun e w' => ∃ u F', e = .returned u ∧ Owns cx ((id, big (as.set i a')) :: killH (qOf [] [id]) (rmT [id] H)) w' ι F' ∧
        rep (mem cx w' ((id, big (as.set i a')) :: killH (qOf [] [id]) (rmT [id] H)) ι F') r u ∧ ∀ av v, rep (mem cx w H ι F) av v → rep (mem cx w' ((id, big (as.set i a')) :: killH (qOf [] [id]) (rmT [id] H)) ι F') (killA (qOf [] [id]) av) v := by
    intro α R d frame tr big hflat hbig hft as a' hfd hi hc
    have ht := flatT_rep (m := mem cx w H ι F) (hft as) (ho.trees _ (find_mem hfd))
    rw [hbig] at ht
    obtain ⟨vs, f0, fs, h1, h2, h3⟩ := ht
    obtain ⟨x', hx', hp⟩ := h1.row hx2
    simp only [pathV, Option.some.injEq] at hp; subst hp
    obtain ⟨g, c, hg, hcc, hrow⟩ := h2.get i _ (getD_some (d := d) hi)
    rw [hx'] at hcc; cases hcc
    have hsub : ∀ b ∈ g, b ∈ foot H F := fun b hb => mem_foot.2 ⟨_, find_mem hfd, by
      rw [h3]; exact List.mem_append.2 (.inr (List.mem_flatten.2 ⟨g, List.mem_of_getElem? hg, hb⟩))⟩
    have hnF : (f0 ++ fs.flatten).Nodup := by rw [← h3]; exact foot_part ho hfd
    have hft1 : foot [(0, tr (as.getD i d))] (fun _ => g) = g := by simp [foot]
    refine ⟨hc.enter, (hc.runs [x', y] w (fun _ => x') (fun _ => g) (fun p hp => ?_) ?_ (fun b hb => ?_) ?_).mono fun e w' ⟨v, G', k1, k2, k3, k4, k5, k6⟩ => ?_⟩
    · simp only [List.mem_singleton] at hp; subst hp; exact hflat.1 hrow
    · rw [hft1]; exact flatten_part (List.nodup_append.1 hnF).2.1 hg
    · rw [hft1] at hb; exact (ho.mine b (hsub b hb)).1
    · simp only [reps]
      refine ⟨x', [y], rfl, ?_, y, [], rfl, ?_, rfl⟩
      · simp only [rep, find, if_true, pathV]
        refine ⟨?_, trivial⟩
        cases tr (as.getD i d) <;> rfl
      · simp only [rep] at hy ⊢; exact hy
    · rw [hft1] at k2 k5
      have hfg : foot [(0, tr a')] G' = G' 0 := by simp [foot]
      rw [hfg] at k4 k5
      obtain ⟨m1, m2, m3, m4⟩ := on_turn (R := R) (fun h h' => frame h h') h1 h2 hnF (fun b hb => by rw [← h3] at hb; exact (ho.mine b (mem_foot.2 ⟨_, find_mem hfd, hb⟩)).1) hg hx' k2 k4 (fun b hb => (k5 b hb).2) (hflat.2 (k3 _ (List.mem_singleton.2 rfl)))
      have e1 : Aw.ids [(id, big as)] = [id] := rfl
      have e2 : foot [(id, big as)] F = F id := by simp [foot]
      have key := ho.turn (w' := w') (T := [(id, big as)]) (T' := [(id, big (as.set i a'))]) rfl (by simp [Aw.ids]) (by simpa using hfd)
        (by rw [e2]; exact ⟨k2.os, k2.tape, k2.output, k2.size, fun b hb hbn => k2.block b hb (fun h => hbn (by rw [h3]; exact List.mem_append.2 (.inr (List.mem_flatten.2 ⟨g, List.mem_of_getElem? hg, h⟩))))⟩)
        (G := fun _ => f0 ++ (fs.set i (G' 0)).flatten)
        (fun p hp => by simp only [List.mem_singleton] at hp; subst hp; exact hbig.2 ⟨vs, f0, _, m1, m2, rfl⟩)
        (by simpa [foot] using m3)
        (fun b hb => by
          have hb' : b ∈ f0 ++ (fs.set i (G' 0)).flatten := by simpa [foot] using hb
          rw [e2, h3]
          refine ⟨?_, m4 b hb'⟩
          rcases List.mem_append.1 hb' with hq | hq
          · exact Nat.lt_of_lt_of_le (ho.mine b (mem_foot.2 ⟨_, find_mem hfd, by rw [h3]; exact List.mem_append.2 (.inl hq)⟩)).1 k2.size
          · rcases mem_flatten_set hq with hq | hq
            · exact (k5 b hq).1
            · exact Nat.lt_of_lt_of_le (ho.mine b (mem_foot.2 ⟨_, find_mem hfd, by rw [h3]; exact List.mem_append.2 (.inr hq)⟩)).1 k2.size)
      rw [e1] at key
      exact ⟨v, _, k1, key.1, rep_memFree hc.free k6, key.2⟩
  rcases h with ⟨xss, ys, h1, h2, h3, rfl⟩ | ⟨xss, ys, h1, h2, h3, rfl⟩
  · exact gen (R := O1) [] (fun hb h => h.heap hb) .t1 .t2 Iff.rfl Iff.rfl (fun _ => rfl) h1 h2 h3
  · exact gen (R := O2) [] (fun hb h => h.heap hb) .t2 .t3 Iff.rfl Iff.rfl (fun _ => rfl) h1 h2 h3

end
end Go.Aw
