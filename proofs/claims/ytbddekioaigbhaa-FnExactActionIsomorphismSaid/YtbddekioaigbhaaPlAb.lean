/-
  Isomorphisms of actions: the search with marks and the search without. Of no program.
-/
import Derived.Test.YtbddekioaigbhaaPlAa
import Derived.Test.YtbddekioaigbhaaPl4
set_option linter.unusedSimpArgs false
set_option linter.unusedVariables false
namespace Go.Pl
open Go

/-! ### Lists in ascending order -/
def insL : List (List Int) → List Int → List (List Int)
  | [], m => [m]
  | k :: ks, m => if lt1 k m = true then k :: insL ks m else m :: k :: ks
theorem insL_perm {m : List Int} : ∀ {ks : List (List Int)}, (insL ks m).Perm (m :: ks)
  | [] => List.Perm.refl _
  | k :: ks => by
    rw [insL]
    split
    · exact ((insL_perm (m := m) (ks := ks)).cons k).trans (List.Perm.swap m k ks)
    · exact List.Perm.refl _
theorem insL_at {m : List Int} : ∀ {ks : List (List Int)} {i : Nat}, i ≤ ks.length → (∀ j, j < i → lt1 (ks.getD j []) m = true) → (i < ks.length → lt1 (ks.getD i []) m = false) → insL ks m = ks.take i ++ m :: ks.drop i
  | [], i, hi, _, _ => by
    have : i = 0 := by simpa using hi
    subst this
    simp [insL]
  | k :: ks, 0, _, _, h2 => by
    have h3 := h2 (by simp)
    rw [List.getD_cons_zero] at h3
    rw [insL, if_neg (by rw [h3]; decide)]
    rfl
  | k :: ks, i + 1, hi, h1, h2 => by
    have h3 := h1 0 (by omega)
    rw [List.getD_cons_zero] at h3
    have ih := insL_at (m := m) (ks := ks) (i := i) (by simpa using hi) (fun j hj => by have := h1 (j + 1) (by omega); simpa using this) (fun h => by have := h2 (by simpa using h); simpa using this)
    rw [insL, if_pos h3, ih, List.take_succ_cons, List.drop_succ_cons]
    rfl
theorem insL_pw {L : Nat} {m : List Int} (hm : SL L m) : ∀ {ks : List (List Int)}, (∀ k ∈ ks, SL L k) → ks.Pairwise (fun a b => lt1 b a = false) → (insL ks m).Pairwise (fun a b => lt1 b a = false)
  | [], _, _ => by simp [insL]
  | k :: ks, hS, hp => by
    have hk := hS k (List.mem_cons_self ..)
    have hp' := List.pairwise_cons.1 hp
    have hT := tot1L L
    rw [insL]
    split
    · rename_i h
      rw [List.pairwise_cons]
      refine ⟨fun x hx => ?_, insL_pw hm (fun k hk => hS k (List.mem_cons_of_mem _ hk)) hp'.2⟩
      rcases List.mem_cons.1 (insL_perm.subset hx) with e | e
      · subst e
        cases c : lt1 x k with
        | false => rfl
        | true =>
          have := hT.tr _ _ _ hk hm hk h c
          rw [hT.irr k hk] at this
          cases this
      · exact hp'.1 x e
    · rename_i h
      have h' : lt1 k m = false := by simpa using h
      rw [List.pairwise_cons]
      refine ⟨fun x hx => ?_, hp⟩
      rcases List.mem_cons.1 hx with e | e
      · rw [e]; exact h'
      · exact tot_le hT hm hk (hS x (List.mem_cons_of_mem _ e)) h' (hp'.1 x e)
def srtL (ms : List (List Int)) : List (List Int) := ms.foldl insL []
theorem srtL_snoc {ms : List (List Int)} {m : List Int} : srtL (ms ++ [m]) = insL (srtL ms) m := by
  unfold srtL
  rw [List.foldl_append]
  rfl
theorem srtL_go {L : Nat} : ∀ (ms ks : List (List Int)), (∀ m ∈ ms, SL L m) → (∀ k ∈ ks, SL L k) → ks.Pairwise (fun a b => lt1 b a = false) → (ms.foldl insL ks).Perm (ms ++ ks) ∧ (ms.foldl insL ks).Pairwise (fun a b => lt1 b a = false)
  | [], ks, _, _, hp => ⟨List.Perm.refl _, hp⟩
  | m :: ms, ks, hm, hk, hp => by
    have hm0 := hm m (List.mem_cons_self ..)
    obtain ⟨h1, h2⟩ := srtL_go ms (insL ks m) (fun x hx => hm x (List.mem_cons_of_mem _ hx)) (fun x hx => by
      rcases List.mem_cons.1 (insL_perm.subset hx) with e | e
      · rw [e]; exact hm0
      · exact hk x e) (insL_pw hm0 hk hp)
    rw [List.foldl_cons]
    refine ⟨h1.trans ?_, h2⟩
    exact (List.Perm.append_left ms insL_perm).trans List.perm_middle
theorem srtL_perm {L : Nat} {ms : List (List Int)} (h : ∀ m ∈ ms, SL L m) : (srtL ms).Perm ms := by
  have := (srtL_go ms [] h (fun _ h => by cases h) List.Pairwise.nil).1
  simpa [srtL] using this
theorem srtL_congr {L : Nat} {xs ys : List (List Int)} (hx : ∀ m ∈ xs, SL L m) (h : xs.Perm ys) : srtL xs = srtL ys := by
  have hy : ∀ m ∈ ys, SL L m := fun m hm => hx m (h.symm.subset hm)
  have p1 := srtL_go xs [] hx (fun _ h => by cases h) List.Pairwise.nil
  have p2 := srtL_go ys [] hy (fun _ h => by cases h) List.Pairwise.nil
  rw [List.append_nil] at p1 p2
  exact List.Perm.eq_of_pairwise (fun a b ha hb h1 h2 => (tot1L L).tot a b (hx a (p1.1.subset ha)) (hy b (p2.1.subset hb)) h2 h1) p1.2 p2.2 (p1.1.trans (h.trans p2.1.symm))

/-! ### What a point sees -/
section
variable (k n : Nat)
def seeM (a : List (List (List Int))) (f : List Int) (x z : Nat) : List Int := [f.getD z 0] ++ (List.range k).flatMap fun i => [e3 a i x z, e3 a i z x]
def lookM (a : List (List (List Int))) (f : List Int) (x : Nat) : List Int := [f.getD x 0, e3 a 0 x x] ++ (List.range k).map (fun i => e3 a i x x) ++ (srtL ((List.range n).map (seeM k a f x))).flatten
theorem flatMap2_len : ∀ (k : Nat) (g : Nat → Int × Int), ((List.range k).flatMap fun i => [(g i).1, (g i).2]).length = 2 * k
  | 0, _ => rfl
  | k + 1, g => by
    rw [List.range_succ, List.flatMap_append, List.length_append, flatMap2_len k g]
    simp
    omega
theorem seeM_SL {a : List (List (List Int))} {f : List Int} {x z : Nat} : SL (2 * k + 1) (seeM k a f x z) := by
  refine ⟨?_, fun _ _ => trivial⟩
  unfold seeM
  rw [List.length_append]
  have := flatMap2_len k fun i => (e3 a i x z, e3 a i z x)
  simp only at this
  rw [this]
  simp
  omega
theorem flat_len {L : Nat} : ∀ (xs : List (List Int)), (∀ x ∈ xs, SL L x) → xs.flatten.length = xs.length * L
  | [], _ => by simp
  | x :: xs, h => by
    rw [List.flatten_cons, List.length_append, flat_len xs (fun y hy => h y (List.mem_cons_of_mem _ hy)), (h x (List.mem_cons_self ..)).1, List.length_cons, Nat.succ_mul]
    omega
theorem see_mem {a : List (List (List Int))} {f : List Int} {x : Nat} : ∀ m ∈ (List.range n).map (seeM k a f x), SL (2 * k + 1) m := fun m hm => by
  obtain ⟨z, _, rfl⟩ := List.mem_map.1 hm
  exact seeM_SL k
theorem lookM_SL {a : List (List (List Int))} {f : List Int} {x : Nat} : SL (2 + k + n * (2 * k + 1)) (lookM k n a f x) := by
  refine ⟨?_, fun _ _ => trivial⟩
  have hp := srtL_perm (see_mem k n (a := a) (f := f) (x := x))
  unfold lookM
  rw [List.length_append, List.length_append, flat_len (L := 2 * k + 1) _ (fun m hm => see_mem k n m (hp.subset hm)), hp.length_eq]
  simp
structure IsoA (a b : List (List (List Int))) (q : List Int) : Prop where
  p : IsP n q
  e : ∀ i, i < k → ∀ x, x < n → ∀ z, z < n → e3 a i x z = e3 b i (q.getD x 0).toNat (q.getD z 0).toNat
theorem perm_map {q : List Int} (hq : IsP n q) (h : Nat → List Int) : ((List.range n).map fun y => h (q.getD y 0).toNat).Perm ((List.range n).map h) := by
  have e : ((List.range n).map fun y => h (q.getD y 0).toNat) = ((List.range n).map fun y => (q.getD y 0).toNat).map h := by
    rw [List.map_map]
    rfl
  rw [e]
  refine List.Perm.map _ ?_
  refine (List.perm_ext_iff_of_nodup ?_ List.nodup_range).2 (fun a => ?_)
  · rw [List.Nodup, List.pairwise_map]
    refine List.nodup_range.imp_of_mem (fun {x y} hx hy hne e => hne ?_)
    have hx' := List.mem_range.1 hx
    have hy' := List.mem_range.1 hy
    have h1 := hq.q x (by rw [hq.len]; exact hx')
    have h2 := hq.q y (by rw [hq.len]; exact hy')
    have hu : ((q.getD x 0).toNat : Nat) < n := by omega
    have p1 := (hq.pos_iff hu hx').2 (by omega)
    have p2 := (hq.pos_iff hu hy').2 (by omega)
    omega
  · rw [List.mem_map, List.mem_range]
    constructor
    · rintro ⟨y, hy, rfl⟩
      have := hq.q y (by rw [hq.len]; exact List.mem_range.1 hy)
      omega
    · intro ha
      obtain ⟨h1, h2⟩ := hq.pos_ok ha
      exact ⟨pos q a, List.mem_range.2 h1, by rw [h2]; simp⟩
theorem look_iso (hk : 0 < k) {a b : List (List (List Int))} {q : List Int} (hi : IsoA k n a b q) {f g : List Int} (hK : KP n f g q) {x : Nat} (hx : x < n) : lookM k n a f x = lookM k n b g (q.getD x 0).toNat := by
  unfold lookM
  have e1 : (List.range k).map (fun i => e3 a i x x) = (List.range k).map (fun i => e3 b i (q.getD x 0).toNat (q.getD x 0).toNat) := List.map_congr_left fun i hik => hi.e i (List.mem_range.1 hik) x hx x hx
  have e2 : (List.range n).map (seeM k a f x) = (List.range n).map fun z => seeM k b g (q.getD x 0).toNat (q.getD z 0).toNat := List.map_congr_left fun z hz => by
    have hz := List.mem_range.1 hz
    unfold seeM
    rw [hK z hz]
    congr 1
    have : ∀ l : List Nat, (∀ i ∈ l, i < k) → l.flatMap (fun i => [e3 a i x z, e3 a i z x]) = l.flatMap fun i => [e3 b i (q.getD x 0).toNat (q.getD z 0).toNat, e3 b i (q.getD z 0).toNat (q.getD x 0).toNat] := fun l => by
      induction l with
      | nil => intro _; rfl
      | cons i l ih =>
        intro hl
        rw [List.flatMap_cons, List.flatMap_cons, ih (fun j hj => hl j (List.mem_cons_of_mem _ hj)), hi.e i (hl i (List.mem_cons_self ..)) x hx z hz, hi.e i (hl i (List.mem_cons_self ..)) z hz x hx]
    exact this _ fun i hi => List.mem_range.1 hi
  rw [hK x hx, hi.e 0 hk x hx x hx, e1, e2]
  congr 2
  exact srtL_congr (L := 2 * k + 1) (fun m hm => by
    obtain ⟨z, _, rfl⟩ := List.mem_map.1 hm
    exact seeM_SL k) (perm_map n hi.p (seeM k b g (q.getD x 0).toNat))
end
end Go.Pl
