/-
  Joined out of: PlY PlZ PlZb.
-/
import Derived.Test.YtbddekioaigbhaaPl5
import Derived.Test.YtbddekioaigbhaaPl3
set_option linter.unusedSimpArgs false
set_option linter.unusedVariables false
namespace Go.Pl
open Go

/-! ### Sorting -/
def leI (a b : Int) : Bool := decide (a ≤ b)
theorem leI_tr (a b c : Int) (h1 : leI a b = true) (h2 : leI b c = true) : leI a c = true := by
  unfold leI at *
  simp only [decide_eq_true_eq] at *
  omega
theorem leI_tot (a b : Int) : (leI a b || leI b a) = true := by
  unfold leI
  simp only [Bool.or_eq_true, decide_eq_true_eq]
  omega
theorem leI_as (a b : Int) (h1 : leI a b = true) (h2 : leI b a = true) : a = b := by
  unfold leI at *
  simp only [decide_eq_true_eq] at *
  omega
def srt (xs : List Int) : List Int := xs.mergeSort leI
theorem srt_perm (xs : List Int) : (srt xs).Perm xs := List.mergeSort_perm _ _
theorem srt_pw (xs : List Int) : (srt xs).Pairwise (fun a b => leI a b = true) := List.pairwise_mergeSort leI_tr leI_tot xs
theorem srt_unique {xs ys : List Int} (hp : ys.Perm xs) (hs : ys.Pairwise (fun a b => leI a b = true)) : ys = srt xs :=
  List.Perm.eq_of_pairwise (fun a b _ _ h1 h2 => leI_as a b h1 h2) hs (srt_pw xs) (hp.trans (srt_perm xs).symm)
theorem srt_congr {xs ys : List Int} (h : xs.Perm ys) : srt xs = srt ys := srt_unique ((srt_perm xs).trans h) (srt_pw xs)
theorem srt_short {xs : List Int} (h : xs.length < 2) : srt xs = xs := by
  match xs, h with
  | [], _ => unfold srt; simp
  | [a], _ => exact List.mergeSort_singleton a
theorem srt_length (xs : List Int) : (srt xs).length = xs.length := (srt_perm xs).length_eq
theorem srt_merge (xs : List Int) (h : Nat) : List.merge (srt (xs.take h)) (srt (xs.drop h)) leI = srt xs :=
  srt_unique ((List.merge_perm_append leI).trans (((srt_perm _).append (srt_perm _)).trans (List.Perm.of_eq (List.take_append_drop h xs))))
    (List.pairwise_merge leI_tr leI_tot _ _ (srt_pw _) (srt_pw _))
/-- What is left to merge. -/
theorem merge_step {a b : List Int} {i k : Nat} (hi : i ≤ a.length) (hk : k ≤ b.length) (h : i < a.length ∨ k < b.length) :
    List.merge (a.drop i) (b.drop k) leI = if k = b.length ∨ (i < a.length ∧ a.getD i 0 ≤ b.getD k 0) then a.getD i 0 :: List.merge (a.drop (i + 1)) (b.drop k) leI else b.getD k 0 :: List.merge (a.drop i) (b.drop (k + 1)) leI := by
  by_cases h1 : i < a.length
  · have ea : a.drop i = a.getD i 0 :: a.drop (i + 1) := by
      rw [List.drop_eq_getElem_cons h1, List.getD_eq_getElem?_getD, List.getElem?_eq_getElem h1]
      rfl
    by_cases h2 : k < b.length
    · have eb : b.drop k = b.getD k 0 :: b.drop (k + 1) := by
        rw [List.drop_eq_getElem_cons h2, List.getD_eq_getElem?_getD, List.getElem?_eq_getElem h2]
        rfl
      rw [ea, eb, List.merge]
      unfold leI
      by_cases h3 : a.getD i 0 ≤ b.getD k 0
      · rw [if_pos (decide_eq_true h3), if_pos (.inr ⟨h1, h3⟩)]
      · rw [if_neg (by simpa using h3), if_neg (by rintro (h | h); omega; exact h3 h.2)]
    · have hb : b.drop k = [] := List.drop_eq_nil_of_le (by omega)
      rw [if_pos (.inl (by omega)), hb, List.merge_right, List.merge_right, ea]
  · have hk2 : k < b.length := by omega
    have eb : b.drop k = b.getD k 0 :: b.drop (k + 1) := by
      rw [List.drop_eq_getElem_cons hk2, List.getD_eq_getElem?_getD, List.getElem?_eq_getElem hk2]
      rfl
    have ha : a.drop i = [] := List.drop_eq_nil_of_le (by omega)
    rw [if_neg (by rintro (h | h); omega; exact h1 h.1), ha, List.nil_merge, List.nil_merge, eb]

/-! ### Kinds: marks in lexicographic order, each once -/
def insK : List (List Int) → List Int → List (List Int)
  | [], m => [m]
  | k :: ks, m => if lt1 k m = true then k :: insK ks m else if k = m then k :: ks else m :: k :: ks
theorem insK_mem {x m : List Int} : ∀ {ks : List (List Int)}, x ∈ insK ks m ↔ x = m ∨ x ∈ ks
  | [] => by simp [insK]
  | k :: ks => by
    rw [insK]
    split
    · rw [List.mem_cons, insK_mem, List.mem_cons]
      constructor
      · rintro (h | h | h)
        · exact .inr (.inl h)
        · exact .inl h
        · exact .inr (.inr h)
      · rintro (h | h | h)
        · exact .inr (.inl h)
        · exact .inl h
        · exact .inr (.inr h)
    · split
      · rename_i h
        subst h
        constructor
        · exact fun h => .inr h
        · rintro (h | h)
          · rw [h]; exact List.mem_cons_self ..
          · exact h
      · rw [List.mem_cons]
theorem insK_len {m : List Int} : ∀ {ks : List (List Int)}, (insK ks m).length ≤ ks.length + 1
  | [] => by simp [insK]
  | k :: ks => by
    rw [insK]
    have := insK_len (m := m) (ks := ks)
    split
    · simp only [List.length_cons]; omega
    · split <;> simp only [List.length_cons] <;> omega
/-- Where a loop stands that looks for the place. -/
theorem insK_at {m : List Int} : ∀ {ks : List (List Int)} {i : Nat}, i ≤ ks.length → (∀ j, j < i → lt1 (ks.getD j []) m = true) → (i < ks.length → lt1 (ks.getD i []) m = false) →
    insK ks m = if i < ks.length ∧ ks.getD i [] = m then ks else ks.take i ++ m :: ks.drop i
  | [], i, hi, _, _ => by
    have : i = 0 := by simpa using hi
    subst this
    simp [insK]
  | k :: ks, 0, _, _, h2 => by
    have h3 := h2 (by simp)
    rw [List.getD_cons_zero] at h3
    rw [insK, if_neg (by rw [h3]; decide)]
    by_cases e : k = m
    · rw [if_pos e, if_pos ⟨by simp, by simpa using e⟩]
    · rw [if_neg e, if_neg (fun h => e (by simpa using h.2))]
      rfl
  | k :: ks, i + 1, hi, h1, h2 => by
    have h3 := h1 0 (by omega)
    rw [List.getD_cons_zero] at h3
    have ih := insK_at (m := m) (ks := ks) (i := i) (by simpa using hi) (fun j hj => by have := h1 (j + 1) (by omega); simpa using this) (fun h => by have := h2 (by simpa using h); simpa using this)
    rw [insK, if_pos h3, ih, List.getD_cons_succ, List.take_succ_cons, List.drop_succ_cons, List.length_cons]
    by_cases c : i < ks.length ∧ ks.getD i [] = m
    · rw [if_pos c, if_pos ⟨by omega, c.2⟩]
    · rw [if_neg c, if_neg (fun h => c ⟨by omega, h.2⟩)]
      rfl
abbrev SL (L : Nat) : List Int → Prop := LS (fun _ => True) L
theorem tot1L (L : Nat) : Tot (SL L) lt1 := lex_tot tot0 L
theorem insK_pw {L : Nat} {m : List Int} (hm : SL L m) : ∀ {ks : List (List Int)}, (∀ k ∈ ks, SL L k) → ks.Pairwise (fun a b => lt1 a b = true) → (insK ks m).Pairwise (fun a b => lt1 a b = true)
  | [], _, _ => by simp [insK]
  | k :: ks, hS, hp => by
    have hk := hS k (List.mem_cons_self ..)
    have hp' := List.pairwise_cons.1 hp
    rw [insK]
    split
    · rename_i h
      rw [List.pairwise_cons]
      refine ⟨fun x hx => ?_, insK_pw hm (fun k hk => hS k (List.mem_cons_of_mem _ hk)) hp'.2⟩
      rcases insK_mem.1 hx with e | e
      · rw [e]; exact h
      · exact hp'.1 x e
    · rename_i h
      split
      · exact hp
      · rename_i hne
        have hmk : lt1 m k = true := by
          cases c : lt1 m k with
          | true => rfl
          | false => exact absurd ((tot1L L).tot k m hk hm (by simpa using h) c) hne
        rw [List.pairwise_cons]
        refine ⟨fun x hx => ?_, hp⟩
        rcases List.mem_cons.1 hx with e | e
        · rw [e]; exact hmk
        · exact (tot1L L).tr m k x hm hk (hS x (List.mem_cons_of_mem _ e)) hmk (hp'.1 x e)
def kindsF (ms : List (List Int)) : List (List Int) := ms.foldl insK []
theorem kindsF_snoc {ms : List (List Int)} {m : List Int} : kindsF (ms ++ [m]) = insK (kindsF ms) m := by
  unfold kindsF
  rw [List.foldl_append]
  rfl
theorem kinds_go {L : Nat} : ∀ (ms ks : List (List Int)), (∀ m ∈ ms, SL L m) → (∀ k ∈ ks, SL L k) → ks.Pairwise (fun a b => lt1 a b = true) →
    (∀ x, x ∈ ms.foldl insK ks ↔ x ∈ ms ∨ x ∈ ks) ∧ (ms.foldl insK ks).Pairwise (fun a b => lt1 a b = true) ∧ (ms.foldl insK ks).length ≤ ks.length + ms.length
  | [], ks, _, _, hp => ⟨fun x => by simp, hp, by simp⟩
  | m :: ms, ks, hm, hk, hp => by
    obtain ⟨h1, h2, h3⟩ := kinds_go ms (insK ks m) (fun x hx => hm x (List.mem_cons_of_mem _ hx)) (fun x hx => by
      rcases insK_mem.1 hx with e | e
      · rw [e]; exact hm m (List.mem_cons_self ..)
      · exact hk x e) (insK_pw (hm m (List.mem_cons_self ..)) hk hp)
    have h4 := insK_len (m := m) (ks := ks)
    rw [List.foldl_cons]
    refine ⟨fun x => ?_, h2, by rw [List.length_cons]; omega⟩
    rw [h1, insK_mem, List.mem_cons]
    constructor
    · rintro (h | h | h)
      · exact .inl (.inr h)
      · exact .inl (.inl h)
      · exact .inr h
    · rintro ((h | h) | h)
      · exact .inr (.inl h)
      · exact .inl h
      · exact .inr (.inr h)
theorem kindsF_mem {L : Nat} {ms : List (List Int)} (h : ∀ m ∈ ms, SL L m) {x : List Int} : x ∈ kindsF ms ↔ x ∈ ms := by
  have := (kinds_go ms [] h (fun _ h => by cases h) List.Pairwise.nil).1 x
  simpa [kindsF] using this
theorem kindsF_pw {L : Nat} {ms : List (List Int)} (h : ∀ m ∈ ms, SL L m) : (kindsF ms).Pairwise (fun a b => lt1 a b = true) := (kinds_go ms [] h (fun _ h => by cases h) List.Pairwise.nil).2.1
theorem kindsF_len {L : Nat} {ms : List (List Int)} (h : ∀ m ∈ ms, SL L m) : (kindsF ms).length ≤ ms.length := by
  have := (kinds_go ms [] h (fun _ h => by cases h) List.Pairwise.nil).2.2
  simpa [kindsF] using this
theorem kindsF_nodup {L : Nat} {ms : List (List Int)} (h : ∀ m ∈ ms, SL L m) : (kindsF ms).Nodup := by
  refine (kindsF_pw h).imp_of_mem (fun {a b} ha hb hab e => ?_)
  subst e
  rw [(tot1L L).irr a (h a ((kindsF_mem h).1 ha))] at hab
  cases hab

/-! ### Colours: the place of a mark among the kinds -/
def colI : List (List Int) → List Int → Nat
  | [], _ => 0
  | k :: ks, m => if k = m then 0 else colI ks m + 1
theorem colI_spec {m : List Int} : ∀ {ks : List (List Int)}, m ∈ ks → colI ks m < ks.length ∧ ks.getD (colI ks m) [] = m ∧ ∀ j, j < colI ks m → ks.getD j [] ≠ m
  | [], h => by cases h
  | k :: ks, h => by
    rw [colI]
    by_cases e : k = m
    · rw [if_pos e]
      exact ⟨by simp, by simpa using e, fun j hj => absurd hj (Nat.not_lt_zero j)⟩
    · rw [if_neg e]
      have h' : m ∈ ks := by
        rcases List.mem_cons.1 h with h | h
        · exact absurd h.symm e
        · exact h
      obtain ⟨h1, h2, h3⟩ := colI_spec h'
      refine ⟨by rw [List.length_cons]; omega, by rw [List.getD_cons_succ]; exact h2, fun j hj => ?_⟩
      cases j with
      | zero => simpa using e
      | succ j => rw [List.getD_cons_succ]; exact h3 j (by omega)
theorem colI_eq {m : List Int} {ks : List (List Int)} {i : Nat} (h : m ∈ ks) (hi : ks.getD i [] = m) (hil : i < ks.length) (hj : ∀ j, j < i → ks.getD j [] ≠ m) : i = colI ks m := by
  obtain ⟨h1, h2, h3⟩ := colI_spec h
  rcases Nat.lt_trichotomy i (colI ks m) with c | c | c
  · exact absurd hi (h3 i c)
  · exact c
  · exact absurd h2 (hj _ c)
theorem colI_nodup {ks : List (List Int)} (hn : ks.Nodup) {i : Nat} (hi : i < ks.length) : colI ks (ks.getD i []) = i := by
  have hmem : ks.getD i [] ∈ ks := by
    rw [List.getD_eq_getElem?_getD, List.getElem?_eq_getElem hi]
    exact List.getElem_mem _
  refine (colI_eq hmem rfl hi (fun j hj e => ?_)).symm
  have hjl : j < ks.length := by omega
  rw [List.getD_eq_getElem?_getD, List.getElem?_eq_getElem hjl, List.getD_eq_getElem?_getD, List.getElem?_eq_getElem hi] at e
  have := (List.getElem_inj hn).1 (show ks[j] = ks[i] from e)
  omega
/-- The colours of the marks before i. -/
def colsF (ms : List (List Int)) (i : Nat) : List Int := (ms.take i).map fun m => ((colI (kindsF ms) m : Nat) : Int)
theorem colsF_len {ms : List (List Int)} {i : Nat} (h : i ≤ ms.length) : (colsF ms i).length = i := by
  unfold colsF
  rw [List.length_map, List.length_take]
  omega
theorem colsF_succ {ms : List (List Int)} {i : Nat} (h : i < ms.length) : colsF ms (i + 1) = colsF ms i ++ [((colI (kindsF ms) (ms.getD i []) : Nat) : Int)] := by
  unfold colsF
  rw [List.take_add_one, List.map_append, List.getElem?_eq_getElem h, List.getD_eq_getElem?_getD, List.getElem?_eq_getElem h]
  rfl
/-- How often a colour stands before i: those of the first n count up, the others down. -/
def cntD (ms : List (List Int)) (n i c : Nat) : Int := ((((colsF ms i).take n).count (c : Int) : Nat) : Int) - ((((colsF ms i).drop n).count (c : Int) : Nat) : Int)
theorem cntD_zero {ms : List (List Int)} {n c : Nat} : cntD ms n 0 c = 0 := by simp [cntD, colsF]
theorem cntD_succ {ms : List (List Int)} {n i : Nat} (h : i < ms.length) (c : Nat) :
    cntD ms n (i + 1) c = if c = colI (kindsF ms) (ms.getD i []) then (if i < n then cntD ms n i c + 1 else cntD ms n i c - 1) else cntD ms n i c := by
  have hl := colsF_len (ms := ms) (i := i) (by omega)
  unfold cntD
  rw [colsF_succ h]
  obtain ⟨x, hx⟩ : ∃ x, colI (kindsF ms) (ms.getD i []) = x := ⟨_, rfl⟩
  rw [hx]
  by_cases hi : i < n
  · rw [List.take_of_length_le (by rw [List.length_append, hl]; simp; omega), List.drop_eq_nil_of_le (by rw [List.length_append, hl]; simp; omega), List.take_of_length_le (by omega), List.drop_eq_nil_of_le (by omega), List.count_append, if_pos hi]
    by_cases e : c = x
    · subst e; rw [if_pos rfl]; simp <;> omega
    · rw [if_neg e, List.count_cons_of_ne (by omega)]; simp
  · rw [List.take_append_of_le_length (by omega), List.drop_append_of_le_length (by omega), List.count_append, if_neg hi]
    by_cases e : c = x
    · subst e; rw [if_pos rfl]; simp <;> omega
    · rw [if_neg e, List.count_cons_of_ne (by omega)]; simp
theorem colsF_get {ms : List (List Int)} {L i : Nat} (h : i < L) (hL : L ≤ ms.length) : (colsF ms L).getD i 0 = ((colI (kindsF ms) (ms.getD i []) : Nat) : Int) := by
  unfold colsF
  have h1 : i < (ms.take L).length := by rw [List.length_take]; omega
  rw [List.getD_eq_getElem?_getD, List.getElem?_map, List.getElem?_eq_getElem h1, List.getD_eq_getElem?_getD, List.getElem?_eq_getElem (show i < ms.length by omega)]
  simp

/-! ### Refining -/
def mkF (n : Nat) (s : List (List Int)) (t f : List Int) (x : Nat) : List Int := [f.getD x 0, t.getD x 0, e2 s x x] ++ srt (rowF n (fun y => e2 s x y * 64 + f.getD y 0))
theorem mkF_SL {n : Nat} {s : List (List Int)} {t f : List Int} {x : Nat} : SL (n + 3) (mkF n s t f x) := by
  refine ⟨?_, fun _ _ => trivial⟩
  unfold mkF
  rw [List.length_append, srt_length, rowF_length]
  simp
  omega
section
variable (n : Nat) (s : List (List Int)) (t : List Int) (s' : List (List Int)) (t' : List Int)
def msF (f g : List Int) (i : Nat) : List (List Int) := (List.range i).map fun j => if j < n then mkF n s t f j else mkF n s' t' g (j - n)
def balB (ms : List (List Int)) : Bool := (List.range (kindsF ms).length).all fun c => decide (cntD ms n ms.length c = 0)
def stepF (f g : List Int) : Option (List Int × List Int × Nat) :=
  if balB n (msF n s t s' t' f g (2 * n)) = true then some ((colsF (msF n s t s' t' f g (2 * n)) (2 * n)).take n, (colsF (msF n s t s' t' f g (2 * n)) (2 * n)).drop n, (kindsF (msF n s t s' t' f g (2 * n))).length) else none
def refF : Nat → Nat → List Int → List Int → Option (List Int × List Int)
  | 0, _, f, g => some (f, g)
  | fuel + 1, number, f, g => match stepF n s t s' t' f g with
    | none => none
    | some (f', g', k) => if k = number then some (f', g') else refF fuel k f' g'
end
section
variable {n : Nat} {s : List (List Int)} {t : List Int} {s' : List (List Int)} {t' : List Int} {f g : List Int}
theorem msF_len {i : Nat} : (msF n s t s' t' f g i).length = i := by simp [msF]
theorem msF_succ {i : Nat} : msF n s t s' t' f g (i + 1) = msF n s t s' t' f g i ++ [if i < n then mkF n s t f i else mkF n s' t' g (i - n)] := by
  unfold msF
  rw [List.range_succ, List.map_append]
  rfl
theorem msF_get {i L : Nat} (h : i < L) : (msF n s t s' t' f g L).getD i [] = if i < n then mkF n s t f i else mkF n s' t' g (i - n) := by simp [msF, List.getD, h]
theorem msF_SL {L : Nat} : ∀ m ∈ msF n s t s' t' f g L, SL (n + 3) m := fun m hm => by
  obtain ⟨i, _, rfl⟩ := List.mem_map.1 hm
  split <;> exact mkF_SL
/-- Each colour below a number is used. -/
def UsedP (n : Nat) (f g : List Int) (k : Nat) : Prop := ∀ c, c < k → ∃ x, x < n ∧ (f.getD x 0 = (c : Int) ∨ g.getD x 0 = (c : Int))
def ColOk (n : Nat) (f : List Int) : Prop := f.length = n ∧ ∀ x, x < n → 0 ≤ f.getD x 0 ∧ f.getD x 0 ≤ 60
theorem ls_take {α : Type} {d : α} {xs : List α} {n i : Nat} (h : i < n) : (xs.take n).getD i d = xs.getD i d := by
  simp [List.getD, List.getElem?_take, h]
theorem ls_drop {α : Type} {d : α} {xs : List α} {n i : Nat} : (xs.drop n).getD i d = xs.getD (n + i) d := by
  simp [List.getD]
theorem step_some {f' g' : List Int} {k : Nat} (h : stepF n s t s' t' f g = some (f', g', k)) (h16 : n ≤ 16) : ColOk n f' ∧ ColOk n g' ∧ UsedP n f' g' k ∧ k ≤ 2 * n := by
  unfold stepF at h
  split at h
  · cases h
    have hl := msF_len (n := n) (s := s) (t := t) (s' := s') (t' := t') (f := f) (g := g) (i := 2 * n)
    have hS := msF_SL (n := n) (s := s) (t := t) (s' := s') (t' := t') (f := f) (g := g) (L := 2 * n)
    obtain ⟨ms, ems⟩ : ∃ ms, msF n s t s' t' f g (2 * n) = ms := ⟨_, rfl⟩
    rw [ems] at hl hS ⊢
    have hk := kindsF_len hS
    have hc : ∀ i, i < 2 * n → 0 ≤ (colsF ms (2 * n)).getD i 0 ∧ (colsF ms (2 * n)).getD i 0 ≤ 60 := fun i hi => by
      rw [colsF_get hi (by omega)]
      have hm : ms.getD i [] ∈ ms := by
        rw [List.getD_eq_getElem?_getD, List.getElem?_eq_getElem (by omega)]
        exact List.getElem_mem _
      have := (colI_spec ((kindsF_mem hS).2 hm)).1
      omega
    have hcl := colsF_len (ms := ms) (i := 2 * n) (by omega)
    refine ⟨⟨by rw [List.length_take, hcl]; omega, fun x hx => by rw [ls_take hx]; exact hc x (by omega)⟩, ⟨by rw [List.length_drop, hcl]; omega, fun x hx => by rw [ls_drop]; exact hc (n + x) (by omega)⟩, fun c hck => ?_, by omega⟩
    have hm : (kindsF ms).getD c [] ∈ ms := by
      refine (kindsF_mem hS).1 ?_
      rw [List.getD_eq_getElem?_getD, List.getElem?_eq_getElem hck]
      exact List.getElem_mem _
    obtain ⟨i, hi, e⟩ := List.getElem_of_mem hm
    have e2 : ms.getD i [] = (kindsF ms).getD c [] := by
      rw [List.getD_eq_getElem?_getD, List.getElem?_eq_getElem hi]
      exact e
    have hv : (colsF ms (2 * n)).getD i 0 = (c : Int) := by
      rw [colsF_get (by omega) (by omega), e2, colI_nodup (kindsF_nodup hS) hck]
    by_cases hin : i < n
    · exact ⟨i, hin, .inl (by rw [ls_take hin]; exact hv)⟩
    · exact ⟨i - n, by omega, .inr (by rw [ls_drop, show n + (i - n) = i by omega]; exact hv)⟩
  · cases h
theorem step_grow {f' g' : List Int} {k number : Nat} (h : stepF n s t s' t' f g = some (f', g', k)) (hu : UsedP n f g number) : number ≤ k := by
  unfold stepF at h
  split at h
  · cases h
    have hS := msF_SL (n := n) (s := s) (t := t) (s' := s') (t' := t') (f := f) (g := g) (L := 2 * n)
    have key : ((List.range number).map fun c => ((c : Nat) : Int)).length ≤ ((kindsF (msF n s t s' t' f g (2 * n))).map fun m => m.getD 0 0).length := by
      refine List.Nodup.length_le_of_subset ?_ ?_
      · rw [List.Nodup, List.pairwise_map]
        exact List.nodup_range.imp (fun h e => h (by omega))
      · intro c hc
        obtain ⟨c0, hc0, rfl⟩ := List.mem_map.1 hc
        obtain ⟨x, hx, he⟩ := hu c0 (List.mem_range.1 hc0)
        refine List.mem_map.2 ?_
        rcases he with he | he
        · refine ⟨mkF n s t f x, (kindsF_mem hS).2 (List.mem_map.2 ⟨x, List.mem_range.2 (by omega), by rw [if_pos hx]⟩), ?_⟩
          rw [← he]; rfl
        · refine ⟨mkF n s' t' g x, (kindsF_mem hS).2 (List.mem_map.2 ⟨n + x, List.mem_range.2 (by omega), by rw [if_neg (by omega), Nat.add_sub_cancel_left]⟩), ?_⟩
          rw [← he]; rfl
    simpa using key
  · cases h

/-! ### What isomorphisms keep -/
structure IsoP (n : Nat) (s : List (List Int)) (t : List Int) (s' : List (List Int)) (t' : List Int) (q : List Int) : Prop where
  p : IsP n q
  t : ∀ i, i < n → t.getD i 0 = t'.getD (q.getD i 0).toNat 0
  s : ∀ i, i < n → ∀ k, k < n → e2 s i k = e2 s' (q.getD i 0).toNat (q.getD k 0).toNat
def KP (n : Nat) (f g q : List Int) : Prop := ∀ x, x < n → f.getD x 0 = g.getD (q.getD x 0).toNat 0
theorem perm_row {q : List Int} (hq : IsP n q) (h : Nat → Int) : (rowF n fun y => h (q.getD y 0).toNat).Perm (rowF n h) := by
  have e : rowF n (fun y => h (q.getD y 0).toNat) = ((List.range n).map fun y => (q.getD y 0).toNat).map h := by
    unfold rowF
    rw [List.map_map]
    rfl
  rw [e]
  unfold rowF
  refine List.Perm.map _ ?_
  refine (List.perm_ext_iff_of_nodup ?_ List.nodup_range).2 (fun a => ?_)
  · rw [List.Nodup, List.pairwise_map]
    refine List.nodup_range.imp_of_mem (fun {x y} hx hy hne e => hne ?_)
    have hx' := List.mem_range.1 hx
    have hy' := List.mem_range.1 hy
    have h1 := hq.q x (by rw [hq.len]; exact hx')
    have h2 := hq.q y (by rw [hq.len]; exact hy')
    have hu : ((q.getD x 0).toNat : Nat) < n := by omega
    have p1 := (hq.pos_iff hu hx').2 (by omega)
    have p2 := (hq.pos_iff hu hy').2 (by omega)
    omega
  · rw [List.mem_map, List.mem_range]
    constructor
    · rintro ⟨y, hy, rfl⟩
      have := hq.q y (by rw [hq.len]; exact List.mem_range.1 hy)
      omega
    · intro ha
      obtain ⟨h1, h2⟩ := hq.pos_ok ha
      exact ⟨pos q a, List.mem_range.2 h1, by rw [h2]; simp⟩
theorem mk_iso {q : List Int} (hi : IsoP n s t s' t' q) (hk : KP n f g q) {x : Nat} (hx : x < n) : mkF n s t f x = mkF n s' t' g (q.getD x 0).toNat := by
  unfold mkF
  rw [hk x hx, hi.t x hx, hi.s x hx x hx]
  congr 1
  refine srt_congr ?_
  have e : rowF n (fun y => e2 s x y * 64 + f.getD y 0) = rowF n (fun y => (fun z => e2 s' (q.getD x 0).toNat z * 64 + g.getD z 0) (q.getD y 0).toNat) := rowF_congr fun y hy => by rw [hk y hy, hi.s x hx y hy]
  rw [e]
  exact perm_row hi.p (fun z => e2 s' (q.getD x 0).toNat z * 64 + g.getD z 0)
theorem step_iso {q : List Int} (hi : IsoP n s t s' t' q) (hk : KP n f g q) : ∃ f' g' k, stepF n s t s' t' f g = some (f', g', k) ∧ KP n f' g' q := by
  have hl := msF_len (n := n) (s := s) (t := t) (s' := s') (t' := t') (f := f) (g := g) (i := 2 * n)
  have hg := fun i (h : i < 2 * n) => msF_get (n := n) (s := s) (t := t) (s' := s') (t' := t') (f := f) (g := g) h
  unfold stepF
  obtain ⟨ms, ems⟩ : ∃ ms, msF n s t s' t' f g (2 * n) = ms := ⟨_, rfl⟩
  rw [ems] at hl hg ⊢
  have hcl := colsF_len (ms := ms) (i := 2 * n) (by omega)
  have hA : ∀ x, x < n → ((colsF ms (2 * n)).take n).getD x 0 = ((colI (kindsF ms) (mkF n s t f x) : Nat) : Int) := fun x hx => by
    rw [ls_take hx, colsF_get (by omega) (by omega), hg x (by omega), if_pos hx]
  have hB : ∀ x, x < n → ((colsF ms (2 * n)).drop n).getD x 0 = ((colI (kindsF ms) (mkF n s' t' g x) : Nat) : Int) := fun x hx => by
    rw [ls_drop, colsF_get (by omega) (by omega), hg (n + x) (by omega), if_neg (by omega), Nat.add_sub_cancel_left]
  have hK : KP n ((colsF ms (2 * n)).take n) ((colsF ms (2 * n)).drop n) q := fun x hx => by
    have hqx := hi.p.q x (by rw [hi.p.len]; exact hx)
    rw [hA x hx, hB _ (by omega), mk_iso hi hk hx]
  have eA : (colsF ms (2 * n)).take n = rowF n (fun x => (fun y => ((colI (kindsF ms) (mkF n s' t' g y) : Nat) : Int)) (q.getD x 0).toNat) := by
    refine ext_getD (d := 0) (by rw [List.length_take, hcl, rowF_length]; omega) (fun x hx => ?_)
    have hx : x < n := by rw [List.length_take, hcl] at hx; omega
    rw [rowF_get hx, hA x hx, mk_iso hi hk hx]
  have eB : (colsF ms (2 * n)).drop n = rowF n (fun y => ((colI (kindsF ms) (mkF n s' t' g y) : Nat) : Int)) := by
    refine ext_getD (d := 0) (by rw [List.length_drop, hcl, rowF_length]; omega) (fun x hx => ?_)
    have hx : x < n := by rw [List.length_drop, hcl] at hx; omega
    rw [rowF_get hx, hB x hx]
  have hbal : balB n ms = true := by
    unfold balB
    rw [List.all_eq_true]
    intro c _
    refine decide_eq_true ?_
    unfold cntD
    rw [hl, eA, eB, (perm_row hi.p (fun y => ((colI (kindsF ms) (mkF n s' t' g y) : Nat) : Int))).count_eq]
    omega
  rw [if_pos hbal]
  exact ⟨_, _, _, rfl, hK⟩
theorem ref_iso {q : List Int} (hi : IsoP n s t s' t' q) (h16 : n ≤ 16) : ∀ (fuel number : Nat) (f g : List Int), ColOk n f → ColOk n g → KP n f g q → ∃ f' g', refF n s t s' t' fuel number f g = some (f', g') ∧ KP n f' g' q
  | 0, _, f, g, _, _, hk => ⟨f, g, rfl, hk⟩
  | fuel + 1, number, f, g, hf, hg, hk => by
    obtain ⟨f', g', k, e, hk'⟩ := step_iso hi hk
    obtain ⟨h1, h2, _⟩ := step_some e h16
    rw [refF, e]
    simp only
    split
    · exact ⟨f', g', rfl, hk'⟩
    · exact ref_iso hi h16 fuel k f' g' h1 h2 hk'
theorem ref_col (h16 : n ≤ 16) : ∀ (fuel number : Nat) (f g f' g' : List Int), ColOk n f → ColOk n g → refF n s t s' t' fuel number f g = some (f', g') → ColOk n f' ∧ ColOk n g'
  | 0, _, f, g, f', g', hf, hg, h => by
    rw [refF] at h
    cases h
    exact ⟨hf, hg⟩
  | fuel + 1, number, f, g, f', g', hf, hg, h => by
    rw [refF] at h
    cases e : stepF n s t s' t' f g with
    | none => rw [e] at h; cases h
    | some r =>
      obtain ⟨f1, g1, k⟩ := r
      obtain ⟨h1, h2, _⟩ := step_some e h16
      rw [e] at h
      simp only at h
      split at h
      · cases h; exact ⟨h1, h2⟩
      · exact ref_col h16 fuel k f1 g1 f' g' h1 h2 h
end
end Go.Pl

namespace Go.Pl
open Go

/-- A search that ends when there are enough. -/
theorem fold_lim {most n : Nat} {g : Nat → List (List Int)} {step : List (List Int) → Nat → List (List Int)} (h : ∀ out y, y < n → out.length ≤ most → step out y = if out.length < most then (out ++ g y).take most else out) (out : List (List Int)) (ho : out.length ≤ most) :
    ∀ x, x ≤ n → (List.range x).foldl step out = (out ++ (List.range x).flatMap g).take most
  | 0, _ => by simp [List.take_of_length_le ho]
  | x + 1, hx => by
    have ih := fold_lim h out ho x (by omega)
    rw [List.range_succ, List.foldl_append, ih, List.flatMap_append]
    show step _ x = _
    have hl : ((out ++ (List.range x).flatMap g).take most).length ≤ most := by rw [List.length_take]; omega
    rw [h _ _ (by omega) hl]
    have e : List.flatMap g [x] = g x := by simp
    rw [e]
    by_cases c : (out ++ (List.range x).flatMap g).length < most
    · rw [List.take_of_length_le (Nat.le_of_lt c), if_pos c, List.append_assoc]
    · have hn : ¬ ((out ++ (List.range x).flatMap g).take most).length < most := by rw [List.length_take]; omega
      rw [if_neg hn, ← List.append_assoc]
      exact (List.take_append_of_le_length (by omega)).symm

section
variable (n : Nat) (s : List (List Int)) (t : List Int) (s' : List (List Int)) (t' : List Int)
/-- y may go on with a list. -/
structure OkX (p : List Int) (y : Nat) : Prop where
  no : hasI p y = false
  t : t.getD p.length 0 = t'.getD y 0
  d : e2 s p.length p.length = e2 s' y y
  s : ∀ k, k < p.length → e2 s k p.length = e2 s' (p.getD k 0).toNat y
noncomputable def extX : Nat → List Int → List (List Int)
  | 0, p => [p]
  | d + 1, p => (List.range n).flatMap fun (y : Nat) => if bd (OkX s t s' t' p y) = true then extX d (p ++ [(y : Int)]) else []
/-- What a list has that begins an isomorphism. -/
structure ConsX (p : List Int) : Prop where
  q : QOk n p
  nd : p.Nodup
  t : ∀ i, i < p.length → t.getD i 0 = t'.getD (p.getD i 0).toNat 0
  s : ∀ i, i < p.length → ∀ k, k < p.length → e2 s i k = e2 s' (p.getD i 0).toNat (p.getD k 0).toNat
noncomputable def seekX (most : Nat) : Nat → List Int → List Int → List Int → List (List Int) → List (List Int)
  | 0, p, _, _, out => out ++ [p]
  | d + 1, p, c, m, out => (List.range n).foldl (fun out (y : Nat) => if out.length < most ∧ bd (OkX s t s' t' p y) = true ∧ c.getD p.length 0 = m.getD y 0 then (match refF n s t s' t' (2 * n + 2) 0 (c.set p.length 60) (m.set y 60) with
    | none => out
    | some (l, r) => seekX most d (p ++ [(y : Int)]) l r out) else out) out
end
section
variable {n : Nat} {s : List (List Int)} {t : List Int} {s' : List (List Int)} {t' : List Int}
theorem getD_snocL {p : List Int} {y : Nat} {k : Nat} (h : k < p.length) : (p ++ [(y : Int)]).getD k 0 = p.getD k 0 := by
  rw [List.getD_eq_getElem?_getD, List.getElem?_append_left h, ← List.getD_eq_getElem?_getD]
theorem getD_snocR {p : List Int} {y : Nat} : (p ++ [(y : Int)]).getD p.length 0 = (y : Int) := by
  rw [List.getD_eq_getElem?_getD, List.getElem?_append_right (Nat.le_refl _)]
  simp
/-- Both tables are symmetric. -/
def SymX (n : Nat) (s : List (List Int)) : Prop := ∀ i, i < n → ∀ j, j < n → e2 s i j = e2 s j i
theorem ConsX.snoc {p : List Int} {y : Nat} (hs : SymX n s) (hs' : SymX n s') (h : ConsX n s t s' t' p) (hl : p.length < n) (hy : y < n) (ho : OkX s t s' t' p y) : ConsX n s t s' t' (p ++ [(y : Int)]) := by
  have hlen : (p ++ [(y : Int)]).length = p.length + 1 := by simp
  refine ⟨h.q.app (QOk.one hy), nodup_snoc h.nd (by rw [ho.no]; decide), fun i hi => ?_, fun i hi k hk => ?_⟩
  · rw [hlen] at hi
    by_cases c : i < p.length
    · rw [getD_snocL c]; exact h.t i c
    · obtain rfl : i = p.length := by omega
      rw [getD_snocR, Int.toNat_natCast]; exact ho.t
  · rw [hlen] at hi hk
    by_cases c : i < p.length
    · by_cases c2 : k < p.length
      · rw [getD_snocL c, getD_snocL c2]; exact h.s i c k c2
      · obtain rfl : k = p.length := by omega
        rw [getD_snocL c, getD_snocR, Int.toNat_natCast]; exact ho.s i c
    · obtain rfl : i = p.length := by omega
      by_cases c2 : k < p.length
      · have hq := h.q k c2
        rw [getD_snocL c2, getD_snocR, Int.toNat_natCast, hs _ hl _ (by omega), hs' _ hy _ (by omega)]; exact ho.s k c2
      · obtain rfl : k = p.length := by omega
        rw [getD_snocR, Int.toNat_natCast]; exact ho.d
theorem ext_iso (hs : SymX n s) (hs' : SymX n s') : ∀ d p, p.length + d = n → ConsX n s t s' t' p → ∀ q ∈ extX n s t s' t' d p, IsoP n s t s' t' q ∧ ∀ k, k < p.length → q.getD k 0 = p.getD k 0
  | 0, p, hl, hc, q, hq => by
    simp only [extX, List.mem_singleton] at hq
    subst hq
    exact ⟨⟨⟨by omega, hc.q, hc.nd⟩, fun i hi => hc.t i (by omega), fun i hi k hk => hc.s i (by omega) k (by omega)⟩, fun _ _ => rfl⟩
  | d + 1, p, hl, hc, q, hq => by
    simp only [extX, List.mem_flatMap, List.mem_range] at hq
    obtain ⟨y, hy, hq⟩ := hq
    split at hq
    · rename_i ho
      have hk := hc.snoc hs hs' (by omega) hy (bd_iff.1 ho)
      obtain ⟨h1, h2⟩ := ext_iso hs hs' d (p ++ [(y : Int)]) (by simp; omega) hk q hq
      exact ⟨h1, fun k hk => by rw [h2 k (by simp; omega), getD_snocL hk]⟩
    · cases hq
theorem set_getD {xs : List Int} {i j : Nat} {v : Int} (h : i < xs.length) : (xs.set i v).getD j 0 = if j = i then v else xs.getD j 0 := by
  rw [List.getD_eq_getElem?_getD, List.getElem?_set]
  by_cases e : j = i
  · subst e; rw [if_pos rfl, if_pos rfl, if_pos h]; rfl
  · rw [if_neg (fun h => e h.symm), if_neg e, ← List.getD_eq_getElem?_getD]
theorem ColOk.set {c : List Int} {i : Nat} (h : ColOk n c) (hi : i < n) : ColOk n (c.set i 60) := by
  refine ⟨by rw [List.length_set, h.1], fun x hx => ?_⟩
  rw [set_getD (by rw [h.1]; exact hi)]
  split
  · omega
  · exact h.2 x hx
/-- Colours leave nothing out. -/
theorem seek_eq (hs : SymX n s) (hs' : SymX n s') (h16 : n ≤ 16) {most : Nat} : ∀ d p c m out, p.length + d = n → ConsX n s t s' t' p → ColOk n c → ColOk n m → (∀ q ∈ extX n s t s' t' d p, KP n c m q) → out.length ≤ most → (d = 0 → out.length < most) →
    seekX n s t s' t' most d p c m out = (out ++ extX n s t s' t' d p).take most
  | 0, p, c, m, out, hl, hc, h1, h2, hk, ho, h0 => by
    have := h0 rfl
    rw [seekX, extX, List.take_of_length_le (by simp; omega)]
  | d + 1, p, c, m, out, hl, hc, h1, h2, hk, ho, _ => by
    rw [seekX, extX]
    refine fold_lim (n := n) (fun out y hy hlo => ?_) out ho n (Nat.le_refl _)
    by_cases c1 : out.length < most
    · rw [if_pos c1]
      by_cases c2 : OkX s t s' t' p y
      · rw [if_pos (bd_true c2)]
        have hcs := hc.snoc hs hs' (by omega) hy c2
        have hin : ∀ q ∈ extX n s t s' t' d (p ++ [(y : Int)]), q ∈ extX n s t s' t' (d + 1) p := fun q hq => by
          simp only [extX, List.mem_flatMap, List.mem_range]
          exact ⟨y, hy, by rw [if_pos (bd_true c2)]; exact hq⟩
        have hiso := fun q hq => ext_iso hs hs' d (p ++ [(y : Int)]) (by simp; omega) hcs q hq
        have hqx : ∀ q ∈ extX n s t s' t' d (p ++ [(y : Int)]), q.getD p.length 0 = (y : Int) := fun q hq => by
          rw [(hiso q hq).2 p.length (by simp), getD_snocR]
        by_cases c3 : c.getD p.length 0 = m.getD y 0
        · rw [if_pos ⟨c1, bd_true c2, c3⟩]
          have hkq : ∀ q ∈ extX n s t s' t' d (p ++ [(y : Int)]), KP n (c.set p.length 60) (m.set y 60) q := fun q hq x hx => by
            have hp := (hiso q hq).1.p
            have hqq := hp.q x (by rw [hp.len]; exact hx)
            rw [set_getD (by rw [h1.1]; omega), set_getD (by rw [h2.1]; exact hy)]
            by_cases e : x = p.length
            · rw [if_pos e, if_pos (by rw [e, hqx q hq]; simp)]
            · rw [if_neg e, if_neg (fun h => e ?_)]
              · exact hk q (hin q hq) x hx
              · have g1 := (hp.pos_iff (u := y) hy hx).2 (by omega)
                have g2 := (hp.pos_iff (u := y) (x := p.length) hy (by omega)).2 (hqx q hq)
                omega
          cases hr : refF n s t s' t' (2 * n + 2) 0 (c.set p.length 60) (m.set y 60) with
          | none =>
            have he : extX n s t s' t' d (p ++ [(y : Int)]) = [] := by
              refine List.eq_nil_iff_forall_not_mem.2 fun q hq => ?_
              obtain ⟨f', g', e, _⟩ := ref_iso (hiso q hq).1 h16 (2 * n + 2) 0 _ _ (h1.set (by omega)) (h2.set hy) (hkq q hq)
              rw [hr] at e
              cases e
            rw [he]
            simp only [List.append_nil]
            rw [List.take_of_length_le hlo]
          | some lr =>
            obtain ⟨l, r⟩ := lr
            obtain ⟨g1, g2⟩ := ref_col h16 _ _ _ _ _ _ (h1.set (by omega)) (h2.set hy) hr
            exact seek_eq hs hs' h16 d _ l r out (by simp; omega) hcs g1 g2 (fun q hq => by
              obtain ⟨f', g', e, hK⟩ := ref_iso (hiso q hq).1 h16 (2 * n + 2) 0 _ _ (h1.set (by omega)) (h2.set hy) (hkq q hq)
              rw [hr] at e
              cases e
              exact hK) hlo (fun _ => c1)
        · rw [if_neg (fun h => c3 h.2.2)]
          have he : extX n s t s' t' d (p ++ [(y : Int)]) = [] := by
            refine List.eq_nil_iff_forall_not_mem.2 fun q hq => c3 ?_
            rw [hk q (hin q hq) p.length (by omega), hqx q hq, Int.toNat_natCast]
          rw [he, List.append_nil, List.take_of_length_le hlo]
      · rw [if_neg (fun h => c2 (bd_iff.1 h.2.1)), if_neg (by rw [bd_false c2]; decide), List.append_nil, List.take_of_length_le hlo]
    · rw [if_neg c1, if_neg (fun h => c1 h.1)]
end
end Go.Pl

namespace Go.Pl
open Go

/-- y may go on with a list, as the program asks. -/
structure OkI (s : List (List Int)) (t : List Int) (s' : List (List Int)) (t' : List Int) (p : List Int) (y : Nat) : Prop where
  no : hasI p y = false
  z : p.length = 0 ↔ y = 0
  t : t.getD p.length 0 = t'.getD y 0
  s : ∀ k, k ≤ p.length → e2 s p.length k = e2 s' y ((p ++ [(y : Int)]).getD k 0).toNat
noncomputable def symX (n : Nat) (s : List (List Int)) (t : List Int) : Nat → List Int → List (List Int) → List (List Int)
  | 0, p, out => out ++ [p]
  | d + 1, p, out => (List.range n).foldl (fun out (y : Nat) => if out.length ≤ 1000 ∧ bd (OkI s t s t p y) = true then symX n s t d (p ++ [(y : Int)]) out else out) out
noncomputable def extI (n : Nat) (s : List (List Int)) (t : List Int) (s' : List (List Int)) (t' : List Int) : Nat → List Int → List (List Int)
  | 0, p => [p]
  | d + 1, p => (List.range n).flatMap fun (y : Nat) => if bd (OkI s t s' t' p y) = true then extI n s t s' t' d (p ++ [(y : Int)]) else []
section
variable {n : Nat} {s : List (List Int)} {t : List Int} {s' : List (List Int)} {t' : List Int}
theorem symX_eq : ∀ d p out, out.length ≤ 1001 → (d = 0 → out.length < 1001) → symX n s t d p out = (out ++ extI n s t s t d p).take 1001
  | 0, p, out, _, h => by
    have := h rfl
    rw [symX, extI, List.take_of_length_le (by simp; omega)]
  | d + 1, p, out, ho, _ => by
    rw [symX, extI]
    refine fold_lim (n := n) (fun out y hy hlo => ?_) out ho n (Nat.le_refl _)
    by_cases c1 : out.length < 1001
    · rw [if_pos c1]
      by_cases c2 : bd (OkI s t s t p y) = true
      · rw [if_pos c2, if_pos ⟨by omega, c2⟩]
        exact symX_eq d _ out hlo (fun _ => c1)
      · rw [if_neg c2, if_neg (fun h => c2 h.2), List.append_nil, List.take_of_length_le hlo]
    · rw [if_neg c1, if_neg (fun h => c1 (by omega))]
theorem okI_iff (hs : SymX n s) (hs' : SymX n s') {p : List Int} {y : Nat} (hq : QOk n p) (hl : p.length < n) (hy : y < n) (h1 : 0 < p.length) (h0 : p.getD 0 0 = 0) : OkI s t s' t' p y ↔ OkX s t s' t' p y := by
  have hg : ∀ k, k < p.length → (p ++ [(y : Int)]).getD k 0 = p.getD k 0 := fun k hk => getD_snocL hk
  constructor
  · intro h
    refine ⟨h.no, h.t, ?_, fun k hk => ?_⟩
    · have := h.s p.length (Nat.le_refl _)
      rw [getD_snocR, Int.toNat_natCast] at this
      exact this
    · have := h.s k (by omega)
      have hqk := hq k hk
      rw [hg k hk] at this
      rw [hs k (by omega) _ hl, hs' _ (by omega) _ hy]
      exact this
  · intro h
    refine ⟨h.no, ⟨fun e => by omega, fun e => ?_⟩, h.t, fun k hk => ?_⟩
    · exfalso
      subst e
      have hm : ((0 : Nat) : Int) ∈ p := by
        rw [List.getD_eq_getElem?_getD, List.getElem?_eq_getElem h1] at h0
        have e : p[0] = 0 := h0
        have : p[0] ∈ p := List.getElem_mem _
        rw [e] at this
        exact this
      have := h.no
      rw [hasI_iff.2 hm] at this
      cases this
    · by_cases c : k < p.length
      · have hqk := hq k c
        rw [hg k c, hs _ hl _ (by omega), hs' _ hy _ (by omega)]
        exact h.s k c
      · obtain rfl : k = p.length := by omega
        rw [getD_snocR, Int.toNat_natCast]
        exact h.d
theorem flat_congr {α β : Type} {xs : List α} {f g : α → List β} (h : ∀ x ∈ xs, f x = g x) : xs.flatMap f = xs.flatMap g := by
  induction xs with
  | nil => rfl
  | cons x xs ih => rw [List.flatMap_cons, List.flatMap_cons, h x (by simp), ih (fun y hy => h y (by simp [hy]))]
theorem extI_eq (hs : SymX n s) (hs' : SymX n s') : ∀ d p, p.length + d = n → QOk n p → 0 < p.length → p.getD 0 0 = 0 → extI n s t s' t' d p = extX n s t s' t' d p
  | 0, p, _, _, _, _ => rfl
  | d + 1, p, hl, hq, h1, h0 => by
    rw [extI, extX]
    refine flat_congr fun y hy => ?_
    have hy := List.mem_range.1 hy
    have hi := okI_iff (t := t) (t' := t') hs hs' hq (by omega) hy h1 h0
    by_cases c : OkI s t s' t' p y
    · rw [if_pos (bd_true c), if_pos (bd_true (hi.1 c))]
      exact extI_eq hs hs' d _ (by simp; omega) (hq.app (QOk.one hy)) (by simp) (by rw [getD_snocL h1]; exact h0)
    · rw [if_neg (by rw [bd_false c]; decide), if_neg (by rw [bd_false (fun h => c (hi.2 h))]; decide)]
/-- The first point stays. -/
theorem extI_first (hs : SymX n s) (hs' : SymX n s') (h1 : 1 ≤ n) (ht : t.getD 0 0 = t'.getD 0 0) (h00 : e2 s 0 0 = e2 s' 0 0) : extI n s t s' t' n [] = extX n s t s' t' (n - 1) [0] := by
  obtain ⟨m, rfl⟩ : ∃ m, n = m + 1 := ⟨n - 1, by omega⟩
  rw [extI, Nat.add_sub_cancel]
  have h0 : OkI s t s' t' [] 0 := ⟨rfl, by simp, ht, fun k hk => by
    have : k = 0 := by simpa using hk
    subst this
    exact h00⟩
  have hno : ∀ y, y ≠ 0 → bd (OkI s t s' t' [] y) = false := fun y hy => bd_false fun h => hy (h.z.1 rfl)
  rw [List.range_succ_eq_map, List.flatMap_cons, if_pos (bd_true h0), List.flatMap_map]
  have : (List.range m).flatMap (fun a => if bd (OkI s t s' t' [] (a.succ)) = true then extI (m + 1) s t s' t' m ([] ++ [((a.succ : Nat) : Int)]) else []) = [] := by
    rw [List.flatMap_eq_nil_iff]
    intro a _
    rw [if_neg (by rw [hno _ (by omega)]; decide)]
  rw [this, List.append_nil]
  exact extI_eq hs hs' m _ (by simp; omega) (QOk.one (y := 0) (by omega)) (by simp) rfl
theorem extX_len : ∀ d p, p.length + d = n → ∀ q ∈ extX n s t s' t' d p, q.length = n
  | 0, p, hl, q, hq => by
    simp only [extX, List.mem_singleton] at hq
    subst hq
    omega
  | d + 1, p, hl, q, hq => by
    simp only [extX, List.mem_flatMap, List.mem_range] at hq
    obtain ⟨y, hy, hq⟩ := hq
    split at hq
    · exact extX_len d _ (by simp; omega) q hq
    · cases hq
/-- What the reference begins with. -/
theorem start_KP {f : List Int} (hf : f = (List.replicate n (0 : Int)).set 0 60) (h1 : 1 ≤ n) {q : List Int} (hq : IsP n q) (h0 : q.getD 0 0 = 0) : KP n f f q := fun x hx => by
  have hqx := hq.q x (by rw [hq.len]; exact hx)
  have hr : ∀ z, z < n → (List.replicate n (0 : Int)).getD z 0 = 0 := fun z hz => by
    rw [List.getD_eq_getElem?_getD, List.getElem?_eq_getElem (by simpa using hz)]
    simp
  rw [hf, set_getD (by simp; omega), set_getD (by simp; omega)]
  by_cases e : x = 0
  · subst e
    rw [if_pos rfl, if_pos (by rw [h0]; rfl)]
  · rw [if_neg e, if_neg (fun h => e ?_), hr x hx, hr _ (by omega)]
    have g1 := (hq.pos_iff (u := 0) (x := x) (by omega) hx).2 (by omega)
    have g2 := (hq.pos_iff (u := 0) (x := 0) (by omega) (by omega)).2 (by rw [h0]; rfl)
    omega
theorem start_ok {f : List Int} (hf : f = (List.replicate n (0 : Int)).set 0 60) (h1 : 1 ≤ n) : ColOk n f := by
  refine ⟨by rw [hf]; simp, fun x hx => ?_⟩
  have hr : (List.replicate n (0 : Int)).getD x 0 = 0 := by
    rw [List.getD_eq_getElem?_getD, List.getElem?_eq_getElem (by simpa using hx)]
    simp
  rw [hf, set_getD (by simp; omega)]
  split
  · omega
  · rw [hr]; omega
end
end Go.Pl
