import Derived.Test.YtkkgmjclfclaoaaPlU
import Derived.Test.YtkkgmjclfclaoaaPlS
import Derived.Test.YtkkgmjclfclaoaaPlH
set_option linter.unusedSimpArgs false
set_option linter.unusedVariables false
namespace Go.Pl
open Go.Aw
def lexB {α : Type} [DecidableEq α] (lt : α → α → Bool) : List α → List α → Bool
  | a :: as, b :: bs => if a = b then lexB lt as bs else lt a b
  | _, _ => false
structure Tot {α : Type} (S : α → Prop) (lt : α → α → Bool) : Prop where
  irr : ∀ a, S a → lt a a = false
  tot : ∀ a b, S a → S b → lt a b = false → lt b a = false → a = b
  tr : ∀ a b c, S a → S b → S c → lt a b = true → lt b c = true → lt a c = true
def LS {α : Type} (S : α → Prop) (n : Nat) (l : List α) : Prop := l.length = n ∧ ∀ a ∈ l, S a
theorem LS.tail {α : Type} {S : α → Prop} {n : Nat} {a : α} {l : List α} (h : LS S (n + 1) (a :: l)) : S a ∧ LS S n l :=
  ⟨h.2 a (List.mem_cons_self ..), by have := h.1; simpa using this, fun b hb => h.2 b (List.mem_cons_of_mem _ hb)⟩
theorem LS.get {α : Type} {S : α → Prop} {n : Nat} {l : List α} (h : LS S n l) {d : α} {i : Nat} (hi : i < n) : S (l.getD i d) := by
  rw [List.getD_eq_getElem?_getD, List.getElem?_eq_getElem (by rw [h.1]; exact hi)]
  exact h.2 _ (List.getElem_mem _)
theorem lex_tot {α : Type} [DecidableEq α] {S : α → Prop} {lt : α → α → Bool} (h : Tot S lt) : ∀ n, Tot (LS S n) (lexB lt)
  | 0 => by
    have nil : ∀ a : List α, LS S 0 a → a = [] := fun a ha => List.eq_nil_of_length_eq_zero ha.1
    exact ⟨fun a ha => by rw [nil a ha]; rfl, fun a b ha hb _ _ => by rw [nil a ha, nil b hb], fun a b c ha hb _ h1 _ => by rw [nil a ha, nil b hb] at h1; cases h1⟩
  | n + 1 => by
    have ih := lex_tot h n
    refine ⟨fun a ha => ?_, fun a b ha hb h1 h2 => ?_, fun a b c ha hb hc h1 h2 => ?_⟩
    · cases a with
      | nil => rfl
      | cons x xs =>
        rw [lexB, if_pos rfl]
        exact ih.irr xs ha.tail.2
    · cases a with
      | nil => have := ha.1; simp at this
      | cons x xs =>
        cases b with
        | nil => have := hb.1; simp at this
        | cons y ys =>
          rw [lexB] at h1 h2
          by_cases e : x = y
          · subst e
            rw [if_pos rfl] at h1 h2
            rw [ih.tot xs ys ha.tail.2 hb.tail.2 h1 h2]
          · rw [if_neg e] at h1
            rw [if_neg (fun h => e h.symm)] at h2
            exact absurd (h.tot x y ha.tail.1 hb.tail.1 h1 h2) e
    · cases a with
      | nil => have := ha.1; simp at this
      | cons x xs =>
        cases b with
        | nil => have := hb.1; simp at this
        | cons y ys =>
          cases c with
          | nil => have := hc.1; simp at this
          | cons z zs =>
            rw [lexB] at h1 h2 ⊢
            by_cases e : x = y
            · subst e
              rw [if_pos rfl] at h1
              by_cases e2 : x = z
              · subst e2
                rw [if_pos rfl] at h2 ⊢
                exact ih.tr xs ys zs ha.tail.2 hb.tail.2 hc.tail.2 h1 h2
              · rw [if_neg e2] at h2 ⊢
                exact h2
            · rw [if_neg e] at h1
              by_cases e2 : y = z
              · subst e2
                rw [if_neg e]
                exact h1
              · rw [if_neg e2] at h2
                have h3 := h.tr x y z ha.tail.1 hb.tail.1 hc.tail.1 h1 h2
                have e3 : x ≠ z := fun e3 => by
                  subst e3
                  rw [h.irr x ha.tail.1] at h3
                  cases h3
                rw [if_neg e3]
                exact h3
def lt0 (x y : Int) : Bool := decide (x < y)
theorem tot0 : Tot (fun _ : Int => True) lt0 := ⟨fun a _ => by simp [lt0], fun a b _ _ h1 h2 => by simp [lt0] at h1 h2; omega, fun a b c _ _ _ h1 h2 => by simp [lt0] at h1 h2 ⊢; omega⟩
def lt1 : List Int → List Int → Bool := lexB lt0
def lt2 : List (List Int) → List (List Int) → Bool := lexB lt1
def lt3 : List (List (List Int)) → List (List (List Int)) → Bool := lexB lt2
def Sh (k n : Nat) : List (List (List Int)) → Prop := LS (LS (LS (fun _ => True) n) n) k
theorem tot3L (k n : Nat) : Tot (Sh k n) lt3 := lex_tot (lex_tot (lex_tot tot0 n) n) k
theorem tot_le {α : Type} {S : α → Prop} {lt : α → α → Bool} (h : Tot S lt) {a b c : α} (ha : S a) (hb : S b) (hc : S c) (h1 : lt b a = false) (h2 : lt c b = false) : lt c a = false := by
  cases h3 : lt c a with
  | false => rfl
  | true =>
    cases h4 : lt a b with
    | true => rw [h.tr c a b hc ha hb h3 h4] at h2; cases h2
    | false =>
      have := h.tot a b ha hb h4 h1
      subst this
      rw [h3] at h2; cases h2
def better {α : Type} (lt : α → α → Bool) (m c : α) : α := if lt c m = true then c else m
structure IsP (n : Nat) (p : List Int) : Prop where
  len : p.length = n
  q : QOk n p
  nd : p.Nodup
def permsF (n : Nat) : Nat → List Int → List (List Int)
  | 0, p => [p]
  | d + 1, p => (List.range n).flatMap (fun x => if hasI p x = true then [] else permsF n d (p ++ [(x : Int)]))
theorem fold_flat {σ : Type} {vis : List Int → σ → σ} {n d : Nat} {p : List Int} (ih : ∀ p s, ordS vis n d p s = (permsF n d p).foldl (fun s q => vis q s) s) : ∀ (l : List Nat) (s : σ),
    l.foldl (fun s x => if hasI p x = true then s else ordS vis n d (p ++ [(x : Int)]) s) s = (l.flatMap (fun x => if hasI p x = true then [] else permsF n d (p ++ [(x : Int)]))).foldl (fun s q => vis q s) s
  | [], _ => rfl
  | x :: l, s => by
    rw [List.foldl_cons, List.flatMap_cons, List.foldl_append, fold_flat ih l]
    congr 1
    split
    · rfl
    · exact ih _ _
theorem ordS_fold {σ : Type} {vis : List Int → σ → σ} {n : Nat} : ∀ d p (s : σ), ordS vis n d p s = (permsF n d p).foldl (fun s q => vis q s) s
  | 0, _, _ => rfl
  | d + 1, p, s => fold_flat (fun p s => ordS_fold d p s) _ s
theorem perms_isP {n : Nat} : ∀ d p, p.length + d = n → QOk n p → p.Nodup → ∀ q ∈ permsF n d p, IsP n q
  | 0, p, hl, hq, hn, q, h => by
    simp only [permsF, List.mem_singleton] at h
    subst h
    exact ⟨by omega, hq, hn⟩
  | d + 1, p, hl, hq, hn, q, h => by
    simp only [permsF, List.mem_flatMap, List.mem_range] at h
    obtain ⟨x, hx, h⟩ := h
    split at h
    · simp at h
    · rename_i hc
      exact perms_isP d _ (by rw [List.length_append, List.length_cons, List.length_nil]; omega) (hq.app (QOk.one hx)) (nodup_snoc hn hc) q h
theorem isP_perms {n : Nat} {q : List Int} (h : IsP n q) : ∀ d, d ≤ n → q ∈ permsF n d (q.take (n - d))
  | 0, _ => by
    simp only [permsF, List.mem_singleton]
    rw [List.take_of_length_le (by rw [h.len]; omega)]
  | d + 1, hd => by
    have ih := isP_perms h d (by omega)
    have hk : n - (d + 1) < q.length := by rw [h.len]; omega
    have hb := h.q (n - (d + 1)) hk
    have eg : q.getD (n - (d + 1)) 0 = q[n - (d + 1)] := by rw [List.getD_eq_getElem?_getD, List.getElem?_eq_getElem hk]; rfl
    rw [eg] at hb
    have e1 : q.take (n - d) = q.take (n - (d + 1)) ++ [((q[n - (d + 1)]).toNat : Int)] := by
      have : n - d = n - (d + 1) + 1 := by omega
      rw [this, ← List.take_append_getElem hk]
      congr 2
      omega
    simp only [permsF, List.mem_flatMap, List.mem_range]
    refine ⟨(q[n - (d + 1)]).toNat, by omega, ?_⟩
    rw [if_neg ?_, ← e1]
    · exact ih
    · intro hc
      have h1 := hasI_iff.1 hc
      have h2 : (((q[n - (d + 1)]).toNat : Nat) : Int) = q[n - (d + 1)] := by omega
      rw [h2] at h1
      have h3 : (q.take (n - (d + 1)) ++ [q[n - (d + 1)]]).Nodup := by
        rw [List.take_append_getElem hk]
        exact h.nd.sublist (List.take_sublist _ _)
      rw [List.nodup_append] at h3
      exact h3.2.2 _ h1 _ (List.mem_singleton.2 rfl) rfl
theorem nodup_le : ∀ (n : Nat) (p : List Int), p.Nodup → (∀ x ∈ p, 0 ≤ x ∧ x < n) → p.length ≤ n
  | 0, p, _, h => by
    cases p with
    | nil => exact Nat.le_refl _
    | cons x _ => have := h x (List.mem_cons_self ..); omega
  | n + 1, p, hn, h => by
    have ih := nodup_le n (p.filter fun x => decide (x ≠ (n : Int))) (hn.sublist List.filter_sublist) (fun x hx => by
      have := List.mem_filter.1 hx
      have h2 := h x this.1
      have h3 := this.2
      simp at h3
      omega)
    have h2 : p.length ≤ (p.filter fun x => decide (x ≠ (n : Int))).length + 1 := by
      clear ih h
      induction p with
      | nil => simp
      | cons y ys ihy =>
        rw [List.nodup_cons] at hn
        have := ihy hn.2
        by_cases e : y = (n : Int)
        · subst e
          have hall : (ys.filter fun x => decide (x ≠ (n : Int))) = ys := by
            rw [List.filter_eq_self]
            intro z hz
            simp only [decide_eq_true_eq]
            exact fun e => hn.1 (e ▸ hz)
          rw [List.filter_cons_of_neg (by simp), hall]
          simp
        · rw [List.filter_cons_of_pos (by simp [e])]
          simp only [List.length_cons]
          omega
    omega
theorem QOk.mem {n : Nat} {p : List Int} (h : QOk n p) {x : Int} (hx : x ∈ p) : 0 ≤ x ∧ x < n := by
  obtain ⟨i, hi, rfl⟩ := List.getElem_of_mem hx
  have := h i hi
  rw [List.getD_eq_getElem?_getD, List.getElem?_eq_getElem hi] at this
  exact this
theorem IsP.all {n : Nat} {p : List Int} (h : IsP n p) {u : Nat} (hu : u < n) : (u : Int) ∈ p := by
  refine Classical.byContradiction fun hni => ?_
  have := nodup_le n ((u : Int) :: p) (List.nodup_cons.2 ⟨hni, h.nd⟩) (fun x hx => by
    rcases List.mem_cons.1 hx with rfl | hx
    · omega
    · exact h.q.mem hx)
  rw [List.length_cons, h.len] at this
  omega
def pos (p : List Int) (u : Nat) : Nat := (fidx (fun y => decide (y = (u : Int))) p).toNat
theorem IsP.pos_ok {n : Nat} {p : List Int} (h : IsP n p) {u : Nat} (hu : u < n) : pos p u < n ∧ p.getD (pos p u) 0 = u := by
  have hm := h.all hu
  obtain ⟨i, hi, e⟩ := List.getElem_of_mem hm
  have hany : p.any (fun y => decide (y = (u : Int))) = true := List.any_eq_true.2 ⟨_, hm, by simp⟩
  have h0 : 0 ≤ fidx (fun y => decide (y = (u : Int))) p := by
    have := fidx_any (p := fun y => decide (y = (u : Int))) (xs := p)
    rw [hany] at this
    simpa using this
  have h1 := (fidx_lt (p := fun y => decide (y = (u : Int))) (xs := p)).2
  have h2 := (fidx_at (d := 0) h0).1
  rw [h.len] at h1
  unfold pos
  exact ⟨by omega, by simpa using h2⟩
theorem nodup_getD {p : List Int} (h : p.Nodup) {i j : Nat} (hi : i < p.length) (hj : j < p.length) (e : p.getD i 0 = p.getD j 0) : i = j := by
  rw [List.getD_eq_getElem?_getD, List.getElem?_eq_getElem hi, List.getD_eq_getElem?_getD, List.getElem?_eq_getElem hj] at e
  exact (List.getElem_inj h).1 (by simpa using e)
theorem IsP.pos_iff {n : Nat} {p : List Int} (h : IsP n p) {u x : Nat} (hu : u < n) (hx : x < n) : pos p u = x ↔ p.getD x 0 = u := by
  obtain ⟨h1, h2⟩ := h.pos_ok hu
  constructor
  · intro e; rw [← e]; exact h2
  · intro e
    exact nodup_getD h.nd (by rw [h.len]; exact h1) (by rw [h.len]; exact hx) (by rw [h2, e])
def invL (n : Nat) (p : List Int) : List Int := (List.range n).map fun u => ((pos p u : Nat) : Int)
def reM (m : List (List Int)) (n : Nat) (p : List Int) : List (List Int) := matF n n (fun u v => e2 m (pos p u) (pos p v))
def reL (a : List (List (List Int))) (n : Nat) (p : List Int) (i : Nat) : List (List (List Int)) := (List.range i).map fun k => reM (a.getD k []) n p
def cmpV {α : Type} [DecidableEq α] (lt : α → α → Bool) (a b : α) : Int := if a = b then 0 else if lt a b = true then -1 else 1
theorem lex_diff {α : Type} [DecidableEq α] {d : α} {lt : α → α → Bool} : ∀ (i : Nat) (xs ys : List α), xs.take i = ys.take i → i < xs.length → i < ys.length → xs.getD i d ≠ ys.getD i d → xs ≠ ys ∧ lexB lt xs ys = lt (xs.getD i d) (ys.getD i d)
  | _, [], _, _, h, _, _ => by simp at h
  | _, _ :: _, [], _, _, h, _ => by simp at h
  | 0, x :: xs, y :: ys, _, _, _, hne => by
    simp only [List.getD_cons_zero] at hne ⊢
    exact ⟨fun e => hne (List.cons.inj e).1, by rw [lexB, if_neg hne]⟩
  | i + 1, x :: xs, y :: ys, ht, h1, h2, hne => by
    simp only [List.take_succ_cons, List.cons.injEq, List.getD_cons_succ, List.length_cons] at ht h1 h2 hne ⊢
    obtain ⟨rfl, ht⟩ := ht
    obtain ⟨a1, a2⟩ := lex_diff (lt := lt) i xs ys ht (by omega) (by omega) hne
    exact ⟨fun e => a1 (List.cons.inj e).2, by rw [lexB, if_pos rfl]; exact a2⟩
theorem cmp_diff {α : Type} [DecidableEq α] {d : α} {lt : α → α → Bool} {i : Nat} {xs ys : List α} (h : xs.take i = ys.take i) (h1 : i < xs.length) (h2 : i < ys.length) (hne : ¬ cmpV lt (xs.getD i d) (ys.getD i d) = 0) : cmpV (lexB lt) xs ys = cmpV lt (xs.getD i d) (ys.getD i d) := by
  have hn : xs.getD i d ≠ ys.getD i d := fun e => hne (by unfold cmpV; rw [if_pos e])
  obtain ⟨a1, a2⟩ := lex_diff (lt := lt) i xs ys h h1 h2 hn
  unfold cmpV
  rw [if_neg a1, if_neg hn, a2]
theorem cmp_zero {α : Type} [DecidableEq α] {lt : α → α → Bool} {a b : α} (h : cmpV lt a b = 0) : a = b := by
  unfold cmpV at h
  split at h
  · assumption
  · split at h <;> omega
theorem cmp_neg {α : Type} [DecidableEq α] {S : α → Prop} {lt : α → α → Bool} (h : Tot S lt) {a b : α} (ha : S a) : decide (cmpV lt a b < 0) = lt a b := by
  unfold cmpV
  by_cases e : a = b
  · subst e
    rw [if_pos rfl, h.irr a ha]; rfl
  · rw [if_neg e]
    cases lt a b <;> rfl
theorem cmpV_bd {α : Type} [DecidableEq α] {lt : α → α → Bool} {a b : α} : -1 ≤ cmpV lt a b ∧ cmpV lt a b ≤ 1 := by
  unfold cmpV
  split
  · omega
  · split <;> omega
def wS (m : List (List Int)) (n : Nat) (p : List Int) (j k : Nat) : List (List Int) := matF n n (fun u v => fillF (e2 m) j k (pos p u) (pos p v))
theorem matF_Sh {n : Nat} {f : Nat → Nat → Int} : LS (LS (fun _ => True) n) n (matF n n f) :=
  ⟨matF_length .., fun r hr => by
    simp only [matF, List.mem_map, List.mem_range] at hr
    obtain ⟨i, _, rfl⟩ := hr
    exact ⟨rowF_length .., fun _ _ => trivial⟩⟩
def visI (a : List (List (List Int))) (n : Nat) (p : List Int) (s : Option (List (List (List Int)))) : Option (List (List (List Int))) := match s with
  | none => some (reL a n p a.length)
  | some M => if lt3 (reL a n p a.length) M = true then some (reL a n p a.length) else some M
def visS (a : List (List (List Int))) (p : List Int) (M : List (List (List Int))) : List (List (List Int)) := if lt3 (paL a p a.length) M = true then paL a p a.length else M
def idP (n : Nat) : List Int := (List.range n).map fun (i : Nat) => (i : Int)
theorem idP_isP (n : Nat) : IsP n (idP n) := by
  refine ⟨by simp [idP], fun i hi => ?_, ?_⟩
  · simp only [idP, List.length_map, List.length_range] at hi
    have : (idP n).getD i 0 = i := by simp [idP, List.getD, hi]
    rw [this]; omega
  · unfold idP
    refine List.Pairwise.map _ (R := fun u v => u ≠ v) (fun u v huv e => huv (Int.ofNat.inj e)) (List.nodup_range (n := n))
def leastL (a : List (List (List Int))) (n : Nat) : List (List (List Int)) := ordS (visS a) n n [] (paL a (idP n) a.length)
noncomputable def laA (t a : List (List (List Int))) : AV := if isAct t a = true then (if (a.getD 0 []).length ≤ 7 then .tup [.agg [.l3 (leastL a (a.getD 0 []).length)], .int 0] else .tup [.agg [.nil], .int 3]) else .tup [.agg [.nil], .int 1]
end Go.Pl
