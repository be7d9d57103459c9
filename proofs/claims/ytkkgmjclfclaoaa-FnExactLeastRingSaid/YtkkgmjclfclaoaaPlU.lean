import Derived.Test.YtkkgmjclfclaoaaPlR
set_option linter.unusedSimpArgs false
set_option linter.unusedVariables false
namespace Go.Pl
open Go.Aw
def hasI (p : List Int) (x : Nat) : Bool := p.any fun y => decide (y = (x : Int))
def ordS {σ : Type} (vis : List Int → σ → σ) (n : Nat) : Nat → List Int → σ → σ
  | 0, p, s => vis p s
  | d + 1, p, s => (List.range n).foldl (fun s x => if hasI p x = true then s else ordS vis n d (p ++ [(x : Int)]) s) s
def ordF {σ : Type} (vis : List Int → σ → σ) (n d : Nat) (p : List Int) (s : σ) (x : Nat) : σ := (List.range x).foldl (fun s x => if hasI p x = true then s else ordS vis n d (p ++ [(x : Int)]) s) s
theorem ordS_succ {σ : Type} {vis : List Int → σ → σ} {n d : Nat} {p : List Int} {s : σ} : ordS vis n (d + 1) p s = ordF vis n d p s n := rfl
theorem ordF_zero {σ : Type} {vis : List Int → σ → σ} {n d : Nat} {p : List Int} {s : σ} : ordF vis n d p s 0 = s := rfl
theorem ordF_step {σ : Type} {vis : List Int → σ → σ} {n d : Nat} {p : List Int} {s : σ} {x : Nat} : ordF vis n d p s (x + 1) = if hasI p x = true then ordF vis n d p s x else ordS vis n d (p ++ [(x : Int)]) (ordF vis n d p s x) := by
  unfold ordF
  rw [List.range_succ, List.foldl_append]
  rfl
theorem hasI_iff {p : List Int} {x : Nat} : hasI p x = true ↔ (x : Int) ∈ p := by
  unfold hasI
  rw [List.any_eq_true]
  constructor
  · rintro ⟨y, hy, e⟩
    have : y = (x : Int) := by simpa using e
    rw [← this]; exact hy
  · intro h
    exact ⟨_, h, by simp⟩
theorem nodup_snoc {p : List Int} {x : Nat} (h : p.Nodup) (hn : ¬ hasI p x = true) : (p ++ [(x : Int)]).Nodup := by
  rw [List.nodup_append]
  refine ⟨h, by simp, fun a ha b hb e => ?_⟩
  simp only [List.mem_singleton] at hb
  subst hb
  subst e
  exact hn (hasI_iff.2 ha)
theorem ordS_keep {σ : Type} {vis : List Int → σ → σ} {n : Nat} {G : σ → Prop} (hG : ∀ p s, p.length = n → QOk n p → p.Nodup → G s → G (vis p s)) : ∀ d p s, p.length + d = n → QOk n p → p.Nodup → G s → G (ordS vis n d p s)
  | 0, p, s, hl, hq, hn, h => hG p s (by omega) hq hn h
  | d + 1, p, s, hl, hq, hn, h => by
    have key : ∀ (l : List Nat), (∀ x ∈ l, x < n) → ∀ s, G s → G (l.foldl (fun s x => if hasI p x = true then s else ordS vis n d (p ++ [(x : Int)]) s) s) := by
      intro l
      induction l with
      | nil => intro _ s h; exact h
      | cons x l ih =>
        intro hl2 s h
        rw [List.foldl_cons]
        refine ih (fun y hy => hl2 y (List.mem_cons_of_mem _ hy)) _ ?_
        split
        · exact h
        · rename_i hc
          exact ordS_keep hG d _ _ (by rw [List.length_append, List.length_cons, List.length_nil]; omega) (hq.app (QOk.one (hl2 x (List.mem_cons_self ..)))) (nodup_snoc hn hc) h
    exact key _ (fun x hx => List.mem_range.1 hx) s h
theorem ordF_keep {σ : Type} {vis : List Int → σ → σ} {n : Nat} {G : σ → Prop} (hG : ∀ p s, p.length = n → QOk n p → p.Nodup → G s → G (vis p s)) {d : Nat} {p : List Int} {s : σ} (hl : p.length + (d + 1) = n) (hq : QOk n p) (hn : p.Nodup) (h : G s) : ∀ x, x ≤ n → G (ordF vis n d p s x)
  | 0, _ => h
  | x + 1, hx => by
    have ih := ordF_keep hG hl hq hn h x (by omega)
    rw [ordF_step]
    split
    · exact ih
    · rename_i hc
      exact ordS_keep hG d _ _ (by rw [List.length_append, List.length_cons, List.length_nil]; omega) (hq.app (QOk.one (by omega))) (nodup_snoc hn hc) ih
end Go.Pl
