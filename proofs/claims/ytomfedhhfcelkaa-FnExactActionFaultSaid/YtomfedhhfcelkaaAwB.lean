/-
  What an operation that leaves memory alone yields, abstractly ('AVal'), and that the model's run of it yields a value that stands for just that. Of no program.
-/
import Derived.Test.YtomfedhhfcelkaaAwA
set_option linter.unusedSimpArgs false
set_option linter.unusedVariables false
namespace Go.Aw
open Go.RowKit

/-! ### Types, as far as the operations ask -/
inductive TK where
  | int | ik (k : IntKind) | bool | str | sl (e : Nat) | st (fs : List (Nat × Nat)) (sz : Nat) | cell | other
  deriving Inhabited

def tkOf (P : Program) (t : TypeId) : TK :=
  match P.underlying t with
  | some (.int .i64) => .int
  | some (.int k) => .ik k
  | some .bool => .bool
  | some .string => .str
  | some (.slice e) => if P.cellsOf e = 1 then .sl e else .other
  | some (.struct fs) => .st (fs.toList.map fun f => (f.offset, P.cellsOf f.type)) (P.cellsOf t)
  | some (.array ..) => .other
  | none => .other
  | some _ => .cell

theorem tk_sl {P : Program} {t e : Nat} (h : tkOf P t = .sl e) : P.underlying t = some (.slice e) ∧ P.cellsOf e = 1 := by
  unfold tkOf at h
  split at h <;> first | (cases h; done) | skip
  rename_i e' he
  split at h
  · rename_i h1; cases h; exact ⟨he, h1⟩
  · cases h
theorem tk_st {P : Program} {t : Nat} {fs : List (Nat × Nat)} {sz : Nat} (h : tkOf P t = .st fs sz) :
    ∃ gs : Array Field, P.underlying t = some (.struct gs) ∧ fs = gs.toList.map (fun f => (f.offset, P.cellsOf f.type)) ∧ sz = P.cellsOf t := by
  unfold tkOf at h
  split at h <;> first | (cases h; done) | skip
  · split at h <;> cases h
  · rename_i gs hgs; cases h; exact ⟨gs, hgs, rfl, rfl⟩
theorem tk_str {P : Program} {t : Nat} (h : tkOf P t = .str) : P.underlying t = some .string := by
  unfold tkOf at h
  split at h <;> first | (cases h; done) | skip
  · assumption
  · split at h <;> cases h
theorem tk_int {P : Program} {t : Nat} (h : tkOf P t = .int) : P.underlying t = some (.int .i64) := by
  unfold tkOf at h
  split at h <;> first | (cases h; done) | skip
  · assumption
  · split at h <;> cases h
theorem tk_ik {P : Program} {t : Nat} {k : IntKind} (h : tkOf P t = .ik k) : P.underlying t = some (.int k) := by
  unfold tkOf at h
  split at h <;> first | (cases h; done) | skip
  · cases h; assumption
  · split at h <;> cases h
theorem tk_bool {P : Program} {t : Nat} (h : tkOf P t = .bool) : P.underlying t = some .bool := by
  unfold tkOf at h
  split at h <;> first | (cases h; done) | skip
  · assumption
  · split at h <;> cases h

/-- The types that one cell holds. -/
def TK.one : TK → Bool
  | .st .. | .other => false
  | _ => true

theorem tk_one {P : Program} {t : Nat} (h : (tkOf P t).one = true) (w : World) : (isAgg t).run P w = .ok false w := by
  have hx : ∃ d, P.underlying t = some d ∧ (∀ f, d ≠ .struct f) ∧ (∀ n e, d ≠ .array n e) := by
    unfold tkOf at h
    split at h <;> first | (simp [TK.one] at h; done) | skip
    all_goals refine ⟨_, ‹_›, ?_, ?_⟩
    all_goals (intros; first | (intro hh; cases hh; done) | (intro hh; rename_i h6 h7 _ _; exact h6 _ hh) | skip)
    all_goals (intro hh; simp_all)
  obtain ⟨d, hd, h1, h2⟩ := hx
  simp only [isAgg, Sem.run_bind, run_underlying hd, Result.andThen_ok]
  cases d <;> first | rfl | exact absurd rfl (h1 _) | exact absurd rfl (h2 _ _)

theorem cells_info {P : Program} {e n : Nat} (h : P.cellsOf e = n + 1) (w : World) : (sizeOf e).run P w = .ok (n + 1) w := by
  unfold Program.cellsOf at h
  cases hi : P.info? e with
  | none => rw [hi] at h; simp at h
  | some i =>
    rw [hi] at h
    simp at h
    simp [sizeOf, typeInfo, hi, h]

/-! ### Looking into abstract values -/
theorem find_mem {id : Nat} {t : Tree} : ∀ {H : List (Nat × Tree)}, find H id = some t → (id, t) ∈ H
  | [], h => by simp [find] at h
  | (k, t') :: r, h => by
    simp only [find] at h
    split at h
    · rename_i hk; cases h; subst hk; exact List.mem_cons_self ..
    · exact List.mem_cons_of_mem _ (find_mem h)

def strip : AV → AV
  | .when _ v => v
  | v => v
def okG (γ : Bool) : AV → Prop
  | .when g _ => γ = true → g = true
  | _ => True
def boolOf : AV → Option (Bool × Bool)
  | .bool b => some (true, b)
  | .when g (.bool b) => some (g, b)
  | _ => none

def elemsOf : AV → Option (Nat × (Nat → AV))
  | .l1 xs => some (xs.length, fun i => .int (xs.getD i 0))
  | .l2 xss => some (xss.length, fun i => .l1 (xss.getD i []))
  | .l3 xsss => some (xsss.length, fun i => .l2 (xsss.getD i []))
  | .lv vs => some (vs.length, fun i => vs.getD i .junk)
  | _ => none

def elemsT (H : List (Nat × Tree)) (id : Nat) (path : List Nat) : Option (Nat × (Nat → AV)) :=
  match find H id, path with
  | some (.t1 xs), [] => some (xs.length, fun i => .int (xs.getD i 0))
  | some (.t2 xss), [] => some (xss.length, fun i => .ref id [i])
  | some (.t2 xss), [i] => some ((xss.getD i []).length, fun j => .int ((xss.getD i []).getD j 0))
  | some (.t3 x), [] => some (x.length, fun i => .ref id [i])
  | some (.t3 x), [i] => some ((x.getD i []).length, fun j => .ref id [i, j])
  | some (.t3 x), [i, j] => some (((x.getD i []).getD j []).length, fun k => .int (((x.getD i []).getD j []).getD k 0))
  | some (.r2 xss), [] => some (xss.length, fun i => .l1 (xss.getD i []))
  | some (.r3 x), [] => some (x.length, fun i => .l2 (x.getD i []))
  | some (.lv vs), [] => some (vs.length, fun i => vs.getD i .junk)
  | _, _ => none

theorem rep_int {m : Mem} {n : Int} (h : InR n) : rep m (.int n) (.int .i64 n) := by simp [rep, h]
theorem ints_get {xs : List Int} {i : Nat} {u : Value} (h : (ints xs)[i]? = some u) : u = .int .i64 (xs.getD i 0) ∧ i < xs.length := by
  simp only [ints, List.getElem?_map, Option.map_eq_some_iff] at h
  obtain ⟨x, hx, rfl⟩ := h
  have hl : i < xs.length := (List.getElem?_eq_some_iff.1 hx).1
  exact ⟨by simp [List.getD, hx], hl⟩
theorem ints_some {xs : List Int} {i : Nat} (h : i < xs.length) : (ints xs)[i]? = some (.int .i64 (xs.getD i 0)) := by
  simp [ints, List.getD, h]
theorem ints_length (xs : List Int) : (ints xs).length = xs.length := by simp [ints]
theorem getD_some {α : Type} {l : List α} {i : Nat} {d : α} (h : i < l.length) : l[i]? = some (l.getD i d) := by simp [List.getD, h]
theorem getD_mem {α : Type} {l : List α} {i : Nat} {d : α} (h : i < l.length) : l.getD i d ∈ l := by
  have : l.getD i d = l[i] := by simp [List.getD, h]
  rw [this]; exact List.getElem_mem h

/-- A slice that is only read: where its elements lie. -/
theorem elems_rep {m : Mem} {av : AV} {n : Nat} {f : Nat → AV} {v : Value} (he : elemsOf av = some (n, f)) (h : rep m av v) :
    ∃ us, SlC m.w m.S us v ∧ us.length = n ∧ ∀ i u, us[i]? = some u → rep m (f i) u := by
  match av, he with
  | .l1 xs, he =>
    simp only [elemsOf, Option.some.injEq, Prod.mk.injEq] at he
    obtain ⟨rfl, rfl⟩ := he
    simp only [rep] at h
    refine ⟨_, h.1, ints_length _, fun i u hu => ?_⟩
    obtain ⟨rfl, hl⟩ := ints_get hu
    exact rep_int (h.2 _ (getD_mem hl))
  | .l2 xs, he =>
    simp only [elemsOf, Option.some.injEq, Prod.mk.injEq] at he
    obtain ⟨rfl, rfl⟩ := he
    simp only [rep] at h
    obtain ⟨us, h1, h2⟩ := h
    refine ⟨us, h1, h2.length.symm, fun i u hu => ?_⟩
    have hl : i < xs.length := by rw [h2.length]; exact (List.getElem?_eq_some_iff.1 hu).1
    obtain ⟨b, hb, hr⟩ := h2.get i _ (getD_some (d := []) hl)
    rw [hu] at hb; cases hb
    simpa only [rep] using hr
  | .l3 xs, he =>
    simp only [elemsOf, Option.some.injEq, Prod.mk.injEq] at he
    obtain ⟨rfl, rfl⟩ := he
    simp only [rep] at h
    obtain ⟨us, h1, h2⟩ := h
    refine ⟨us, h1, h2.length.symm, fun i u hu => ?_⟩
    have hl : i < xs.length := by rw [h2.length]; exact (List.getElem?_eq_some_iff.1 hu).1
    obtain ⟨b, hb, hr⟩ := h2.get i _ (getD_some (d := []) hl)
    rw [hu] at hb; cases hb
    simpa only [rep] using hr
  | .lv vs, he =>
    simp only [elemsOf, Option.some.injEq, Prod.mk.injEq] at he
    obtain ⟨rfl, rfl⟩ := he
    simp only [rep] at h
    obtain ⟨us, h1, h2⟩ := h
    rw [reps_all2] at h2
    refine ⟨us, h1, h2.length.symm, fun i u hu => ?_⟩
    have hl : i < vs.length := by rw [h2.length]; exact (List.getElem?_eq_some_iff.1 hu).1
    obtain ⟨b, hb, hr⟩ := h2.get i _ (getD_some (d := .junk) hl)
    rw [hu] at hb; cases hb
    exact hr
  | .int _, he | .ik _ _, he | .bool _, he | .str _, he | .nil, he | .nilfn, he | .agg _, he | .tup _, he | .fn _ _, he | .eptr _ _, he | .cptr _ _, he
  | .ref _ _, he | .sub _ _ _ _, he | .eref _ _ _, he | .bptr _ _, he | .when _ _, he | .junk, he => simp [elemsOf] at he

theorem OwnSl.cell {w : World} {fp : List Nat} {us : List Value} {v : Value} (h : OwnSl w fp us v) :
    (v = .slice none 0 0 ∧ us = []) ∨ ∃ b off cap, v = .slice (some ⟨b, off, none⟩) us.length cap ∧ fp = [b] ∧ us.length ≤ cap ∧ cap ≤ maxLen ∧ ∀ i u, us[i]? = some u → w.cell? ⟨b, off + i, none⟩ = some u := by
  rcases h with ⟨h1, h2, _⟩ | ⟨b, off, cap, c, E, h1, h2, h3, h4, h5, h6, h7⟩
  · exact .inl ⟨h1, h2⟩
  · refine .inr ⟨b, off, cap, h1, h2, h5, h6, fun i u hu => ?_⟩
    simp [World.cell?, h3, h7 i u hu]

theorem pathV_cons {w : World} {b off n cap i : Nat} {p : List Nat} {u : Value} (hi : i < n) (hc : w.cell? ⟨b, off + i, none⟩ = some u) :
    pathV w (.slice (some ⟨b, off, none⟩) n cap) (i :: p) = pathV w u p := by
  simp [pathV, hi, hc]

theorem pathV_cons_inv {w : World} {v u : Value} {i : Nat} {p : List Nat} (h : pathV w v (i :: p) = some u) :
    ∃ b off n cap x, v = .slice (some ⟨b, off, none⟩) n cap ∧ i < n ∧ w.cell? ⟨b, off + i, none⟩ = some x ∧ pathV w x p = some u := by
  match v, h with
  | .slice (some ⟨b, off, none⟩) n c, h =>
    simp only [pathV] at h
    split at h
    · rename_i hi
      cases hc : w.cell? ⟨b, off + i, none⟩ with
      | none => rw [hc] at h; simp at h
      | some x => rw [hc] at h; exact ⟨b, off, n, c, x, rfl, hi, hc, by simpa using h⟩
    · cases h
  | .slice (some ⟨b, off, some s⟩) n c, h => simp [pathV] at h
  | .slice none n c, h => simp [pathV] at h
  | .bool _, h | .int _ _, h | .float _ _, h | .complex _ _ _, h | .string _, h | .pointer _, h | .map _, h | .chan _, h | .func _ _ _, h | .nilFunc, h | .iface _ _, h | .nilIface, h | .agg _, h | .tuple _, h => simp [pathV] at h

/-- The same at any path: the rows, one by one, from the root on. -/
theorem OwnSl.row {w : World} {fp : List Nat} {us : List Value} {v u : Value} {i : Nat} {p : List Nat} (h : OwnSl w fp us v) (hp : pathV w v (i :: p) = some u) :
    ∃ x, us[i]? = some x ∧ pathV w x p = some u := by
  obtain ⟨b, off, n, cap, x, rfl, hi, hc, hx⟩ := pathV_cons_inv hp
  rcases h.cell with ⟨h1, _⟩ | ⟨b', off', cap', h1, _, _, _, h4⟩
  · cases h1
  · cases h1
    have hs : us[i]? = some us[i] := by simp [hi]
    have := h4 i _ hs
    rw [hc] at this
    cases this
    exact ⟨_, hs, hx⟩

/-- An owned slice at the end of a path: its elements. -/
theorem elemsT_rep {cx : Cx} {H : List (Nat × Tree)} {w : World} {ι : Nat → Value} {F : Nat → List Nat} (ho : Owns cx H w ι F) {id : Nat} {path : List Nat} {n : Nat} {f : Nat → AV} {v : Value}
    (he : elemsT H id path = some (n, f)) (h : pathV w (ι id) path = some v) :
    ∃ us fp, OwnSl w fp us v ∧ us.length = n ∧ (∀ i u, us[i]? = some u → rep (mem cx w H ι F) (f i) u) ∧ (∀ b ∈ fp, b ∈ foot H F) := by
  have href : ∀ {t : Tree} (ht : find H id = some t) {q : List Nat} {us : List Value} {fp : List Nat} {u' : Value} (hq : pathV w (ι id) q = some u') (hown : OwnSl w fp us u') (i : Nat) (u : Value), livePath (some t) (q ++ [i]) = true → us[i]? = some u → rep (mem cx w H ι F) (.ref id (q ++ [i])) u := by
    intro t ht q us fp u' hq hown i u hlive hu
    simp only [rep, mem]
    refine ⟨by rw [ht]; exact hlive, ?_⟩
    have key : ∀ (q : List Nat) (v0 : Value), pathV w v0 q = some u' → pathV w v0 (q ++ [i]) = some u := by
      intro q
      induction q with
      | nil =>
        intro v0 h0
        simp only [pathV, Option.some.injEq] at h0
        subst h0
        rcases hown.cell with ⟨_, h2⟩ | ⟨b, off, cap, h1, _, _, _, h4⟩
        · subst h2; simp at hu
        · rw [h1, List.nil_append, pathV_cons (List.getElem?_eq_some_iff.1 hu).1 (h4 i u hu)]
          simp [pathV]
      | cons j q ih =>
        intro v0 h0
        obtain ⟨b, off, n, cap, x, rfl, hj, hc, hx⟩ := pathV_cons_inv h0
        rw [List.cons_append, pathV_cons hj hc]
        exact ih x hx
    exact key q _ hq
  unfold elemsT at he
  split at he <;> first | (cases he; done) | skip
  all_goals (rename_i hf; have ht := ho.trees _ (find_mem hf); simp only [treeRep, mem] at ht; simp only [Option.some.injEq, Prod.mk.injEq] at he; obtain ⟨rfl, rfl⟩ := he)
  · -- t1
    simp only [pathV, Option.some.injEq] at h; subst h
    refine ⟨_, _, ht.1, ints_length _, fun i u hu => ?_, fun b hb => foot_mem (find_mem hf) hb⟩
    obtain ⟨rfl, hl⟩ := ints_get hu
    exact rep_int (ht.2 _ (getD_mem hl))
  · -- t2 []
    obtain ⟨us, f0, fs, h1, h2, h3⟩ := ht
    have hq := h
    simp only [pathV, Option.some.injEq] at h; subst h
    exact ⟨us, f0, h1, (h2.length.2).symm, fun i u hu => href hf (q := []) rfl h1 i u rfl hu, fun b hb => foot_mem (find_mem hf) (by simp [h3, hb])⟩
  · -- t2 [i]
    obtain ⟨us, f0, fs, h1, h2, h3⟩ := ht
    obtain ⟨x, hx, hp⟩ := h1.row h
    simp only [pathV, Option.some.injEq] at hp; subst hp
    rename_i xss i
    have hl : i < xss.length := by rw [h2.length.2]; exact (List.getElem?_eq_some_iff.1 hx).1
    obtain ⟨a, c, ha, hc, hr⟩ := h2.get i _ (getD_some (d := []) hl)
    rw [hx] at hc; cases hc
    refine ⟨_, a, hr.1, ints_length _, fun j u hu => ?_, fun b hb => foot_mem (find_mem hf) (by simp only [h3, List.mem_append, List.mem_flatten]; exact .inr ⟨a, List.mem_of_getElem? ha, hb⟩)⟩
    obtain ⟨rfl, hl⟩ := ints_get hu
    exact rep_int (hr.2 _ (getD_mem hl))
  · -- t3 []
    obtain ⟨us, f0, fs, h1, h2, h3⟩ := ht
    simp only [pathV, Option.some.injEq] at h; subst h
    exact ⟨us, f0, h1, (h2.length.2).symm, fun i u hu => href hf (q := []) rfl h1 i u rfl hu, fun b hb => foot_mem (find_mem hf) (by simp [h3, hb])⟩
  · -- t3 [i]
    obtain ⟨us, f0, fs, h1, h2, h3⟩ := ht
    have hq := h
    obtain ⟨x, hx, hp⟩ := h1.row h
    simp only [pathV, Option.some.injEq] at hp; subst hp
    rename_i xss i
    have hl : i < xss.length := by rw [h2.length.2]; exact (List.getElem?_eq_some_iff.1 hx).1
    obtain ⟨a, c, ha, hc, hr⟩ := h2.get i _ (getD_some (d := []) hl)
    rw [hx] at hc; cases hc
    obtain ⟨us', g0, gs, k1, k2, k3⟩ := hr
    exact ⟨us', g0, k1, (k2.length.2).symm, fun j u hu => href hf (q := [i]) hq k1 j u rfl hu,
      fun b hb => foot_mem (find_mem hf) (by simp only [h3, List.mem_append, List.mem_flatten]; exact .inr ⟨a, List.mem_of_getElem? ha, by simp [k3, hb]⟩)⟩
  · -- t3 [i, j]
    obtain ⟨us, f0, fs, h1, h2, h3⟩ := ht
    obtain ⟨x, hx, hp⟩ := h1.row h
    rename_i xss i j
    have hl : i < xss.length := by rw [h2.length.2]; exact (List.getElem?_eq_some_iff.1 hx).1
    obtain ⟨a, c, ha, hc, hr⟩ := h2.get i _ (getD_some (d := []) hl)
    rw [hx] at hc; cases hc
    obtain ⟨us', g0, gs, k1, k2, k3⟩ := hr
    obtain ⟨y, hy, hp'⟩ := k1.row hp
    simp only [pathV, Option.some.injEq] at hp'; subst hp'
    have hl' : j < (xss.getD i []).length := by rw [k2.length.2]; exact (List.getElem?_eq_some_iff.1 hy).1
    obtain ⟨a', c', ha', hc', hr'⟩ := k2.get j _ (getD_some (d := []) hl')
    rw [hy] at hc'; cases hc'
    refine ⟨_, a', hr'.1, ints_length _, fun k u hu => ?_, fun b hb => foot_mem (find_mem hf) (by
      simp only [h3, List.mem_append, List.mem_flatten]
      exact .inr ⟨a, List.mem_of_getElem? ha, by simp only [k3, List.mem_append, List.mem_flatten]; exact .inr ⟨a', List.mem_of_getElem? ha', hb⟩⟩)⟩
    obtain ⟨rfl, hl⟩ := ints_get hu
    exact rep_int (hr'.2 _ (getD_mem hl))
  · -- r2
    obtain ⟨us, h1, h2⟩ := ht
    simp only [pathV, Option.some.injEq] at h; subst h
    refine ⟨us, _, h1, h2.length.symm, fun i u hu => ?_, fun b hb => foot_mem (find_mem hf) hb⟩
    rename_i xs
    have hl : i < xs.length := by rw [h2.length]; exact (List.getElem?_eq_some_iff.1 hu).1
    obtain ⟨b, hb, hr⟩ := h2.get i _ (getD_some (d := []) hl)
    rw [hu] at hb; cases hb
    simpa only [rep, mem] using hr
  · -- r3
    obtain ⟨us, h1, h2⟩ := ht
    simp only [pathV, Option.some.injEq] at h; subst h
    refine ⟨us, _, h1, h2.length.symm, fun i u hu => ?_, fun b hb => foot_mem (find_mem hf) hb⟩
    rename_i xs
    have hl : i < xs.length := by rw [h2.length]; exact (List.getElem?_eq_some_iff.1 hu).1
    obtain ⟨b, hb, hr⟩ := h2.get i _ (getD_some (d := []) hl)
    rw [hu] at hb; cases hb
    simpa only [rep, mem] using hr
  · -- lv
    obtain ⟨us, h1, h2⟩ := ht
    simp only [pathV, Option.some.injEq] at h; subst h
    rw [reps_all2] at h2
    refine ⟨us, _, h1, h2.length.symm, fun i u hu => ?_, fun b hb => foot_mem (find_mem hf) hb⟩
    rename_i xs
    have hl : i < xs.length := by rw [h2.length]; exact (List.getElem?_eq_some_iff.1 hu).1
    obtain ⟨b, hb, hr⟩ := h2.get i _ (getD_some (d := .junk) hl)
    rw [hu] at hb; cases hb
    exact hr

end Go.Aw
