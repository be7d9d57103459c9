/-
  The soundness of 'AVal', operation by operation. Of no program.
-/
import Derived.Test.YtomfedhhfcelkaaAwD
set_option linter.unusedSimpArgs false
set_option linter.unusedVariables false
namespace Go.Aw
open Go.RowKit

theorem wrap_in {n : Int} (h : InR n) : IntKind.i64.wrap n = n := by
  obtain ⟨h1, h2⟩ := h
  simp only [IntKind.wrap, IntKind.bits, IntKind.signed]
  simp only [Bool.true_and, ge_iff_le, decide_eq_true_eq]
  split <;> omega

section
variable {P : Program} {cx : Cx} {H : List (Nat × Tree)} {w : World} {ι : Nat → Value} {F : Nat → List Nat}

theorem add_cell (b off i : Nat) : (⟨b, off, none⟩ : Addr).add i = ⟨b, off + i, none⟩ := by
  unfold Addr.add; split <;> simp_all

theorem index_run {t e : TypeId} (hk : tkOf P t = .sl e) {b off n cap : Nat} {k : Int} (h0 : 0 ≤ k) (h1 : k < n) :
    (Instr.indexAt t (.slice (some ⟨b, off, none⟩) n cap) (.int .i64 k)).run P w = .ok (.pointer (some ⟨b, off + k.toNat, none⟩)) w := by
  obtain ⟨h2, h3⟩ := tk_sl hk
  have hs := cells_info (P := P) (e := e) (n := 0) h3 w
  have hc : (0 ≤ k ∧ k < (n : Int)) := ⟨h0, h1⟩
  simp [Instr.indexAt, asIntOf, run_underlying h2, hc, hs, add_cell]

theorem len_size {us : List Value} {fp : List Nat} {v : Value} (h : OwnSl w fp us v) : ∃ a n cap, v = .slice a n cap ∧ n = us.length := by
  rcases h.cell with ⟨h1, h2⟩ | ⟨b, off, cap, h1, _⟩
  · exact ⟨_, _, _, h1, by simp [h2]⟩
  · exact ⟨_, _, _, h1, rfl⟩
theorem slC_size {S : Nat → Prop} {us : List Value} {v : Value} (h : SlC w S us v) : ∃ a n cap, v = .slice a n cap ∧ n = us.length := by
  rcases h with ⟨⟨_, h1⟩, h2⟩ | ⟨b, off, cap, h1, _⟩
  · exact ⟨_, _, _, h1, by simp [h2]⟩
  · exact ⟨_, _, _, h1, rfl⟩
theorem slC_len {S : Nat → Prop} {us : List Value} {v : Value} (h : SlC w S us v) : us.length ≤ maxLen := by
  rcases h with ⟨_, h2⟩ | ⟨b, off, cap, _, h2, h3, _⟩
  · simp [h2]
  · omega
theorem ownSl_len {us : List Value} {fp : List Nat} {v : Value} (h : OwnSl w fp us v) : us.length ≤ maxLen := by
  rcases h.cell with ⟨_, h2⟩ | ⟨b, off, cap, _, _, h2, h3, _⟩
  · simp [h2]
  · omega
theorem inR_len {n : Nat} (h : n ≤ maxLen) : InR n := by
  simp only [maxLen] at h
  constructor <;> omega

theorem run_len {t e : TypeId} (hk : tkOf P t = .sl e) (ty : TypeId) (a : Option Addr) (n cap : Nat) : (Builtin.len_ #[t] ty #[.slice a n cap]).run P w = .ok (.int .i64 n) w := by
  obtain ⟨h2, _⟩ := tk_sl hk
  simp [Builtin.len_, run_underlying h2, goInt]

theorem alen_sound (ho : Owns cx H w ι F) {t : TypeId} {x v : AV} {u : Value} (h : ALen P H t x v) (hr : rep (mem cx w H ι F) x u) (ty : TypeId) :
    ∃ y, (Builtin.len_ #[t] ty #[u]).run P w = .ok y w ∧ rep (mem cx w H ι F) v y := by
  unfold ALen at h
  generalize hk : tkOf P t = k at h
  split at h <;> first | exact h.elim | skip
  · subst h
    simp only [rep] at hr
    obtain ⟨rfl, hl⟩ := hr
    have h2 := tk_str hk
    exact ⟨_, by simp [Builtin.len_, run_underlying h2, goInt], rep_int (inR_len hl)⟩
  · subst h
    simp only [rep] at hr
    subst hr
    exact ⟨_, run_len hk ty none 0 0, rep_int (by constructor <;> decide)⟩
  · split at h <;> first | exact h.elim | skip
    rename_i n f he
    subst h
    simp only [rep] at hr
    obtain ⟨us, fp, k1, k2, _⟩ := elemsT_rep ho he hr.2
    obtain ⟨a, n', cap, rfl, hn⟩ := len_size k1
    have := ownSl_len k1
    refine ⟨_, run_len hk ty a n' cap, ?_⟩
    rw [hn, k2]
    exact rep_int (inR_len (by omega))
  · rename_i id path lo hi
    subst h
    simp only [rep] at hr
    obtain ⟨_, a, n, cap, h1, h2, h3, h4, rfl⟩ := hr
    exact ⟨_, run_len hk ty _ _ _, rep_int (inR_len (by omega))⟩
  · split at h <;> first | exact h.elim | skip
    rename_i n f he
    subst h
    obtain ⟨us, k1, k2, _⟩ := elems_rep he hr
    obtain ⟨a, n', cap, rfl, hn⟩ := slC_size k1
    have := slC_len k1
    refine ⟨_, run_len hk ty a n' cap, ?_⟩
    rw [hn, k2]
    exact rep_int (inR_len (by omega))

theorem aindex_sound (ho : Owns cx H w ι F) {t : TypeId} {x i v : AV} {ux ui : Value} (h : AIndexAddr P H true t x i v) (hx : rep (mem cx w H ι F) x ux) (hi : rep (mem cx w H ι F) i ui) :
    ∃ y, (Instr.indexAt t ux ui).run P w = .ok y w ∧ rep (mem cx w H ι F) v y := by
  unfold AIndexAddr at h
  generalize hk : tkOf P t = k at h
  split at h <;> first | exact h.elim | skip
  rename_i e q
  simp only [rep] at hi
  obtain ⟨rfl, _⟩ := hi
  split at h
  · rename_i id path
    split at h <;> first | exact h.elim | skip
    rename_i n f he
    obtain ⟨hb, rfl⟩ := h
    obtain ⟨h0, h1⟩ := hb rfl
    simp only [rep] at hx
    obtain ⟨us, fp, k1, k2, _, _⟩ := elemsT_rep ho he hx.2
    rcases k1.cell with ⟨k1, k3⟩ | ⟨b, off, cap, rfl, _⟩
    · subst k3; simp at k2; omega
    · refine ⟨_, index_run hk h0 (by omega), ?_⟩
      simp only [rep]
      exact ⟨hx.1, b, off, _, cap, hx.2, by omega, rfl⟩
  · rename_i id path lo hi
    split at h <;> first | exact h.elim | skip
    rename_i nf he
    obtain ⟨n0, f⟩ := nf
    obtain ⟨hb, rfl⟩ := h
    obtain ⟨h0, h1⟩ := hb rfl
    simp only [rep] at hx
    obtain ⟨hd, a, n, cap, k1, k2, k3, k4, rfl⟩ := hx
    obtain ⟨us, fp, j1, j2, _, _⟩ := elemsT_rep ho he k1
    rcases j1.cell with ⟨j1, j3⟩ | ⟨b, off, cap', j1, _, j3, _, _⟩
    · cases j1; omega
    · cases j1
      have hc : cap ≠ lo := by omega
      rw [if_neg hc]
      simp only [Option.map_some, add_cell]
      refine ⟨_, index_run hk h0 (by omega), ?_⟩
      simp only [rep]
      exact ⟨hd, b, off, _, cap, k1, by omega, by rw [Nat.add_assoc]⟩
  · split at h <;> first | exact h.elim | skip
    rename_i n f he
    obtain ⟨hb, rfl⟩ := h
    obtain ⟨h0, h1⟩ := hb rfl
    obtain ⟨us, k1, k2, _⟩ := elems_rep he hx
    rcases k1 with ⟨k1, k3⟩ | ⟨b, off, cap, rfl, _⟩
    · subst k3; simp at k2; omega
    · refine ⟨_, index_run hk h0 (by omega), ?_⟩
      simp only [rep]
      exact ⟨b, off, _, cap, hx, by omega, rfl⟩

theorem afield_sound {t : TypeId} {p v : AV} {f : Nat} {u : Value} (h : AFieldAddr P t p f v) (hr : rep (mem cx w H ι F) p u) :
    ∃ y, (Instr.fieldAt t u f).run P w = .ok y w ∧ rep (mem cx w H ι F) v y := by
  unfold AFieldAddr at h
  generalize hk : tkOf P t = k at h
  have key : ∀ {fs : List (Nat × Nat)} {sz : Nat}, tkOf P t = .st fs sz → ∀ {o s : Nat}, fs[f]? = some (o, s) → s ≠ 0 → ∀ (b off : Nat),
      (Instr.fieldAt t (.pointer (some ⟨b, off, none⟩)) f).run P w = .ok (.pointer (some ⟨b, off + o, none⟩)) w := by
    intro fs sz hk o s hf hs b off
    obtain ⟨gs, h1, h2, _⟩ := tk_st hk
    subst h2
    simp only [List.getElem?_map, Option.map_eq_some_iff, Prod.mk.injEq] at hf
    obtain ⟨g, hg, rfl, rfl⟩ := hf
    obtain ⟨n, hn⟩ : ∃ n, P.cellsOf g.type = n + 1 := ⟨P.cellsOf g.type - 1, by omega⟩
    have hsz := cells_info hn w
    have hg' : gs[f]? = some g := by simpa using hg
    simp [Instr.fieldAt, run_underlying h1, hg', Instr.sureAddr, fieldPlace, hsz, add_cell]
  split at h <;> first | exact h.elim | skip
  · rename_i fs sz id off
    split at h <;> first | exact h.elim | skip
    rename_i o s hf
    obtain ⟨h1, rfl⟩ := h
    simp only [rep] at hr
    obtain ⟨hd, b, h2, rfl⟩ := hr
    exact ⟨_, key hk hf h1 b off, by simp only [rep]; exact ⟨hd, b, h2, rfl⟩⟩
  · rename_i fs sz vs off
    split at h <;> first | exact h.elim | skip
    rename_i o s hf
    obtain ⟨h1, rfl⟩ := h
    simp only [rep] at hr
    obtain ⟨b, us, rfl, h2, h3, h4⟩ := hr
    exact ⟨_, key hk hf h1 b off, by simp only [rep]; exact ⟨b, us, rfl, h2, h3, h4⟩⟩

theorem afieldv_sound {t : TypeId} {x v : AV} {f : Nat} {u : Value} (h : AField P t x f v) (hr : rep (mem cx w H ι F) x u) :
    ∃ y, (Instr.field t u f).run P w = .ok y w ∧ rep (mem cx w H ι F) v y := by
  unfold AField at h
  split at h <;> first | exact h.elim | skip
  rename_i vs
  split at h <;> first | exact h.elim | skip
  rename_i fs hu
  split at h <;> first | exact h.elim | skip
  rename_i g hg
  obtain ⟨h1, h2, rfl⟩ := h
  simp only [rep] at hr
  obtain ⟨us, rfl, h3⟩ := hr
  obtain ⟨y, hy, hry⟩ := getD_reps h3 h2
  refine ⟨y, ?_, hry⟩
  simp [Instr.field, run_underlying hu, hg, asAgg, part, tk_one h1, hy]

theorem abin_sound (ho : Owns cx H w ι F) {b : BinOp} {t : TypeId} {x y v : AV} {ux uy : Value} {ox oy : Operand} (h : ABin P H true b t x y v) (hx : rep (mem cx w H ι F) x ux) (hy : rep (mem cx w H ι F) y uy) :
    ∃ z, (do eqGuard b t ox oy ux uy; binOp b t ux uy : Sem Value).run P w = .ok z w ∧ rep (mem cx w H ι F) v z := by
  have slnil : ∀ {e : TypeId} (_ : tkOf P t = .sl e) (a : Option Addr) (n c : Nat), (binOp .eql t (.slice a n c) (.slice none 0 0)).run P w = .ok (.bool a.isNone) w := by
    intro e hk a n c
    exact Lib.run_eql_slice_nil w t e a n c 0 0 (tk_sl hk).1
  have slnil' : ∀ {e : TypeId} (_ : tkOf P t = .sl e) (a : Option Addr) (n c : Nat), (binOp .neq t (.slice a n c) (.slice none 0 0)).run P w = .ok (.bool (!a.isNone)) w := by
    intro e hk a n c
    have := slnil hk a n c
    simp only [binOp, Sem.run_bind, Sem.run_pure] at this ⊢
    cases hq : (Op.equal t (.slice a n c) (.slice none 0 0)).run P w with
    | ok r w' => rw [hq] at this; simp only [Result.andThen_ok, Result.ok.injEq, Value.bool.injEq] at this ⊢; simp [this.1, this.2]
    | halt r w' => rw [hq] at this; simp at this
  have guardS : ∀ (a : Option Addr) (n c : Nat), (eqGuard b t ox oy (.slice a n c) (.slice none 0 0)).run P w = .ok () w := by
    intro a n c
    unfold eqGuard
    cases b <;> rfl
  unfold ABin at h
  split at h
  · rename_i p q
    simp only [rep] at hx hy
    obtain ⟨rfl, hp⟩ := hx
    obtain ⟨rfl, hq⟩ := hy
    have hg : (eqGuard b t ox oy (.int .i64 p) (.int .i64 q)).run P w = .ok () w := by unfold eqGuard; cases b <;> rfl
    simp only [Sem.run_bind, hg, Result.andThen_ok]
    cases b <;> simp only at h <;> first | exact h.elim | skip
    · obtain ⟨h1, rfl⟩ := h
      exact ⟨_, by simp [binOp, Op.intArith, wrap_in (h1 (by trivial))], rep_int (h1 (by trivial))⟩
    · obtain ⟨h1, rfl⟩ := h
      exact ⟨_, by simp [binOp, Op.intArith, wrap_in (h1 (by trivial))], rep_int (h1 (by trivial))⟩
    · obtain ⟨h1, rfl⟩ := h
      exact ⟨_, by simp [binOp, Op.intArith, wrap_in (h1 (by trivial))], rep_int (h1 (by trivial))⟩
    · obtain ⟨h1, rfl⟩ := h
      obtain ⟨h1, h2⟩ := h1 (by trivial)
      exact ⟨_, by simp [binOp, Op.intDiv, h1, wrap_in h2], rep_int h2⟩
    · obtain ⟨h1, rfl⟩ := h
      obtain ⟨h1, h2⟩ := h1 (by trivial)
      exact ⟨_, by simp [binOp, Op.intDiv, h1], rep_int h2⟩
    all_goals (subst h; refine ⟨_, by simp [binOp, Op.intCmp]; rfl, ?_⟩; simp only [rep])
    · simp [BEq.beq]
    · simp [bne, BEq.beq]
  · rename_i p q
    simp only [rep] at hx hy
    subst hx; subst hy
    have hg : (eqGuard b t ox oy (.bool p) (.bool q)).run P w = .ok () w := by unfold eqGuard; cases b <;> rfl
    simp only [Sem.run_bind, hg, Result.andThen_ok]
    split at h <;> first | exact h.elim | skip
    · rename_i hk
      subst h
      exact ⟨_, run_eql_bool w t p q (tk_bool hk), by simp only [rep]⟩
    · rename_i hk
      subst h
      exact ⟨_, run_neq_bool w t p q (tk_bool hk), by simp only [rep]⟩
  · rename_i p q
    simp only [rep] at hx hy
    obtain ⟨rfl, hp⟩ := hx
    obtain ⟨rfl, hq⟩ := hy
    have hg : (eqGuard b t ox oy (.string p) (.string q)).run P w = .ok () w := by unfold eqGuard; cases b <;> rfl
    simp only [Sem.run_bind, hg, Result.andThen_ok]
    split at h <;> first | exact h.elim | skip
    · obtain ⟨h1, rfl⟩ := h
      have h1 := h1 (by trivial)
      refine ⟨.string (p ++ q), ?_, ?_⟩
      · have : ¬ (((p.size + q.size : Nat) : Int) > IntKind.i64.max) := by simp only [IntKind.max, IntKind.signed, IntKind.bits]; simp; omega
        simp only [binOp, Op.stringOp]
        rw [if_neg this]; rfl
      · simp only [rep]
        exact ⟨trivial, by simp [maxLen]; omega⟩
    · subst h
      exact ⟨_, by simp [binOp, Op.stringOp]; rfl, by simp only [rep]⟩
    · subst h
      exact ⟨_, by simp [binOp, Op.stringOp]; rfl, by simp only [rep]⟩
  · simp only [rep] at hx hy
    subst hx; subst hy
    simp only [Sem.run_bind, guardS, Result.andThen_ok]
    split at h <;> first | exact h.elim | skip
    · rename_i hk
      subst h
      exact ⟨_, slnil hk none 0 0, by simp only [rep]; rfl⟩
    · rename_i hk
      subst h
      exact ⟨_, slnil' hk none 0 0, by simp only [rep]; rfl⟩
  · rename_i id path
    simp only [rep] at hx hy
    subst hy
    split at h <;> first | exact h.elim | skip
    all_goals (
      rename_i e n f hk he
      obtain ⟨h1, rfl⟩ := h
      have h1 := h1 (by trivial)
      obtain ⟨us, fp, k1, k2, _, _⟩ := elemsT_rep ho he hx.2
      rcases k1.cell with ⟨_, k3⟩ | ⟨b', off, cap, rfl, _⟩
      · subst k3; simp at k2; omega
      · simp only [Sem.run_bind, guardS, Result.andThen_ok]
        first
          | exact ⟨_, slnil hk _ _ _, by simp only [rep]; rfl⟩
          | exact ⟨_, slnil' hk _ _ _, by simp only [rep]; rfl⟩)
  · simp only [rep] at hy
    subst hy
    split at h <;> first | exact h.elim | skip
    all_goals (
      rename_i e n f hk he
      obtain ⟨h1, rfl⟩ := h
      have h1 := h1 (by trivial)
      obtain ⟨us, k1, k2, _⟩ := elems_rep he hx
      rcases k1 with ⟨_, k3⟩ | ⟨b', off, cap, rfl, _⟩
      · subst k3; simp at k2; omega
      · simp only [Sem.run_bind, guardS, Result.andThen_ok]
        first
          | exact ⟨_, slnil hk _ _ _, by simp only [rep]; rfl⟩
          | exact ⟨_, slnil' hk _ _ _, by simp only [rep]; rfl⟩)
  · exact h.elim

theorem aun_sound {b : UnOp} {x v : AV} {ux : Value} (h : AUn true b x v) (hx : rep (mem cx w H ι F) x ux) :
    ∃ z, (Op.unary b ux).run P w = .ok z w ∧ rep (mem cx w H ι F) v z := by
  unfold AUn at h
  split at h <;> first | exact h.elim | skip
  · subst h
    simp only [rep] at hx
    subst hx
    exact ⟨_, by simp [Op.unary]; rfl, by simp only [rep]⟩
  · obtain ⟨h1, rfl⟩ := h
    simp only [rep] at hx
    obtain ⟨rfl, _⟩ := hx
    exact ⟨_, by simp only [Op.unary, Op.intArith, wrap_in (h1 (by trivial))]; rfl, rep_int (h1 (by trivial))⟩

theorem boolOf_rep {m : Mem} {x : AV} {g b : Bool} {u : Value} (h : boolOf x = some (g, b)) (hg : g = true) (hr : rep m x u) : u = .bool b := by
  unfold boolOf at h
  split at h <;> first | (cases h; done) | skip
  · simp only [Option.some.injEq, Prod.mk.injEq] at h
    obtain ⟨_, rfl⟩ := h
    simpa only [rep] using hr
  · simp only [Option.some.injEq, Prod.mk.injEq] at h
    obtain ⟨rfl, rfl⟩ := h
    simp only [rep] at hr
    exact hr.1 hg

theorem apick_sound {c a b v : AV} {uc ua ub : Value} (h : APick true c a b v) (hc : rep (mem cx w H ι F) c uc) (ha : rep (mem cx w H ι F) a ua) (hb : rep (mem cx w H ι F) b ub) :
    ∃ z, (do pure (.value (if ← asBool uc then ua else ub)) : Sem Next).run P w = .ok (.value z) w ∧ rep (mem cx w H ι F) v z := by
  unfold APick at h
  split at h <;> first | exact h.elim | skip
  rename_i gc xc ga xa gb xb e1 e2 e3
  obtain ⟨h1, rfl⟩ := h
  obtain ⟨h1, h2, h3⟩ := h1 (by trivial)
  have hcv := boolOf_rep e1 h1 hc
  subst hcv
  cases xc
  · have := boolOf_rep e3 (h3 rfl) hb
    subst this
    exact ⟨_, by simp [asBool]; rfl, by simp only [rep, cond_false]⟩
  · have := boolOf_rep e2 (h2 rfl) ha
    subst this
    exact ⟨_, by simp [asBool]; rfl, by simp only [rep, cond_true]⟩

theorem num_under {t : TypeId} (h : (tkOf P t).num = true) : ∃ k, P.underlying t = some (.int k) := by
  cases hk : tkOf P t with
  | int => exact ⟨_, tk_int hk⟩
  | ik k => exact ⟨_, tk_ik hk⟩
  | _ => rw [hk] at h; cases h

theorem aconv_sound {s d : TypeId} {x v : AV} {u : Value} (h : AConv P true s d x v) (hx : rep (mem cx w H ι F) x u) :
    ∃ z, (convert s d u).run P w = .ok z w ∧ rep (mem cx w H ι F) v z := by
  unfold AConv at h
  generalize hk : tkOf P d = k at h
  split at h <;> first | exact h.elim | skip
  · obtain ⟨h1, rfl⟩ := h
    obtain ⟨ks, hs⟩ := num_under h1
    simp only [rep] at hx
    obtain ⟨rfl, hn⟩ := hx
    exact ⟨_, by simp [convert, run_underlying hs, run_underlying (tk_int hk), Conv.intToInt, wrap_in hn], rep_int hn⟩
  · obtain ⟨h1, h2, rfl⟩ := h
    obtain ⟨ks, hs⟩ := num_under h1
    simp only [rep] at hx
    subst hx
    exact ⟨_, by simp [convert, run_underlying hs, run_underlying (tk_int hk), Conv.intToInt, wrap_in (h2 (by trivial))], rep_int (h2 (by trivial))⟩
  · obtain ⟨h1, rfl⟩ := h
    obtain ⟨ks, hs⟩ := num_under h1
    simp only [rep] at hx
    obtain ⟨rfl, hn⟩ := hx
    exact ⟨_, by simp [convert, run_underlying hs, run_underlying (tk_ik hk), Conv.intToInt]; rfl, by simp only [rep]⟩
  · obtain ⟨h1, rfl⟩ := h
    obtain ⟨ks, hs⟩ := num_under h1
    simp only [rep] at hx
    subst hx
    exact ⟨_, by simp [convert, run_underlying hs, run_underlying (tk_ik hk), Conv.intToInt]; rfl, by simp only [rep]⟩

theorem bound_run {l : Int} {n : Nat} (code : BoundsCode) (h0 : 0 ≤ l) (h1 : l ≤ n) : (Instr.sliceBound (.int .i64 l) n code).run P w = .ok l.toNat w := by
  have hc : (0 ≤ l ∧ l ≤ (n : Int)) := ⟨h0, h1⟩
  simp [Instr.sliceBound, asIntOf, hc]

theorem slice_run {t e : TypeId} (hk : tkOf P t = .sl e) {a : Option Addr} {n cap : Nat} {l : Int} {hi : Option Value} {h : Nat} (hl0 : 0 ≤ l) (hlh : l ≤ h) (hhn : h ≤ n) (hnc : n ≤ cap)
    (hhi : (hi = none ∧ h = n) ∨ hi = some (.int .i64 (h : Int))) (lo : Option Value) (hlo : lo = some (.int .i64 l) ∨ (lo = none ∧ l = 0)) :
    (Instr.sliceAt t (.slice a n cap) lo hi none).run P w = .ok (.slice (if cap = l.toNat then a else a.map (·.add l.toNat)) (h - l.toNat) (cap - l.toNat)) w := by
  obtain ⟨h2, h3⟩ := tk_sl hk
  have hs := cells_info (P := P) (e := e) (n := 0) h3 w
  have b1 : ∀ code, (Instr.sliceBound (.int .i64 (h : Int)) cap code).run P w = .ok h w := fun code => by
    have := bound_run (P := P) (w := w) (l := (h : Int)) (n := cap) code (by omega) (by omega)
    simpa using this
  have b2 : ∀ code, (Instr.sliceBound (.int .i64 l) h code).run P w = .ok l.toNat w := fun code => bound_run code hl0 hlh
  have hbounds : (Instr.sliceBounds true n cap lo hi none).run P w = .ok (l.toNat, h, cap) w := by
    rcases hhi with ⟨rfl, rfl⟩ | rfl <;> rcases hlo with rfl | ⟨rfl, rfl⟩ <;> simp [Instr.sliceBounds, b1, b2]
  have hm : (cap = l.toNat) = (cap = l.toNat) := rfl
  simp [Instr.sliceAt, Instr.slice, run_underlying h2, hbounds, hs]

theorem SlC.cap {S : Nat → Prop} {us : List Value} {a : Option Addr} {n cap : Nat} (h : SlC w S us (.slice a n cap)) : n = us.length ∧ n ≤ cap := by
  rcases h with ⟨⟨_, h1⟩, h2⟩ | ⟨b, off, c, h1, h2, _⟩
  · cases h1; simp [h2]
  · cases h1; exact ⟨rfl, h2⟩
theorem OwnSl.cap {fp : List Nat} {us : List Value} {a : Option Addr} {n cap : Nat} (h : OwnSl w fp us (.slice a n cap)) : n = us.length ∧ n ≤ cap := by
  rcases h.cell with ⟨h1, h2⟩ | ⟨b, off, c, h1, _, h2, _⟩
  · cases h1; simp [h2]
  · cases h1; exact ⟨rfl, h2⟩

theorem aslice_sound (ho : Owns cx H w ι F) {t : TypeId} {x lo hi v : AV} {b : Bool} {ux ulo uhi : Value} (h : ASlice P H true t x lo hi v b) (hx : rep (mem cx w H ι F) x ux)
    (hlo : rep (mem cx w H ι F) lo ulo) (hhi : b = true → rep (mem cx w H ι F) hi uhi) :
    ∃ z, rep (mem cx w H ι F) v z ∧ (Instr.sliceAt t ux (some ulo) (if b then some uhi else none) none).run P w = .ok z w ∧ (ulo = .int .i64 0 → (Instr.sliceAt t ux none (if b then some uhi else none) none).run P w = .ok z w) := by
  unfold ASlice at h
  split at h <;> first | exact h.elim | skip
  rename_i l
  simp only [rep] at hlo
  obtain ⟨rfl, _⟩ := hlo
  generalize hk : tkOf P t = k at h
  have fin : ∀ {e : TypeId}, k = .sl e → ∀ {a : Option Addr} {n cap : Nat} {h : Nat}, ux = .slice a n cap → 0 ≤ l → l ≤ h → h ≤ n → n ≤ cap → ((b = false ∧ h = n) ∨ (b = true ∧ uhi = .int .i64 (h : Int))) →
      ∀ v, rep (mem cx w H ι F) v (.slice (if cap = l.toNat then a else a.map (·.add l.toNat)) (h - l.toNat) (cap - l.toNat)) →
      ∃ z, rep (mem cx w H ι F) v z ∧ (Instr.sliceAt t ux (some (.int .i64 l)) (if b then some uhi else none) none).run P w = .ok z w ∧ (Value.int .i64 l = .int .i64 0 → (Instr.sliceAt t ux none (if b then some uhi else none) none).run P w = .ok z w) := by
    intro e hke a n cap h hux h0 h1 h2 h3 hb v hv
    subst hke
    subst hux
    refine ⟨_, hv, slice_run hk h0 h1 h2 h3 ?_ _ (.inl rfl), fun hl => slice_run hk h0 h1 h2 h3 ?_ _ (.inr ⟨rfl, by cases hl; rfl⟩)⟩ <;>
      (rcases hb with ⟨rfl, rfl⟩ | ⟨rfl, rfl⟩ <;> simp)
  split at h
  · rename_i e id path
    split at h <;> first | exact h.elim | skip
    rename_i n f he
    simp only [rep] at hx
    obtain ⟨us, fp, k1, k2, _, _⟩ := elemsT_rep ho he hx.2
    obtain ⟨a, n', cap, rfl, hn⟩ := len_size k1
    have hml := ownSl_len k1
    have hc := k1.cap
    split at h
    · rename_i hbt
      split at h <;> first | exact h.elim | skip
      rename_i q
      obtain ⟨hb, rfl⟩ := h
      obtain ⟨h0, h1, h2⟩ := hb (by trivial)
      have hq := hhi hbt
      simp only [rep] at hq
      obtain ⟨rfl, _⟩ := hq
      refine fin rfl (h := q.toNat) rfl h0 (by omega) (by omega) hc.2 (.inr ⟨hbt, by congr 1; omega⟩) _ ?_
      simp only [rep]
      exact ⟨hx.1, a, n', cap, hx.2, by omega, by omega, by omega, rfl⟩
    · rename_i hbf
      obtain ⟨hb, rfl⟩ := h
      obtain ⟨h0, h1⟩ := hb (by trivial)
      refine fin rfl (h := n) rfl h0 (by omega) (by omega) hc.2 (.inl ⟨by simpa using hbf, by omega⟩) _ ?_
      simp only [rep]
      exact ⟨hx.1, a, n', cap, hx.2, by omega, by omega, by omega, rfl⟩
  · simp only [rep] at hx
    subst hx
    split at h
    · rename_i hbt
      split at h <;> first | exact h.elim | skip
      rename_i q
      obtain ⟨hb, rfl⟩ := h
      obtain ⟨h0, h1⟩ := hb (by trivial)
      have hq := hhi hbt
      simp only [rep] at hq
      obtain ⟨rfl, _⟩ := hq
      subst h0; subst h1
      refine fin rfl (a := none) (n := 0) (cap := 0) (h := 0) rfl (by omega) (by omega) (by omega) (by omega) (.inr ⟨hbt, rfl⟩) _ ?_
      simp [rep]
    · rename_i hbf
      obtain ⟨hb, rfl⟩ := h
      have h0 := hb (by trivial)
      subst h0
      refine fin rfl (a := none) (n := 0) (cap := 0) (h := 0) rfl (by omega) (by omega) (by omega) (by omega) (.inl ⟨by simpa using hbf, rfl⟩) _ ?_
      simp [rep]
  · split at h <;> first | exact h.elim | skip
    rename_i n f he
    obtain ⟨us, k1, k2, _⟩ := elems_rep he hx
    obtain ⟨a, n', cap, rfl, hn⟩ := slC_size k1
    have hml := slC_len k1
    have hc := k1.cap
    split at h
    · rename_i hbt
      split at h <;> first | exact h.elim | skip
      rename_i q
      obtain ⟨hb, hcut⟩ := h
      obtain ⟨h0, h1, h2⟩ := hb (by trivial)
      have hq := hhi hbt
      simp only [rep] at hq
      obtain ⟨rfl, _⟩ := hq
      exact fin rfl (h := q.toNat) rfl h0 (by omega) (by omega) hc.2 (.inr ⟨hbt, by congr 1; omega⟩) _ (cut_rep hcut hx (by omega) (by omega))
    · rename_i hbf
      obtain ⟨hb, hcut⟩ := h
      obtain ⟨h0, h1⟩ := hb (by trivial)
      exact fin rfl (h := n) rfl h0 (by omega) (by omega) hc.2 (.inl ⟨by simpa using hbf, by omega⟩) _ (cut_rep hcut hx (by omega) (by omega))
  · exact h.elim

end
end Go.Aw
