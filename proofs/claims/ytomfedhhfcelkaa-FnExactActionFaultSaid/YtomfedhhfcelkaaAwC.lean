/-
  Contracts of functions that write to nothing that was there; what an operation that leaves memory alone yields. Of no program.
-/
import Derived.Test.YtomfedhhfcelkaaAwB
import Derived.WalkSpells
import Derived.Lib.SliceRun
set_option linter.unusedSimpArgs false
set_option linter.unusedVariables false
namespace Go.Aw
open Go.RowKit

def Rd (w : World) (S : Nat → Prop) (av : AV) (v : Value) : Prop := rep ⟨w, S, fun _ => undef, fun _ _ => False⟩ av v

mutual
def isData : AV → Bool
  | .ref .. | .sub .. | .eref .. | .bptr .. => false
  | .lv vs | .agg vs | .tup vs | .fn _ vs | .cptr vs _ => areData vs
  | .eptr av _ => isData av
  | .when _ v => isData v
  | _ => true
def areData : List AV → Bool
  | [] => true
  | a :: as => isData a && areData as
end

/-- No address in it. -/
def memFree : AV → Bool
  | .int _ | .ik .. | .bool _ | .str _ | .nil | .nilfn | .junk => true
  | .tup [] => true
  | .tup [.int _] | .tup [.bool _] | .tup [.str _] | .tup [.nil] => true
  | .tup [.int _, .int _] | .tup [.bool _, .int _] | .tup [.int _, .bool _] | .tup [.str _, .int _] | .tup [.nil, .int _] | .tup [.str _, .bool _] => true
  | .tup [.int _, .int _, .int _] => true
  | _ => false

mutual
theorem rep_data {m m' : Mem} (hw : m'.w = m.w) (hS : ∀ b, m.S b → m'.S b) : ∀ (av : AV) (v : Value), isData av = true → rep m av v → rep m' av v
  | .int _, _, _, hr => by simpa only [rep] using hr
  | .ik _ _, _, _, hr => by simpa only [rep] using hr
  | .bool _, _, _, hr => by simpa only [rep] using hr
  | .str _, _, _, hr => by simpa only [rep] using hr
  | .nil, _, _, hr => by simpa only [rep] using hr
  | .nilfn, _, _, hr => by simpa only [rep] using hr
  | .l1 _, _, _, hr => by simp only [rep] at hr ⊢; exact hr.le (fun b hb => ⟨hS b hb, by rw [hw]⟩)
  | .l2 _, _, _, hr => by simp only [rep] at hr ⊢; exact hr.le (fun b hb => ⟨hS b hb, by rw [hw]⟩)
  | .l3 _, _, _, hr => by simp only [rep] at hr ⊢; exact hr.le (fun b hb => ⟨hS b hb, by rw [hw]⟩)
  | .lv vs, _, hd, hr => by
    simp only [rep] at hr ⊢
    simp only [isData] at hd
    obtain ⟨us, h1, h2⟩ := hr
    exact ⟨us, h1.le (fun b hb => ⟨hS b hb, by rw [hw]⟩), reps_data hw hS vs us hd h2⟩
  | .agg vs, _, hd, hr => by
    simp only [rep] at hr ⊢
    simp only [isData] at hd
    obtain ⟨us, h1, h2⟩ := hr
    exact ⟨us, h1, reps_data hw hS vs us hd h2⟩
  | .tup vs, _, hd, hr => by
    simp only [rep] at hr ⊢
    simp only [isData] at hd
    obtain ⟨us, h1, h2⟩ := hr
    exact ⟨us, h1, reps_data hw hS vs us hd h2⟩
  | .fn _ vs, _, hd, hr => by
    simp only [rep] at hr ⊢
    simp only [isData] at hd
    obtain ⟨us, h1, h2⟩ := hr
    exact ⟨us, h1, reps_data hw hS vs us hd h2⟩
  | .eptr av i, _, hd, hr => by
    simp only [rep] at hr ⊢
    simp only [isData] at hd
    obtain ⟨b, off, n, cap, h1, h2, h3⟩ := hr
    exact ⟨b, off, n, cap, rep_data hw hS av _ hd h1, h2, h3⟩
  | .cptr vs off, _, hd, hr => by
    simp only [rep] at hr ⊢
    simp only [isData] at hd
    obtain ⟨b, us, h1, h2, h3, h4⟩ := hr
    exact ⟨b, us, h1, hS b h2, fun i u hu => by rw [hw]; exact h3 i u hu, reps_data hw hS vs us hd h4⟩
  | .when g x, _, hd, hr => by
    simp only [rep] at hr ⊢
    simp only [isData] at hd
    exact ⟨fun hg => rep_data hw hS x _ hd (hr.1 hg), hr.2⟩
  | .junk, _, _, _ => by simp only [rep]
  | .ref _ _, _, hd, _ => by simp [isData] at hd
  | .sub _ _ _ _, _, hd, _ => by simp [isData] at hd
  | .eref _ _ _, _, hd, _ => by simp [isData] at hd
  | .bptr _ _, _, hd, _ => by simp [isData] at hd
theorem reps_data {m m' : Mem} (hw : m'.w = m.w) (hS : ∀ b, m.S b → m'.S b) : ∀ (vs : List AV) (us : List Value), areData vs = true → reps m vs us → reps m' vs us
  | [], _, _, hr => by simpa only [reps] using hr
  | a :: as, _, hd, hr => by
    simp only [reps] at hr ⊢
    simp only [areData, Bool.and_eq_true] at hd
    obtain ⟨u, us', h1, h2, h3⟩ := hr
    exact ⟨u, us', h1, rep_data hw hS a u hd.1 h2, reps_data hw hS as us' hd.2 h3⟩
end

theorem rep_memFree {m m' : Mem} {av : AV} (h : memFree av = true) {v : Value} (hr : rep m av v) : rep m' av v := by
  unfold memFree at h
  split at h <;> first | (cases h; done) | skip
  all_goals first | (simp only [rep, reps] at hr ⊢; exact hr) | simp only [rep]

/-! ### An argument that is owned, handed on to be read -/
def cutData (lo hi : Nat) : AV → Option AV
  | .l1 xs => some (.l1 ((xs.take hi).drop lo))
  | .l2 xs => some (.l2 ((xs.take hi).drop lo))
  | .l3 xs => some (.l3 ((xs.take hi).drop lo))
  | .lv xs => some (.lv ((xs.take hi).drop lo))
  | _ => none

def viewT : Option Tree → List Nat → Option AV
  | some (.t1 xs), [] => some (.l1 xs)
  | some (.t2 xss), [] => some (.l2 xss)
  | some (.t3 x), [] => some (.l3 x)
  | some (.r2 xss), [] => some (.l2 xss)
  | some (.r3 x), [] => some (.l3 x)
  | some (.lv vs), [] => if areData vs then some (.lv vs) else none
  | some (.t2 xss), [i] => some (.l1 (xss.getD i []))
  | some (.t3 x), [i] => some (.l2 (x.getD i []))
  | some (.t3 x), [i, j] => some (.l1 ((x.getD i []).getD j []))
  | _, _ => none

mutual
def view1 (H : List (Nat × Tree)) : AV → Option AV
  | .ref id path => viewT (find H id) path
  | .sub id path lo hi => (viewT (find H id) path).bind (cutData lo hi)
  | .agg vs => (views1 H vs).map .agg
  | .tup vs => (views1 H vs).map .tup
  | .eref .. | .bptr .. | .when .. | .junk => none
  | x => if isData x then some x else none
def views1 (H : List (Nat × Tree)) : List AV → Option (List AV)
  | [] => some []
  | a :: as => match view1 H a, views1 H as with
    | some x, some xs => some (x :: xs)
    | _, _ => none
end

def viewB (H : List (Nat × Tree)) : AV → Option AV
  | .bptr id off => match find H id with
    | some (.bx vs) => (views1 H vs).map (.cptr · off)
    | _ => none
  | x => view1 H x
def viewsB (H : List (Nat × Tree)) : List AV → Option (List AV)
  | [] => some []
  | a :: as => match viewB H a, viewsB H as with
    | some x, some xs => some (x :: xs)
    | _, _ => none
def view (H : List (Nat × Tree)) : AV → Option AV
  | .fn f caps => (viewsB H caps).map (.fn f)
  | x => viewB H x
def views (H : List (Nat × Tree)) : List AV → Option (List AV)
  | [] => some []
  | a :: as => match view H a, views H as with
    | some x, some xs => some (x :: xs)
    | _, _ => none

def lower (w : World) : Nat → Prop := fun b => b < w.heap.size
def allow (cx : Cx) (w : World) : Nat → Prop := fun b => b < w.heap.size ∧ (cx.S0 b ∨ cx.B0 ≤ b ∨ cx.A0 b)
theorem imm_allow {cx : Cx} {w : World} {H : List (Nat × Tree)} {F : Nat → List Nat} {b : Nat} (h : imm cx w H F b) : allow cx w b := ⟨h.2.1, h.1.elim .inl (fun h => .inr (.inl h))⟩

theorem OwnSl.slC {w : World} {fp : List Nat} {us : List Value} {v : Value} (h : OwnSl w fp us v) {S : Nat → Prop} (hS : ∀ b ∈ fp, S b) : SlC w S us v := by
  rcases h.cell with h | ⟨b, off, cap, h1, h2, h3, h4, h5⟩
  · exact .inl ⟨⟨none, h.1⟩, h.2⟩
  · exact .inr ⟨b, off, cap, h1, h3, h4, hS b (by simp [h2]), h5⟩

theorem O1.l1 {w : World} {fp : List Nat} {xs : List Int} {v : Value} (h : O1 w fp xs v) {S : Nat → Prop} (hS : ∀ b ∈ fp, S b) : L1 w S xs v := ⟨h.1.slC hS, h.2⟩
theorem all3_all2 {α β γ : Type} {R : α → β → γ → Prop} {R' : β → γ → Prop} : ∀ {as : List α} {bs : List β} {cs : List γ}, (∀ a ∈ as, ∀ b c, R a b c → R' b c) → All3 R as bs cs → All2 R' bs cs
  | [], [], [], _, _ => trivial
  | _ :: _, _ :: _, _ :: _, hm, h => ⟨hm _ (List.mem_cons_self ..) _ _ h.1, all3_all2 (fun a ha => hm a (List.mem_cons_of_mem _ ha)) h.2⟩
  | [], _ :: _, _, _, h => h.elim
  | [], [], _ :: _, _, h => h.elim
  | _ :: _, [], _, _, h => h.elim
  | _ :: _, _ :: _, [], _, h => h.elim
theorem O2.l2 {w : World} {fp : List Nat} {xs : List (List Int)} {v : Value} (h : O2 w fp xs v) {S : Nat → Prop} (hS : ∀ b ∈ fp, S b) : L2 w S xs v := by
  obtain ⟨us, f0, fs, h1, h2, rfl⟩ := h
  exact ⟨us, h1.slC (fun b hb => hS b (by simp [hb])), all3_all2 (fun f hf _ _ ho => ho.l1 (fun b hb => hS b (by simp only [List.mem_append, List.mem_flatten]; exact .inr ⟨f, hf, hb⟩))) h2⟩
theorem O3.l3 {w : World} {fp : List Nat} {xs : List (List (List Int))} {v : Value} (h : O3 w fp xs v) {S : Nat → Prop} (hS : ∀ b ∈ fp, S b) : L3 w S xs v := by
  obtain ⟨us, f0, fs, h1, h2, rfl⟩ := h
  exact ⟨us, h1.slC (fun b hb => hS b (by simp [hb])), all3_all2 (fun f hf _ _ ho => ho.l2 (fun b hb => hS b (by simp only [List.mem_append, List.mem_flatten]; exact .inr ⟨f, hf, hb⟩))) h2⟩

theorem SlC.cut {w : World} {S : Nat → Prop} {us : List Value} {a : Option Addr} {n cap : Nat} (h : SlC w S us (.slice a n cap)) {lo hi : Nat} (h1 : lo ≤ hi) (h2 : hi ≤ n) :
    SlC w S ((us.take hi).drop lo) (.slice (if cap = lo then a else a.map (·.add lo)) (hi - lo) (cap - lo)) := by
  rcases h with ⟨⟨a0, hv⟩, hu⟩ | ⟨b, off, c, hv, k1, k2, k3, k4⟩
  · cases hv
    subst hu
    have : lo = 0 := by omega
    have : hi = 0 := by omega
    subst_vars
    exact .inl ⟨⟨_, rfl⟩, by simp⟩
  · cases hv
    have hl : ((us.take hi).drop lo).length = hi - lo := by simp [List.length_take]; omega
    by_cases hc : cap = lo
    · subst hc
      have : hi - cap = 0 := by omega
      refine .inr ⟨b, off, 0, ?_, by omega, Nat.zero_le _, k3, fun i u hu => ?_⟩
      · simp [hl]
      · have := (List.getElem?_eq_some_iff.1 hu).1; omega
    · refine .inr ⟨b, off + lo, cap - lo, ?_, by omega, by omega, k3, fun i u hu => ?_⟩
      · rw [if_neg hc, hl]
        simp only [Option.map_some]
        congr 2
        unfold Addr.add
        split
        · simp_all
        · rfl
      · rw [List.getElem?_drop, List.getElem?_take] at hu
        split at hu
        · have := k4 _ _ hu
          rwa [Nat.add_assoc]
        · cases hu

theorem cut_rep {m : Mem} {av d : AV} {lo hi n cap : Nat} {a : Option Addr} (hc : cutData lo hi av = some d) (h : rep m av (.slice a n cap)) (h1 : lo ≤ hi) (h2 : hi ≤ n) :
    rep m d (.slice (if cap = lo then a else a.map (·.add lo)) (hi - lo) (cap - lo)) := by
  unfold cutData at hc
  split at hc <;> first | (cases hc; done) | skip
  · cases hc
    simp only [rep] at h ⊢
    refine ⟨?_, fun x hx => h.2 x (List.mem_of_mem_take (List.mem_of_mem_drop hx))⟩
    have := h.1.cut h1 h2
    simpa [ints, List.map_take, List.map_drop] using this
  · cases hc
    simp only [rep] at h ⊢
    obtain ⟨us, k1, k2⟩ := h
    exact ⟨_, k1.cut h1 h2, (k2.take hi).drop lo⟩
  · cases hc
    simp only [rep] at h ⊢
    obtain ⟨us, k1, k2⟩ := h
    exact ⟨_, k1.cut h1 h2, (k2.take hi).drop lo⟩
  · cases hc
    simp only [rep] at h ⊢
    obtain ⟨us, k1, k2⟩ := h
    exact ⟨_, k1.cut h1 h2, by rw [reps_all2] at k2 ⊢; exact (k2.take hi).drop lo⟩

section
variable {cx : Cx} {H : List (Nat × Tree)} {w : World} {ι : Nat → Value} {F : Nat → List Nat}

theorem data_low {av : AV} {v : Value} (hd : isData av = true) (hr : rep (mem cx w H ι F) av v) : Rd w (allow cx w) av v :=
  rep_data (m := mem cx w H ι F) (m' := ⟨w, allow cx w, fun _ => undef, fun _ _ => False⟩) rfl (fun _ hb => imm_allow hb) _ _ hd hr
theorem datas_low {vs : List AV} {us : List Value} (hd : areData vs = true) (hr : reps (mem cx w H ι F) vs us) : reps ⟨w, allow cx w, fun _ => undef, fun _ _ => False⟩ vs us :=
  reps_data (m := mem cx w H ι F) (m' := ⟨w, allow cx w, fun _ => undef, fun _ _ => False⟩) rfl (fun _ hb => imm_allow hb) _ _ hd hr

theorem viewT_rep (ho : Owns cx H w ι F) {id : Nat} {path : List Nat} {d : AV} {v : Value} (hv : viewT (find H id) path = some d) (h : pathV w (ι id) path = some v) : Rd w (allow cx w) d v := by
  have hlt : ∀ b ∈ foot H F, allow cx w b := fun b hb => ⟨(ho.mine b hb).1, .inr (ho.mine b hb).2⟩
  have hS : ∀ b, imm cx w H F b → allow cx w b ∧ w.heap[b]? = w.heap[b]? := fun b hb => ⟨imm_allow hb, rfl⟩
  generalize hf : find H id = ft at hv
  unfold viewT at hv
  split at hv <;> first | (cases hv; done) | skip
  all_goals (have ht := ho.trees _ (find_mem hf); simp only [treeRep, mem] at ht)
  · cases hv; simp only [pathV, Option.some.injEq] at h; subst h
    simp only [Rd, rep]; exact ht.l1 (fun b hb => hlt b (foot_mem (find_mem hf) hb))
  · cases hv; simp only [pathV, Option.some.injEq] at h; subst h
    simp only [Rd, rep]; exact ht.l2 (fun b hb => hlt b (foot_mem (find_mem hf) hb))
  · cases hv; simp only [pathV, Option.some.injEq] at h; subst h
    simp only [Rd, rep]; exact ht.l3 (fun b hb => hlt b (foot_mem (find_mem hf) hb))
  · cases hv; simp only [pathV, Option.some.injEq] at h; subst h
    simp only [Rd, rep]
    obtain ⟨us, h1, h2⟩ := ht
    exact ⟨us, h1.slC (fun b hb => hlt b (foot_mem (find_mem hf) hb)), h2.mono (fun _ _ hl => hl.le hS)⟩
  · cases hv; simp only [pathV, Option.some.injEq] at h; subst h
    simp only [Rd, rep]
    obtain ⟨us, h1, h2⟩ := ht
    exact ⟨us, h1.slC (fun b hb => hlt b (foot_mem (find_mem hf) hb)), h2.mono (fun _ _ hl => hl.le hS)⟩
  · split at hv
    · rename_i hd
      cases hv; simp only [pathV, Option.some.injEq] at h; subst h
      simp only [Rd, rep]
      obtain ⟨us, h1, h2⟩ := ht
      exact ⟨us, h1.slC (fun b hb => hlt b (foot_mem (find_mem hf) hb)), datas_low hd h2⟩
    · cases hv
  · cases hv
    obtain ⟨us, f0, fs, h1, h2, h3⟩ := ht
    obtain ⟨x, hx, hp⟩ := h1.row h
    simp only [pathV, Option.some.injEq] at hp; subst hp
    rename_i xss i
    have hl : i < xss.length := by rw [h2.length.2]; exact (List.getElem?_eq_some_iff.1 hx).1
    obtain ⟨a, c, ha, hc, hr⟩ := h2.get i _ (getD_some (d := []) hl)
    rw [hx] at hc; cases hc
    simp only [Rd, rep]
    exact hr.l1 (fun b hb => hlt b (foot_mem (find_mem hf) (by simp only [h3, List.mem_append, List.mem_flatten]; exact .inr ⟨a, List.mem_of_getElem? ha, hb⟩)))
  · cases hv
    obtain ⟨us, f0, fs, h1, h2, h3⟩ := ht
    obtain ⟨x, hx, hp⟩ := h1.row h
    simp only [pathV, Option.some.injEq] at hp; subst hp
    rename_i xss i
    have hl : i < xss.length := by rw [h2.length.2]; exact (List.getElem?_eq_some_iff.1 hx).1
    obtain ⟨a, c, ha, hc, hr⟩ := h2.get i _ (getD_some (d := []) hl)
    rw [hx] at hc; cases hc
    simp only [Rd, rep]
    exact hr.l2 (fun b hb => hlt b (foot_mem (find_mem hf) (by simp only [h3, List.mem_append, List.mem_flatten]; exact .inr ⟨a, List.mem_of_getElem? ha, hb⟩)))
  · cases hv
    obtain ⟨us, f0, fs, h1, h2, h3⟩ := ht
    obtain ⟨x, hx, hp⟩ := h1.row h
    rename_i xss i j
    have hl : i < xss.length := by rw [h2.length.2]; exact (List.getElem?_eq_some_iff.1 hx).1
    obtain ⟨a, c, ha, hc, hr⟩ := h2.get i _ (getD_some (d := []) hl)
    rw [hx] at hc; cases hc
    obtain ⟨us', g0, gs, k1, k2, k3⟩ := hr
    obtain ⟨y, hy, hp'⟩ := k1.row hp
    simp only [pathV, Option.some.injEq] at hp'; subst hp'
    have hl' : j < (xss.getD i []).length := by rw [k2.length.2]; exact (List.getElem?_eq_some_iff.1 hy).1
    obtain ⟨a', c', ha', hc', hr'⟩ := k2.get j _ (getD_some (d := []) hl')
    rw [hy] at hc'; cases hc'
    simp only [Rd, rep]
    exact hr'.l1 (fun b hb => hlt b (foot_mem (find_mem hf) (by
      simp only [h3, List.mem_append, List.mem_flatten]
      exact .inr ⟨a, List.mem_of_getElem? ha, by simp only [k3, List.mem_append, List.mem_flatten]; exact .inr ⟨a', List.mem_of_getElem? ha', hb⟩⟩)))

mutual
theorem view1_rep (ho : Owns cx H w ι F) : ∀ (av : AV) (d : AV) (v : Value), view1 H av = some d → rep (mem cx w H ι F) av v → Rd w (allow cx w) d v
  | .ref id path, d, v, hv, hr => by
    simp only [view1] at hv
    simp only [rep] at hr
    exact viewT_rep ho hv hr.2
  | .sub id path lo hi, d, v, hv, hr => by
    simp only [view1] at hv
    simp only [rep] at hr
    obtain ⟨_, a, n, cap, h1, h2, h3, _, rfl⟩ := hr
    cases hx : viewT (find H id) path with
    | none => rw [hx] at hv; cases hv
    | some x =>
      rw [hx] at hv
      simp only [Option.bind_some] at hv
      exact cut_rep hv (viewT_rep ho hx h1) h2 h3
  | .agg vs, d, v, hv, hr => by
    simp only [view1, Option.map_eq_some_iff] at hv
    obtain ⟨ds, h1, rfl⟩ := hv
    simp only [rep] at hr
    obtain ⟨us, rfl, h2⟩ := hr
    simp only [Rd, rep]
    exact ⟨us, rfl, views1_rep ho vs ds us h1 h2⟩
  | .tup vs, d, v, hv, hr => by
    simp only [view1, Option.map_eq_some_iff] at hv
    obtain ⟨ds, h1, rfl⟩ := hv
    simp only [rep] at hr
    obtain ⟨us, rfl, h2⟩ := hr
    simp only [Rd, rep]
    exact ⟨us, rfl, views1_rep ho vs ds us h1 h2⟩
  | .eref _ _ _, _, _, hv, _ => by simp [view1] at hv
  | .bptr _ _, _, _, hv, _ => by simp [view1] at hv
  | .when _ _, _, _, hv, _ => by simp [view1] at hv
  | .junk, _, _, hv, _ => by simp [view1] at hv
  | .int n, d, v, hv, hr => by
    simp only [view1] at hv; split at hv
    · rename_i hd; cases hv; exact data_low hd hr
    · cases hv
  | .ik _ _, d, v, hv, hr => by
    simp only [view1] at hv; split at hv
    · rename_i hd; cases hv; exact data_low hd hr
    · cases hv
  | .bool _, d, v, hv, hr => by
    simp only [view1] at hv; split at hv
    · rename_i hd; cases hv; exact data_low hd hr
    · cases hv
  | .str _, d, v, hv, hr => by
    simp only [view1] at hv; split at hv
    · rename_i hd; cases hv; exact data_low hd hr
    · cases hv
  | .nil, d, v, hv, hr => by
    simp only [view1] at hv; split at hv
    · rename_i hd; cases hv; exact data_low hd hr
    · cases hv
  | .nilfn, d, v, hv, hr => by
    simp only [view1] at hv; split at hv
    · rename_i hd; cases hv; exact data_low hd hr
    · cases hv
  | .l1 _, d, v, hv, hr => by
    simp only [view1] at hv; split at hv
    · rename_i hd; cases hv; exact data_low hd hr
    · cases hv
  | .l2 _, d, v, hv, hr => by
    simp only [view1] at hv; split at hv
    · rename_i hd; cases hv; exact data_low hd hr
    · cases hv
  | .l3 _, d, v, hv, hr => by
    simp only [view1] at hv; split at hv
    · rename_i hd; cases hv; exact data_low hd hr
    · cases hv
  | .lv _, d, v, hv, hr => by
    simp only [view1] at hv; split at hv
    · rename_i hd; cases hv; exact data_low hd hr
    · cases hv
  | .fn _ _, d, v, hv, hr => by
    simp only [view1] at hv; split at hv
    · rename_i hd; cases hv; exact data_low hd hr
    · cases hv
  | .eptr _ _, d, v, hv, hr => by
    simp only [view1] at hv; split at hv
    · rename_i hd; cases hv; exact data_low hd hr
    · cases hv
  | .cptr _ _, d, v, hv, hr => by
    simp only [view1] at hv; split at hv
    · rename_i hd; cases hv; exact data_low hd hr
    · cases hv
theorem views1_rep (ho : Owns cx H w ι F) : ∀ (vs : List AV) (ds : List AV) (us : List Value), views1 H vs = some ds → reps (mem cx w H ι F) vs us → reps ⟨w, allow cx w, fun _ => undef, fun _ _ => False⟩ ds us
  | [], ds, us, hv, hr => by
    simp only [views1, Option.some.injEq] at hv
    subst hv
    simpa only [reps] using hr
  | a :: as, ds, us, hv, hr => by
    simp only [views1] at hv
    split at hv
    · rename_i x xs hx hxs
      cases hv
      simp only [reps] at hr ⊢
      obtain ⟨u, us', h1, h2, h3⟩ := hr
      exact ⟨u, us', h1, view1_rep ho a x u hx h2, views1_rep ho as xs us' hxs h3⟩
    · cases hv
end

theorem viewB_rep (ho : Owns cx H w ι F) {av d : AV} {v : Value} (hv : viewB H av = some d) (hr : rep (mem cx w H ι F) av v) : Rd w (allow cx w) d v := by
  unfold viewB at hv
  split at hv
  · rename_i id off
    split at hv
    · rename_i vs hf
      simp only [Option.map_eq_some_iff] at hv
      obtain ⟨ds, h1, rfl⟩ := hv
      simp only [rep] at hr
      obtain ⟨_, b, h2, rfl⟩ := hr
      have ht := ho.trees _ (find_mem hf)
      simp only [treeRep] at ht
      obtain ⟨b', us, E, h3, h4, h5, h6⟩ := ht
      simp only [mem] at h2 h3 h5
      rw [h2] at h3; cases h3
      simp only [Rd, rep]
      refine ⟨b, us, rfl, ⟨(ho.mine b (foot_mem (find_mem hf) (by simp [h4]))).1, .inr (ho.mine b (foot_mem (find_mem hf) (by simp [h4]))).2⟩, fun i u hu => ?_, views1_rep ho vs ds us h1 h6⟩
      simp [World.cell?, h5, hu]
    · cases hv
  · exact view1_rep ho _ _ _ hv hr
theorem viewsB_rep (ho : Owns cx H w ι F) : ∀ (vs : List AV) (ds : List AV) (us : List Value), viewsB H vs = some ds → reps (mem cx w H ι F) vs us → reps ⟨w, allow cx w, fun _ => undef, fun _ _ => False⟩ ds us
  | [], ds, us, hv, hr => by
    simp only [viewsB, Option.some.injEq] at hv
    subst hv
    simpa only [reps] using hr
  | a :: as, ds, us, hv, hr => by
    simp only [viewsB] at hv
    split at hv
    · rename_i x xs hx hxs
      cases hv
      simp only [reps] at hr ⊢
      obtain ⟨u, us', h1, h2, h3⟩ := hr
      exact ⟨u, us', h1, viewB_rep ho hx h2, viewsB_rep ho as xs us' hxs h3⟩
    · cases hv
theorem view_rep (ho : Owns cx H w ι F) {av d : AV} {v : Value} (hv : view H av = some d) (hr : rep (mem cx w H ι F) av v) : Rd w (allow cx w) d v := by
  unfold view at hv
  split at hv
  · simp only [Option.map_eq_some_iff] at hv
    obtain ⟨ds, h1, rfl⟩ := hv
    simp only [rep] at hr
    obtain ⟨us, rfl, h2⟩ := hr
    simp only [Rd, rep]
    exact ⟨us, rfl, viewsB_rep ho _ ds us h1 h2⟩
  · exact viewB_rep ho hv hr
theorem views_rep (ho : Owns cx H w ι F) : ∀ (vs : List AV) (ds : List AV) (us : List Value), views H vs = some ds → reps (mem cx w H ι F) vs us → All2 (Rd w (allow cx w)) ds us
  | [], ds, us, hv, hr => by
    simp only [views, Option.some.injEq] at hv
    subst hv
    simp only [reps] at hr
    subst hr
    trivial
  | a :: as, ds, us, hv, hr => by
    simp only [views] at hv
    split at hv
    · rename_i x xs hx hxs
      cases hv
      simp only [reps] at hr
      obtain ⟨u, us', rfl, h2, h3⟩ := hr
      exact ⟨view_rep ho hx h2, views_rep ho as xs us' hxs h3⟩
    · cases hv
end

/-! ### Contracts -/
mutual
/-- A value all of whose slices are the holder's own, each in blocks of its own. -/
def ownR (w : World) (fp : List Nat) : AV → Value → Prop
  | .l1 xs, v => O1 w fp xs v
  | .l2 xss, v => O2 w fp xss v
  | .l3 xsss, v => O3 w fp xsss v
  | .agg vs, v => ∃ us : List Value, v = .agg us.toArray ∧ ownRs w fp vs us
  | .tup vs, v => ∃ us : List Value, v = .tuple us.toArray ∧ ownRs w fp vs us
  | .int n, v => fp = [] ∧ v = .int .i64 n ∧ InR n
  | .bool b, v => fp = [] ∧ v = .bool b
  | .str s, v => fp = [] ∧ v = .string s ∧ s.size ≤ maxLen
  | .nil, v => fp = [] ∧ v = .slice none 0 0
  | _, _ => False
def ownRs (w : World) (fp : List Nat) : List AV → List Value → Prop
  | [], us => us = [] ∧ fp = []
  | a :: as, us => ∃ u us' f g, us = u :: us' ∧ fp = f ++ g ∧ ownR w f a u ∧ ownRs w g as us'
end

mutual
theorem ownR.rd {w : World} : ∀ (av : AV) (fp : List Nat) (v : Value), ownR w fp av v → ∀ {m : Mem}, m.w = w → (∀ b ∈ fp, m.S b) → rep m av v
  | .l1 _, _, _, h, m, hw, hS => by subst hw; simp only [ownR] at h; simp only [rep]; exact h.l1 hS
  | .l2 _, _, _, h, m, hw, hS => by subst hw; simp only [ownR] at h; simp only [rep]; exact h.l2 hS
  | .l3 _, _, _, h, m, hw, hS => by subst hw; simp only [ownR] at h; simp only [rep]; exact h.l3 hS
  | .agg vs, fp, _, h, m, hw, hS => by
    simp only [ownR] at h; simp only [rep]
    obtain ⟨us, h1, h2⟩ := h
    exact ⟨us, h1, ownRs.rd vs fp us h2 hw hS⟩
  | .tup vs, fp, _, h, m, hw, hS => by
    simp only [ownR] at h; simp only [rep]
    obtain ⟨us, h1, h2⟩ := h
    exact ⟨us, h1, ownRs.rd vs fp us h2 hw hS⟩
  | .int _, _, _, h, m, hw, hS => by simp only [ownR] at h; simp only [rep]; exact h.2
  | .bool _, _, _, h, m, hw, hS => by simp only [ownR] at h; simp only [rep]; exact h.2
  | .str _, _, _, h, m, hw, hS => by simp only [ownR] at h; simp only [rep]; exact h.2
  | .nil, _, _, h, m, hw, hS => by simp only [ownR] at h; simp only [rep]; exact h.2
  | .ik _ _, _, _, h, _, _, _ => by simp [ownR] at h
  | .nilfn, _, _, h, _, _, _ => by simp [ownR] at h
  | .lv _, _, _, h, _, _, _ => by simp [ownR] at h
  | .fn _ _, _, _, h, _, _, _ => by simp [ownR] at h
  | .eptr _ _, _, _, h, _, _, _ => by simp [ownR] at h
  | .cptr _ _, _, _, h, _, _, _ => by simp [ownR] at h
  | .ref _ _, _, _, h, _, _, _ => by simp [ownR] at h
  | .sub _ _ _ _, _, _, h, _, _, _ => by simp [ownR] at h
  | .eref _ _ _, _, _, h, _, _, _ => by simp [ownR] at h
  | .bptr _ _, _, _, h, _, _, _ => by simp [ownR] at h
  | .when _ _, _, _, h, _, _, _ => by simp [ownR] at h
  | .junk, _, _, h, _, _, _ => by simp [ownR] at h
theorem ownRs.rd {w : World} : ∀ (vs : List AV) (fp : List Nat) (us : List Value), ownRs w fp vs us → ∀ {m : Mem}, m.w = w → (∀ b ∈ fp, m.S b) → reps m vs us
  | [], _, _, h, m, hw, hS => by simp only [ownRs] at h; simp only [reps]; exact h.1
  | a :: as, _, _, h, m, hw, hS => by
    simp only [ownRs] at h; simp only [reps]
    obtain ⟨u, us', f, g, h1, rfl, h3, h4⟩ := h
    exact ⟨u, us', h1, ownR.rd a f u h3 hw (fun b hb => hS b (by simp [hb])), ownRs.rd as g us' h4 hw (fun b hb => hS b (by simp [hb]))⟩
end

structure PureCall (P : Program) (f : FuncId) (ds : List AV) (r : AV) : Prop where
  enter : ∀ args w, (callFunc f args).run P w = .ok (.enter f args) w
  runs : ∀ (vs : List Value) (w : World) (S : Nat → Prop), (∀ b, S b → b < w.heap.size) → All2 (Rd w S) ds vs →
    Calls P f vs.toArray w fun e w' => ∃ v, e = .returned v ∧ Ext w w' ∧ Rd w' (fun b => S b ∨ (w.heap.size ≤ b ∧ b < w'.heap.size)) r v

structure FreshCall (P : Program) (f : FuncId) (ds : List AV) (r : AV) : Prop where
  enter : ∀ args w, (callFunc f args).run P w = .ok (.enter f args) w
  runs : ∀ (vs : List Value) (w : World) (S : Nat → Prop), (∀ b, S b → b < w.heap.size) → All2 (Rd w S) ds vs →
    Calls P f vs.toArray w fun e w' => ∃ v fp, e = .returned v ∧ Ext w w' ∧ ownR w' fp r v ∧ fp.Nodup ∧ ∀ b ∈ fp, w.heap.size ≤ b ∧ b < w'.heap.size

theorem FreshCall.pure {P : Program} {f : FuncId} {ds : List AV} {r : AV} (h : FreshCall P f ds r) : PureCall P f ds r :=
  ⟨h.enter, fun vs w S hS hd => (h.runs vs w S hS hd).mono fun _ _ ⟨v, fp, h1, h2, h3, _, h5⟩ => ⟨v, h1, h2, ownR.rd r fp v h3 rfl (fun b hb => .inr (h5 b hb))⟩⟩

/-- A call that writes to nothing: what it is handed is data; or what it hands back bears no address, or is its own. -/
def ACall (P : Program) (H : List (Nat × Tree)) (f : FuncId) (args : List AV) (v : AV) : Prop :=
  (areData args = true ∧ PureCall P f args v) ∨ (∃ ds, views H args = some ds ∧ ((memFree v = true ∧ PureCall P f ds v) ∨ FreshCall P f ds v))

theorem acall_sound {P : Program} {cx : Cx} {H : List (Nat × Tree)} {w : World} {ι : Nat → Value} {F : Nat → List Nat} (ho : Owns cx H w ι F) {f : FuncId} {args : List AV} {v : AV} (h : ACall P H f args v)
    {us : List Value} (hr : reps (mem cx w H ι F) args us) :
    (∀ args w, (callFunc f args).run P w = .ok (.enter f args) w) ∧ Calls P f us.toArray w fun e w' => ∃ u, e = .returned u ∧ Ext w w' ∧ rep (mem cx w' H ι F) v u := by
  have himm : ∀ (w' : World), Ext w w' → ∀ b, (imm cx w H F b ∨ (w.heap.size ≤ b ∧ b < w'.heap.size)) → imm cx w' H F b := by
    intro w' e b hb
    rcases hb with hb | hb
    · exact ⟨hb.1, Nat.lt_of_lt_of_le hb.2.1 e.size, hb.2.2⟩
    · exact ⟨.inr (Nat.le_trans ho.old hb.1), hb.2, fun hf => by have := (ho.mine b hf).1; omega⟩
  rcases h with ⟨hd, hc⟩ | ⟨ds, hv, hc⟩
  · have h1 : All2 (Rd w (imm cx w H F)) args us := by
      have := reps_data (m := mem cx w H ι F) (m' := ⟨w, imm cx w H F, fun _ => undef, fun _ _ => False⟩) rfl (fun b hb => hb) _ _ hd hr
      rw [reps_all2] at this
      exact this
    refine ⟨hc.enter, (hc.runs us w (imm cx w H F) (fun b hb => hb.2.1) h1).mono fun e w' ⟨u, k1, k2, k3⟩ => ⟨u, k1, k2, ?_⟩⟩
    exact rep.le (m := ⟨w', fun b => imm cx w H F b ∨ (w.heap.size ≤ b ∧ b < w'.heap.size), fun _ => undef, fun _ _ => False⟩) (m' := mem cx w' H ι F) ⟨fun b hb => ⟨himm w' k2 b hb, rfl⟩, fun _ _ hid => hid.elim⟩ _ _ k3
  · have h1 := views_rep ho args ds us hv hr
    rcases hc with ⟨hm, hc⟩ | hc
    · exact ⟨hc.enter, (hc.runs us w (allow cx w) (fun b hb => hb.1) h1).mono fun e w' ⟨u, k1, k2, k3⟩ => ⟨u, k1, k2, rep_memFree hm k3⟩⟩
    · exact ⟨hc.enter, (hc.runs us w (allow cx w) (fun b hb => hb.1) h1).mono fun e w' ⟨u, fp, k1, k2, k3, _, k5⟩ =>
        ⟨u, k1, k2, ownR.rd v fp u k3 rfl (fun b hb => himm w' k2 b (.inr (k5 b hb)))⟩⟩

end Go.Aw
