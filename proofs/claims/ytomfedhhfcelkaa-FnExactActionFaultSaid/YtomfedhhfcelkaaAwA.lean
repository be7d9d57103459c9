/-
  The abstract values of a walk and what they stand for in memory: lists for slices that are only read, trees for memory that the call owns. Of no program.
-/
import Derived.WalkKit
import Derived.Below
import Derived.Still
set_option linter.unusedSimpArgs false
set_option linter.unusedVariables false
namespace Go.Aw
open Go.RowKit

theorem orMap {a b c d : Prop} (h : a ∨ b) (f : a → c) (g : b → d) : c ∨ d := h.elim (fun x => .inl (f x)) (fun x => .inr (g x))

def InR (n : Int) : Prop := -9223372036854775808 ≤ n ∧ n ≤ 9223372036854775807

inductive AV where
  | int (n : Int)
  | ik (k : IntKind) (n : Int)
  | bool (b : Bool)
  | str (s : ByteArray)
  | nil
  | nilfn
  | l1 (xs : List Int)
  | l2 (xss : List (List Int))
  | l3 (xsss : List (List (List Int)))
  | lv (vs : List AV)
  | agg (vs : List AV)
  | tup (vs : List AV)
  | fn (f : Nat) (caps : List AV)
  | eptr (av : AV) (i : Nat)
  | cptr (vs : List AV) (off : Nat)
  | ref (id : Nat) (path : List Nat)
  | sub (id : Nat) (path : List Nat) (lo hi : Nat)
  | eref (id : Nat) (path : List Nat) (i : Nat)
  | bptr (id : Nat) (off : Nat)
  | when (g : Bool) (v : AV)
  | junk
  deriving Inhabited

/-- What the call owns: one tree of blocks each. -/
inductive Tree where
  | t1 (xs : List Int)
  | t2 (xss : List (List Int))
  | t3 (xsss : List (List (List Int)))
  | r2 (xss : List (List Int))
  | r3 (xsss : List (List (List Int)))
  | lv (vs : List AV)
  | bx (vs : List AV)
  deriving Inhabited

/-! ### Lists in step -/
def All2 {α β : Type} (R : α → β → Prop) : List α → List β → Prop
  | [], [] => True
  | a :: as, b :: bs => R a b ∧ All2 R as bs
  | _, _ => False

def All3 {α β γ : Type} (R : α → β → γ → Prop) : List α → List β → List γ → Prop
  | [], [], [] => True
  | a :: as, b :: bs, c :: cs => R a b c ∧ All3 R as bs cs
  | _, _, _ => False

theorem All2.length {α β : Type} {R : α → β → Prop} : ∀ {as : List α} {bs : List β}, All2 R as bs → as.length = bs.length
  | [], [], _ => rfl
  | _ :: _, _ :: _, h => by simp [All2.length h.2]
  | [], _ :: _, h => h.elim
  | _ :: _, [], h => h.elim

theorem All2.mono {α β : Type} {R R' : α → β → Prop} (hm : ∀ a b, R a b → R' a b) : ∀ {as : List α} {bs : List β}, All2 R as bs → All2 R' as bs
  | [], [], _ => trivial
  | _ :: _, _ :: _, h => ⟨hm _ _ h.1, All2.mono hm h.2⟩
  | [], _ :: _, h => h.elim
  | _ :: _, [], h => h.elim

theorem All2.get {α β : Type} {R : α → β → Prop} : ∀ {as : List α} {bs : List β}, All2 R as bs → ∀ (i : Nat) (a : α), as[i]? = some a → ∃ b, bs[i]? = some b ∧ R a b
  | [], [], _, _, _, h => by simp at h
  | _ :: _, b :: _, h, 0, a, ha => by simp at ha; subst ha; exact ⟨b, rfl, h.1⟩
  | _ :: _, _ :: _, h, i + 1, a, ha => by
    obtain ⟨b, hb, hr⟩ := All2.get h.2 i a (by simpa using ha)
    exact ⟨b, by simpa using hb, hr⟩
  | [], _ :: _, h, _, _, _ => h.elim
  | _ :: _, [], h, _, _, _ => h.elim

theorem All2.of_get {α β : Type} {R : α → β → Prop} : ∀ {as : List α} {bs : List β}, as.length = bs.length → (∀ (i : Nat) a b, as[i]? = some a → bs[i]? = some b → R a b) → All2 R as bs
  | [], [], _, _ => trivial
  | a :: as, b :: bs, hl, h => ⟨h 0 a b rfl rfl, All2.of_get (by simpa using hl) (fun i x y hx hy => h (i + 1) x y (by simpa using hx) (by simpa using hy))⟩
  | [], _ :: _, hl, _ => by simp at hl
  | _ :: _, [], hl, _ => by simp at hl

theorem All2.append {α β : Type} {R : α → β → Prop} : ∀ {as : List α} {bs : List β} {cs : List α} {ds : List β}, All2 R as bs → All2 R cs ds → All2 R (as ++ cs) (bs ++ ds)
  | [], [], _, _, _, h => h
  | _ :: _, _ :: _, _, _, h, k => ⟨h.1, All2.append h.2 k⟩
  | [], _ :: _, _, _, h, _ => h.elim
  | _ :: _, [], _, _, h, _ => h.elim

theorem All2.take {α β : Type} {R : α → β → Prop} : ∀ (n : Nat) {as : List α} {bs : List β}, All2 R as bs → All2 R (as.take n) (bs.take n)
  | 0, _, _, _ => trivial
  | _ + 1, [], [], _ => trivial
  | n + 1, _ :: _, _ :: _, h => ⟨h.1, All2.take n h.2⟩
  | _ + 1, [], _ :: _, h => h.elim
  | _ + 1, _ :: _, [], h => h.elim

theorem All2.drop {α β : Type} {R : α → β → Prop} : ∀ (n : Nat) {as : List α} {bs : List β}, All2 R as bs → All2 R (as.drop n) (bs.drop n)
  | 0, _, _, h => by simpa using h
  | _ + 1, [], [], _ => trivial
  | n + 1, _ :: _, _ :: _, h => by simpa using All2.drop n h.2
  | _ + 1, [], _ :: _, h => h.elim
  | _ + 1, _ :: _, [], h => h.elim

theorem All2.set {α β : Type} {R : α → β → Prop} : ∀ (i : Nat) {as : List α} {bs : List β} {a : α} {b : β}, All2 R as bs → R a b → All2 R (as.set i a) (bs.set i b)
  | _, [], [], _, _, _, _ => trivial
  | 0, _ :: _, _ :: _, _, _, h, k => ⟨k, h.2⟩
  | i + 1, _ :: _, _ :: _, _, _, h, k => ⟨h.1, All2.set i h.2 k⟩
  | _, [], _ :: _, _, _, h, _ => h.elim
  | _, _ :: _, [], _, _, h, _ => h.elim

theorem All3.length {α β γ : Type} {R : α → β → γ → Prop} : ∀ {as : List α} {bs : List β} {cs : List γ}, All3 R as bs cs → as.length = bs.length ∧ bs.length = cs.length
  | [], [], [], _ => ⟨rfl, rfl⟩
  | _ :: _, _ :: _, _ :: _, h => by have := All3.length h.2; simp [this.1, this.2]
  | [], _ :: _, _, h => h.elim
  | [], [], _ :: _, h => h.elim
  | _ :: _, [], _, h => h.elim
  | _ :: _, _ :: _, [], h => h.elim

theorem All3.mono {α β γ : Type} {R R' : α → β → γ → Prop} : ∀ {as : List α} {bs : List β} {cs : List γ}, (∀ a ∈ as, ∀ b c, R a b c → R' a b c) → All3 R as bs cs → All3 R' as bs cs
  | [], [], [], _, _ => trivial
  | _ :: _, _ :: _, _ :: _, hm, h => ⟨hm _ (List.mem_cons_self ..) _ _ h.1, All3.mono (fun a ha => hm a (List.mem_cons_of_mem _ ha)) h.2⟩
  | [], _ :: _, _, _, h => h.elim
  | [], [], _ :: _, _, h => h.elim
  | _ :: _, [], _, _, h => h.elim
  | _ :: _, _ :: _, [], _, h => h.elim

theorem All3.get {α β γ : Type} {R : α → β → γ → Prop} : ∀ {as : List α} {bs : List β} {cs : List γ}, All3 R as bs cs → ∀ (i : Nat) (b : β), bs[i]? = some b → ∃ a c, as[i]? = some a ∧ cs[i]? = some c ∧ R a b c
  | [], [], [], _, _, _, h => by simp at h
  | a :: _, _ :: _, c :: _, h, 0, b, hb => by simp at hb; subst hb; exact ⟨a, c, rfl, rfl, h.1⟩
  | _ :: _, _ :: _, _ :: _, h, i + 1, b, hb => by
    obtain ⟨a, c, ha, hc, hr⟩ := All3.get h.2 i b (by simpa using hb)
    exact ⟨a, c, by simpa using ha, by simpa using hc, hr⟩
  | [], _ :: _, _, h, _, _, _ => h.elim
  | [], [], _ :: _, h, _, _, _ => h.elim
  | _ :: _, [], _, h, _, _, _ => h.elim
  | _ :: _, _ :: _, [], h, _, _, _ => h.elim

theorem All3.append {α β γ : Type} {R : α → β → γ → Prop} : ∀ {as : List α} {bs : List β} {cs : List γ} {as' : List α} {bs' : List β} {cs' : List γ}, All3 R as bs cs → All3 R as' bs' cs' → All3 R (as ++ as') (bs ++ bs') (cs ++ cs')
  | [], [], [], _, _, _, _, h => h
  | _ :: _, _ :: _, _ :: _, _, _, _, h, k => ⟨h.1, All3.append h.2 k⟩
  | [], _ :: _, _, _, _, _, h, _ => h.elim
  | [], [], _ :: _, _, _, _, h, _ => h.elim
  | _ :: _, [], _, _, _, _, h, _ => h.elim
  | _ :: _, _ :: _, [], _, _, _, h, _ => h.elim

theorem All3.set {α β γ : Type} {R : α → β → γ → Prop} : ∀ (i : Nat) {as : List α} {bs : List β} {cs : List γ} {a : α} {b : β} {c : γ}, All3 R as bs cs → R a b c → All3 R (as.set i a) (bs.set i b) (cs.set i c)
  | _, [], [], [], _, _, _, _, _ => trivial
  | 0, _ :: _, _ :: _, _ :: _, _, _, _, h, k => ⟨k, h.2⟩
  | i + 1, _ :: _, _ :: _, _ :: _, _, _, _, h, k => ⟨h.1, All3.set i h.2 k⟩
  | _, [], _ :: _, _, _, _, _, h, _ => h.elim
  | _, [], [], _ :: _, _, _, _, h, _ => h.elim
  | _, _ :: _, [], _, _, _, _, h, _ => h.elim
  | _, _ :: _, _ :: _, [], _, _, _, h, _ => h.elim

/-! ### Slices that are only read -/
/-- 'v' is a slice of one-cell elements that hold 'us', in a block that 'S' lets. -/
def SlC (w : World) (S : Nat → Prop) (us : List Value) (v : Value) : Prop :=
  ((∃ a, v = .slice a 0 0) ∧ us = []) ∨
  ∃ b off cap, v = .slice (some ⟨b, off, none⟩) us.length cap ∧ us.length ≤ cap ∧ cap ≤ maxLen ∧ S b ∧
    ∀ i u, us[i]? = some u → w.cell? ⟨b, off + i, none⟩ = some u

def ints (xs : List Int) : List Value := xs.map (Value.int .i64)

def L1 (w : World) (S : Nat → Prop) (xs : List Int) (v : Value) : Prop := SlC w S (ints xs) v ∧ ∀ x ∈ xs, InR x
def L2 (w : World) (S : Nat → Prop) (xss : List (List Int)) (v : Value) : Prop := ∃ us, SlC w S us v ∧ All2 (L1 w S) xss us
def L3 (w : World) (S : Nat → Prop) (xsss : List (List (List Int))) (v : Value) : Prop := ∃ us, SlC w S us v ∧ All2 (L2 w S) xsss us

/-- The slice at the end of a path of indices, from the root's value on. -/
def pathV (w : World) : Value → List Nat → Option Value
  | v, [] => some v
  | .slice (some ⟨b, off, none⟩) n _, i :: p => if i < n then (w.cell? ⟨b, off + i, none⟩).bind (fun u => pathV w u p) else none
  | _, _ :: _ => none

structure Mem where
  w : World
  S : Nat → Prop
  ι : Nat → Value
  D : Nat → List Nat → Prop

mutual
def rep (m : Mem) : AV → Value → Prop
  | .int n, v => v = .int .i64 n ∧ InR n
  | .ik k n, v => v = .int k n
  | .bool b, v => v = .bool b
  | .str s, v => v = .string s ∧ s.size ≤ maxLen
  | .nil, v => v = .slice none 0 0
  | .nilfn, v => v = .nilFunc
  | .l1 xs, v => L1 m.w m.S xs v
  | .l2 xss, v => L2 m.w m.S xss v
  | .l3 xsss, v => L3 m.w m.S xsss v
  | .lv vs, v => ∃ us, SlC m.w m.S us v ∧ reps m vs us
  | .agg vs, v => ∃ us : List Value, v = .agg us.toArray ∧ reps m vs us
  | .tup vs, v => ∃ us : List Value, v = .tuple us.toArray ∧ reps m vs us
  | .fn f caps, v => ∃ us : List Value, v = .func (.func f) #[] us.toArray ∧ reps m caps us
  | .eptr av i, v => ∃ b off n cap, rep m av (.slice (some ⟨b, off, none⟩) n cap) ∧ i < n ∧ v = .pointer (some ⟨b, off + i, none⟩)
  | .cptr vs off, v => ∃ b us, v = .pointer (some ⟨b, off, none⟩) ∧ m.S b ∧ (∀ i u, us[i]? = some u → m.w.cell? ⟨b, i, none⟩ = some u) ∧ reps m vs us
  | .ref id path, v => m.D id path ∧ pathV m.w (m.ι id) path = some v
  | .sub id path lo hi, v => m.D id path ∧ ∃ a n cap, pathV m.w (m.ι id) path = some (.slice a n cap) ∧ lo ≤ hi ∧ hi ≤ n ∧ n ≤ maxLen ∧ v = .slice (if cap = lo then a else a.map (·.add lo)) (hi - lo) (cap - lo)
  | .eref id path i, v => m.D id path ∧ ∃ b off n cap, pathV m.w (m.ι id) path = some (.slice (some ⟨b, off, none⟩) n cap) ∧ i < n ∧ v = .pointer (some ⟨b, off + i, none⟩)
  | .bptr id off, v => m.D id [] ∧ ∃ b, m.ι id = .pointer (some ⟨b, 0, none⟩) ∧ v = .pointer (some ⟨b, off, none⟩)
  | .when g x, v => (g = true → rep m x v) ∧ (g = false → v = undef)
  | .junk, _ => True
def reps (m : Mem) : List AV → List Value → Prop
  | [], us => us = []
  | a :: as, us => ∃ u us', us = u :: us' ∧ rep m a u ∧ reps m as us'
end

theorem reps_all2 (m : Mem) : ∀ (vs : List AV) (us : List Value), reps m vs us ↔ All2 (rep m) vs us
  | [], us => by cases us <;> simp [reps, All2]
  | a :: as, us => by
    cases us with
    | nil => simp [reps, All2]
    | cons u us =>
      simp only [reps, All2, ← reps_all2 m as us]
      constructor
      · rintro ⟨u', us', h, h1, h2⟩; cases h; exact ⟨h1, h2⟩
      · rintro ⟨h1, h2⟩; exact ⟨u, us, rfl, h1, h2⟩

/-- What holds of 'm' is still there in 'm''. -/
structure Mem.le (m m' : Mem) : Prop where
  S : ∀ b, m.S b → m'.S b ∧ m'.w.heap[b]? = m.w.heap[b]?
  D : ∀ id path, m.D id path → m'.D id path ∧ m'.ι id = m.ι id ∧ ∀ v, pathV m.w (m.ι id) path = some v → pathV m'.w (m.ι id) path = some v

theorem cell_of_heap {w w' : World} {b : Nat} (h : w'.heap[b]? = w.heap[b]?) (o : Nat) (s : Option Nat) : w'.cell? ⟨b, o, s⟩ = w.cell? ⟨b, o, s⟩ := by
  simp [World.cell?, h]

theorem SlC.le {w w' : World} {S S' : Nat → Prop} (hS : ∀ b, S b → S' b ∧ w'.heap[b]? = w.heap[b]?) {us : List Value} {v : Value} (h : SlC w S us v) : SlC w' S' us v := by
  rcases h with h | ⟨b, off, cap, h1, h2, h3, h4, h5⟩
  · exact .inl h
  · exact .inr ⟨b, off, cap, h1, h2, h3, (hS b h4).1, fun i u hu => by rw [cell_of_heap (hS b h4).2]; exact h5 i u hu⟩
theorem L1.le {w w' : World} {S S' : Nat → Prop} (hS : ∀ b, S b → S' b ∧ w'.heap[b]? = w.heap[b]?) {xs : List Int} {v : Value} (h : L1 w S xs v) : L1 w' S' xs v := ⟨h.1.le hS, h.2⟩
theorem L2.le {w w' : World} {S S' : Nat → Prop} (hS : ∀ b, S b → S' b ∧ w'.heap[b]? = w.heap[b]?) {xs : List (List Int)} {v : Value} (h : L2 w S xs v) : L2 w' S' xs v :=
  let ⟨us, h1, h2⟩ := h; ⟨us, h1.le hS, h2.mono fun _ _ h => h.le hS⟩
theorem L3.le {w w' : World} {S S' : Nat → Prop} (hS : ∀ b, S b → S' b ∧ w'.heap[b]? = w.heap[b]?) {xs : List (List (List Int))} {v : Value} (h : L3 w S xs v) : L3 w' S' xs v :=
  let ⟨us, h1, h2⟩ := h; ⟨us, h1.le hS, h2.mono fun _ _ h => h.le hS⟩

mutual
theorem rep.le {m m' : Mem} (h : m.le m') : ∀ (av : AV) (v : Value), rep m av v → rep m' av v
  | .int _, _, hr => by simpa only [rep] using hr
  | .ik _ _, _, hr => by simpa only [rep] using hr
  | .bool _, _, hr => by simpa only [rep] using hr
  | .str _, _, hr => by simpa only [rep] using hr
  | .nil, _, hr => by simpa only [rep] using hr
  | .nilfn, _, hr => by simpa only [rep] using hr
  | .l1 _, _, hr => by simp only [rep] at hr ⊢; exact hr.le h.S
  | .l2 _, _, hr => by simp only [rep] at hr ⊢; exact hr.le h.S
  | .l3 _, _, hr => by simp only [rep] at hr ⊢; exact hr.le h.S
  | .lv vs, _, hr => by
    simp only [rep] at hr ⊢
    obtain ⟨us, h1, h2⟩ := hr
    exact ⟨us, h1.le h.S, reps.le h vs us h2⟩
  | .agg vs, _, hr => by
    simp only [rep] at hr ⊢
    obtain ⟨us, h1, h2⟩ := hr
    exact ⟨us, h1, reps.le h vs us h2⟩
  | .tup vs, _, hr => by
    simp only [rep] at hr ⊢
    obtain ⟨us, h1, h2⟩ := hr
    exact ⟨us, h1, reps.le h vs us h2⟩
  | .fn _ vs, _, hr => by
    simp only [rep] at hr ⊢
    obtain ⟨us, h1, h2⟩ := hr
    exact ⟨us, h1, reps.le h vs us h2⟩
  | .eptr av i, _, hr => by
    simp only [rep] at hr ⊢
    obtain ⟨b, off, n, cap, h1, h2, h3⟩ := hr
    exact ⟨b, off, n, cap, rep.le h av _ h1, h2, h3⟩
  | .cptr vs off, _, hr => by
    simp only [rep] at hr ⊢
    obtain ⟨b, us, h1, h2, h3, h4⟩ := hr
    exact ⟨b, us, h1, (h.S b h2).1, fun i u hu => by rw [cell_of_heap (h.S b h2).2]; exact h3 i u hu, reps.le h vs us h4⟩
  | .ref id path, _, hr => by
    simp only [rep] at hr ⊢
    obtain ⟨h1, h2⟩ := hr
    obtain ⟨d1, d2, d3⟩ := h.D id path h1
    exact ⟨d1, by rw [d2]; exact d3 _ h2⟩
  | .sub id path lo hi, _, hr => by
    simp only [rep] at hr ⊢
    obtain ⟨h1, a, n, cap, h2, h3⟩ := hr
    obtain ⟨d1, d2, d3⟩ := h.D id path h1
    exact ⟨d1, a, n, cap, by rw [d2]; exact d3 _ h2, h3⟩
  | .eref id path i, _, hr => by
    simp only [rep] at hr ⊢
    obtain ⟨h1, b, off, n, cap, h2, h3⟩ := hr
    obtain ⟨d1, d2, d3⟩ := h.D id path h1
    exact ⟨d1, b, off, n, cap, by rw [d2]; exact d3 _ h2, h3⟩
  | .bptr id off, _, hr => by
    simp only [rep] at hr ⊢
    obtain ⟨h1, b, h2, h3⟩ := hr
    obtain ⟨d1, d2, d3⟩ := h.D id [] h1
    exact ⟨d1, b, by rw [d2]; exact h2, h3⟩
  | .when g x, _, hr => by
    simp only [rep] at hr ⊢
    exact ⟨fun hg => rep.le h x _ (hr.1 hg), hr.2⟩
  | .junk, _, _ => by simp only [rep]
theorem reps.le {m m' : Mem} (h : m.le m') : ∀ (vs : List AV) (us : List Value), reps m vs us → reps m' vs us
  | [], _, hr => by simpa only [reps] using hr
  | a :: as, _, hr => by
    simp only [reps] at hr ⊢
    obtain ⟨u, us', h1, h2, h3⟩ := hr
    exact ⟨u, us', h1, rep.le h a u h2, reps.le h as us' h3⟩
end

/-! ### Memory that the call owns -/
def OwnSl (w : World) (fp : List Nat) (us : List Value) (v : Value) : Prop :=
  (v = .slice none 0 0 ∧ us = [] ∧ fp = []) ∨
  ∃ b off cap c E, v = .slice (some ⟨b, off, none⟩) us.length cap ∧ fp = [b] ∧ w.heap[b]? = some (.cells c E (0, 0)) ∧
    off + cap ≤ c.size ∧ us.length ≤ cap ∧ cap ≤ maxLen ∧ ∀ i u, us[i]? = some u → c[off + i]? = some u

def O1 (w : World) (fp : List Nat) (xs : List Int) (v : Value) : Prop := OwnSl w fp (ints xs) v ∧ ∀ x ∈ xs, InR x
def O2 (w : World) (fp : List Nat) (xss : List (List Int)) (v : Value) : Prop := ∃ us f0 fs, OwnSl w f0 us v ∧ All3 (O1 w) fs xss us ∧ fp = f0 ++ fs.flatten
def O3 (w : World) (fp : List Nat) (xsss : List (List (List Int))) (v : Value) : Prop := ∃ us f0 fs, OwnSl w f0 us v ∧ All3 (O2 w) fs xsss us ∧ fp = f0 ++ fs.flatten

def treeRep (m : Mem) (fp : List Nat) : Tree → Value → Prop
  | .t1 xs, v => O1 m.w fp xs v
  | .t2 xss, v => O2 m.w fp xss v
  | .t3 xsss, v => O3 m.w fp xsss v
  | .r2 xss, v => ∃ us, OwnSl m.w fp us v ∧ All2 (L1 m.w m.S) xss us
  | .r3 xsss, v => ∃ us, OwnSl m.w fp us v ∧ All2 (L2 m.w m.S) xsss us
  | .lv vs, v => ∃ us, OwnSl m.w fp us v ∧ reps m vs us
  | .bx vs, v => ∃ b us E, v = .pointer (some ⟨b, 0, none⟩) ∧ fp = [b] ∧ m.w.heap[b]? = some (.cells (List.toArray us) E (0, 0)) ∧ reps m vs us

/-! ### A state of a walk -/
structure AState where
  n : Nat
  slots : List (Nat × AV)
  H : List (Nat × Tree)

def slotGet : List (Nat × AV) → Nat → AV
  | [], _ => .junk
  | (k, v) :: r, j => if k = j then v else slotGet r j

def AState.get (st : AState) (k : Nat) : AV := slotGet st.slots k

/-- What a call may turn of what was there when it began. -/
structure Cx where
  B0 : Nat
  A0 : Nat → Prop
  S0 : Nat → Prop
  w0 : World
  fix : Nat
  fixv : Nat → Value

structure Keep (cx : Cx) (w : World) : Prop where
  os : w.os = cx.w0.os
  tape : w.tape = cx.w0.tape
  output : w.output = cx.w0.output
  size : cx.w0.heap.size ≤ w.heap.size
  block : ∀ k, k < cx.B0 → ¬ cx.A0 k → w.heap[k]? = cx.w0.heap[k]?

def foot (H : List (Nat × Tree)) (F : Nat → List Nat) : List Nat := (H.map fun p => F p.1).flatten
/-- The blocks that nobody writes to while this state stands. -/
def imm (cx : Cx) (w : World) (H : List (Nat × Tree)) (F : Nat → List Nat) : Nat → Prop := fun b => (cx.S0 b ∨ cx.B0 ≤ b) ∧ b < w.heap.size ∧ b ∉ foot H F

def find (H : List (Nat × Tree)) (id : Nat) : Option Tree :=
  match H with
  | [] => none
  | (k, t) :: r => if k = id then some t else find r id

/-- The paths that lead to a slice of the tree's own (a box has its root alone). -/
def livePath : Option Tree → List Nat → Bool
  | some (.t2 _), [_] => true
  | some (.t3 _), [_] => true
  | some (.t3 _), [_, _] => true
  | some _, [] => true
  | _, _ => false

def ids (H : List (Nat × Tree)) : List Nat := H.map (·.1)
def mem (cx : Cx) (w : World) (H : List (Nat × Tree)) (ι : Nat → Value) (F : Nat → List Nat) : Mem := ⟨w, imm cx w H F, ι, fun id path => livePath (find H id) path = true⟩

structure Owns (cx : Cx) (H : List (Nat × Tree)) (w : World) (ι : Nat → Value) (F : Nat → List Nat) : Prop where
  keep : Keep cx w
  trees : ∀ p ∈ H, treeRep (mem cx w H ι F) (F p.1) p.2 (ι p.1)
  nodup : (foot H F).Nodup
  mine : ∀ b ∈ foot H F, b < w.heap.size ∧ (cx.B0 ≤ b ∨ cx.A0 b)
  ids : (ids H).Nodup
  old : cx.B0 ≤ w.heap.size

def Sim (cx : Cx) (st : AState) (tmps : Array Value) (w : World) : Prop :=
  tmps.size = st.n ∧ ∃ ι F, Owns cx st.H w ι F ∧ ∀ k, rep (mem cx w st.H ι F) (st.get k) (tmps.getD k undef)

/-! ### A world that has only grown -/
abbrev Ext (w w' : World) : Prop := Below w.heap.size w w'

theorem pathV_heap {w w' : World} : ∀ (p : List Nat) (v u : Value), (∀ b, (∃ o x, w.cell? ⟨b, o, none⟩ = some x) → w'.heap[b]? = w.heap[b]?) → pathV w v p = some u → pathV w' v p = some u
  | [], v, u, _, hp => by cases v <;> simpa [pathV] using hp
  | i :: p, v, u, h, hp => by
    match v, hp with
    | .slice (some ⟨b, off, none⟩) n c, hp =>
      simp only [pathV] at hp ⊢
      split at hp
      · rename_i hi
        rw [if_pos hi]
        cases hc : w.cell? ⟨b, off + i, none⟩ with
        | none => rw [hc] at hp; simp at hp
        | some x =>
          rw [hc] at hp
          rw [cell_of_heap (h b ⟨_, _, hc⟩), hc]
          simp only [Option.bind_some] at hp ⊢
          exact pathV_heap p x u h hp
      · cases hp
    | .slice (some ⟨b, off, some s⟩) n c, hp => simp [pathV] at hp
    | .slice none n c, hp => simp [pathV] at hp
    | .bool _, hp | .int _ _, hp | .float _ _, hp | .complex _ _ _, hp | .string _, hp | .pointer _, hp | .map _, hp | .chan _, hp | .func _ _ _, hp | .nilFunc, hp | .iface _ _, hp | .nilIface, hp | .agg _, hp | .tuple _, hp => simp [pathV] at hp

theorem cell_lt {w : World} {b o : Nat} {s : Option Nat} {x : Value} (h : w.cell? ⟨b, o, s⟩ = some x) : b < w.heap.size := World.block_lt_of_cell? w _ h

theorem pathV_ext {w w' : World} (h : Ext w w') {p : List Nat} {v u : Value} (hp : pathV w v p = some u) : pathV w' v p = some u :=
  pathV_heap p v u (fun b ⟨_, _, hx⟩ => h.block b (cell_lt hx)) hp

theorem OwnSl.heap {w w' : World} {fp : List Nat} (h : ∀ b ∈ fp, w'.heap[b]? = w.heap[b]?) {us : List Value} {v : Value} (ho : OwnSl w fp us v) : OwnSl w' fp us v := by
  rcases ho with ho | ⟨b, off, cap, c, E, h1, h2, h3, r⟩
  · exact .inl ho
  · exact .inr ⟨b, off, cap, c, E, h1, h2, by rw [h b (by simp [h2])]; exact h3, r⟩
theorem O1.heap {w w' : World} {fp : List Nat} (h : ∀ b ∈ fp, w'.heap[b]? = w.heap[b]?) {xs : List Int} {v : Value} (ho : O1 w fp xs v) : O1 w' fp xs v := ⟨ho.1.heap h, ho.2⟩
theorem O2.heap {w w' : World} {fp : List Nat} (h : ∀ b ∈ fp, w'.heap[b]? = w.heap[b]?) {xs : List (List Int)} {v : Value} (ho : O2 w fp xs v) : O2 w' fp xs v := by
  obtain ⟨us, f0, fs, h1, h2, rfl⟩ := ho
  exact ⟨us, f0, fs, h1.heap (fun b hb => h b (by simp [hb])), h2.mono (fun f hf _ _ ho => ho.heap (fun b hb => h b (by simp only [List.mem_append, List.mem_flatten]; exact .inr ⟨f, hf, hb⟩))), rfl⟩
theorem O3.heap {w w' : World} {fp : List Nat} (h : ∀ b ∈ fp, w'.heap[b]? = w.heap[b]?) {xs : List (List (List Int))} {v : Value} (ho : O3 w fp xs v) : O3 w' fp xs v := by
  obtain ⟨us, f0, fs, h1, h2, rfl⟩ := ho
  exact ⟨us, f0, fs, h1.heap (fun b hb => h b (by simp [hb])), h2.mono (fun f hf _ _ ho => ho.heap (fun b hb => h b (by simp only [List.mem_append, List.mem_flatten]; exact .inr ⟨f, hf, hb⟩))), rfl⟩

theorem treeRep.le {m m' : Mem} (h : m.le m') {fp : List Nat} (hf : ∀ b ∈ fp, m'.w.heap[b]? = m.w.heap[b]?) : ∀ {t : Tree} {v : Value}, treeRep m fp t v → treeRep m' fp t v
  | .t1 _, _, ht => O1.heap hf ht
  | .t2 _, _, ht => O2.heap hf ht
  | .t3 _, _, ht => O3.heap hf ht
  | .r2 _, _, ⟨us, h1, h2⟩ => ⟨us, h1.heap hf, h2.mono fun _ _ hl => hl.le h.S⟩
  | .r3 _, _, ⟨us, h1, h2⟩ => ⟨us, h1.heap hf, h2.mono fun _ _ hl => hl.le h.S⟩
  | .lv vs, _, ⟨us, h1, h2⟩ => ⟨us, h1.heap hf, reps.le h vs us h2⟩
  | .bx vs, _, ⟨b, us, E, h1, h2, h3, h4⟩ => ⟨b, us, E, h1, h2, by rw [hf b (by simp [h2])]; exact h3, reps.le h vs us h4⟩

theorem Keep.ext {cx : Cx} {w w' : World} (h : Keep cx w) (hb : cx.B0 ≤ w.heap.size) (e : Ext w w') : Keep cx w' :=
  ⟨e.os.trans h.os, e.tape.trans h.tape, e.output.trans h.output, Nat.le_trans h.size e.size, fun k hk hA => (e.block k (by omega)).trans (h.block k hk hA)⟩

theorem mem_ext {cx : Cx} {w w' : World} {H : List (Nat × Tree)} {ι : Nat → Value} {F : Nat → List Nat} (e : Ext w w') : (mem cx w H ι F).le (mem cx w' H ι F) :=
  ⟨fun b hb => ⟨⟨hb.1, Nat.lt_of_lt_of_le hb.2.1 e.size, hb.2.2⟩, e.block b hb.2.1⟩, fun _ _ hid => ⟨hid, rfl, fun _ hp => pathV_ext e hp⟩⟩

theorem foot_mem {H : List (Nat × Tree)} {F : Nat → List Nat} {p : Nat × Tree} (hp : p ∈ H) {b : Nat} (hb : b ∈ F p.1) : b ∈ foot H F := by
  simp only [foot, List.mem_flatten, List.mem_map]
  exact ⟨F p.1, ⟨p, hp, rfl⟩, hb⟩

theorem Owns.ext {cx : Cx} {w w' : World} {H : List (Nat × Tree)} {ι : Nat → Value} {F : Nat → List Nat} (h : Owns cx H w ι F) (e : Ext w w') : Owns cx H w' ι F where
  keep := h.keep.ext h.old e
  trees := fun p hp => (h.trees p hp).le (mem_ext e) (fun b hb => e.block b (h.mine b (foot_mem hp hb)).1)
  nodup := h.nodup
  mine := fun b hb => ⟨Nat.lt_of_lt_of_le (h.mine b hb).1 e.size, (h.mine b hb).2⟩
  ids := h.ids
  old := Nat.le_trans h.old e.size

theorem Sim.ext {cx : Cx} {st : AState} {tmps : Array Value} {w w' : World} (h : Sim cx st tmps w) (e : Ext w w') : Sim cx st tmps w' :=
  let ⟨h1, ι, F, h2, h3⟩ := h
  ⟨h1, ι, F, h2.ext e, fun k => rep.le (mem_ext e) _ _ (h3 k)⟩

end Go.Aw
