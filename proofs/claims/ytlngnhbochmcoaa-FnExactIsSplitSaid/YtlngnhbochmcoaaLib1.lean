import Derived.WalkKit
import Derived.Laws.BytesArg
import Derived.Below
import Derived.Still
import Derived.OrdersIn
import Derived.TacticsIn
import Derived.WalkSpells
import Derived.Lib.SliceRun
import Derived.Laws.FloatArith
import Derived.Laws.StructEq
import Derived.Great.BuildSlice
set_option linter.unusedSimpArgs false
set_option linter.unusedVariables false
namespace Go.Aw
open Go.RowKit
theorem Qd_ {a b c d : Prop} (h : a ∨ b) (f : a → c) (g : b → d) : c ∨ d := h.elim (fun x => .inl (f x)) (fun x => .inr (g x))
def InR (n : Int) : Prop := -9223372036854775808 ≤ n ∧ n ≤ 9223372036854775807
inductive AV where
 | int (n : Int)
 | ik (k : IntKind) (n : Int)
 | flt (b : Nat)
 | bool (b : Bool)
 | str (s : ByteArray)
 | nil
 | nilfn
 | l1 (xs : List Int)
 | l2 (xss : List (List Int))
 | l3 (xsss : List (List (List Int)))
 | lv (vs : List AV)
 | lp (ps : List (Int × Int)) (o : Option Nat)
 | val (x : Value)
 | agg (vs : List AV)
 | tup (vs : List AV)
 | fn (f : Nat) (caps : List AV)
 | eptr (av : AV) (i : Nat)
 | cptr (vs : List AV) (off : Nat)
 | ref (id : Nat) (path : List Nat)
 | sub (id : Nat) (path : List Nat) (lo hi : Nat)
 | eref (id : Nat) (path : List Nat) (i : Nat)
 | bptr (id : Nat) (off : Nat)
 | when (g : Bool) (v : AV)
 | junk
 deriving Inhabited
inductive Tree where
 | t1 (xs : List Int)
 | t2 (xss : List (List Int))
 | t3 (xsss : List (List (List Int)))
 | r2 (xss : List (List Int))
 | r3 (xsss : List (List (List Int)))
 | a3 (xsss : List (List (List Int))) (σ : List Nat)
 | mx (xss : List (List Int)) (i j : Nat) (u v : AV)
 | lv (vs : List AV)
 | tp (ps : List (Int × Int))
 | tq (xss : List (List Int)) (L : List (Nat × Value))
 | bx (vs : List AV)
 deriving Inhabited
def All2 {α β : Type} (R : α → β → Prop) : List α → List β → Prop
 | [], [] => True
 | a :: as, b :: bs => R a b ∧ All2 R as bs
 | _, _ => False
def All3 {α β γ : Type} (R : α → β → γ → Prop) : List α → List β → List γ → Prop
 | [], [], [] => True
 | a :: as, b :: bs, c :: cs => R a b c ∧ All3 R as bs cs
 | _, _, _ => False
theorem All2.length {α β : Type} {R : α → β → Prop} : ∀ {as : List α} {bs : List β}, All2 R as bs → as.length = bs.length
 | [], [], _ => rfl
 | _ :: _, _ :: _, h => by simp [All2.length h.2]
 | [], _ :: _, h => h.elim
 | _ :: _, [], h => h.elim
theorem All2.mono {α β : Type} {R R' : α → β → Prop} (hm : ∀ a b, R a b → R' a b) : ∀ {as : List α} {bs : List β}, All2 R as bs → All2 R' as bs
 | [], [], _ => trivial
 | _ :: _, _ :: _, h => ⟨hm _ _ h.1, All2.mono hm h.2⟩
 | [], _ :: _, h => h.elim
 | _ :: _, [], h => h.elim
theorem All2.get {α β : Type} {R : α → β → Prop} : ∀ {as : List α} {bs : List β}, All2 R as bs → ∀ (i : Nat) (a : α), as[i]? = some a → ∃ b, bs[i]? = some b ∧ R a b
 | [], [], _, _, _, h => by simp at h
 | _ :: _, b :: _, h, 0, a, ha => by simp at ha; subst ha; exact ⟨b, rfl, h.1⟩
 | _ :: _, _ :: _, h, i + 1, a, ha => by
  obtain ⟨b, hb, hr⟩ := All2.get h.2 i a (by simpa using ha)
  exact ⟨b, by simpa using hb, hr⟩
 | [], _ :: _, h, _, _, _ => h.elim
 | _ :: _, [], h, _, _, _ => h.elim
theorem All2.of_get {α β : Type} {R : α → β → Prop} : ∀ {as : List α} {bs : List β}, as.length = bs.length → (∀ (i : Nat) a b, as[i]? = some a → bs[i]? = some b → R a b) → All2 R as bs
 | [], [], _, _ => trivial
 | a :: as, b :: bs, hl, h => ⟨h 0 a b rfl rfl, All2.of_get (by simpa using hl) (fun i x y hx hy => h (i + 1) x y (by simpa using hx) (by simpa using hy))⟩
 | [], _ :: _, hl, _ => by simp at hl
 | _ :: _, [], hl, _ => by simp at hl
theorem All2.append {α β : Type} {R : α → β → Prop} : ∀ {as : List α} {bs : List β} {cs : List α} {ds : List β}, All2 R as bs → All2 R cs ds → All2 R (as ++ cs) (bs ++ ds)
 | [], [], _, _, _, h => h
 | _ :: _, _ :: _, _, _, h, k => ⟨h.1, All2.append h.2 k⟩
 | [], _ :: _, _, _, h, _ => h.elim
 | _ :: _, [], _, _, h, _ => h.elim
theorem All2.take {α β : Type} {R : α → β → Prop} : ∀ (n : Nat) {as : List α} {bs : List β}, All2 R as bs → All2 R (as.take n) (bs.take n)
 | 0, _, _, _ => trivial
 | _ + 1, [], [], _ => trivial
 | n + 1, _ :: _, _ :: _, h => ⟨h.1, All2.take n h.2⟩
 | _ + 1, [], _ :: _, h => h.elim
 | _ + 1, _ :: _, [], h => h.elim
theorem All2.drop {α β : Type} {R : α → β → Prop} : ∀ (n : Nat) {as : List α} {bs : List β}, All2 R as bs → All2 R (as.drop n) (bs.drop n)
 | 0, _, _, h => by simpa using h
 | _ + 1, [], [], _ => trivial
 | n + 1, _ :: _, _ :: _, h => by simpa using All2.drop n h.2
 | _ + 1, [], _ :: _, h => h.elim
 | _ + 1, _ :: _, [], h => h.elim
theorem All2.set {α β : Type} {R : α → β → Prop} : ∀ (i : Nat) {as : List α} {bs : List β} {a : α} {b : β}, All2 R as bs → R a b → All2 R (as.set i a) (bs.set i b)
 | _, [], [], _, _, _, _ => trivial
 | 0, _ :: _, _ :: _, _, _, h, k => ⟨k, h.2⟩
 | i + 1, _ :: _, _ :: _, _, _, h, k => ⟨h.1, All2.set i h.2 k⟩
 | _, [], _ :: _, _, _, h, _ => h.elim
 | _, _ :: _, [], _, _, h, _ => h.elim
theorem All3.length {α β γ : Type} {R : α → β → γ → Prop} : ∀ {as : List α} {bs : List β} {cs : List γ}, All3 R as bs cs → as.length = bs.length ∧ bs.length = cs.length
 | [], [], [], _ => ⟨rfl, rfl⟩
 | _ :: _, _ :: _, _ :: _, h => by have := All3.length h.2; simp [this.1, this.2]
 | [], _ :: _, _, h => h.elim
 | [], [], _ :: _, h => h.elim
 | _ :: _, [], _, h => h.elim
 | _ :: _, _ :: _, [], h => h.elim
theorem All3.mono {α β γ : Type} {R R' : α → β → γ → Prop} : ∀ {as : List α} {bs : List β} {cs : List γ}, (∀ a ∈ as, ∀ b c, R a b c → R' a b c) → All3 R as bs cs → All3 R' as bs cs
 | [], [], [], _, _ => trivial
 | _ :: _, _ :: _, _ :: _, hm, h => ⟨hm _ (List.mem_cons_self ..) _ _ h.1, All3.mono (fun a ha => hm a (List.mem_cons_of_mem _ ha)) h.2⟩
 | [], _ :: _, _, _, h => h.elim
 | [], [], _ :: _, _, h => h.elim
 | _ :: _, [], _, _, h => h.elim
 | _ :: _, _ :: _, [], _, h => h.elim
theorem All3.get {α β γ : Type} {R : α → β → γ → Prop} : ∀ {as : List α} {bs : List β} {cs : List γ}, All3 R as bs cs → ∀ (i : Nat) (b : β), bs[i]? = some b → ∃ a c, as[i]? = some a ∧ cs[i]? = some c ∧ R a b c
 | [], [], [], _, _, _, h => by simp at h
 | a :: _, _ :: _, c :: _, h, 0, b, hb => by simp at hb; subst hb; exact ⟨a, c, rfl, rfl, h.1⟩
 | _ :: _, _ :: _, _ :: _, h, i + 1, b, hb => by
  obtain ⟨a, c, ha, hc, hr⟩ := All3.get h.2 i b (by simpa using hb)
  exact ⟨a, c, by simpa using ha, by simpa using hc, hr⟩
 | [], _ :: _, _, h, _, _, _ => h.elim
 | [], [], _ :: _, h, _, _, _ => h.elim
 | _ :: _, [], _, h, _, _, _ => h.elim
 | _ :: _, _ :: _, [], h, _, _, _ => h.elim
theorem All3.append {α β γ : Type} {R : α → β → γ → Prop} : ∀ {as : List α} {bs : List β} {cs : List γ} {as' : List α} {bs' : List β} {cs' : List γ}, All3 R as bs cs → All3 R as' bs' cs' → All3 R (as ++ as') (bs ++ bs') (cs ++ cs')
 | [], [], [], _, _, _, _, h => h
 | _ :: _, _ :: _, _ :: _, _, _, _, h, k => ⟨h.1, All3.append h.2 k⟩
 | [], _ :: _, _, _, _, _, h, _ => h.elim
 | [], [], _ :: _, _, _, _, h, _ => h.elim
 | _ :: _, [], _, _, _, _, h, _ => h.elim
 | _ :: _, _ :: _, [], _, _, _, h, _ => h.elim
theorem All3.set {α β γ : Type} {R : α → β → γ → Prop} : ∀ (i : Nat) {as : List α} {bs : List β} {cs : List γ} {a : α} {b : β} {c : γ}, All3 R as bs cs → R a b c → All3 R (as.set i a) (bs.set i b) (cs.set i c)
 | _, [], [], [], _, _, _, _, _ => trivial
 | 0, _ :: _, _ :: _, _ :: _, _, _, _, h, k => ⟨k, h.2⟩
 | i + 1, _ :: _, _ :: _, _ :: _, _, _, _, h, k => ⟨h.1, All3.set i h.2 k⟩
 | _, [], _ :: _, _, _, _, _, h, _ => h.elim
 | _, [], [], _ :: _, _, _, _, h, _ => h.elim
 | _, _ :: _, [], _, _, _, _, h, _ => h.elim
 | _, _ :: _, _ :: _, [], _, _, _, h, _ => h.elim
def SlC (w : World) (S : Nat → Prop) (us : List Value) (v : Value) : Prop :=
 ((∃ a, v = .slice a 0 0) ∧ us = []) ∨
 ∃ b off cap, v = .slice (some ⟨b, off, none⟩) us.length cap ∧ us.length ≤ cap ∧ cap ≤ maxLen ∧ S b ∧
  ∀ i u, us[i]? = some u → w.cell? ⟨b, off + i, none⟩ = some u
def ints (xs : List Int) : List Value := xs.map (Value.int .i64)
def L1 (w : World) (S : Nat → Prop) (xs : List Int) (v : Value) : Prop := SlC w S (ints xs) v ∧ ∀ x ∈ xs, InR x
def L2 (w : World) (S : Nat → Prop) (xss : List (List Int)) (v : Value) : Prop := ∃ us, SlC w S us v ∧ All2 (L1 w S) xss us
def L3 (w : World) (S : Nat → Prop) (xsss : List (List (List Int))) (v : Value) : Prop := ∃ us, SlC w S us v ∧ All2 (L2 w S) xsss us
def yF_ (ps : List (Int × Int)) : List Value := ps.flatMap fun p => [.int .i64 p.1, .int .i64 p.2]
def aS9 (ps : List (Int × Int)) : Prop := ∀ p ∈ ps, InR p.1 ∧ InR p.2
def SlP (w : World) (S : Nat → Prop) (ps : List (Int × Int)) (v : Value) : Prop :=
 aS9 ps ∧ (((∃ a, v = .slice a 0 0) ∧ ps = []) ∨
 ∃ b off cap, v = .slice (some ⟨b, off, none⟩) ps.length cap ∧ ps.length ≤ cap ∧ cap ≤ maxLen ∧ S b ∧
  ∀ i u, (yF_ ps)[i]? = some u → w.cell? ⟨b, off + i, none⟩ = some u)
def LpR (w : World) (S : Nat → Prop) (ps : List (Int × Int)) : Option Nat → Value → Prop
 | none, v => SlP w S ps v
 | some i, v => ∃ b off n cap, SlP w S ps (.slice (some ⟨b, off, none⟩) n cap) ∧ i < n ∧ v = .pointer (some ⟨b, off + 2 * i, none⟩)
theorem K8_ {w : World} {S : Nat → Prop} {ps : List (Int × Int)} {o : Option Nat} {v : Value} (h : LpR w S ps o v) : v.oneCell' = true := by
 cases o with
 | none =>
  obtain ⟨_, h⟩ := h
  rcases h with ⟨⟨a, rfl⟩, _⟩ | ⟨b, off, cap, rfl, _⟩ <;> rfl
 | some i => obtain ⟨b, off, n, cap, _, _, rfl⟩ := h; rfl
def xl_ (w : World) : Value → List Nat → Option Value
 | v, [] => some v
 | .slice (some ⟨b, off, none⟩) n _, i :: p => if i < n then (w.cell? ⟨b, off + i, none⟩).bind (fun u => xl_ w u p) else none
 | _, _ :: _ => none
structure Mem where
 w : World
 S : Nat → Prop
 ι : Nat → Value
 D : Nat → List Nat → Prop
def am8 (cap lo : Nat) (a a' : Option Addr) : Prop := ∃ j, j ≤ lo ∧ (cap ≠ lo → j = lo) ∧ a' = a.map (·.add j)
theorem Vs_ (cap lo : Nat) (a : Option Addr) : am8 cap lo a (if cap = lo then a else a.map (·.add lo)) := by
 by_cases h : cap = lo
 ·rw [if_pos h]
  exact ⟨0, Nat.zero_le _, fun h' => absurd h h', by cases a <;> simp [Addr.add]⟩
 ·rw [if_neg h]
  exact ⟨lo, Nat.le_refl _, fun _ => rfl, rfl⟩
mutual
def rep (m : Mem) : AV → Value → Prop
 | .int n, v => v = .int .i64 n ∧ InR n
 | .ik k n, v => v = .int k n
 | .flt b, v => v = .float .f64 b
 | .bool b, v => v = .bool b
 | .str s, v => v = .string s ∧ s.size ≤ maxLen
 | .nil, v => v = .slice none 0 0
 | .nilfn, v => v = .nilFunc
 | .l1 xs, v => L1 m.w m.S xs v
 | .l2 xss, v => L2 m.w m.S xss v
 | .l3 xsss, v => L3 m.w m.S xsss v
 | .lv vs, v => ∃ us, SlC m.w m.S us v ∧ reps m vs us
 | .lp ps o, v => LpR m.w m.S ps o v
 | .val x, v => v = x
 | .agg vs, v => ∃ us : List Value, v = .agg us.toArray ∧ reps m vs us
 | .tup vs, v => ∃ us : List Value, v = .tuple us.toArray ∧ reps m vs us
 | .fn f caps, v => ∃ us : List Value, v = .func (.func f) #[] us.toArray ∧ reps m caps us
 | .eptr av i, v => ∃ b off n cap, rep m av (.slice (some ⟨b, off, none⟩) n cap) ∧ i < n ∧ v = .pointer (some ⟨b, off + i, none⟩)
 | .cptr vs off, v => ∃ b us, v = .pointer (some ⟨b, off, none⟩) ∧ m.S b ∧ (∀ i u, us[i]? = some u → m.w.cell? ⟨b, i, none⟩ = some u) ∧ reps m vs us
 | .ref id path, v => m.D id path ∧ xl_ m.w (m.ι id) path = some v
 | .sub id path lo hi, v => m.D id path ∧ ∃ a n cap a', xl_ m.w (m.ι id) path = some (.slice a n cap) ∧ lo ≤ hi ∧ hi ≤ n ∧ n ≤ maxLen ∧ am8 cap lo a a' ∧ v = .slice a' (hi - lo) (cap - lo)
 | .eref id path i, v => m.D id path ∧ ∃ b off n cap, xl_ m.w (m.ι id) path = some (.slice (some ⟨b, off, none⟩) n cap) ∧ i < n ∧ v = .pointer (some ⟨b, off + i, none⟩)
 | .bptr id off, v => m.D id [] ∧ ∃ b, m.ι id = .pointer (some ⟨b, 0, none⟩) ∧ v = .pointer (some ⟨b, off, none⟩)
 | .when g x, v => (g = true → rep m x v) ∧ (g = false → v = undef)
 | .junk, _ => True
def reps (m : Mem) : List AV → List Value → Prop
 | [], us => us = []
 | a :: as, us => ∃ u us', us = u :: us' ∧ rep m a u ∧ reps m as us'
end
theorem xw_ (m : Mem) : ∀ (vs : List AV) (us : List Value), reps m vs us ↔ All2 (rep m) vs us
 | [], us => by cases us <;> simp [reps, All2]
 | a :: as, us => by
  cases us with
  | nil => simp [reps, All2]
  | cons u us =>
   simp only [reps, All2, ← xw_ m as us]
   constructor
   ·rintro ⟨u', us', h, h1, h2⟩; cases h; exact ⟨h1, h2⟩
   ·rintro ⟨h1, h2⟩; exact ⟨u, us, rfl, h1, h2⟩
structure Mem.le (m m' : Mem) : Prop where
 S : ∀ b, m.S b → m'.S b ∧ m'.w.heap[b]? = m.w.heap[b]?
 D : ∀ id path, m.D id path → m'.D id path ∧ m'.ι id = m.ι id ∧ ∀ v, xl_ m.w (m.ι id) path = some v → xl_ m'.w (m.ι id) path = some v
theorem cell_of_heap {w w' : World} {b : Nat} (h : w'.heap[b]? = w.heap[b]?) (o : Nat) (s : Option Nat) : w'.cell? ⟨b, o, s⟩ = w.cell? ⟨b, o, s⟩ := by
 simp [World.cell?, h]
theorem SlC.le {w w' : World} {S S' : Nat → Prop} (hS : ∀ b, S b → S' b ∧ w'.heap[b]? = w.heap[b]?) {us : List Value} {v : Value} (h : SlC w S us v) : SlC w' S' us v := by
 rcases h with h | ⟨b, off, cap, h1, h2, h3, h4, h5⟩
 ·exact .inl h
 ·exact .inr ⟨b, off, cap, h1, h2, h3, (hS b h4).1, fun i u hu => by rw [cell_of_heap (hS b h4).2]; exact h5 i u hu⟩
theorem L1.le {w w' : World} {S S' : Nat → Prop} (hS : ∀ b, S b → S' b ∧ w'.heap[b]? = w.heap[b]?) {xs : List Int} {v : Value} (h : L1 w S xs v) : L1 w' S' xs v := ⟨h.1.le hS, h.2⟩
theorem L2.le {w w' : World} {S S' : Nat → Prop} (hS : ∀ b, S b → S' b ∧ w'.heap[b]? = w.heap[b]?) {xs : List (List Int)} {v : Value} (h : L2 w S xs v) : L2 w' S' xs v :=
 let ⟨us, h1, h2⟩ := h; ⟨us, h1.le hS, h2.mono fun _ _ h => h.le hS⟩
theorem L3.le {w w' : World} {S S' : Nat → Prop} (hS : ∀ b, S b → S' b ∧ w'.heap[b]? = w.heap[b]?) {xs : List (List (List Int))} {v : Value} (h : L3 w S xs v) : L3 w' S' xs v :=
 let ⟨us, h1, h2⟩ := h; ⟨us, h1.le hS, h2.mono fun _ _ h => h.le hS⟩
theorem SlP.le {w w' : World} {S S' : Nat → Prop} (hS : ∀ b, S b → S' b ∧ w'.heap[b]? = w.heap[b]?) {ps : List (Int × Int)} {v : Value} (h : SlP w S ps v) : SlP w' S' ps v := by
 obtain ⟨h0, h⟩ := h
 refine ⟨h0, ?_⟩
 rcases h with h | ⟨b, off, cap, h1, h2, h3, h4, h5⟩
 ·exact .inl h
 ·exact .inr ⟨b, off, cap, h1, h2, h3, (hS b h4).1, fun i u hu => by rw [cell_of_heap (hS b h4).2]; exact h5 i u hu⟩
theorem LpR.le {w w' : World} {S S' : Nat → Prop} (hS : ∀ b, S b → S' b ∧ w'.heap[b]? = w.heap[b]?) {ps : List (Int × Int)} : ∀ {o : Option Nat} {v : Value}, LpR w S ps o v → LpR w' S' ps o v
 | none, _, h => SlP.le hS h
 | some _, _, ⟨b, off, n, cap, h1, h2⟩ => ⟨b, off, n, cap, h1.le hS, h2⟩
mutual
theorem rep.le {m m' : Mem} (h : m.le m') : ∀ (av : AV) (v : Value), rep m av v → rep m' av v
 | .int _, _, hr => by simpa only [rep] using hr
 | .flt _, _, hr | .ik _ _, _, hr => by simpa only [rep] using hr
 | .bool _, _, hr => by simpa only [rep] using hr
 | .str _, _, hr => by simpa only [rep] using hr
 | .nil, _, hr => by simpa only [rep] using hr
 | .nilfn, _, hr => by simpa only [rep] using hr
 | .l1 _, _, hr => by simp only [rep] at hr ⊢; exact hr.le h.S
 | .l2 _, _, hr => by simp only [rep] at hr ⊢; exact hr.le h.S
 | .l3 _, _, hr => by simp only [rep] at hr ⊢; exact hr.le h.S
 | .lv vs, _, hr => by
  simp only [rep] at hr ⊢
  obtain ⟨us, h1, h2⟩ := hr
  exact ⟨us, h1.le h.S, reps.le h vs us h2⟩
 | .lp ps o, _, hr => by simp only [rep] at hr ⊢; exact hr.le h.S
 | .val _, _, hr => by simpa only [rep] using hr
 | .agg vs, _, hr => by
  simp only [rep] at hr ⊢
  obtain ⟨us, h1, h2⟩ := hr
  exact ⟨us, h1, reps.le h vs us h2⟩
 | .tup vs, _, hr => by
  simp only [rep] at hr ⊢
  obtain ⟨us, h1, h2⟩ := hr
  exact ⟨us, h1, reps.le h vs us h2⟩
 | .fn _ vs, _, hr => by
  simp only [rep] at hr ⊢
  obtain ⟨us, h1, h2⟩ := hr
  exact ⟨us, h1, reps.le h vs us h2⟩
 | .eptr av i, _, hr => by
  simp only [rep] at hr ⊢
  obtain ⟨b, off, n, cap, h1, h2, h3⟩ := hr
  exact ⟨b, off, n, cap, rep.le h av _ h1, h2, h3⟩
 | .cptr vs off, _, hr => by
  simp only [rep] at hr ⊢
  obtain ⟨b, us, h1, h2, h3, h4⟩ := hr
  exact ⟨b, us, h1, (h.S b h2).1, fun i u hu => by rw [cell_of_heap (h.S b h2).2]; exact h3 i u hu, reps.le h vs us h4⟩
 | .ref id path, _, hr => by
  simp only [rep] at hr ⊢
  obtain ⟨h1, h2⟩ := hr
  obtain ⟨d1, d2, d3⟩ := h.D id path h1
  exact ⟨d1, by rw [d2]; exact d3 _ h2⟩
 | .sub id path lo hi, _, hr => by
  simp only [rep] at hr ⊢
  obtain ⟨h1, a, n, cap, a', h2, h3⟩ := hr
  obtain ⟨d1, d2, d3⟩ := h.D id path h1
  exact ⟨d1, a, n, cap, a', by rw [d2]; exact d3 _ h2, h3⟩
 | .eref id path i, _, hr => by
  simp only [rep] at hr ⊢
  obtain ⟨h1, b, off, n, cap, h2, h3⟩ := hr
  obtain ⟨d1, d2, d3⟩ := h.D id path h1
  exact ⟨d1, b, off, n, cap, by rw [d2]; exact d3 _ h2, h3⟩
 | .bptr id off, _, hr => by
  simp only [rep] at hr ⊢
  obtain ⟨h1, b, h2, h3⟩ := hr
  obtain ⟨d1, d2, d3⟩ := h.D id [] h1
  exact ⟨d1, b, by rw [d2]; exact h2, h3⟩
 | .when g x, _, hr => by
  simp only [rep] at hr ⊢
  exact ⟨fun hg => rep.le h x _ (hr.1 hg), hr.2⟩
 | .junk, _, _ => by simp only [rep]
theorem reps.le {m m' : Mem} (h : m.le m') : ∀ (vs : List AV) (us : List Value), reps m vs us → reps m' vs us
 | [], _, hr => by simpa only [reps] using hr
 | a :: as, _, hr => by
  simp only [reps] at hr ⊢
  obtain ⟨u, us', h1, h2, h3⟩ := hr
  exact ⟨u, us', h1, rep.le h a u h2, reps.le h as us' h3⟩
end
def OwnSl (w : World) (fp : List Nat) (us : List Value) (v : Value) : Prop :=
 (v = .slice none 0 0 ∧ us = [] ∧ fp = []) ∨
 ∃ b off cap c E, v = .slice (some ⟨b, off, none⟩) us.length cap ∧ fp = [b] ∧ w.heap[b]? = some (.cells c E (0, 0)) ∧
  off + cap ≤ c.size ∧ us.length ≤ cap ∧ cap ≤ maxLen ∧ ∀ i u, us[i]? = some u → c[off + i]? = some u
def OwnP (w : World) (fp : List Nat) (ps : List (Int × Int)) (v : Value) : Prop :=
 aS9 ps ∧ ((v = .slice none 0 0 ∧ ps = [] ∧ fp = []) ∨
 ∃ b off cap c E, v = .slice (some ⟨b, off, none⟩) ps.length cap ∧ fp = [b] ∧ w.heap[b]? = some (.cells c E (0, 0)) ∧
  off + 2 * cap ≤ c.size ∧ ps.length ≤ cap ∧ cap ≤ maxLen ∧ ∀ i u, (yF_ ps)[i]? = some u → c[off + i]? = some u)
theorem OwnP.heap {w w' : World} {fp : List Nat} (h : ∀ b ∈ fp, w'.heap[b]? = w.heap[b]?) {ps : List (Int × Int)} {v : Value} (ho : OwnP w fp ps v) : OwnP w' fp ps v := by
 obtain ⟨h0, ho⟩ := ho
 refine ⟨h0, ?_⟩
 rcases ho with h1 | ⟨b, off, cap, c, E, h1, h2, h3, h4⟩
 ·exact .inl h1
 ·exact .inr ⟨b, off, cap, c, E, h1, h2, by rw [h b (by simp [h2])]; exact h3, h4⟩
theorem OwnP.slP {w : World} {fp : List Nat} {ps : List (Int × Int)} {v : Value} (h : OwnP w fp ps v) {S : Nat → Prop} (hS : ∀ b ∈ fp, S b) : SlP w S ps v := by
 obtain ⟨h0, h⟩ := h
 refine ⟨h0, ?_⟩
 rcases h with ⟨h1, h2, _⟩ | ⟨b, off, cap, c, E, h1, h2, h3, h4, h5, h6, h7⟩
 ·exact .inl ⟨⟨none, h1⟩, h2⟩
 ·exact .inr ⟨b, off, cap, h1, h5, h6, hS b (by simp [h2]), fun i u hu => by simp [World.cell?, h3, h7 i u hu]⟩
def O1 (w : World) (fp : List Nat) (xs : List Int) (v : Value) : Prop := OwnSl w fp (ints xs) v ∧ ∀ x ∈ xs, InR x
def O2 (w : World) (fp : List Nat) (xss : List (List Int)) (v : Value) : Prop := ∃ us f0 fs, OwnSl w f0 us v ∧ All3 (O1 w) fs xss us ∧ fp = f0 ++ fs.flatten
def O3 (w : World) (fp : List Nat) (xsss : List (List (List Int))) (v : Value) : Prop := ∃ us f0 fs, OwnSl w f0 us v ∧ All3 (O2 w) fs xsss us ∧ fp = f0 ++ fs.flatten
def A3 (w : World) (fp : List Nat) (xsss : List (List (List Int))) (σ : List Nat) (v : Value) : Prop :=
 ∃ rows f0 fs, OwnSl w f0 (σ.map fun k => (rows[k]?).getD undef) v ∧ All3 (O2 w) fs xsss rows ∧ (∀ k ∈ σ, k < xsss.length) ∧ fp = f0 ++ fs.flatten
def OO (w : World) (fp : List Nat) : Option (List Int) → Value → Prop
 | some xs, v => O1 w fp xs v
 | none, _ => fp = []
def ZI_ (xss : List (List Int)) (i j : Nat) : List (Option (List Int)) := ((xss.map some).set i none).set j none
def MX (m : Mem) (fp : List Nat) (xss : List (List Int)) (i j : Nat) (u v : AV) (x : Value) : Prop :=
 ∃ us f0 fs, OwnSl m.w f0 us x ∧ All3 (OO m.w) fs (ZI_ xss i j) us ∧ fp = f0 ++ fs.flatten ∧ i < xss.length ∧ j < xss.length ∧ (∀ y, us[i]? = some y → rep m u y) ∧ ∀ y, us[j]? = some y → rep m v y
def treeRep (m : Mem) (fp : List Nat) : Tree → Value → Prop
 | .t1 xs, v => O1 m.w fp xs v
 | .t2 xss, v => O2 m.w fp xss v
 | .t3 xsss, v => O3 m.w fp xsss v
 | .r2 xss, v => ∃ us, OwnSl m.w fp us v ∧ All2 (L1 m.w m.S) xss us
 | .r3 xsss, v => ∃ us, OwnSl m.w fp us v ∧ All2 (L2 m.w m.S) xsss us
 | .a3 xsss σ, v => A3 m.w fp xsss σ v
 | .mx xss i j p q, v => MX m fp xss i j p q v
 | .lv vs, v => ∃ us, OwnSl m.w fp us v ∧ reps m vs us
 | .tp ps, v => OwnP m.w fp ps v
 | .tq xss L, v => O2 m.w fp xss v ∧ ∀ p ∈ L, xl_ m.w v [p.1] = some p.2
 | .bx vs, v => ∃ b us E, v = .pointer (some ⟨b, 0, none⟩) ∧ fp = [b] ∧ m.w.heap[b]? = some (.cells (List.toArray us) E (0, 0)) ∧ reps m vs us
structure AState where
 n : Nat
 slots : List (Nat × AV)
 H : List (Nat × Tree)
def xh_ : List (Nat × AV) → Nat → AV
 | [], _ => .junk
 | (k, v) :: r, j => if k = j then v else xh_ r j
def AState.get (st : AState) (k : Nat) : AV := xh_ st.slots k
def Fx := Nat → Bool
def below (k : Nat) : Fx := fun j => decide (j < k)
instance (k : Nat) : OfNat Fx k := ⟨below k⟩
structure Cx where
 B0 : Nat
 A0 : Nat → Prop
 S0 : Nat → Prop
 w0 : World
 fix : Fx
 fixv : Nat → Value
 rd : Option Nat
 ds : List Deferred
def glC : List (Nat × List Value) := []
def GlobOk (w : World) : Prop := ∀ p ∈ glC, ∃ e x, w.heap[p.1]? = some (.cells p.2.toArray e x)
theorem GlobOk.lt {w : World} (h : GlobOk w) {p : Nat × List Value} (hp : p ∈ glC) : p.1 < w.heap.size := by
 obtain ⟨e, x, h1⟩ := h p hp
 rcases Nat.lt_or_ge p.1 w.heap.size with h2 | h2
 ·exact h2
 ·rw [Array.getElem?_eq_none h2] at h1; cases h1
theorem GlobOk.cell {w : World} (h : GlobOk w) {p : Nat × List Value} (hp : p ∈ glC) {i : Nat} {u : Value} (hu : p.2[i]? = some u) : w.cell? ⟨p.1, i, none⟩ = some u := by
 obtain ⟨e, x, h1⟩ := h p hp
 simp [World.cell?, h1, hu]
def aZ5 (b : Nat) : Prop := ∀ p ∈ glC, p.1 ≠ b
structure GlOk (cx : Cx) : Prop where
 at0 : GlobOk cx.w0
 low : ∀ p ∈ glC, p.1 < cx.B0 ∧ ¬ cx.A0 p.1
structure Keep (cx : Cx) (w : World) : Prop where
 os : w.os = cx.w0.os
 tape : w.tape = cx.w0.tape
 output : w.output = cx.w0.output
 size : cx.w0.heap.size ≤ w.heap.size
 block : ∀ k, k < cx.B0 → ¬ cx.A0 k → w.heap[k]? = cx.w0.heap[k]?
 gl : GlOk cx
def xW_ (H : List (Nat × Tree)) (F : Nat → List Nat) : List Nat := (H.map fun p => F p.1).flatten
def imm (cx : Cx) (w : World) (H : List (Nat × Tree)) (F : Nat → List Nat) : Nat → Prop := fun b => (cx.S0 b ∨ cx.B0 ≤ b ∨ cx.A0 b) ∧ b < w.heap.size ∧ b ∉ xW_ H F
def find (H : List (Nat × Tree)) (id : Nat) : Option Tree :=
 match H with
 | [] => none
 | (k, t) :: r => if k = id then some t else find r id
def xq_ : Option Tree → List Nat → Bool
 | some (.t2 _), [_] => true
 | some (.tq _ _), [_] => true
 | some (.t3 _), [_] => true
 | some (.t3 _), [_, _] => true
 | some (.a3 _ _), [_] => true
 | some (.a3 _ _), [_, _] => true
 | some _, [] => true
 | _, _ => false
def ids (H : List (Nat × Tree)) : List Nat := H.map (·.1)
def mem (cx : Cx) (w : World) (H : List (Nat × Tree)) (ι : Nat → Value) (F : Nat → List Nat) : Mem := ⟨w, imm cx w H F, ι, fun id path => xq_ (find H id) path = true⟩
structure Owns (cx : Cx) (H : List (Nat × Tree)) (w : World) (ι : Nat → Value) (F : Nat → List Nat) : Prop where
 keep : Keep cx w
 trees : ∀ p ∈ H, treeRep (mem cx w H ι F) (F p.1) p.2 (ι p.1)
 nodup : (xW_ H F).Nodup
 mine : ∀ b ∈ xW_ H F, b < w.heap.size ∧ (cx.B0 ≤ b ∨ cx.A0 b)
 ids : (ids H).Nodup
 old : cx.B0 ≤ w.heap.size
def Sim (cx : Cx) (st : AState) (tmps : Array Value) (w : World) : Prop :=
 tmps.size = st.n ∧ ∃ ι F, Owns cx st.H w ι F ∧ ∀ k, rep (mem cx w st.H ι F) (st.get k) (tmps.getD k undef)
abbrev Ext (w w' : World) : Prop := Below w.heap.size w w'
theorem Yn_ {w w' : World} : ∀ (p : List Nat) (v u : Value), (∀ b, (∃ o x, w.cell? ⟨b, o, none⟩ = some x) → w'.heap[b]? = w.heap[b]?) → xl_ w v p = some u → xl_ w' v p = some u
 | [], v, u, _, hp => by cases v <;> simpa [xl_] using hp
 | i :: p, v, u, h, hp => by
  match v, hp with
  | .slice (some ⟨b, off, none⟩) n c, hp =>
   simp only [xl_] at hp ⊢
   split at hp
   ·rename_i hi
    rw [if_pos hi]
    cases hc : w.cell? ⟨b, off + i, none⟩ with
    | none => rw [hc] at hp; simp at hp
    | some x =>
     rw [hc] at hp
     rw [cell_of_heap (h b ⟨_, _, hc⟩), hc]
     simp only [Option.bind_some] at hp ⊢
     exact Yn_ p x u h hp
   ·cases hp
  | .slice (some ⟨b, off, some s⟩) n c, hp => simp [xl_] at hp
  | .slice none n c, hp => simp [xl_] at hp
  | .bool _, hp | .int _ _, hp | .float _ _, hp | .complex _ _ _, hp | .string _, hp | .pointer _, hp | .map _, hp | .chan _, hp | .func _ _ _, hp | .nilFunc, hp | .iface _ _, hp | .nilIface, hp | .agg _, hp | .tuple _, hp => simp [xl_] at hp
theorem cell_lt {w : World} {b o : Nat} {s : Option Nat} {x : Value} (h : w.cell? ⟨b, o, s⟩ = some x) : b < w.heap.size := World.block_lt_of_cell? w _ h
theorem ZJ_ {w w' : World} (h : Ext w w') {p : List Nat} {v u : Value} (hp : xl_ w v p = some u) : xl_ w' v p = some u :=
 Yn_ p v u (fun b ⟨_, _, hx⟩ => h.block b (cell_lt hx)) hp
theorem OwnSl.heap {w w' : World} {fp : List Nat} (h : ∀ b ∈ fp, w'.heap[b]? = w.heap[b]?) {us : List Value} {v : Value} (ho : OwnSl w fp us v) : OwnSl w' fp us v := by
 rcases ho with ho | ⟨b, off, cap, c, E, h1, h2, h3, r⟩
 ·exact .inl ho
 ·exact .inr ⟨b, off, cap, c, E, h1, h2, by rw [h b (by simp [h2])]; exact h3, r⟩
theorem O1.heap {w w' : World} {fp : List Nat} (h : ∀ b ∈ fp, w'.heap[b]? = w.heap[b]?) {xs : List Int} {v : Value} (ho : O1 w fp xs v) : O1 w' fp xs v := ⟨ho.1.heap h, ho.2⟩
theorem O2.heap {w w' : World} {fp : List Nat} (h : ∀ b ∈ fp, w'.heap[b]? = w.heap[b]?) {xs : List (List Int)} {v : Value} (ho : O2 w fp xs v) : O2 w' fp xs v := by
 obtain ⟨us, f0, fs, h1, h2, rfl⟩ := ho
 exact ⟨us, f0, fs, h1.heap (fun b hb => h b (by simp [hb])), h2.mono (fun f hf _ _ ho => ho.heap (fun b hb => h b (by simp only [List.mem_append, List.mem_flatten]; exact .inr ⟨f, hf, hb⟩))), rfl⟩
theorem O3.heap {w w' : World} {fp : List Nat} (h : ∀ b ∈ fp, w'.heap[b]? = w.heap[b]?) {xs : List (List (List Int))} {v : Value} (ho : O3 w fp xs v) : O3 w' fp xs v := by
 obtain ⟨us, f0, fs, h1, h2, rfl⟩ := ho
 exact ⟨us, f0, fs, h1.heap (fun b hb => h b (by simp [hb])), h2.mono (fun f hf _ _ ho => ho.heap (fun b hb => h b (by simp only [List.mem_append, List.mem_flatten]; exact .inr ⟨f, hf, hb⟩))), rfl⟩
theorem A3.heap {w w' : World} {fp : List Nat} (h : ∀ b ∈ fp, w'.heap[b]? = w.heap[b]?) {xsss : List (List (List Int))} {σ : List Nat} {v : Value} (ho : A3 w fp xsss σ v) : A3 w' fp xsss σ v := by
 obtain ⟨rows, f0, fs, h1, h2, h3, rfl⟩ := ho
 exact ⟨rows, f0, fs, h1.heap (fun b hb => h b (by simp [hb])), h2.mono (fun f hf _ _ ho => ho.heap (fun b hb => h b (by simp only [List.mem_append, List.mem_flatten]; exact .inr ⟨f, hf, hb⟩))), h3, rfl⟩
theorem OO.heap {w w' : World} {fp : List Nat} (h : ∀ b ∈ fp, w'.heap[b]? = w.heap[b]?) : ∀ {xs : Option (List Int)} {v : Value}, OO w fp xs v → OO w' fp xs v
 | some _, _, ho => O1.heap h ho
 | none, _, ho => ho
theorem am9 {w w' : World} {fp : List Nat} {xss : List (List Int)} {v x : Value} {r : Nat} (h : O2 w fp xss v) (hf : ∀ b ∈ fp, w'.heap[b]? = w.heap[b]?) (hp : xl_ w v [r] = some x) : xl_ w' v [r] = some x := by
 obtain ⟨us, f0, fs, h1, _, h3⟩ := h
 rcases h1 with ⟨rfl, _, _⟩ | ⟨b, off, cap, c, E, rfl, hb, _⟩
 ·simp [xl_] at hp
 ·have := cell_of_heap (hf b (by simp [h3, hb])) (off + r) none
  simp only [xl_] at hp ⊢
  rw [this]
  exact hp
theorem treeRep.le {m m' : Mem} (h : m.le m') {fp : List Nat} (hf : ∀ b ∈ fp, m'.w.heap[b]? = m.w.heap[b]?) : ∀ {t : Tree} {v : Value}, treeRep m fp t v → treeRep m' fp t v
 | .t1 _, _, ht => O1.heap hf ht
 | .t2 _, _, ht => O2.heap hf ht
 | .t3 _, _, ht => O3.heap hf ht
 | .r2 _, _, ⟨us, h1, h2⟩ => ⟨us, h1.heap hf, h2.mono fun _ _ hl => hl.le h.S⟩
 | .r3 _, _, ⟨us, h1, h2⟩ => ⟨us, h1.heap hf, h2.mono fun _ _ hl => hl.le h.S⟩
 | .a3 _ _, _, ht => A3.heap hf ht
 | .mx _ _ _ _ _, _, ⟨us, f0, fs, h1, h2, h3, h4, h5, h6, h7⟩ => ⟨us, f0, fs, h1.heap (fun b hb => hf b (by simp [h3, hb])), h2.mono (fun f hff _ _ ho => ho.heap (fun b hb => hf b (by rw [h3]; simp only [List.mem_append, List.mem_flatten]; exact .inr ⟨f, hff, hb⟩))), h3, h4, h5, fun y hy => rep.le h _ _ (h6 y hy), fun y hy => rep.le h _ _ (h7 y hy)⟩
 | .lv vs, _, ⟨us, h1, h2⟩ => ⟨us, h1.heap hf, reps.le h vs us h2⟩
 | .tp _, _, ht => OwnP.heap hf ht
 | .tq _ _, _, ht => ⟨O2.heap hf ht.1, fun p hp => am9 ht.1 hf (ht.2 p hp)⟩
 | .bx vs, _, ⟨b, us, E, h1, h2, h3, h4⟩ => ⟨b, us, E, h1, h2, by rw [hf b (by simp [h2])]; exact h3, reps.le h vs us h4⟩
theorem Keep.ext {cx : Cx} {w w' : World} (h : Keep cx w) (hb : cx.B0 ≤ w.heap.size) (e : Ext w w') : Keep cx w' :=
 ⟨e.os.trans h.os, e.tape.trans h.tape, e.output.trans h.output, Nat.le_trans h.size e.size, fun k hk hA => (e.block k (by omega)).trans (h.block k hk hA), h.gl⟩
theorem zd_ {cx : Cx} {w w' : World} {H : List (Nat × Tree)} {ι : Nat → Value} {F : Nat → List Nat} (e : Ext w w') : (mem cx w H ι F).le (mem cx w' H ι F) :=
 ⟨fun b hb => ⟨⟨hb.1, Nat.lt_of_lt_of_le hb.2.1 e.size, hb.2.2⟩, e.block b hb.2.1⟩, fun _ _ hid => ⟨hid, rfl, fun _ hp => ZJ_ e hp⟩⟩
theorem xL_ {H : List (Nat × Tree)} {F : Nat → List Nat} {p : Nat × Tree} (hp : p ∈ H) {b : Nat} (hb : b ∈ F p.1) : b ∈ xW_ H F := by
 simp only [xW_, List.mem_flatten, List.mem_map]
 exact ⟨F p.1, ⟨p, hp, rfl⟩, hb⟩
theorem Owns.ext {cx : Cx} {w w' : World} {H : List (Nat × Tree)} {ι : Nat → Value} {F : Nat → List Nat} (h : Owns cx H w ι F) (e : Ext w w') : Owns cx H w' ι F where
 keep := h.keep.ext h.old e
 trees := fun p hp => (h.trees p hp).le (zd_ e) (fun b hb => e.block b (h.mine b (xL_ hp hb)).1)
 nodup := h.nodup
 mine := fun b hb => ⟨Nat.lt_of_lt_of_le (h.mine b hb).1 e.size, (h.mine b hb).2⟩
 ids := h.ids
 old := Nat.le_trans h.old e.size
theorem Keep.globOk {cx : Cx} {w : World} (h : Keep cx w) (_ : cx.B0 ≤ w.heap.size) : GlobOk w := fun p hp =>
 let ⟨e, x, h1⟩ := h.gl.at0 p hp
 ⟨e, x, (h.block _ (h.gl.low p hp).1 (h.gl.low p hp).2).trans h1⟩
theorem Owns.globOk {cx : Cx} {w : World} {H : List (Nat × Tree)} {ι : Nat → Value} {F : Nat → List Nat} (h : Owns cx H w ι F) : GlobOk w := h.keep.globOk h.old
theorem Owns.noGl {cx : Cx} {w : World} {H : List (Nat × Tree)} {ι : Nat → Value} {F : Nat → List Nat} (h : Owns cx H w ι F) {b : Nat} (hb : b ∈ xW_ H F) : aZ5 b := fun p hp e => by
 have h1 := h.keep.gl.low p hp
 rw [e] at h1
 rcases (h.mine b hb).2 with h2 | h2
 ·exact absurd h1.1 (Nat.not_lt.2 h2)
 ·exact h1.2 h2
theorem GlobOk.ext {w w' : World} (h : GlobOk w) (e : Ext w w') : GlobOk w' := fun p hp => let ⟨a, x, h1⟩ := h p hp; ⟨a, x, (e.block _ (h.lt hp)).trans h1⟩
theorem GlobOk.glOk {w : World} {A S : Nat → Prop} {f : Fx} {v : Nat → Value} {r : Option Nat} {d : List Deferred} (h : GlobOk w) (hA : ∀ b, A b → aZ5 b) : GlOk ⟨w.heap.size, A, S, w, f, v, r, d⟩ :=
 ⟨h, fun p hp => ⟨h.lt hp, fun ha => hA _ ha p hp rfl⟩⟩
theorem Sim.ext {cx : Cx} {st : AState} {tmps : Array Value} {w w' : World} (h : Sim cx st tmps w) (e : Ext w w') : Sim cx st tmps w' :=
 let ⟨h1, ι, F, h2, h3⟩ := h
 ⟨h1, ι, F, h2.ext e, fun k => rep.le (zd_ e) _ _ (h3 k)⟩
end Go.Aw
namespace Go.Aw
open Go.RowKit
inductive TK where
 | int | ik (k : IntKind) | flt | bool | str | sl (e : Nat) | sp (e : Nat) | ar (n : Nat) | st (fs : List (Nat × Nat)) (sz : Nat) | cell | other
 deriving Inhabited
def Qe_ (P : Program) (e : TypeId) : Bool := match P.underlying e with
 | some (.int .i64) => P.cellsOf e == 1
 | _ => false
def Vt_ (P : Program) (e : TypeId) : Bool := match P.underlying e with
 | some (.array 2 e') => Qe_ P e' && P.cellsOf e == 2
 | _ => false
def xz_ (P : Program) (t : TypeId) : TK :=
 match P.underlying t with
 | some (.int .i64) => .int
 | some (.int k) => .ik k
 | some (.float .f64) => .flt
 | some .bool => .bool
 | some .string => .str
 | some (.slice e) => if P.cellsOf e = 1 then .sl e else if Vt_ P e then .sp e else .other
 | some (.struct fs) => .st (fs.toList.map fun f => (f.offset, P.cellsOf f.type)) (P.cellsOf t)
 | some (.array n e) => if Qe_ P e && P.cellsOf t == n then .ar n else .other
 | none => .other
 | some _ => .cell
theorem YZ_ {P : Program} {t e : Nat} (h : xz_ P t = .sl e) : P.underlying t = some (.slice e) ∧ P.cellsOf e = 1 := by
 unfold xz_ at h
 split at h <;> first | (cases h; done) | skip
 ·rename_i e' he
  split at h
  ·rename_i h1; cases h; exact ⟨he, h1⟩
  ·split at h <;> cases h
 ·split at h <;> cases h
theorem an0 {P : Program} {t e : Nat} (h : xz_ P t = .sp e) : P.underlying t = some (.slice e) ∧ Vt_ P e = true := by
 unfold xz_ at h
 split at h <;> first | (cases h; done) | skip
 ·rename_i e' he
  split at h
  ·cases h
  ·split at h
   ·rename_i h1; cases h; exact ⟨he, h1⟩
   ·cases h
 ·split at h <;> cases h
theorem aT0 {P : Program} {t n : Nat} (h : xz_ P t = .ar n) : ∃ e, P.underlying t = some (.array n e) ∧ Qe_ P e = true ∧ P.cellsOf t = n := by
 unfold xz_ at h
 split at h <;> first | (cases h; done) | skip
 ·split at h
  ·cases h
  ·split at h <;> cases h
 ·rename_i n' e' he
  split at h
  ·rename_i h1
   simp only [Bool.and_eq_true, beq_iff_eq] at h1
   cases h
   exact ⟨e', he, h1.1, h1.2⟩
  ·cases h
theorem TU_ {P : Program} {e : Nat} (h : Qe_ P e = true) : P.underlying e = some (.int .i64) ∧ P.cellsOf e = 1 := by
 unfold Qe_ at h
 split at h
 ·exact ⟨by assumption, by simpa using h⟩
 ·cases h
theorem Vu_ {P : Program} {e : Nat} (h : Vt_ P e = true) : ∃ e', P.underlying e = some (.array 2 e') ∧ Qe_ P e' = true ∧ P.cellsOf e = 2 := by
 unfold Vt_ at h
 split at h
 ·rename_i e' he
  simp only [Bool.and_eq_true, beq_iff_eq] at h
  exact ⟨e', he, h.1, h.2⟩
 ·cases h
theorem an1 {P : Program} {t : Nat} {fs : List (Nat × Nat)} {sz : Nat} (h : xz_ P t = .st fs sz) :
  ∃ gs : Array Field, P.underlying t = some (.struct gs) ∧ fs = gs.toList.map (fun f => (f.offset, P.cellsOf f.type)) ∧ sz = P.cellsOf t := by
 unfold xz_ at h
 split at h <;> first | (cases h; done) | skip
 ·split at h
  ·cases h
  ·split at h <;> cases h
 ·rename_i gs hgs; cases h; exact ⟨gs, hgs, rfl, rfl⟩
 ·split at h <;> cases h
theorem at6 {P : Program} {t : Nat} (h : xz_ P t = .str) : P.underlying t = some .string := by
 unfold xz_ at h
 split at h <;> first | (cases h; done) | skip
 ·assumption
 ·split at h
  ·cases h
  ·split at h <;> cases h
 ·split at h <;> cases h
theorem WO_ {P : Program} {t : Nat} (h : xz_ P t = .int) : P.underlying t = some (.int .i64) := by
 unfold xz_ at h
 split at h <;> first | (cases h; done) | skip
 ·assumption
 ·split at h
  ·cases h
  ·split at h <;> cases h
 ·split at h <;> cases h
theorem an2 {P : Program} {t : Nat} {k : IntKind} (h : xz_ P t = .ik k) : P.underlying t = some (.int k) := by
 unfold xz_ at h
 split at h <;> first | (cases h; done) | skip
 ·cases h; assumption
 ·split at h
  ·cases h
  ·split at h <;> cases h
 ·split at h <;> cases h
theorem aT1 {P : Program} {t : Nat} (h : xz_ P t = .flt) : P.underlying t = some (.float .f64) := by
 unfold xz_ at h
 split at h <;> first | (cases h; done) | skip
 ·assumption
 ·split at h
  ·cases h
  ·split at h <;> cases h
 ·split at h <;> cases h
theorem K9_ {P : Program} {t : Nat} (h : xz_ P t = .bool) : P.underlying t = some .bool := by
 unfold xz_ at h
 split at h <;> first | (cases h; done) | skip
 ·assumption
 ·split at h
  ·cases h
  ·split at h <;> cases h
 ·split at h <;> cases h
def TK.one : TK → Bool
 | .st .. | .ar _ | .other => false
 | _ => true
theorem SE_ {P : Program} {t : Nat} (h : (xz_ P t).one = true) (w : World) : (isAgg t).run P w = .ok false w := by
 have hx : ∃ d, P.underlying t = some d ∧ (∀ f, d ≠ .struct f) ∧ (∀ n e, d ≠ .array n e) := by
  unfold xz_ at h
  split at h <;> first | (simp [TK.one] at h; done) | (split at h <;> simp [TK.one] at h; done) | skip
  all_goals refine ⟨_, ‹_›, ?_, ?_⟩
  all_goals (intros; first | (intro hh; cases hh; done) | (intro hh; rename_i h6 h7 _ _; exact h6 _ hh) | skip)
  all_goals (intro hh; simp_all)
 obtain ⟨d, hd, h1, h2⟩ := hx
 simp only [isAgg, Sem.run_bind, run_underlying hd, Result.andThen_ok]
 cases d <;> first | rfl | exact absurd rfl (h1 _) | exact absurd rfl (h2 _ _)
theorem yC_ {P : Program} {e n : Nat} (h : P.cellsOf e = n + 1) (w : World) : (sizeOf e).run P w = .ok (n + 1) w := by
 unfold Program.cellsOf at h
 cases hi : P.info? e with
 | none => rw [hi] at h; simp at h
 | some i =>
  rw [hi] at h
  simp at h
  simp [sizeOf, typeInfo, hi, h]
theorem xc_ {id : Nat} {t : Tree} : ∀ {H : List (Nat × Tree)}, find H id = some t → (id, t) ∈ H
 | [], h => by simp [find] at h
 | (k, t') :: r, h => by
  simp only [find] at h
  split at h
  ·rename_i hk; cases h; subst hk; exact List.mem_cons_self ..
  ·exact List.mem_cons_of_mem _ (xc_ h)
def strip : AV → AV
 | .when _ v => v
 | v => v
def okG (γ : Bool) : AV → Prop
 | .when g _ => γ = true → g = true
 | _ => True
def wc_ : AV → Option (Bool × Bool)
 | .bool b => some (true, b)
 | .when g (.bool b) => some (g, b)
 | _ => none
def elemsOf : AV → Option (Nat × (Nat → AV))
 | .l1 xs => some (xs.length, fun i => .int (xs.getD i 0))
 | .l2 xss => some (xss.length, fun i => .l1 (xss.getD i []))
 | .l3 xsss => some (xsss.length, fun i => .l2 (xsss.getD i []))
 | .lv vs => some (vs.length, fun i => vs.getD i .junk)
 | _ => none
def x0_ (H : List (Nat × Tree)) (id : Nat) (path : List Nat) : Option (Nat × (Nat → AV)) :=
 match find H id, path with
 | some (.t1 xs), [] => some (xs.length, fun i => .int (xs.getD i 0))
 | some (.t2 xss), [] => some (xss.length, fun i => .ref id [i])
 | some (.t2 xss), [i] => some ((xss.getD i []).length, fun j => .int ((xss.getD i []).getD j 0))
 | some (.tq xss _), [] => some (xss.length, fun i => .ref id [i])
 | some (.tq xss _), [i] => some ((xss.getD i []).length, fun j => .int ((xss.getD i []).getD j 0))
 | some (.t3 x), [] => some (x.length, fun i => .ref id [i])
 | some (.t3 x), [i] => some ((x.getD i []).length, fun j => .ref id [i, j])
 | some (.t3 x), [i, j] => some (((x.getD i []).getD j []).length, fun k => .int (((x.getD i []).getD j []).getD k 0))
 | some (.r2 xss), [] => some (xss.length, fun i => .l1 (xss.getD i []))
 | some (.r3 x), [] => some (x.length, fun i => .l2 (x.getD i []))
 | some (.lv vs), [] => some (vs.length, fun i => vs.getD i .junk)
 | some (.a3 _ σ), [] => some (σ.length, fun i => .ref id [i])
 | some (.mx xss i j u v), [] => some (xss.length, fun k => if k = i then u else if k = j then v else .junk)
 | some (.a3 x σ), [i] => some ((x.getD (σ.getD i 0) []).length, fun j => .ref id [i, j])
 | some (.a3 x σ), [i, j] => some (((x.getD (σ.getD i 0) []).getD j []).length, fun k => .int (((x.getD (σ.getD i 0) []).getD j []).getD k 0))
 | _, _ => none
theorem x1_ {m : Mem} {n : Int} (h : InR n) : rep m (.int n) (.int .i64 n) := by simp [rep, h]
theorem w5_ {xs : List Int} {i : Nat} {u : Value} (h : (ints xs)[i]? = some u) : u = .int .i64 (xs.getD i 0) ∧ i < xs.length := by
 simp only [ints, List.getElem?_map, Option.map_eq_some_iff] at h
 obtain ⟨x, hx, rfl⟩ := h
 have hl : i < xs.length := (List.getElem?_eq_some_iff.1 hx).1
 exact ⟨by simp [List.getD, hx], hl⟩
theorem yu_ (xs : List Int) : (ints xs).length = xs.length := by simp [ints]
theorem getD_some {α : Type} {l : List α} {i : Nat} {d : α} (h : i < l.length) : l[i]? = some (l.getD i d) := by simp [List.getD, h]
theorem getD_mem {α : Type} {l : List α} {i : Nat} {d : α} (h : i < l.length) : l.getD i d ∈ l := by
 have : l.getD i d = l[i] := by simp [List.getD, h]
 rw [this]; exact List.getElem_mem h
theorem wC_ {m : Mem} {av : AV} {n : Nat} {f : Nat → AV} {v : Value} (he : elemsOf av = some (n, f)) (h : rep m av v) :
  ∃ us, SlC m.w m.S us v ∧ us.length = n ∧ ∀ i u, us[i]? = some u → rep m (f i) u := by
 match av, he with
 | .l1 xs, he =>
  simp only [elemsOf, Option.some.injEq, Prod.mk.injEq] at he
  obtain ⟨rfl, rfl⟩ := he
  simp only [rep] at h
  refine ⟨_, h.1, yu_ _, fun i u hu => ?_⟩
  obtain ⟨rfl, hl⟩ := w5_ hu
  exact x1_ (h.2 _ (getD_mem hl))
 | .l2 xs, he =>
  simp only [elemsOf, Option.some.injEq, Prod.mk.injEq] at he
  obtain ⟨rfl, rfl⟩ := he
  simp only [rep] at h
  obtain ⟨us, h1, h2⟩ := h
  refine ⟨us, h1, h2.length.symm, fun i u hu => ?_⟩
  have hl : i < xs.length := by rw [h2.length]; exact (List.getElem?_eq_some_iff.1 hu).1
  obtain ⟨b, hb, hr⟩ := h2.get i _ (getD_some (d := []) hl)
  rw [hu] at hb; cases hb
  simpa only [rep] using hr
 | .l3 xs, he =>
  simp only [elemsOf, Option.some.injEq, Prod.mk.injEq] at he
  obtain ⟨rfl, rfl⟩ := he
  simp only [rep] at h
  obtain ⟨us, h1, h2⟩ := h
  refine ⟨us, h1, h2.length.symm, fun i u hu => ?_⟩
  have hl : i < xs.length := by rw [h2.length]; exact (List.getElem?_eq_some_iff.1 hu).1
  obtain ⟨b, hb, hr⟩ := h2.get i _ (getD_some (d := []) hl)
  rw [hu] at hb; cases hb
  simpa only [rep] using hr
 | .lv vs, he =>
  simp only [elemsOf, Option.some.injEq, Prod.mk.injEq] at he
  obtain ⟨rfl, rfl⟩ := he
  simp only [rep] at h
  obtain ⟨us, h1, h2⟩ := h
  rw [xw_] at h2
  refine ⟨us, h1, h2.length.symm, fun i u hu => ?_⟩
  have hl : i < vs.length := by rw [h2.length]; exact (List.getElem?_eq_some_iff.1 hu).1
  obtain ⟨b, hb, hr⟩ := h2.get i _ (getD_some (d := .junk) hl)
  rw [hu] at hb; cases hb
  exact hr
 | .int _, he | .flt _, he | .ik _ _, he | .bool _, he | .str _, he | .nil, he | .nilfn, he | .lp _ _, he | .val _, he | .agg _, he | .tup _, he | .fn _ _, he | .eptr _ _, he | .cptr _ _, he
 | .ref _ _, he | .sub _ _ _ _, he | .eref _ _ _, he | .bptr _ _, he | .when _ _, he | .junk, he => simp [elemsOf] at he
theorem OwnSl.cell {w : World} {fp : List Nat} {us : List Value} {v : Value} (h : OwnSl w fp us v) :
  (v = .slice none 0 0 ∧ us = []) ∨ ∃ b off cap, v = .slice (some ⟨b, off, none⟩) us.length cap ∧ fp = [b] ∧ us.length ≤ cap ∧ cap ≤ maxLen ∧ ∀ i u, us[i]? = some u → w.cell? ⟨b, off + i, none⟩ = some u := by
 rcases h with ⟨h1, h2, _⟩ | ⟨b, off, cap, c, E, h1, h2, h3, h4, h5, h6, h7⟩
 ·exact .inl ⟨h1, h2⟩
 ·refine .inr ⟨b, off, cap, h1, h2, h5, h6, fun i u hu => ?_⟩
  simp [World.cell?, h3, h7 i u hu]
theorem xJ_ {w : World} {b off n cap i : Nat} {p : List Nat} {u : Value} (hi : i < n) (hc : w.cell? ⟨b, off + i, none⟩ = some u) :
  xl_ w (.slice (some ⟨b, off, none⟩) n cap) (i :: p) = xl_ w u p := by
 simp [xl_, hi, hc]
theorem xB_ {w : World} {v u : Value} {i : Nat} {p : List Nat} (h : xl_ w v (i :: p) = some u) :
  ∃ b off n cap x, v = .slice (some ⟨b, off, none⟩) n cap ∧ i < n ∧ w.cell? ⟨b, off + i, none⟩ = some x ∧ xl_ w x p = some u := by
 match v, h with
 | .slice (some ⟨b, off, none⟩) n c, h =>
  simp only [xl_] at h
  split at h
  ·rename_i hi
   cases hc : w.cell? ⟨b, off + i, none⟩ with
   | none => rw [hc] at h; simp at h
   | some x => rw [hc] at h; exact ⟨b, off, n, c, x, rfl, hi, hc, by simpa using h⟩
  ·cases h
 | .slice (some ⟨b, off, some s⟩) n c, h => simp [xl_] at h
 | .slice none n c, h => simp [xl_] at h
 | .bool _, h | .int _ _, h | .float _ _, h | .complex _ _ _, h | .string _, h | .pointer _, h | .map _, h | .chan _, h | .func _ _ _, h | .nilFunc, h | .iface _ _, h | .nilIface, h | .agg _, h | .tuple _, h => simp [xl_] at h
theorem OwnSl.row {w : World} {fp : List Nat} {us : List Value} {v u : Value} {i : Nat} {p : List Nat} (h : OwnSl w fp us v) (hp : xl_ w v (i :: p) = some u) :
  ∃ x, us[i]? = some x ∧ xl_ w x p = some u := by
 obtain ⟨b, off, n, cap, x, rfl, hi, hc, hx⟩ := xB_ hp
 rcases h.cell with ⟨h1, _⟩ | ⟨b', off', cap', h1, _, _, _, h4⟩
 ·cases h1
 ·cases h1
  have hs : us[i]? = some us[i] := by simp [hi]
  have := h4 i _ hs
  rw [hc] at this
  cases this
  exact ⟨_, hs, hx⟩
theorem A3.row {w : World} {fp : List Nat} {x : List (List (List Int))} {σ : List Nat} {v u : Value} {i : Nat} {p : List Nat} (h : A3 w fp x σ v) (hp : xl_ w v (i :: p) = some u) :
  ∃ y f, i < σ.length ∧ σ.getD i 0 < x.length ∧ xl_ w v [i] = some y ∧ O2 w f (x.getD (σ.getD i 0) []) y ∧ (∀ b ∈ f, b ∈ fp) ∧ xl_ w y p = some u := by
 obtain ⟨rows, f0, fs, h1, h2, h3, h4⟩ := h
 obtain ⟨y, hy, hyp⟩ := h1.row hp
 have hi : i < σ.length := by
  have := (List.getElem?_eq_some_iff.1 hy).1
  simpa using this
 have hk : σ.getD i 0 < x.length := h3 _ (getD_mem hi)
 obtain ⟨f, c, hff, hc, hr⟩ := h2.get _ _ (getD_some (d := []) hk)
 have ey : y = c := by
  rw [List.getElem?_map, getD_some (d := 0) hi] at hy
  simp only [Option.map_some, Option.some.injEq] at hy
  rw [← hy, hc]
  rfl
 subst ey
 refine ⟨y, f, hi, hk, ?_, hr, fun b hb => by simp only [h4, List.mem_append, List.mem_flatten]; exact .inr ⟨f, List.mem_of_getElem? hff, hb⟩, hyp⟩
 obtain ⟨b, off, n, cap, z, hv, hin, hcz, hz⟩ := xB_ hp
 subst hv
 rw [xJ_ hin hcz]
 rcases h1.cell with ⟨q1, _⟩ | ⟨b', off', cap', q1, _, _, _, q4⟩
 ·cases q1
 ·cases q1
  have := q4 i _ hy
  rw [hcz] at this
  cases this
  simp [xl_]
theorem yN_ {cx : Cx} {H : List (Nat × Tree)} {w : World} {ι : Nat → Value} {F : Nat → List Nat} (ho : Owns cx H w ι F) {id : Nat} {path : List Nat} {n : Nat} {f : Nat → AV} {v : Value}
  (he : x0_ H id path = some (n, f)) (h : xl_ w (ι id) path = some v) :
  ∃ us fp, OwnSl w fp us v ∧ us.length = n ∧ (∀ i u, us[i]? = some u → rep (mem cx w H ι F) (f i) u) ∧ (∀ b ∈ fp, b ∈ xW_ H F) := by
 have href : ∀ {t : Tree} (ht : find H id = some t) {q : List Nat} {us : List Value} {fp : List Nat} {u' : Value} (hq : xl_ w (ι id) q = some u') (hown : OwnSl w fp us u') (i : Nat) (u : Value), xq_ (some t) (q ++ [i]) = true → us[i]? = some u → rep (mem cx w H ι F) (.ref id (q ++ [i])) u := by
  intro t ht q us fp u' hq hown i u hlive hu
  simp only [rep, mem]
  refine ⟨by rw [ht]; exact hlive, ?_⟩
  have key : ∀ (q : List Nat) (v0 : Value), xl_ w v0 q = some u' → xl_ w v0 (q ++ [i]) = some u := by
   intro q
   induction q with
   | nil =>
    intro v0 h0
    simp only [xl_, Option.some.injEq] at h0
    subst h0
    rcases hown.cell with ⟨_, h2⟩ | ⟨b, off, cap, h1, _, _, _, h4⟩
    ·subst h2; simp at hu
    ·rw [h1, List.nil_append, xJ_ (List.getElem?_eq_some_iff.1 hu).1 (h4 i u hu)]
     simp [xl_]
   | cons j q ih =>
    intro v0 h0
    obtain ⟨b, off, n, cap, x, rfl, hj, hc, hx⟩ := xB_ h0
    rw [List.cons_append, xJ_ hj hc]
    exact ih x hx
  exact key q _ hq
 unfold x0_ at he
 split at he <;> first | (cases he; done) | skip
 all_goals (rename_i hf; have ht := ho.trees _ (xc_ hf); simp only [treeRep, mem] at ht; simp only [Option.some.injEq, Prod.mk.injEq] at he; obtain ⟨rfl, rfl⟩ := he)
 ·-- t1
  simp only [xl_, Option.some.injEq] at h; subst h
  refine ⟨_, _, ht.1, yu_ _, fun i u hu => ?_, fun b hb => xL_ (xc_ hf) hb⟩
  obtain ⟨rfl, hl⟩ := w5_ hu
  exact x1_ (ht.2 _ (getD_mem hl))
 ·-- t2 []
  obtain ⟨us, f0, fs, h1, h2, h3⟩ := ht
  have hq := h
  simp only [xl_, Option.some.injEq] at h; subst h
  exact ⟨us, f0, h1, (h2.length.2).symm, fun i u hu => href hf (q := []) rfl h1 i u rfl hu, fun b hb => xL_ (xc_ hf) (by simp [h3, hb])⟩
 ·-- t2 [i]
  obtain ⟨us, f0, fs, h1, h2, h3⟩ := ht
  obtain ⟨x, hx, hp⟩ := h1.row h
  simp only [xl_, Option.some.injEq] at hp; subst hp
  rename_i xss i
  have hl : i < xss.length := by rw [h2.length.2]; exact (List.getElem?_eq_some_iff.1 hx).1
  obtain ⟨a, c, ha, hc, hr⟩ := h2.get i _ (getD_some (d := []) hl)
  rw [hx] at hc; cases hc
  refine ⟨_, a, hr.1, yu_ _, fun j u hu => ?_, fun b hb => xL_ (xc_ hf) (by simp only [h3, List.mem_append, List.mem_flatten]; exact .inr ⟨a, List.mem_of_getElem? ha, hb⟩)⟩
  obtain ⟨rfl, hl⟩ := w5_ hu
  exact x1_ (hr.2 _ (getD_mem hl))
 ·-- tq []
  obtain ⟨us, f0, fs, h1, h2, h3⟩ := ht.1
  have hq := h
  simp only [xl_, Option.some.injEq] at h; subst h
  exact ⟨us, f0, h1, (h2.length.2).symm, fun i u hu => href hf (q := []) rfl h1 i u rfl hu, fun b hb => xL_ (xc_ hf) (by simp [h3, hb])⟩
 ·-- tq [i]
  obtain ⟨us, f0, fs, h1, h2, h3⟩ := ht.1
  obtain ⟨x, hx, hp⟩ := h1.row h
  simp only [xl_, Option.some.injEq] at hp; subst hp
  rename_i xss _ i
  have hl : i < xss.length := by rw [h2.length.2]; exact (List.getElem?_eq_some_iff.1 hx).1
  obtain ⟨a, c, ha, hc, hr⟩ := h2.get i _ (getD_some (d := []) hl)
  rw [hx] at hc; cases hc
  refine ⟨_, a, hr.1, yu_ _, fun j u hu => ?_, fun b hb => xL_ (xc_ hf) (by simp only [h3, List.mem_append, List.mem_flatten]; exact .inr ⟨a, List.mem_of_getElem? ha, hb⟩)⟩
  obtain ⟨rfl, hl⟩ := w5_ hu
  exact x1_ (hr.2 _ (getD_mem hl))
 ·-- t3 []
  obtain ⟨us, f0, fs, h1, h2, h3⟩ := ht
  simp only [xl_, Option.some.injEq] at h; subst h
  exact ⟨us, f0, h1, (h2.length.2).symm, fun i u hu => href hf (q := []) rfl h1 i u rfl hu, fun b hb => xL_ (xc_ hf) (by simp [h3, hb])⟩
 ·-- t3 [i]
  obtain ⟨us, f0, fs, h1, h2, h3⟩ := ht
  have hq := h
  obtain ⟨x, hx, hp⟩ := h1.row h
  simp only [xl_, Option.some.injEq] at hp; subst hp
  rename_i xss i
  have hl : i < xss.length := by rw [h2.length.2]; exact (List.getElem?_eq_some_iff.1 hx).1
  obtain ⟨a, c, ha, hc, hr⟩ := h2.get i _ (getD_some (d := []) hl)
  rw [hx] at hc; cases hc
  obtain ⟨us', g0, gs, k1, k2, k3⟩ := hr
  exact ⟨us', g0, k1, (k2.length.2).symm, fun j u hu => href hf (q := [i]) hq k1 j u rfl hu,
   fun b hb => xL_ (xc_ hf) (by simp only [h3, List.mem_append, List.mem_flatten]; exact .inr ⟨a, List.mem_of_getElem? ha, by simp [k3, hb]⟩)⟩
 ·-- t3 [i, j]
  obtain ⟨us, f0, fs, h1, h2, h3⟩ := ht
  obtain ⟨x, hx, hp⟩ := h1.row h
  rename_i xss i j
  have hl : i < xss.length := by rw [h2.length.2]; exact (List.getElem?_eq_some_iff.1 hx).1
  obtain ⟨a, c, ha, hc, hr⟩ := h2.get i _ (getD_some (d := []) hl)
  rw [hx] at hc; cases hc
  obtain ⟨us', g0, gs, k1, k2, k3⟩ := hr
  obtain ⟨y, hy, hp'⟩ := k1.row hp
  simp only [xl_, Option.some.injEq] at hp'; subst hp'
  have hl' : j < (xss.getD i []).length := by rw [k2.length.2]; exact (List.getElem?_eq_some_iff.1 hy).1
  obtain ⟨a', c', ha', hc', hr'⟩ := k2.get j _ (getD_some (d := []) hl')
  rw [hy] at hc'; cases hc'
  refine ⟨_, a', hr'.1, yu_ _, fun k u hu => ?_, fun b hb => xL_ (xc_ hf) (by
   simp only [h3, List.mem_append, List.mem_flatten]
   exact .inr ⟨a, List.mem_of_getElem? ha, by simp only [k3, List.mem_append, List.mem_flatten]; exact .inr ⟨a', List.mem_of_getElem? ha', hb⟩⟩)⟩
  obtain ⟨rfl, hl⟩ := w5_ hu
  exact x1_ (hr'.2 _ (getD_mem hl))
 ·-- r2
  obtain ⟨us, h1, h2⟩ := ht
  simp only [xl_, Option.some.injEq] at h; subst h
  refine ⟨us, _, h1, h2.length.symm, fun i u hu => ?_, fun b hb => xL_ (xc_ hf) hb⟩
  rename_i xs
  have hl : i < xs.length := by rw [h2.length]; exact (List.getElem?_eq_some_iff.1 hu).1
  obtain ⟨b, hb, hr⟩ := h2.get i _ (getD_some (d := []) hl)
  rw [hu] at hb; cases hb
  simpa only [rep, mem] using hr
 ·-- r3
  obtain ⟨us, h1, h2⟩ := ht
  simp only [xl_, Option.some.injEq] at h; subst h
  refine ⟨us, _, h1, h2.length.symm, fun i u hu => ?_, fun b hb => xL_ (xc_ hf) hb⟩
  rename_i xs
  have hl : i < xs.length := by rw [h2.length]; exact (List.getElem?_eq_some_iff.1 hu).1
  obtain ⟨b, hb, hr⟩ := h2.get i _ (getD_some (d := []) hl)
  rw [hu] at hb; cases hb
  simpa only [rep, mem] using hr
 ·-- lv
  obtain ⟨us, h1, h2⟩ := ht
  simp only [xl_, Option.some.injEq] at h; subst h
  rw [xw_] at h2
  refine ⟨us, _, h1, h2.length.symm, fun i u hu => ?_, fun b hb => xL_ (xc_ hf) hb⟩
  rename_i xs
  have hl : i < xs.length := by rw [h2.length]; exact (List.getElem?_eq_some_iff.1 hu).1
  obtain ⟨b, hb, hr⟩ := h2.get i _ (getD_some (d := .junk) hl)
  rw [hu] at hb; cases hb
  exact hr
 ·-- a3 []
  have ht0 := ht
  obtain ⟨rows, f0, fs, h1, h2, h3, h4⟩ := ht
  simp only [xl_, Option.some.injEq] at h; subst h
  exact ⟨_, f0, h1, by simp, fun i u hu => href hf (q := []) rfl h1 i u rfl hu, fun b hb => xL_ (xc_ hf) (by simp [h4, hb])⟩
 ·-- a list two of whose rows are out
  obtain ⟨us, f0, fs, h1, h2, h3, h4, h5, h6, h7⟩ := ht
  simp only [xl_, Option.some.injEq] at h; subst h
  refine ⟨us, f0, h1, by rw [← h2.length.2]; simp [ZI_], fun i u hu => ?_, fun b hb => xL_ (xc_ hf) (by simp [h3, hb])⟩
  dsimp only
  split
  ·rename_i e; subst e; exact h6 _ hu
  ·split
   ·rename_i e; subst e; exact h7 _ hu
   ·simp only [rep]
 ·-- a3 [i]
  have hq := h
  obtain ⟨y, f, hi, hk, hy, hr, hfp, hyp⟩ := A3.row ht h
  simp only [xl_, Option.some.injEq] at hyp; subst hyp
  obtain ⟨us', g0, gs, k1, k2, k3⟩ := hr
  exact ⟨us', g0, k1, (k2.length.2).symm, fun j u hu => href hf (q := [_]) hq k1 j u rfl hu, fun b hb => xL_ (xc_ hf) (hfp b (by simp [k3, hb]))⟩
 ·-- a3 [i, j]
  obtain ⟨y, f, hi, hk, hy, hr, hfp, hyp⟩ := A3.row ht h
  obtain ⟨us', g0, gs, k1, k2, k3⟩ := hr
  obtain ⟨z, hz, hp'⟩ := k1.row hyp
  simp only [xl_, Option.some.injEq] at hp'; subst hp'
  have hl' := (List.getElem?_eq_some_iff.1 hz).1
  rw [← k2.length.2] at hl'
  obtain ⟨a', c', ha', hc', hr'⟩ := k2.get _ _ (getD_some (d := []) hl')
  rw [hz] at hc'; cases hc'
  refine ⟨_, a', hr'.1, yu_ _, fun k u hu => ?_, fun b hb => xL_ (xc_ hf) (hfp b (by simp only [k3, List.mem_append, List.mem_flatten]; exact .inr ⟨a', List.mem_of_getElem? ha', hb⟩))⟩
  obtain ⟨rfl, hl⟩ := w5_ hu
  exact x1_ (hr'.2 _ (getD_mem hl))
end Go.Aw
namespace Go.Aw
open Go.RowKit
def Rd (w : World) (S : Nat → Prop) (av : AV) (v : Value) : Prop := rep ⟨w, S, fun _ => undef, fun _ _ => False⟩ av v
mutual
def isData : AV → Bool
 | .ref .. | .sub .. | .eref .. | .bptr .. | .val _ => false
 | .lv vs | .agg vs | .tup vs | .fn _ vs | .cptr vs _ => yd_ vs
 | .eptr av _ => isData av
 | .when _ v => isData v
 | _ => true
def yd_ : List AV → Bool
 | [] => true
 | a :: as => isData a && yd_ as
end
def zw_ : AV → Bool
 | .int _ | .flt _ | .ik _ _ | .bool _ | .str _ | .nil | .nilfn | .junk => true
 | .tup [] => true
 | .tup [.int _] | .tup [.bool _] | .tup [.str _] | .tup [.nil] => true
 | .tup [.int _, .int _] | .tup [.bool _, .int _] | .tup [.int _, .bool _] | .tup [.str _, .int _] | .tup [.nil, .int _] | .tup [.str _, .bool _] => true
 | .tup [.int _, .int _, .int _] => true
 | _ => false
mutual
theorem Y8_ {m m' : Mem} (hw : m'.w = m.w) (hS : ∀ b, m.S b → m'.S b) : ∀ (av : AV) (v : Value), isData av = true → rep m av v → rep m' av v
 | .int _, _, _, hr => by simpa only [rep] using hr
 | .flt _, _, _, hr | .ik _ _, _, _, hr => by simpa only [rep] using hr
 | .bool _, _, _, hr => by simpa only [rep] using hr
 | .str _, _, _, hr => by simpa only [rep] using hr
 | .nil, _, _, hr => by simpa only [rep] using hr
 | .nilfn, _, _, hr => by simpa only [rep] using hr
 | .l1 _, _, _, hr => by simp only [rep] at hr ⊢; exact hr.le (fun b hb => ⟨hS b hb, by rw [hw]⟩)
 | .l2 _, _, _, hr => by simp only [rep] at hr ⊢; exact hr.le (fun b hb => ⟨hS b hb, by rw [hw]⟩)
 | .l3 _, _, _, hr => by simp only [rep] at hr ⊢; exact hr.le (fun b hb => ⟨hS b hb, by rw [hw]⟩)
 | .lv vs, _, hd, hr => by
  simp only [rep] at hr ⊢
  simp only [isData] at hd
  obtain ⟨us, h1, h2⟩ := hr
  exact ⟨us, h1.le (fun b hb => ⟨hS b hb, by rw [hw]⟩), y4_ hw hS vs us hd h2⟩
 | .lp ps o, _, _, hr => by simp only [rep] at hr ⊢; exact hr.le (fun b hb => ⟨hS b hb, by rw [hw]⟩)
 | .agg vs, _, hd, hr => by
  simp only [rep] at hr ⊢
  simp only [isData] at hd
  obtain ⟨us, h1, h2⟩ := hr
  exact ⟨us, h1, y4_ hw hS vs us hd h2⟩
 | .tup vs, _, hd, hr => by
  simp only [rep] at hr ⊢
  simp only [isData] at hd
  obtain ⟨us, h1, h2⟩ := hr
  exact ⟨us, h1, y4_ hw hS vs us hd h2⟩
 | .fn _ vs, _, hd, hr => by
  simp only [rep] at hr ⊢
  simp only [isData] at hd
  obtain ⟨us, h1, h2⟩ := hr
  exact ⟨us, h1, y4_ hw hS vs us hd h2⟩
 | .eptr av i, _, hd, hr => by
  simp only [rep] at hr ⊢
  simp only [isData] at hd
  obtain ⟨b, off, n, cap, h1, h2, h3⟩ := hr
  exact ⟨b, off, n, cap, Y8_ hw hS av _ hd h1, h2, h3⟩
 | .cptr vs off, _, hd, hr => by
  simp only [rep] at hr ⊢
  simp only [isData] at hd
  obtain ⟨b, us, h1, h2, h3, h4⟩ := hr
  exact ⟨b, us, h1, hS b h2, fun i u hu => by rw [hw]; exact h3 i u hu, y4_ hw hS vs us hd h4⟩
 | .when g x, _, hd, hr => by
  simp only [rep] at hr ⊢
  simp only [isData] at hd
  exact ⟨fun hg => Y8_ hw hS x _ hd (hr.1 hg), hr.2⟩
 | .junk, _, _, _ => by simp only [rep]
 | .ref _ _, _, hd, _ => by simp [isData] at hd
 | .val _, _, hd, _ => by simp [isData] at hd
 | .sub _ _ _ _, _, hd, _ => by simp [isData] at hd
 | .eref _ _ _, _, hd, _ => by simp [isData] at hd
 | .bptr _ _, _, hd, _ => by simp [isData] at hd
theorem y4_ {m m' : Mem} (hw : m'.w = m.w) (hS : ∀ b, m.S b → m'.S b) : ∀ (vs : List AV) (us : List Value), yd_ vs = true → reps m vs us → reps m' vs us
 | [], _, _, hr => by simpa only [reps] using hr
 | a :: as, _, hd, hr => by
  simp only [reps] at hr ⊢
  simp only [yd_, Bool.and_eq_true] at hd
  obtain ⟨u, us', h1, h2, h3⟩ := hr
  exact ⟨u, us', h1, Y8_ hw hS a u hd.1 h2, y4_ hw hS as us' hd.2 h3⟩
end
theorem yU_ {m m' : Mem} {av : AV} (h : zw_ av = true) {v : Value} (hr : rep m av v) : rep m' av v := by
 unfold zw_ at h
 split at h <;> first | (cases h; done) | skip
 all_goals first | (simp only [rep, reps] at hr ⊢; exact hr) | simp only [rep]
def yR_ (lo hi : Nat) : AV → Option AV
 | .l1 xs => some (.l1 ((xs.take hi).drop lo))
 | .l2 xs => some (.l2 ((xs.take hi).drop lo))
 | .l3 xs => some (.l3 ((xs.take hi).drop lo))
 | .lv xs => some (.lv ((xs.take hi).drop lo))
 | _ => none
def ZK_ : Option Tree → List Nat → Option AV
 | some (.t1 xs), [] => some (.l1 xs)
 | some (.t2 xss), [] => some (.l2 xss)
 | some (.t3 x), [] => some (.l3 x)
 | some (.r2 xss), [] => some (.l2 xss)
 | some (.r3 x), [] => some (.l3 x)
 | some (.lv vs), [] => if yd_ vs then some (.lv vs) else none
 | some (.a3 x σ), [] => some (.l3 (σ.map fun k => x.getD k []))
 | some (.tp ps), [] => some (.lp ps none)
 | some (.t2 xss), [i] => some (.l1 (xss.getD i []))
 | some (.tq xss _), [] => some (.l2 xss)
 | some (.tq xss _), [i] => some (.l1 (xss.getD i []))
 | some (.t3 x), [i] => some (.l2 (x.getD i []))
 | some (.t3 x), [i, j] => some (.l1 ((x.getD i []).getD j []))
 | _, _ => none
mutual
def xI_ (H : List (Nat × Tree)) : AV → Option AV
 | .ref id path => ZK_ (find H id) path
 | .sub id path lo hi => (ZK_ (find H id) path).bind (yR_ lo hi)
 | .agg vs => (zJ_ H vs).map .agg
 | .tup vs => (zJ_ H vs).map .tup
 | .eref .. | .bptr .. | .when .. | .junk => none
 | x => if isData x then some x else none
def zJ_ (H : List (Nat × Tree)) : List AV → Option (List AV)
 | [] => some []
 | a :: as => match xI_ H a, zJ_ H as with
  | some x, some xs => some (x :: xs)
  | _, _ => none
end
def ze_ (H : List (Nat × Tree)) : AV → Option AV
 | .bptr id off => match find H id with
  | some (.bx vs) => (zJ_ H vs).map (.cptr · off)
  | _ => none
 | x => xI_ H x
def wD_ (H : List (Nat × Tree)) : List AV → Option (List AV)
 | [] => some []
 | a :: as => match ze_ H a, wD_ H as with
  | some x, some xs => some (x :: xs)
  | _, _ => none
def view (H : List (Nat × Tree)) : AV → Option AV
 | .fn f caps => (wD_ H caps).map (.fn f)
 | x => ze_ H x
def Xc_ (H : List (Nat × Tree)) : List AV → Option (List AV)
 | [] => some []
 | a :: as => match view H a, Xc_ H as with
  | some x, some xs => some (x :: xs)
  | _, _ => none
def lower (w : World) : Nat → Prop := fun b => b < w.heap.size
def zK_ (cx : Cx) (w : World) : Nat → Prop := fun b => b < w.heap.size ∧ (cx.S0 b ∨ cx.B0 ≤ b ∨ cx.A0 b)
theorem ZL_ {cx : Cx} {w : World} {H : List (Nat × Tree)} {F : Nat → List Nat} {b : Nat} (h : imm cx w H F b) : zK_ cx w b := ⟨h.2.1, h.1⟩
theorem OwnSl.slC {w : World} {fp : List Nat} {us : List Value} {v : Value} (h : OwnSl w fp us v) {S : Nat → Prop} (hS : ∀ b ∈ fp, S b) : SlC w S us v := by
 rcases h.cell with h | ⟨b, off, cap, h1, h2, h3, h4, h5⟩
 ·exact .inl ⟨⟨none, h.1⟩, h.2⟩
 ·exact .inr ⟨b, off, cap, h1, h3, h4, hS b (by simp [h2]), h5⟩
theorem O1.l1 {w : World} {fp : List Nat} {xs : List Int} {v : Value} (h : O1 w fp xs v) {S : Nat → Prop} (hS : ∀ b ∈ fp, S b) : L1 w S xs v := ⟨h.1.slC hS, h.2⟩
theorem wE_ {α β γ : Type} {R : α → β → γ → Prop} {R' : β → γ → Prop} : ∀ {as : List α} {bs : List β} {cs : List γ}, (∀ a ∈ as, ∀ b c, R a b c → R' b c) → All3 R as bs cs → All2 R' bs cs
 | [], [], [], _, _ => trivial
 | _ :: _, _ :: _, _ :: _, hm, h => ⟨hm _ (List.mem_cons_self ..) _ _ h.1, wE_ (fun a ha => hm a (List.mem_cons_of_mem _ ha)) h.2⟩
 | [], _ :: _, _, _, h => h.elim
 | [], [], _ :: _, _, h => h.elim
 | _ :: _, [], _, _, h => h.elim
 | _ :: _, _ :: _, [], _, h => h.elim
theorem O2.l2 {w : World} {fp : List Nat} {xs : List (List Int)} {v : Value} (h : O2 w fp xs v) {S : Nat → Prop} (hS : ∀ b ∈ fp, S b) : L2 w S xs v := by
 obtain ⟨us, f0, fs, h1, h2, rfl⟩ := h
 exact ⟨us, h1.slC (fun b hb => hS b (by simp [hb])), wE_ (fun f hf _ _ ho => ho.l1 (fun b hb => hS b (by simp only [List.mem_append, List.mem_flatten]; exact .inr ⟨f, hf, hb⟩))) h2⟩
theorem O3.l3 {w : World} {fp : List Nat} {xs : List (List (List Int))} {v : Value} (h : O3 w fp xs v) {S : Nat → Prop} (hS : ∀ b ∈ fp, S b) : L3 w S xs v := by
 obtain ⟨us, f0, fs, h1, h2, rfl⟩ := h
 exact ⟨us, h1.slC (fun b hb => hS b (by simp [hb])), wE_ (fun f hf _ _ ho => ho.l2 (fun b hb => hS b (by simp only [List.mem_append, List.mem_flatten]; exact .inr ⟨f, hf, hb⟩))) h2⟩
theorem SlC.cut {w : World} {S : Nat → Prop} {us : List Value} {a : Option Addr} {n cap : Nat} (h : SlC w S us (.slice a n cap)) {lo hi : Nat} (h1 : lo ≤ hi) (h2 : hi ≤ n) {a' : Option Addr} (ha : am8 cap lo a a') :
  SlC w S ((us.take hi).drop lo) (.slice a' (hi - lo) (cap - lo)) := by
 rcases h with ⟨⟨a0, hv⟩, hu⟩ | ⟨b, off, c, hv, k1, k2, k3, k4⟩
 ·cases hv
  subst hu
  have : lo = 0 := by omega
  have : hi = 0 := by omega
  subst_vars
  exact .inl ⟨⟨a', by simp⟩, by simp⟩
 ·cases hv
  have hl : ((us.take hi).drop lo).length = hi - lo := by simp [List.length_take]; omega
  obtain ⟨j, hj, hj2, rfl⟩ := ha
  have hadd : (some (⟨b, off, none⟩ : Addr)).map (·.add j) = some ⟨b, off + j, none⟩ := by
   simp only [Option.map_some]
   congr 1
   unfold Addr.add
   split
   ·simp_all
   ·rfl
  by_cases hc : cap = lo
  ·subst hc
   have : hi - cap = 0 := by omega
   refine .inr ⟨b, off + j, 0, ?_, by omega, Nat.zero_le _, k3, fun i u hu => ?_⟩
   ·rw [hadd]; simp [hl]
   ·have := (List.getElem?_eq_some_iff.1 hu).1; omega
  ·refine .inr ⟨b, off + lo, cap - lo, ?_, by omega, by omega, k3, fun i u hu => ?_⟩
   ·rw [hadd, hl, hj2 hc]
   ·rw [List.getElem?_drop, List.getElem?_take] at hu
    split at hu
    ·have := k4 _ _ hu
     rwa [Nat.add_assoc]
    ·cases hu
theorem Vv_ {m : Mem} {av d : AV} {lo hi n cap : Nat} {a : Option Addr} (hc : yR_ lo hi av = some d) (h : rep m av (.slice a n cap)) (h1 : lo ≤ hi) (h2 : hi ≤ n) {a' : Option Addr} (ha : am8 cap lo a a') :
  rep m d (.slice a' (hi - lo) (cap - lo)) := by
 unfold yR_ at hc
 split at hc <;> first | (cases hc; done) | skip
 ·cases hc
  simp only [rep] at h ⊢
  refine ⟨?_, fun x hx => h.2 x (List.mem_of_mem_take (List.mem_of_mem_drop hx))⟩
  have := h.1.cut h1 h2 ha
  simpa [ints, List.map_take, List.map_drop] using this
 ·cases hc
  simp only [rep] at h ⊢
  obtain ⟨us, k1, k2⟩ := h
  exact ⟨_, k1.cut h1 h2 ha, (k2.take hi).drop lo⟩
 ·cases hc
  simp only [rep] at h ⊢
  obtain ⟨us, k1, k2⟩ := h
  exact ⟨_, k1.cut h1 h2 ha, (k2.take hi).drop lo⟩
 ·cases hc
  simp only [rep] at h ⊢
  obtain ⟨us, k1, k2⟩ := h
  exact ⟨_, k1.cut h1 h2 ha, by rw [xw_] at k2 ⊢; exact (k2.take hi).drop lo⟩
section
variable {cx : Cx} {H : List (Nat × Tree)} {w : World} {ι : Nat → Value} {F : Nat → List Nat}
theorem yy_ {av : AV} {v : Value} (hd : isData av = true) (hr : rep (mem cx w H ι F) av v) : Rd w (zK_ cx w) av v :=
 Y8_ (m := mem cx w H ι F) (m' := ⟨w, zK_ cx w, fun _ => undef, fun _ _ => False⟩) rfl (fun _ hb => ZL_ hb) _ _ hd hr
theorem Ja_ {vs : List AV} {us : List Value} (hd : yd_ vs = true) (hr : reps (mem cx w H ι F) vs us) : reps ⟨w, zK_ cx w, fun _ => undef, fun _ _ => False⟩ vs us :=
 y4_ (m := mem cx w H ι F) (m' := ⟨w, zK_ cx w, fun _ => undef, fun _ _ => False⟩) rfl (fun _ hb => ZL_ hb) _ _ hd hr
theorem UE_ (ho : Owns cx H w ι F) {id : Nat} {path : List Nat} {d : AV} {v : Value} (hv : ZK_ (find H id) path = some d) (h : xl_ w (ι id) path = some v) : Rd w (zK_ cx w) d v := by
 have hlt : ∀ b ∈ xW_ H F, zK_ cx w b := fun b hb => ⟨(ho.mine b hb).1, .inr (ho.mine b hb).2⟩
 have hS : ∀ b, imm cx w H F b → zK_ cx w b ∧ w.heap[b]? = w.heap[b]? := fun b hb => ⟨ZL_ hb, rfl⟩
 generalize hf : find H id = ft at hv
 unfold ZK_ at hv
 split at hv <;> first | (cases hv; done) | skip
 all_goals (have ht := ho.trees _ (xc_ hf); simp only [treeRep, mem] at ht)
 ·cases hv; simp only [xl_, Option.some.injEq] at h; subst h
  simp only [Rd, rep]; exact ht.l1 (fun b hb => hlt b (xL_ (xc_ hf) hb))
 ·cases hv; simp only [xl_, Option.some.injEq] at h; subst h
  simp only [Rd, rep]; exact ht.l2 (fun b hb => hlt b (xL_ (xc_ hf) hb))
 ·cases hv; simp only [xl_, Option.some.injEq] at h; subst h
  simp only [Rd, rep]; exact ht.l3 (fun b hb => hlt b (xL_ (xc_ hf) hb))
 ·cases hv; simp only [xl_, Option.some.injEq] at h; subst h
  simp only [Rd, rep]
  obtain ⟨us, h1, h2⟩ := ht
  exact ⟨us, h1.slC (fun b hb => hlt b (xL_ (xc_ hf) hb)), h2.mono (fun _ _ hl => hl.le hS)⟩
 ·cases hv; simp only [xl_, Option.some.injEq] at h; subst h
  simp only [Rd, rep]
  obtain ⟨us, h1, h2⟩ := ht
  exact ⟨us, h1.slC (fun b hb => hlt b (xL_ (xc_ hf) hb)), h2.mono (fun _ _ hl => hl.le hS)⟩
 ·split at hv
  ·rename_i hd
   cases hv; simp only [xl_, Option.some.injEq] at h; subst h
   simp only [Rd, rep]
   obtain ⟨us, h1, h2⟩ := ht
   exact ⟨us, h1.slC (fun b hb => hlt b (xL_ (xc_ hf) hb)), Ja_ hd h2⟩
  ·cases hv
 ·cases hv; simp only [xl_, Option.some.injEq] at h; subst h
  simp only [Rd, rep]
  obtain ⟨rows, f0, fs, h1, h2, h3, h4⟩ := ht
  refine ⟨_, h1.slC (fun b hb => hlt b (xL_ (xc_ hf) (by simp [h4, hb]))), ?_⟩
  refine All2.of_get (by simp) (fun i a u ha hu => ?_)
  rw [List.getElem?_map] at ha hu
  rename_i x σ
  cases hs : σ[i]? with
  | none => rw [hs] at ha; cases ha
  | some k =>
   rw [hs] at ha hu
   simp only [Option.map_some, Option.some.injEq] at ha hu
   subst ha
   subst hu
   have hk : k < x.length := h3 k (List.mem_of_getElem? hs)
   obtain ⟨f, c, hff, hc, hr⟩ := h2.get k _ (getD_some (d := []) hk)
   rw [hc]
   exact O2.l2 hr (fun b hb => hlt b (xL_ (xc_ hf) (by simp only [h4, List.mem_append, List.mem_flatten]; exact .inr ⟨f, List.mem_of_getElem? hff, hb⟩)))
 ·cases hv; simp only [xl_, Option.some.injEq] at h; subst h
  simp only [Rd, rep]
  exact OwnP.slP ht (fun b hb => hlt b (xL_ (xc_ hf) hb))
 ·cases hv
  obtain ⟨us, f0, fs, h1, h2, h3⟩ := ht
  obtain ⟨x, hx, hp⟩ := h1.row h
  simp only [xl_, Option.some.injEq] at hp; subst hp
  rename_i xss i
  have hl : i < xss.length := by rw [h2.length.2]; exact (List.getElem?_eq_some_iff.1 hx).1
  obtain ⟨a, c, ha, hc, hr⟩ := h2.get i _ (getD_some (d := []) hl)
  rw [hx] at hc; cases hc
  simp only [Rd, rep]
  exact hr.l1 (fun b hb => hlt b (xL_ (xc_ hf) (by simp only [h3, List.mem_append, List.mem_flatten]; exact .inr ⟨a, List.mem_of_getElem? ha, hb⟩)))
 ·cases hv; simp only [xl_, Option.some.injEq] at h; subst h
  simp only [Rd, rep]; exact ht.1.l2 (fun b hb => hlt b (xL_ (xc_ hf) hb))
 ·cases hv
  obtain ⟨us, f0, fs, h1, h2, h3⟩ := ht.1
  obtain ⟨x, hx, hp⟩ := h1.row h
  simp only [xl_, Option.some.injEq] at hp; subst hp
  rename_i xss _ i
  have hl : i < xss.length := by rw [h2.length.2]; exact (List.getElem?_eq_some_iff.1 hx).1
  obtain ⟨a, c, ha, hc, hr⟩ := h2.get i _ (getD_some (d := []) hl)
  rw [hx] at hc; cases hc
  simp only [Rd, rep]
  exact hr.l1 (fun b hb => hlt b (xL_ (xc_ hf) (by simp only [h3, List.mem_append, List.mem_flatten]; exact .inr ⟨a, List.mem_of_getElem? ha, hb⟩)))
 ·cases hv
  obtain ⟨us, f0, fs, h1, h2, h3⟩ := ht
  obtain ⟨x, hx, hp⟩ := h1.row h
  simp only [xl_, Option.some.injEq] at hp; subst hp
  rename_i xss i
  have hl : i < xss.length := by rw [h2.length.2]; exact (List.getElem?_eq_some_iff.1 hx).1
  obtain ⟨a, c, ha, hc, hr⟩ := h2.get i _ (getD_some (d := []) hl)
  rw [hx] at hc; cases hc
  simp only [Rd, rep]
  exact hr.l2 (fun b hb => hlt b (xL_ (xc_ hf) (by simp only [h3, List.mem_append, List.mem_flatten]; exact .inr ⟨a, List.mem_of_getElem? ha, hb⟩)))
 ·cases hv
  obtain ⟨us, f0, fs, h1, h2, h3⟩ := ht
  obtain ⟨x, hx, hp⟩ := h1.row h
  rename_i xss i j
  have hl : i < xss.length := by rw [h2.length.2]; exact (List.getElem?_eq_some_iff.1 hx).1
  obtain ⟨a, c, ha, hc, hr⟩ := h2.get i _ (getD_some (d := []) hl)
  rw [hx] at hc; cases hc
  obtain ⟨us', g0, gs, k1, k2, k3⟩ := hr
  obtain ⟨y, hy, hp'⟩ := k1.row hp
  simp only [xl_, Option.some.injEq] at hp'; subst hp'
  have hl' : j < (xss.getD i []).length := by rw [k2.length.2]; exact (List.getElem?_eq_some_iff.1 hy).1
  obtain ⟨a', c', ha', hc', hr'⟩ := k2.get j _ (getD_some (d := []) hl')
  rw [hy] at hc'; cases hc'
  simp only [Rd, rep]
  exact hr'.l1 (fun b hb => hlt b (xL_ (xc_ hf) (by
   simp only [h3, List.mem_append, List.mem_flatten]
   exact .inr ⟨a, List.mem_of_getElem? ha, by simp only [k3, List.mem_append, List.mem_flatten]; exact .inr ⟨a', List.mem_of_getElem? ha', hb⟩⟩)))
mutual
theorem wF_ (ho : Owns cx H w ι F) : ∀ (av : AV) (d : AV) (v : Value), xI_ H av = some d → rep (mem cx w H ι F) av v → Rd w (zK_ cx w) d v
 | .ref id path, d, v, hv, hr => by
  simp only [xI_] at hv
  simp only [rep] at hr
  exact UE_ ho hv hr.2
 | .sub id path lo hi, d, v, hv, hr => by
  simp only [xI_] at hv
  simp only [rep] at hr
  obtain ⟨_, a, n, cap, a', h1, h2, h3, _, ha, rfl⟩ := hr
  cases hx : ZK_ (find H id) path with
  | none => rw [hx] at hv; cases hv
  | some x =>
   rw [hx] at hv
   simp only [Option.bind_some] at hv
   exact Vv_ hv (UE_ ho hx h1) h2 h3 ha
 | .agg vs, d, v, hv, hr => by
  simp only [xI_, Option.map_eq_some_iff] at hv
  obtain ⟨ds, h1, rfl⟩ := hv
  simp only [rep] at hr
  obtain ⟨us, rfl, h2⟩ := hr
  simp only [Rd, rep]
  exact ⟨us, rfl, w6_ ho vs ds us h1 h2⟩
 | .tup vs, d, v, hv, hr => by
  simp only [xI_, Option.map_eq_some_iff] at hv
  obtain ⟨ds, h1, rfl⟩ := hv
  simp only [rep] at hr
  obtain ⟨us, rfl, h2⟩ := hr
  simp only [Rd, rep]
  exact ⟨us, rfl, w6_ ho vs ds us h1 h2⟩
 | .eref _ _ _, _, _, hv, _ => by simp [xI_] at hv
 | .bptr _ _, _, _, hv, _ => by simp [xI_] at hv
 | .when _ _, _, _, hv, _ => by simp [xI_] at hv
 | .junk, _, _, hv, _ => by simp [xI_] at hv
 | .int n, d, v, hv, hr => by
  simp only [xI_] at hv; split at hv
  ·rename_i hd; cases hv; exact yy_ hd hr
  ·cases hv
 | .flt _, d, v, hv, hr | .ik _ _, d, v, hv, hr => by
  simp only [xI_] at hv; split at hv
  ·rename_i hd; cases hv; exact yy_ hd hr
  ·cases hv
 | .bool _, d, v, hv, hr => by
  simp only [xI_] at hv; split at hv
  ·rename_i hd; cases hv; exact yy_ hd hr
  ·cases hv
 | .str _, d, v, hv, hr => by
  simp only [xI_] at hv; split at hv
  ·rename_i hd; cases hv; exact yy_ hd hr
  ·cases hv
 | .nil, d, v, hv, hr => by
  simp only [xI_] at hv; split at hv
  ·rename_i hd; cases hv; exact yy_ hd hr
  ·cases hv
 | .nilfn, d, v, hv, hr => by
  simp only [xI_] at hv; split at hv
  ·rename_i hd; cases hv; exact yy_ hd hr
  ·cases hv
 | .l1 _, d, v, hv, hr => by
  simp only [xI_] at hv; split at hv
  ·rename_i hd; cases hv; exact yy_ hd hr
  ·cases hv
 | .l2 _, d, v, hv, hr => by
  simp only [xI_] at hv; split at hv
  ·rename_i hd; cases hv; exact yy_ hd hr
  ·cases hv
 | .l3 _, d, v, hv, hr => by
  simp only [xI_] at hv; split at hv
  ·rename_i hd; cases hv; exact yy_ hd hr
  ·cases hv
 | .lp _ _, d, v, hv, hr => by
  simp only [xI_] at hv; split at hv
  ·rename_i hd; cases hv; exact yy_ hd hr
  ·cases hv
 | .val _, d, v, hv, hr => by
  simp only [xI_] at hv; split at hv
  ·rename_i hd; cases hv; exact yy_ hd hr
  ·cases hv
 | .lv _, d, v, hv, hr => by
  simp only [xI_] at hv; split at hv
  ·rename_i hd; cases hv; exact yy_ hd hr
  ·cases hv
 | .fn _ _, d, v, hv, hr => by
  simp only [xI_] at hv; split at hv
  ·rename_i hd; cases hv; exact yy_ hd hr
  ·cases hv
 | .eptr _ _, d, v, hv, hr => by
  simp only [xI_] at hv; split at hv
  ·rename_i hd; cases hv; exact yy_ hd hr
  ·cases hv
 | .cptr _ _, d, v, hv, hr => by
  simp only [xI_] at hv; split at hv
  ·rename_i hd; cases hv; exact yy_ hd hr
  ·cases hv
theorem w6_ (ho : Owns cx H w ι F) : ∀ (vs : List AV) (ds : List AV) (us : List Value), zJ_ H vs = some ds → reps (mem cx w H ι F) vs us → reps ⟨w, zK_ cx w, fun _ => undef, fun _ _ => False⟩ ds us
 | [], ds, us, hv, hr => by
  simp only [zJ_, Option.some.injEq] at hv
  subst hv
  simpa only [reps] using hr
 | a :: as, ds, us, hv, hr => by
  simp only [zJ_] at hv
  split at hv
  ·rename_i x xs hx hxs
   cases hv
   simp only [reps] at hr ⊢
   obtain ⟨u, us', h1, h2, h3⟩ := hr
   exact ⟨u, us', h1, wF_ ho a x u hx h2, w6_ ho as xs us' hxs h3⟩
  ·cases hv
end
theorem UF_ (ho : Owns cx H w ι F) {av d : AV} {v : Value} (hv : ze_ H av = some d) (hr : rep (mem cx w H ι F) av v) : Rd w (zK_ cx w) d v := by
 unfold ze_ at hv
 split at hv
 ·rename_i id off
  split at hv
  ·rename_i vs hf
   simp only [Option.map_eq_some_iff] at hv
   obtain ⟨ds, h1, rfl⟩ := hv
   simp only [rep] at hr
   obtain ⟨_, b, h2, rfl⟩ := hr
   have ht := ho.trees _ (xc_ hf)
   simp only [treeRep] at ht
   obtain ⟨b', us, E, h3, h4, h5, h6⟩ := ht
   simp only [mem] at h2 h3 h5
   rw [h2] at h3; cases h3
   simp only [Rd, rep]
   refine ⟨b, us, rfl, ⟨(ho.mine b (xL_ (xc_ hf) (by simp [h4]))).1, .inr (ho.mine b (xL_ (xc_ hf) (by simp [h4]))).2⟩, fun i u hu => ?_, w6_ ho vs ds us h1 h6⟩
   simp [World.cell?, h5, hu]
  ·cases hv
 ·exact wF_ ho _ _ _ hv hr
theorem WP_ (ho : Owns cx H w ι F) : ∀ (vs : List AV) (ds : List AV) (us : List Value), wD_ H vs = some ds → reps (mem cx w H ι F) vs us → reps ⟨w, zK_ cx w, fun _ => undef, fun _ _ => False⟩ ds us
 | [], ds, us, hv, hr => by
  simp only [wD_, Option.some.injEq] at hv
  subst hv
  simpa only [reps] using hr
 | a :: as, ds, us, hv, hr => by
  simp only [wD_] at hv
  split at hv
  ·rename_i x xs hx hxs
   cases hv
   simp only [reps] at hr ⊢
   obtain ⟨u, us', h1, h2, h3⟩ := hr
   exact ⟨u, us', h1, UF_ ho hx h2, WP_ ho as xs us' hxs h3⟩
  ·cases hv
theorem an3 (ho : Owns cx H w ι F) {av d : AV} {v : Value} (hv : view H av = some d) (hr : rep (mem cx w H ι F) av v) : Rd w (zK_ cx w) d v := by
 unfold view at hv
 split at hv
 ·simp only [Option.map_eq_some_iff] at hv
  obtain ⟨ds, h1, rfl⟩ := hv
  simp only [rep] at hr
  obtain ⟨us, rfl, h2⟩ := hr
  simp only [Rd, rep]
  exact ⟨us, rfl, WP_ ho _ ds us h1 h2⟩
 ·exact UF_ ho hv hr
theorem ZM_ (ho : Owns cx H w ι F) : ∀ (vs : List AV) (ds : List AV) (us : List Value), Xc_ H vs = some ds → reps (mem cx w H ι F) vs us → All2 (Rd w (zK_ cx w)) ds us
 | [], ds, us, hv, hr => by
  simp only [Xc_, Option.some.injEq] at hv
  subst hv
  simp only [reps] at hr
  subst hr
  trivial
 | a :: as, ds, us, hv, hr => by
  simp only [Xc_] at hv
  split at hv
  ·rename_i x xs hx hxs
   cases hv
   simp only [reps] at hr
   obtain ⟨u, us', rfl, h2, h3⟩ := hr
   exact ⟨an3 ho hx h2, ZM_ ho as xs us' hxs h3⟩
  ·cases hv
end
mutual
/-- A value all of whose slices are the holder's own, each in blocks of its own. -/
def ownR (w : World) (fp : List Nat) : AV → Value → Prop
 | .l1 xs, v => O1 w fp xs v
 | .l2 xss, v => O2 w fp xss v
 | .l3 xsss, v => O3 w fp xsss v
 | .agg vs, v => ∃ us : List Value, v = .agg us.toArray ∧ ownRs w fp vs us
 | .tup vs, v => ∃ us : List Value, v = .tuple us.toArray ∧ ownRs w fp vs us
 | .int n, v => fp = [] ∧ v = .int .i64 n ∧ InR n
 | .bool b, v => fp = [] ∧ v = .bool b
 | .str s, v => fp = [] ∧ v = .string s ∧ s.size ≤ maxLen
 | .nil, v => fp = [] ∧ v = .slice none 0 0
 | _, _ => False
def ownRs (w : World) (fp : List Nat) : List AV → List Value → Prop
 | [], us => us = [] ∧ fp = []
 | a :: as, us => ∃ u us' f g, us = u :: us' ∧ fp = f ++ g ∧ ownR w f a u ∧ ownRs w g as us'
end
mutual
theorem ownR.rd {w : World} : ∀ (av : AV) (fp : List Nat) (v : Value), ownR w fp av v → ∀ {m : Mem}, m.w = w → (∀ b ∈ fp, m.S b) → rep m av v
 | .l1 _, _, _, h, m, hw, hS => by subst hw; simp only [ownR] at h; simp only [rep]; exact h.l1 hS
 | .l2 _, _, _, h, m, hw, hS => by subst hw; simp only [ownR] at h; simp only [rep]; exact h.l2 hS
 | .l3 _, _, _, h, m, hw, hS => by subst hw; simp only [ownR] at h; simp only [rep]; exact h.l3 hS
 | .agg vs, fp, _, h, m, hw, hS => by
  simp only [ownR] at h; simp only [rep]
  obtain ⟨us, h1, h2⟩ := h
  exact ⟨us, h1, ownRs.rd vs fp us h2 hw hS⟩
 | .tup vs, fp, _, h, m, hw, hS => by
  simp only [ownR] at h; simp only [rep]
  obtain ⟨us, h1, h2⟩ := h
  exact ⟨us, h1, ownRs.rd vs fp us h2 hw hS⟩
 | .int _, _, _, h, m, hw, hS => by simp only [ownR] at h; simp only [rep]; exact h.2
 | .bool _, _, _, h, m, hw, hS => by simp only [ownR] at h; simp only [rep]; exact h.2
 | .str _, _, _, h, m, hw, hS => by simp only [ownR] at h; simp only [rep]; exact h.2
 | .nil, _, _, h, m, hw, hS => by simp only [ownR] at h; simp only [rep]; exact h.2
 | .flt _, _, _, h, _, _, _ | .ik _ _, _, _, h, _, _, _ => by simp [ownR] at h
 | .nilfn, _, _, h, _, _, _ => by simp [ownR] at h
 | .lv _, _, _, h, _, _, _ => by simp [ownR] at h
 | .fn _ _, _, _, h, _, _, _ => by simp [ownR] at h
 | .eptr _ _, _, _, h, _, _, _ => by simp [ownR] at h
 | .cptr _ _, _, _, h, _, _, _ => by simp [ownR] at h
 | .ref _ _, _, _, h, _, _, _ => by simp [ownR] at h
 | .sub _ _ _ _, _, _, h, _, _, _ => by simp [ownR] at h
 | .eref _ _ _, _, _, h, _, _, _ => by simp [ownR] at h
 | .bptr _ _, _, _, h, _, _, _ => by simp [ownR] at h
 | .when _ _, _, _, h, _, _, _ => by simp [ownR] at h
 | .junk, _, _, h, _, _, _ => by simp [ownR] at h
theorem ownRs.rd {w : World} : ∀ (vs : List AV) (fp : List Nat) (us : List Value), ownRs w fp vs us → ∀ {m : Mem}, m.w = w → (∀ b ∈ fp, m.S b) → reps m vs us
 | [], _, _, h, m, hw, hS => by simp only [ownRs] at h; simp only [reps]; exact h.1
 | a :: as, _, _, h, m, hw, hS => by
  simp only [ownRs] at h; simp only [reps]
  obtain ⟨u, us', f, g, h1, rfl, h3, h4⟩ := h
  exact ⟨u, us', h1, ownR.rd a f u h3 hw (fun b hb => hS b (by simp [hb])), ownRs.rd as g us' h4 hw (fun b hb => hS b (by simp [hb]))⟩
end
structure PureCall (P : Program) (f : FuncId) (ds : List AV) (r : AV) : Prop where
 enter : ∀ args w, (callFunc f args).run P w = .ok (.enter f args) w
 runs : ∀ (vs : List Value) (w : World) (S : Nat → Prop), (∀ b, S b → b < w.heap.size) ∧ GlobOk w → All2 (Rd w S) ds vs →
  Calls P f vs.toArray w fun e w' => ∃ v, e = .returned v ∧ Ext w w' ∧ Rd w' (fun b => S b ∨ (w.heap.size ≤ b ∧ b < w'.heap.size)) r v
structure FreshCall (P : Program) (f : FuncId) (ds : List AV) (r : AV) : Prop where
 enter : ∀ args w, (callFunc f args).run P w = .ok (.enter f args) w
 runs : ∀ (vs : List Value) (w : World) (S : Nat → Prop), (∀ b, S b → b < w.heap.size) ∧ GlobOk w → All2 (Rd w S) ds vs →
  Calls P f vs.toArray w fun e w' => ∃ v fp, e = .returned v ∧ Ext w w' ∧ ownR w' fp r v ∧ fp.Nodup ∧ ∀ b ∈ fp, w.heap.size ≤ b ∧ b < w'.heap.size
theorem FreshCall.pure {P : Program} {f : FuncId} {ds : List AV} {r : AV} (h : FreshCall P f ds r) : PureCall P f ds r :=
 ⟨h.enter, fun vs w S hS hd => (h.runs vs w S hS hd).mono fun _ _ ⟨v, fp, h1, h2, h3, _, h5⟩ => ⟨v, h1, h2, ownR.rd r fp v h3 rfl (fun b hb => .inr (h5 b hb))⟩⟩
def UG_ (P : Program) (H : List (Nat × Tree)) (f : FuncId) (args : List AV) (v : AV) : Prop :=
 (yd_ args = true ∧ PureCall P f args v) ∨ (∃ ds, Xc_ H args = some ds ∧ ((zw_ v = true ∧ PureCall P f ds v) ∨ FreshCall P f ds v))
theorem Xm_ {P : Program} {cx : Cx} {H : List (Nat × Tree)} {w : World} {ι : Nat → Value} {F : Nat → List Nat} (ho : Owns cx H w ι F) {f : FuncId} {args : List AV} {v : AV} (h : UG_ P H f args v)
  {us : List Value} (hr : reps (mem cx w H ι F) args us) :
  (∀ args w, (callFunc f args).run P w = .ok (.enter f args) w) ∧ Calls P f us.toArray w fun e w' => ∃ u, e = .returned u ∧ Ext w w' ∧ rep (mem cx w' H ι F) v u := by
 have himm : ∀ (w' : World), Ext w w' → ∀ b, (imm cx w H F b ∨ (w.heap.size ≤ b ∧ b < w'.heap.size)) → imm cx w' H F b := by
  intro w' e b hb
  rcases hb with hb | hb
  ·exact ⟨hb.1, Nat.lt_of_lt_of_le hb.2.1 e.size, hb.2.2⟩
  ·exact ⟨.inr (.inl (Nat.le_trans ho.old hb.1)), hb.2, fun hf => by have := (ho.mine b hf).1; omega⟩
 rcases h with ⟨hd, hc⟩ | ⟨ds, hv, hc⟩
 ·have h1 : All2 (Rd w (imm cx w H F)) args us := by
   have := y4_ (m := mem cx w H ι F) (m' := ⟨w, imm cx w H F, fun _ => undef, fun _ _ => False⟩) rfl (fun b hb => hb) _ _ hd hr
   rw [xw_] at this
   exact this
  refine ⟨hc.enter, (hc.runs us w (imm cx w H F) ⟨fun b hb => hb.2.1, ho.globOk⟩ h1).mono fun e w' ⟨u, k1, k2, k3⟩ => ⟨u, k1, k2, ?_⟩⟩
  exact rep.le (m := ⟨w', fun b => imm cx w H F b ∨ (w.heap.size ≤ b ∧ b < w'.heap.size), fun _ => undef, fun _ _ => False⟩) (m' := mem cx w' H ι F) ⟨fun b hb => ⟨himm w' k2 b hb, rfl⟩, fun _ _ hid => hid.elim⟩ _ _ k3
 ·have h1 := ZM_ ho args ds us hv hr
  rcases hc with ⟨hm, hc⟩ | hc
  ·exact ⟨hc.enter, (hc.runs us w (zK_ cx w) ⟨fun b hb => hb.1, ho.globOk⟩ h1).mono fun e w' ⟨u, k1, k2, k3⟩ => ⟨u, k1, k2, yU_ hm k3⟩⟩
  ·exact ⟨hc.enter, (hc.runs us w (zK_ cx w) ⟨fun b hb => hb.1, ho.globOk⟩ h1).mono fun e w' ⟨u, fp, k1, k2, k3, _, k5⟩ =>
    ⟨u, k1, k2, ownR.rd v fp u k3 rfl (fun b hb => himm w' k2 b (.inr (k5 b hb)))⟩⟩
end Go.Aw
namespace Go.Aw
open Go.RowKit
def ofV : Value → AV
 | .int .i64 n => if -9223372036854775808 ≤ n ∧ n ≤ 9223372036854775807 then .int n else .junk
 | .int k n => .ik k n
 | .float .f64 b => .flt b
 | .bool b => .bool b
 | .string s => if s.size ≤ 1073741824 then .str s else .junk
 | .slice none 0 0 => .nil
 | .nilFunc => .nilfn
 | _ => .junk
def aT2 : Value → AV
 | .agg cs => .agg (cs.toList.map ofV)
 | v => ofV v
def AState.ev (st : AState) : Operand → AV
 | .tmp t => st.get t
 | .const v => aT2 v
 | .func f => .fn f []
 | .global _ => .junk
theorem wk_ (m : Mem) (v : Value) : rep m (ofV v) v := by
 unfold ofV
 split
 ·split
  ·rename_i h; exact x1_ h
  ·simp only [rep]
 ·simp only [rep]
 ·simp only [rep]
 ·simp only [rep]
 ·split
  ·rename_i h; simp only [rep]; exact ⟨trivial, Nat.le_trans h (by simp [maxLen])⟩
  ·simp only [rep]
 ·simp only [rep]
 ·simp only [rep]
 ·simp only [rep]
theorem an4 (m : Mem) (v : Value) : rep m (aT2 v) v := by
 unfold aT2
 split
 ·rename_i cs
  simp only [rep]
  refine ⟨cs.toList, by simp, ?_⟩
  rw [xw_]
  generalize cs.toList = l
  induction l with
  | nil => trivial
  | cons a l ih => exact ⟨wk_ m a, ih⟩
 ·exact wk_ m _
def wy_ (P : Program) (H : List (Nat × Tree)) (t : TypeId) (p : AV) (v : AV) : Prop :=
 match xz_ P t, p with
 | .st _ sz, .bptr id off => match find H id with
  | some (.bx vs) => off + sz ≤ vs.length ∧ v = .agg ((vs.drop off).take sz)
  | _ => False
 | .st _ sz, .cptr vs off => off + sz ≤ vs.length ∧ v = .agg ((vs.drop off).take sz)
 | .st .., _ => False
 | .ar n, .lp ps (some i) => n = 2 ∧ v = .agg [.int (ps.getD i (0, 0)).1, .int (ps.getD i (0, 0)).2]
 | .ar _, _ => False
 | .other, _ => False
 | _, .eptr av i => match elemsOf av with
  | some (_, f) => v = f i
  | none => False
 | _, .eref id path i => match x0_ H id path with
  | some (_, f) => v = f i
  | none => False
 | _, .bptr id off => match find H id with
  | some (.bx vs) => off < vs.length ∧ v = vs.getD off .junk
  | _ => False
 | _, .cptr vs off => off < vs.length ∧ v = vs.getD off .junk
 | _, _ => False
def xT_ (P : Program) (H : List (Nat × Tree)) (γ : Bool) (t : TypeId) (x i v : AV) : Prop :=
 match xz_ P t, i with
 | .sl _, .int k => match x with
  | .ref id path => match x0_ H id path with
   | some (n, _) => (γ = true → 0 ≤ k ∧ k < n) ∧ v = .eref id path k.toNat
   | none => False
  | .sub id path lo hi => match x0_ H id path with
   | some _ => (γ = true → 0 ≤ k ∧ k < (hi : Int) - lo) ∧ v = .eref id path (lo + k.toNat)
   | none => False
  | av => match elemsOf av with
   | some (n, _) => (γ = true → 0 ≤ k ∧ k < n) ∧ v = .eptr av k.toNat
   | none => False
 | .sp _, .int k => match x with
  | .lp ps none => (γ = true → 0 ≤ k ∧ k < ps.length) ∧ v = .lp ps (some k.toNat)
  | _ => False
 | .ar n, .int k => match x with
  | .bptr id off => (γ = true → 0 ≤ k ∧ k < n) ∧ v = .bptr id (off + k.toNat)
  | _ => False
 | _, _ => False
def Y9_ (P : Program) (H : List (Nat × Tree)) (t : TypeId) (x v : AV) : Prop :=
 match xz_ P t, x with
 | .str, .str s => v = .int s.size
 | .sl _, .nil => v = .int 0
 | .sp _, .lp ps none => v = .int ps.length
 | .sl _, .ref id path => match x0_ H id path with
  | some (n, _) => v = .int n
  | none => False
 | .sl _, .sub _ _ lo hi => v = .int ((hi - lo : Nat))
 | .sl _, av => match elemsOf av with
  | some (n, _) => v = .int n
  | none => False
 | _, _ => False
def zf_ (P : Program) (t : TypeId) (p : AV) (f : Nat) (v : AV) : Prop :=
 match xz_ P t, p with
 | .st fs _, .bptr id off => match fs[f]? with
  | some (o, sz) => sz ≠ 0 ∧ v = .bptr id (off + o)
  | none => False
 | .st fs _, .cptr vs off => match fs[f]? with
  | some (o, sz) => sz ≠ 0 ∧ v = .cptr vs (off + o)
  | none => False
 | _, _ => False
def SF_ (P : Program) (t : TypeId) (x : AV) (f : Nat) (v : AV) : Prop :=
 match x with
 | .agg vs => match P.underlying t with
  | some (.struct fs) => match fs[f]? with
   | some g => match xz_ P g.type with
    | .st _ sz => g.offset + sz ≤ vs.length ∧ v = .agg ((vs.drop g.offset).take sz)
    | k => k.one = true ∧ g.offset < vs.length ∧ v = vs.getD g.offset .junk
   | none => False
  | _ => False
 | _ => False
def bg5 (p q : Int) : Int := IntKind.i64.wrap (BitVec.ofInt 64 p &&& BitVec.ofInt 64 q).toNat
def orI (p q : Int) : Int := IntKind.i64.wrap (BitVec.ofInt 64 p ||| BitVec.ofInt 64 q).toNat
def bg6 (p q : Int) : Int := IntKind.i64.wrap (BitVec.ofInt 64 p ^^^ BitVec.ofInt 64 q).toNat
def anI (p q : Int) : Int := IntKind.i64.wrap (BitVec.ofInt 64 p &&& ~~~ BitVec.ofInt 64 q).toNat
def aT3 (p q : Int) : Int := IntKind.i64.wrap (p * 2 ^ min q.toNat 64)
def aF2 (p q : Int) : Int := p.fdiv (2 ^ min q.toNat 64)
def an5 (b : BinOp) (p q : Nat) : Nat := (floatBits b .f64 p q).getD 0
def YN_ (b : BinOp) (p q : Nat) : Prop := (floatBits b .f64 p q).isSome = true
def aT4 (p q : Nat) : Nat := match FloatKind.f64.format.order p q with
 | some .lt => q
 | some .eq => if (FloatKind.f64.decode p).neg then q else p
 | _ => p
def aT5 (p q : Nat) : Prop := (FloatKind.f64.format.order p q).isSome = true
def bi8 (b : Nat) : Int := (floatToIntVal .f64 b .i64).getD 0
def aT6 (b : Nat) : Prop := (floatToIntVal .f64 b .i64).isSome = true
def aF3 (P : Program) (n : Nat) : Nat → List Field → Bool
 | i, [] => i == n
 | i, f :: fs => (f.name != "_") && (f.offset == i) && (match xz_ P f.type with
  | .int => true
  | _ => false) && aF3 P n (i + 1) fs
def stI (P : Program) (t : TypeId) (n : Nat) : Bool := (match P.underlying t with
 | some (.struct _) => true
 | _ => false) && !P.stoodInHeld t && !P.eqGuardType P.depth t && aF3 P n 0 (P.fieldsOf t).toList
def Y0_ : List AV → Option (List Int)
 | [] => some []
 | .int n :: as => (Y0_ as).map (n :: ·)
 | _ :: _ => none
def Jb_ (P : Program) (b : BinOp) (t : TypeId) (xs ys : Option (List Int)) (v : AV) : Prop :=
 match xs, ys with
 | some a, some c => a.length = c.length ∧ stI P t a.length = true ∧ (match b with
  | .eql => v = .bool (decide (a = c))
  | .neq => v = .bool (!decide (a = c))
  | _ => False)
 | _, _ => False
def Xy_ (P : Program) (H : List (Nat × Tree)) (γ : Bool) (b : BinOp) (t : TypeId) (x y v : AV) : Prop :=
 match x, y with
 | .int p, .int q => match b with
  | .and => v = .int (bg5 p q)
  | .or => v = .int (orI p q)
  | .xor => v = .int (bg6 p q)
  | .andNot => v = .int (anI p q)
  | .shl => (γ = true → 0 ≤ q) ∧ v = .int (aT3 p q)
  | .shr => (γ = true → 0 ≤ q) ∧ v = .int (aF2 p q)
  | .add => (γ = true → InR (p + q)) ∧ v = .int (p + q)
  | .sub => (γ = true → InR (p - q)) ∧ v = .int (p - q)
  | .mul => (γ = true → InR (p * q)) ∧ v = .int (p * q)
  | .quo => (γ = true → q ≠ 0 ∧ InR (p.tdiv q)) ∧ v = .int (p.tdiv q)
  | .rem => (γ = true → q ≠ 0 ∧ InR (p.tmod q)) ∧ v = .int (p.tmod q)
  | .eql => v = .bool (decide (p = q))
  | .neq => v = .bool (!decide (p = q))
  | .lss => v = .bool (decide (p < q))
  | .leq => v = .bool (decide (p ≤ q))
  | .gtr => v = .bool (decide (q < p))
  | .geq => v = .bool (decide (q ≤ p))
 | .ik k p, .ik k' q => k = k' ∧ match b with
  | .add => v = .ik k (k.wrap (p + q))
  | .sub => v = .ik k (k.wrap (p - q))
  | .mul => v = .ik k (k.wrap (p * q))
  | .and => v = .ik k (k.wrap (BitVec.ofInt k.bits p &&& BitVec.ofInt k.bits q).toNat)
  | .or => v = .ik k (k.wrap (BitVec.ofInt k.bits p ||| BitVec.ofInt k.bits q).toNat)
  | .andNot => v = .ik k (k.wrap (BitVec.ofInt k.bits p &&& ~~~ BitVec.ofInt k.bits q).toNat)
  | .eql => v = .bool (decide (p = q))
  | .neq => v = .bool (!decide (p = q))
  | .shr => (γ = true → 0 ≤ q) ∧ v = .ik k (p.fdiv (2 ^ min q.toNat k.bits))
  | .lss => v = .bool (decide (p < q))
  | .leq => v = .bool (decide (p ≤ q))
  | .gtr => v = .bool (decide (q < p))
  | .geq => v = .bool (decide (q ≤ p))
  | _ => False
 | .flt p, .flt q => match b with
  | .add => (γ = true → YN_ .add p q) ∧ v = .flt (an5 .add p q)
  | .sub => (γ = true → YN_ .sub p q) ∧ v = .flt (an5 .sub p q)
  | .mul => (γ = true → YN_ .mul p q) ∧ v = .flt (an5 .mul p q)
  | .quo => (γ = true → YN_ .quo p q) ∧ v = .flt (an5 .quo p q)
  | _ => False
 | .int p, .ik _ q => match b with
  | .shl => (γ = true → 0 ≤ q) ∧ v = .int (aT3 p q)
  | .shr => (γ = true → 0 ≤ q) ∧ v = .int (aF2 p q)
  | _ => False
 | .bool p, .bool q => match xz_ P t, b with
  | .bool, .eql => v = .bool (p == q)
  | .bool, .neq => v = .bool (!(p == q))
  | _, _ => False
 | .str p, .str q => match b with
  | .add => (γ = true → p.size + q.size ≤ 1099511627776) ∧ v = .str (p ++ q)
  | .eql => v = .bool (p.toList == q.toList)
  | .neq => v = .bool (!(p.toList == q.toList))
  | _ => False
 | .agg xs, .agg ys => Jb_ P b t (Y0_ xs) (Y0_ ys) v
 | .nil, .nil => match xz_ P t, b with
  | .sl _, .eql => v = .bool true
  | .sl _, .neq => v = .bool false
  | _, _ => False
 | .ref id path, .nil => match xz_ P t, x0_ H id path, b with
  | .sl _, some (n, _), .eql => (γ = true → 0 < n) ∧ v = .bool false
  | .sl _, some (n, _), .neq => (γ = true → 0 < n) ∧ v = .bool true
  | _, _, _ => False
 | av, .nil => match xz_ P t, elemsOf av, b with
  | .sl _, some (n, _), .eql => (γ = true → 0 < n) ∧ v = .bool false
  | .sl _, some (n, _), .neq => (γ = true → 0 < n) ∧ v = .bool true
  | _, _, _ => False
 | _, _ => False
def AUn (γ : Bool) (u : UnOp) (x v : AV) : Prop :=
 match u, x with
 | .not, .bool b => v = .bool (!b)
 | .neg, .int n => (γ = true → InR (0 - n)) ∧ v = .int (0 - n)
 | _, _ => False
def an6 (γ : Bool) (c a b v : AV) : Prop :=
 match wc_ c, wc_ a, wc_ b with
 | some (gc, xc), some (ga, xa), some (gb, xb) => (γ = true → gc = true ∧ (xc = true → ga = true) ∧ (xc = false → gb = true)) ∧ v = .bool (bif xc then xa else xb)
 | _, _, _ => False
def TK.num : TK → Bool
 | .int | .ik _ => true
 | _ => false
def byteOf : AV → Option Int
 | .ik .u8 n => some n
 | _ => none
def bytesOf : List AV → Option (List Int)
 | [] => some []
 | a :: as => match byteOf a, bytesOf as with
  | some n, some ns => some (n :: ns)
  | _, _ => none
def TV_ (P : Program) (H : List (Nat × Tree)) (γ : Bool) (s d : TypeId) (x v : AV) : Prop :=
 match xz_ P d, x with
 | .str, .ref id [] => (match xz_ P s with
   | .sl e => xz_ P e = .ik .u8
   | _ => False) ∧ (match find H id with
   | some (.lv vs) => (match bytesOf vs with
    | some (n :: ns) => (n :: ns).length ≤ 1099511627776 ∧ v = .str (strOfNums (n :: ns))
    | _ => False)
   | _ => False)
 | .int, .int n => (xz_ P s).num = true ∧ v = .int n
 | .int, .ik _ n => (xz_ P s).num = true ∧ (γ = true → InR n) ∧ v = .int n
 | .ik k, .int n => (xz_ P s).num = true ∧ v = .ik k (k.wrap n)
 | .ik k, .ik _ n => (xz_ P s).num = true ∧ v = .ik k (k.wrap n)
 | .flt, .int n => (xz_ P s).num = true ∧ v = .flt (floatOfInt .f64 n)
 | .int, .flt b => (P.underlying s).isSome = true ∧ (γ = true → aT6 b) ∧ v = .int (bi8 b)
 | _, _ => False
def XT_ (P : Program) (H : List (Nat × Tree)) (γ : Bool) (t : TypeId) (x lo hi v : AV) (hasHi : Bool) : Prop :=
 match lo with
 | .int l =>
  match xz_ P t, x with
  | .sl _, .ref id path => match x0_ H id path with
   | some (n, _) =>
    if hasHi then (match hi with
     | .int h => (γ = true → 0 ≤ l ∧ l ≤ h ∧ h ≤ n) ∧ v = .sub id path l.toNat h.toNat
     | _ => False)
    else (γ = true → 0 ≤ l ∧ l ≤ n) ∧ v = .sub id path l.toNat n
   | none => False
  | .sl _, .nil => if hasHi then (match hi with
     | .int h => (γ = true → l = 0 ∧ h = 0) ∧ v = .nil
     | _ => False)
    else (γ = true → l = 0) ∧ v = .nil
  | .sl _, .sub id path a b => match x0_ H id path with
   | some _ =>
    if hasHi then (match hi with
     | .int h => (γ = true → 0 ≤ l ∧ l ≤ h ∧ h ≤ (b - a : Nat)) ∧ v = .sub id path (a + l.toNat) (a + h.toNat)
     | _ => False)
    else (γ = true → 0 ≤ l ∧ l ≤ (b - a : Nat)) ∧ v = .sub id path (a + l.toNat) b
   | none => False
  | .sl _, av => match elemsOf av with
   | some (n, _) =>
    if hasHi then (match hi with
     | .int h => (γ = true → 0 ≤ l ∧ l ≤ h ∧ h ≤ n) ∧ yR_ l.toNat h.toNat av = some v
     | _ => False)
    else (γ = true → 0 ≤ l ∧ l ≤ n) ∧ yR_ l.toNat n av = some v
   | none => False
  | _, _ => False
 | _ => False
def XU_ (P : Program) (H : List (Nat × Tree)) (γ : Bool) (ρ : Operand → AV) (b : Builtin) (args : List Operand) (ts : List TypeId) (v : AV) : Prop :=
 match b, args, ts with
 | .len, [x], [t] => okG γ (ρ x) ∧ Y9_ P H t (strip (ρ x)) v
 | .max, [x, y], [_, _] => match strip (ρ x), strip (ρ y) with
  | .int p, .int q => okG γ (ρ x) ∧ okG γ (ρ y) ∧ v = .int (if q > p then q else p)
  | .flt p, .flt q => okG γ (ρ x) ∧ okG γ (ρ y) ∧ (γ = true → aT5 p q) ∧ v = .flt (aT4 p q)
  | _, _ => False
 | .min, [x, y], [_, _] => match strip (ρ x), strip (ρ y) with
  | .int p, .int q => okG γ (ρ x) ∧ okG γ (ρ y) ∧ v = .int (if q < p then q else p)
  | _, _ => False
 | .cap, [x], [t] => match xz_ P t, strip (ρ x) with
  | .sl _, .nil => okG γ (ρ x) ∧ v = .int 0
  | _, _ => False
 | _, _, _ => False
def Qf_ (γ : Bool) : List AV → Prop
 | [] => True
 | a :: as => okG γ a ∧ Qf_ γ as
def xk_ (P : Program) (t : TypeId) : Option (List AV) :=
 match (P.info? t).bind (·.zero) with
 | some z => some (z.cells.toList.map ofV)
 | none => none
def ZN_ (H : List (Nat × Tree)) (id : Nat) (p : List Nat) : Bool :=
 match find H id, p with
 | some (.tp _), [] => true
 | _, _ => (x0_ H id p).isSome
def cellsA (H : List (Nat × Tree)) : AV → Option (List AV)
 | .agg vs => some vs
 | .junk | .when .. | .tup _ | .val _ => none
 | .ref id p => if ZN_ H id p then some [.ref id p] else none
 | .sub id p lo hi => some [.sub id p lo hi]
 | v => some [v]
def wh_ (H : List (Nat × Tree)) (v : AV) : Bool := (cellsA H v).isSome && (match v with | .agg _ => false | _ => true)
def Jc_ (P : Program) (t : TypeId) : Option (List (Nat × Nat)) :=
 match P.underlying t with
 | some (.struct fs) => fs.toList.mapM (fun f => (P.info? f.type).map fun i => (f.offset, i.size))
 | some (.array n e) => if P.cellsOf e = 1 then some ((List.range n).map fun i => (i, 1)) else none
 | _ => none
def zn_ (pl : List (Nat × Nat)) : List (Nat × AV) → List AV → Option (List AV)
 | [], zs => some zs
 | (i, a) :: r, zs => match pl[i]? with
  | some (off, sz) => match a with
   | .agg ws => if ws.length = sz ∧ off + sz ≤ zs.length then zn_ pl r (zs.take off ++ ws ++ zs.drop (off + sz)) else none
   | a => if sz = 1 ∧ off < zs.length then zn_ pl r (zs.set off a) else none
  | none => none
def YO_ (H : List (Nat × Tree)) : AV → Bool
 | .agg ws => ws.all (wh_ H)
 | a => wh_ H a
def Xn_ (P : Program) (H : List (Nat × Tree)) (γ : Bool) (t : TypeId) (ps : List (Nat × AV)) (v : AV) : Prop :=
 match Jc_ P t, xk_ P t with
 | some pl, some zs => Qf_ γ (ps.map (·.2)) ∧ (γ = true → (ps.map fun p => strip p.2).all (YO_ H) = true) ∧ (match zn_ pl (ps.map fun p => (p.1, strip p.2)) zs with
  | some vs => v = .agg vs
  | none => False)
 | _, _ => False
def Jd_ : AV → Bool
 | .bptr _ _ | .cptr _ _ | .eptr _ _ | .eref _ _ _ => true
 | _ => false
theorem Qg_ (i o : Nat) : Jd_ (.bptr i o) = true := rfl
theorem Qh_ (vs : List AV) (o : Nat) : Jd_ (.cptr vs o) = true := rfl
theorem aF4 {m : Mem} {a : AV} {u : Value} (h : Jd_ a = true) (hr : rep m a u) : ∃ b, u = .pointer (some b) := by
 cases a <;> simp only [Jd_, Bool.false_eq_true] at h
 ·simp only [rep] at hr
  obtain ⟨b, off, n, cap, _, _, rfl⟩ := hr
  exact ⟨_, rfl⟩
 ·simp only [rep] at hr
  obtain ⟨b, us, rfl, _⟩ := hr
  exact ⟨_, rfl⟩
 ·simp only [rep] at hr
  obtain ⟨_, b, off, n, cap, _, _, rfl⟩ := hr
  exact ⟨_, rfl⟩
 ·simp only [rep] at hr
  obtain ⟨_, b, _, rfl⟩ := hr
  exact ⟨_, rfl⟩
def V9_ (P : Program) (H : List (Nat × Tree)) (γ : Bool) (ρ : Operand → AV) (op : Op) (v : AV) : Prop :=
 match op with
 | .move x | .assign x => okG γ (ρ x) ∧ v = strip (ρ x)
 | .pick c a b => an6 γ (ρ c) (ρ a) (ρ b) v
 | .load t p => okG γ (ρ p) ∧ wy_ P H t (strip (ρ p)) v
 | .indexAddr t x i => okG γ (ρ x) ∧ okG γ (ρ i) ∧ xT_ P H γ t (strip (ρ x)) (strip (ρ i)) v
 | .fieldAddr t p f => okG γ (ρ p) ∧ zf_ P t (strip (ρ p)) f v
 | .field t x f => okG γ (ρ x) ∧ SF_ P t (strip (ρ x)) f v
 | .binOp b t x y _ => okG γ (ρ x) ∧ okG γ (ρ y) ∧ Xy_ P H γ b t (strip (ρ x)) (strip (ρ y)) v
 | .unOp u _ x => okG γ (ρ x) ∧ AUn γ u (strip (ρ x)) v
 | .nilCheck x => okG γ (ρ x) ∧ (γ = true → Jd_ (strip (ρ x)) = true) ∧ v = strip (ρ x)
 | .convert s d x => okG γ (ρ x) ∧ TV_ P H γ s d (strip (ρ x)) v
 | .extract x i => okG γ (ρ x) ∧ (match strip (ρ x) with
  | .tup vs => i < vs.length ∧ v = vs.getD i .junk
  | _ => False)
 | .slice t x (some lo) none none => okG γ (ρ x) ∧ okG γ (ρ lo) ∧ XT_ P H γ t (strip (ρ x)) (strip (ρ lo)) .junk v false
 | .slice t x (some lo) (some hi) none => okG γ (ρ x) ∧ okG γ (ρ lo) ∧ okG γ (ρ hi) ∧ XT_ P H γ t (strip (ρ x)) (strip (ρ lo)) (strip (ρ hi)) v true
 | .slice t x none (some hi) none => okG γ (ρ x) ∧ okG γ (ρ hi) ∧ XT_ P H γ t (strip (ρ x)) (.int 0) (strip (ρ hi)) v true
 | .makeFunc (.func f) first caps => first.toList = [] ∧ v = .fn f (caps.toList.map ρ)
 | .call { callee := .builtin b, args, argTypes } => XU_ P H γ ρ b args.toList argTypes.toList v
 | .call { callee := .value g, args, .. } => match strip (ρ g) with
  | .fn f caps => okG γ (ρ g) ∧ Qf_ γ (args.toList.map ρ) ∧ (γ = true → UG_ P H f ((args.toList.map ρ).map strip ++ caps) v)
  | _ => False
 | .build t parts => Xn_ P H γ t (parts.toList.map fun p => (p.1, ρ p.2)) v
 | _ => False
def Yields (P : Program) (cx : Cx) (H : List (Nat × Tree)) (ι : Nat → Value) (F : Nat → List Nat) (o : Oper) (a : Act) (w : World) (v : AV) : Prop :=
 (∃ u, (execOp a.eval o).run P w = .ok (.value u) w ∧ rep (mem cx w H ι F) v u) ∨
 (∃ f args, (execOp a.eval o).run P w = .ok (.enter f args) w ∧ Calls P f args w fun e w' => ∃ u, e = .returned u ∧ Ext w w' ∧ rep (mem cx w' H ι F) v u)
theorem xH_ {m : Mem} {γ : Bool} (hγ : γ = true) {av : AV} {u : Value} (ho : okG γ av) (h : rep m av u) : rep m (strip av) u := by
 cases av <;> simp only [strip] <;> first | exact h | skip
 simp only [okG] at ho
 simp only [rep] at h
 exact h.1 (ho hγ)
section
variable {P : Program} {cx : Cx} {H : List (Nat × Tree)} {w : World} {ι : Nat → Value} {F : Nat → List Nat}
theorem wl_ {t : TypeId} (h : (xz_ P t).one = true) {p : Value} {b o : Nat} {u : Value} (hp : p = .pointer (some ⟨b, o, none⟩)) (hc : w.cell? ⟨b, o, none⟩ = some u) :
  (Instr.loadAt t p).run P w = .ok u w := by
 subst hp
 simp [Instr.loadAt, Instr.sureAddr, loadVar, SE_ h, hc]
theorem Qi_ {t : TypeId} {fs : List (Nat × Nat)} {sz : Nat} (h : xz_ P t = .st fs sz) {us : List Value} (hl : us.length = sz) (hz : 0 < sz) {b off : Nat} (hc : ∀ i u, us[i]? = some u → w.cell? ⟨b, off + i, none⟩ = some u) :
  (Instr.loadAt t (.pointer (some ⟨b, off, none⟩))).run P w = .ok (.agg us.toArray) w := by
 obtain ⟨gs, h1, h2, h3⟩ := an1 h
 obtain ⟨n, hn⟩ : ∃ n, sz = n + 1 := ⟨sz - 1, by omega⟩
 have hs := yC_ (P := P) (e := t) (n := n) (by omega) w
 have hl' := run_loadCells_list (P := P) (w := w) ⟨b, off, none⟩ us (fun j v hv => by
  have : (⟨b, off, none⟩ : Addr).add j = ⟨b, off + j, none⟩ := by unfold Addr.add; split <;> simp_all
  rw [this]; exact hc j v hv)
 rw [hl, hn] at hl'
 simp [Instr.loadAt, Instr.sureAddr, loadVar, isAgg, run_underlying h1, hs, hl']
theorem zB_ : ∀ (ps : List (Int × Int)), (yF_ ps).length = 2 * ps.length
 | [] => rfl
 | p :: ps => by
  have := zB_ ps
  unfold yF_ at this ⊢
  rw [List.flatMap_cons, List.length_append, this]
  simp only [List.length_cons, List.length_nil]
  omega
theorem XV_ (ps qs : List (Int × Int)) : yF_ (ps ++ qs) = yF_ ps ++ yF_ qs := by unfold yF_; rw [List.flatMap_append]
theorem WQ_ : ∀ {ps : List (Int × Int)} {i : Nat}, i < ps.length → (yF_ ps)[2 * i]? = some (.int .i64 (ps.getD i (0, 0)).1) ∧ (yF_ ps)[2 * i + 1]? = some (.int .i64 (ps.getD i (0, 0)).2)
 | p :: ps, 0, _ => ⟨rfl, rfl⟩
 | p :: ps, i + 1, h => by
  have := WQ_ (ps := ps) (i := i) (by simpa using h)
  have e : yF_ (p :: ps) = .int .i64 p.1 :: .int .i64 p.2 :: yF_ ps := rfl
  rw [e, show 2 * (i + 1) = 2 * i + 1 + 1 by omega, show 2 * i + 1 + 1 + 1 = (2 * i + 1) + 1 + 1 by omega]
  simpa only [List.getElem?_cons_succ, List.getD_cons_succ] using this
theorem Qj_ {t n : Nat} (h : xz_ P t = .ar n) {us : List Value} (hl : us.length = n) (hz : 0 < n) {b off : Nat} (hc : ∀ i u, us[i]? = some u → w.cell? ⟨b, off + i, none⟩ = some u) :
  (Instr.loadAt t (.pointer (some ⟨b, off, none⟩))).run P w = .ok (.agg us.toArray) w := by
 obtain ⟨e, h1, h2, h3⟩ := aT0 h
 obtain ⟨k, hn⟩ : ∃ k, n = k + 1 := ⟨n - 1, by omega⟩
 have hs := yC_ (P := P) (e := t) (n := k) (by omega) w
 have hl' := run_loadCells_list (P := P) (w := w) ⟨b, off, none⟩ us (fun j v hv => by
  have : (⟨b, off, none⟩ : Addr).add j = ⟨b, off + j, none⟩ := by unfold Addr.add; split <;> simp_all
  rw [this]; exact hc j v hv)
 rw [hl, hn] at hl'
 simp [Instr.loadAt, Instr.sureAddr, loadVar, isAgg, run_underlying h1, hs, hl']
theorem XW_ {m : Mem} {vs : List AV} {us : List Value} (h : reps m vs us) {i : Nat} (hi : i < vs.length) : ∃ u, us[i]? = some u ∧ rep m (vs.getD i .junk) u := by
 rw [xw_] at h
 exact h.get i _ (getD_some hi)
theorem SG_ {m : Mem} {vs : List AV} {us : List Value} (h : reps m vs us) (off sz : Nat) : reps m ((vs.drop off).take sz) ((us.drop off).take sz) := by
 rw [xw_] at h ⊢
 exact (h.drop off).take sz
theorem SH_ {m : Mem} {t : TypeId} {fs : List (Nat × Nat)} {sz off b : Nat} (hk : xz_ P t = .st fs sz) {vs : List AV} {us : List Value} (h5 : reps m vs us) (h2 : off + sz ≤ vs.length)
  (h4 : ∀ i x, us[i]? = some x → w.cell? ⟨b, i, none⟩ = some x) :
  ∃ x, (Instr.loadAt t (.pointer (some ⟨b, off, none⟩))).run P w = .ok x w ∧ rep m (.agg ((vs.drop off).take sz)) x := by
 have hr := SG_ h5 off sz
 have hl : ((us.drop off).take sz).length = sz := by
  have h6 := h5
  rw [xw_] at h6
  have := h6.length
  simp only [List.length_take, List.length_drop]
  omega
 by_cases hz : 0 < sz
 ·refine ⟨_, Qi_ hk hl hz (off := off) (fun i u hu => h4 _ _ ?_), by simp only [rep]; exact ⟨_, rfl, hr⟩⟩
  rw [List.getElem?_take] at hu
  split at hu
  ·rwa [List.getElem?_drop] at hu
  ·cases hu
 ·have : sz = 0 := by omega
  subst this
  obtain ⟨gs, k1, _, k3⟩ := an1 hk
  by_cases hi : ∃ i, P.info? t = some i
  ·obtain ⟨i, hi⟩ := hi
   have : i.size = 0 := by simp [Program.cellsOf, hi] at k3; omega
   refine ⟨.agg #[], ?_, by simp only [rep]; exact ⟨[], rfl, by simpa using hr⟩⟩
   simp [Instr.loadAt, Instr.sureAddr, loadVar, isAgg, run_underlying k1, sizeOf, typeInfo, hi, this, loadCells, loadCellsFrom]
  ·have hn : P.info? t = none := by cases hx : P.info? t with | none => rfl | some i => exact absurd ⟨i, hx⟩ hi
   simp [Program.underlying, hn] at k1
theorem ZO_ (ho : Owns cx H w ι F) {t : TypeId} {p v : AV} {u : Value} (h : wy_ P H t p v) (hr : rep (mem cx w H ι F) p u) :
  ∃ x, (Instr.loadAt t u).run P w = .ok x w ∧ rep (mem cx w H ι F) v x := by
 unfold wy_ at h
 generalize hk : xz_ P t = k at h
 have bx : ∀ {id off : Nat} {vs : List AV}, rep (mem cx w H ι F) (.bptr id off) u → find H id = some (.bx vs) →
   ∃ b us, u = .pointer (some ⟨b, off, none⟩) ∧ (∀ i x, us[i]? = some x → w.cell? ⟨b, i, none⟩ = some x) ∧ reps (mem cx w H ι F) vs us := by
  intro id off vs hr hf
  simp only [rep] at hr
  obtain ⟨_, b, h2, h3⟩ := hr
  have ht := ho.trees _ (xc_ hf)
  simp only [treeRep] at ht
  obtain ⟨b', us, E, k1, k2, k3, k4⟩ := ht
  simp only [mem] at h2 k1 k3
  rw [h2] at k1; cases k1
  exact ⟨b, us, h3, fun i x hx => by simp [World.cell?, k3, hx], k4⟩
 split at h <;> first | exact h.elim | skip
 ·rename_i fs sz id off
  split at h <;> first | exact h.elim | skip
  rename_i vs hf
  obtain ⟨h2, rfl⟩ := h
  obtain ⟨b, us, h3, h4, h5⟩ := bx hr hf
  subst h3
  exact SH_ hk h5 h2 h4
 ·rename_i fs sz vs off
  obtain ⟨h2, rfl⟩ := h
  simp only [rep] at hr
  obtain ⟨b, us, h3, _, h4, h5⟩ := hr
  subst h3
  exact SH_ hk h5 h2 h4
 ·rename_i n ps i
  obtain ⟨rfl, rfl⟩ := h
  simp only [rep] at hr
  have hr : LpR w (imm cx w H F) ps (some i) u := hr
  obtain ⟨b, off, n', cap, ⟨hin, hs⟩, hi, rfl⟩ := hr
  rcases hs with ⟨⟨a, ha⟩, _⟩ | ⟨b', off', cap', e1, _, _, _, hc⟩
  ·cases ha
   exact absurd hi (Nat.not_lt_zero _)
  ·cases e1
   obtain ⟨g1, g2⟩ := WQ_ hi
   have hp := hin (ps.getD i (0, 0)) (getD_mem hi)
   refine ⟨_, Qj_ hk (us := [.int .i64 (ps.getD i (0, 0)).1, .int .i64 (ps.getD i (0, 0)).2]) rfl (by decide) (fun k u hu => ?_), ?_⟩
   ·match k, hu with
    | 0, hu => cases hu; exact hc _ _ g1
    | 1, hu => cases hu; rw [Nat.add_assoc]; exact hc _ _ g2
   ·simp only [rep, reps]
    exact ⟨_, rfl, _, _, rfl, ⟨rfl, hp.1⟩, _, _, rfl, ⟨rfl, hp.2⟩, rfl⟩
 all_goals (have hone : (xz_ P t).one = true := by rw [hk]; cases k <;> first | rfl | simp_all)
 ·rename_i av i _ _ _
  split at h <;> first | exact h.elim | skip
  rename_i n f he
  subst h
  simp only [rep] at hr
  obtain ⟨b, off, n', cap, h1, h2, h3⟩ := hr
  obtain ⟨us, k1, k2, k3⟩ := wC_ he h1
  rcases k1 with ⟨⟨_, k1⟩, _⟩ | ⟨b', off', c', k1, _, _, _, k4⟩
  ·cases k1
   exact absurd h2 (Nat.not_lt_zero _)
  ·cases k1
   have hs : us[i]? = some us[i] := by simp [h2]
   exact ⟨_, wl_ hone h3 (k4 i _ hs), k3 i _ hs⟩
 ·rename_i id path i _ _ _
  split at h <;> first | exact h.elim | skip
  rename_i n f he
  subst h
  simp only [rep] at hr
  obtain ⟨_, b, off, n', cap, h1, h2, h3⟩ := hr
  obtain ⟨us, fp, k1, k2, k3, _⟩ := yN_ ho he h1
  rcases k1.cell with ⟨k1, _⟩ | ⟨b', off', c', k1, _, _, _, k4⟩
  ·cases k1
  ·cases k1
   have hs : us[i]? = some us[i] := by simp [h2]
   exact ⟨_, wl_ hone h3 (k4 i _ hs), k3 i _ hs⟩
 ·rename_i id off _ _ _
  split at h <;> first | exact h.elim | skip
  rename_i vs hf
  obtain ⟨h2, rfl⟩ := h
  obtain ⟨b, us, h3, h4, h5⟩ := bx hr hf
  obtain ⟨x, hx, hrx⟩ := XW_ h5 h2
  exact ⟨x, wl_ hone h3 (h4 _ _ hx), hrx⟩
 ·rename_i vs off _ _ _
  obtain ⟨h2, rfl⟩ := h
  simp only [rep] at hr
  obtain ⟨b, us, h3, _, h4, h5⟩ := hr
  obtain ⟨x, hx, hrx⟩ := XW_ h5 h2
  exact ⟨x, wl_ hone h3 (h4 _ _ hx), hrx⟩
end
end Go.Aw
namespace Go.Aw
open Go.RowKit
theorem wrap_in {n : Int} (h : InR n) : IntKind.i64.wrap n = n := by
 obtain ⟨h1, h2⟩ := h
 simp only [IntKind.wrap, IntKind.bits, IntKind.signed]
 simp only [Bool.true_and, ge_iff_le, decide_eq_true_eq]
 split <;> omega
section
variable {P : Program} {cx : Cx} {H : List (Nat × Tree)} {w : World} {ι : Nat → Value} {F : Nat → List Nat}
theorem yG_ (b off i : Nat) : (⟨b, off, none⟩ : Addr).add i = ⟨b, off + i, none⟩ := by
 unfold Addr.add; split <;> simp_all
theorem ZP_ {t e : TypeId} (hk : xz_ P t = .sl e) {b off n cap : Nat} {k : Int} (h0 : 0 ≤ k) (h1 : k < n) :
  (Instr.indexAt t (.slice (some ⟨b, off, none⟩) n cap) (.int .i64 k)).run P w = .ok (.pointer (some ⟨b, off + k.toNat, none⟩)) w := by
 obtain ⟨h2, h3⟩ := YZ_ hk
 have hs := yC_ (P := P) (e := e) (n := 0) h3 w
 have hc : (0 ≤ k ∧ k < (n : Int)) := ⟨h0, h1⟩
 simp [Instr.indexAt, asIntOf, run_underlying h2, hc, hs, yG_]
theorem Za_ {us : List Value} {fp : List Nat} {v : Value} (h : OwnSl w fp us v) : ∃ a n cap, v = .slice a n cap ∧ n = us.length := by
 rcases h.cell with ⟨h1, h2⟩ | ⟨b, off, cap, h1, _⟩
 ·exact ⟨_, _, _, h1, by simp [h2]⟩
 ·exact ⟨_, _, _, h1, rfl⟩
theorem Vw_ {S : Nat → Prop} {us : List Value} {v : Value} (h : SlC w S us v) : ∃ a n cap, v = .slice a n cap ∧ n = us.length := by
 rcases h with ⟨⟨_, h1⟩, h2⟩ | ⟨b, off, cap, h1, _⟩
 ·exact ⟨_, _, _, h1, by simp [h2]⟩
 ·exact ⟨_, _, _, h1, rfl⟩
theorem Yo_ {S : Nat → Prop} {us : List Value} {v : Value} (h : SlC w S us v) : us.length ≤ maxLen := by
 rcases h with ⟨_, h2⟩ | ⟨b, off, cap, _, h2, h3, _⟩
 ·simp [h2]
 ·omega
theorem zL_ {us : List Value} {fp : List Nat} {v : Value} (h : OwnSl w fp us v) : us.length ≤ maxLen := by
 rcases h.cell with ⟨_, h2⟩ | ⟨b, off, cap, _, _, h2, h3, _⟩
 ·simp [h2]
 ·omega
theorem Xo_ {n : Nat} (h : n ≤ maxLen) : InR n := by
 simp only [maxLen] at h
 constructor <;> omega
theorem Vx_ {t e : TypeId} (hk : xz_ P t = .sl e) (ty : TypeId) (a : Option Addr) (n cap : Nat) : (Builtin.len_ #[t] ty #[.slice a n cap]).run P w = .ok (.int .i64 n) w := by
 obtain ⟨h2, _⟩ := YZ_ hk
 simp [Builtin.len_, run_underlying h2, goInt]
theorem SI_ {t e : TypeId} (hk : xz_ P t = .sp e) (ty : TypeId) (a : Option Addr) (n cap : Nat) : (Builtin.len_ #[t] ty #[.slice a n cap]).run P w = .ok (.int .i64 n) w := by
 obtain ⟨h2, _⟩ := an0 hk
 simp [Builtin.len_, run_underlying h2, goInt]
theorem Qk_ (ho : Owns cx H w ι F) {t : TypeId} {x v : AV} {u : Value} (h : Y9_ P H t x v) (hr : rep (mem cx w H ι F) x u) (ty : TypeId) :
  ∃ y, (Builtin.len_ #[t] ty #[u]).run P w = .ok y w ∧ rep (mem cx w H ι F) v y := by
 unfold Y9_ at h
 generalize hk : xz_ P t = k at h
 split at h <;> first | exact h.elim | skip
 ·subst h
  simp only [rep] at hr
  obtain ⟨rfl, hl⟩ := hr
  have h2 := at6 hk
  exact ⟨_, by simp [Builtin.len_, run_underlying h2, goInt], x1_ (Xo_ hl)⟩
 ·subst h
  simp only [rep] at hr
  subst hr
  exact ⟨_, Vx_ hk ty none 0 0, x1_ (by constructor <;> decide)⟩
 ·subst h
  simp only [rep] at hr
  rename_i ps
  have hr : SlP w (imm cx w H F) ps u := hr
  obtain ⟨_, hs⟩ := hr
  rcases hs with ⟨⟨a, rfl⟩, rfl⟩ | ⟨b, off, cap, rfl, h2, h3, _⟩
  ·exact ⟨_, SI_ hk ty a 0 0, x1_ (by constructor <;> decide)⟩
  ·exact ⟨_, SI_ hk ty _ _ _, x1_ (Xo_ (by omega))⟩
 ·split at h <;> first | exact h.elim | skip
  rename_i n f he
  subst h
  simp only [rep] at hr
  obtain ⟨us, fp, k1, k2, _⟩ := yN_ ho he hr.2
  obtain ⟨a, n', cap, rfl, hn⟩ := Za_ k1
  have := zL_ k1
  refine ⟨_, Vx_ hk ty a n' cap, ?_⟩
  rw [hn, k2]
  exact x1_ (Xo_ (by omega))
 ·rename_i id path lo hi
  subst h
  simp only [rep] at hr
  obtain ⟨_, a, n, cap, a', h1, h2, h3, h4, ha, rfl⟩ := hr
  exact ⟨_, Vx_ hk ty _ _ _, x1_ (Xo_ (by omega))⟩
 ·split at h <;> first | exact h.elim | skip
  rename_i n f he
  subst h
  obtain ⟨us, k1, k2, _⟩ := wC_ he hr
  obtain ⟨a, n', cap, rfl, hn⟩ := Vw_ k1
  have := Yo_ k1
  refine ⟨_, Vx_ hk ty a n' cap, ?_⟩
  rw [hn, k2]
  exact x1_ (Xo_ (by omega))
theorem UH_ (ho : Owns cx H w ι F) {t : TypeId} {x i v : AV} {ux ui : Value} (h : xT_ P H true t x i v) (hx : rep (mem cx w H ι F) x ux) (hi : rep (mem cx w H ι F) i ui) :
  ∃ y, (Instr.indexAt t ux ui).run P w = .ok y w ∧ rep (mem cx w H ι F) v y := by
 unfold xT_ at h
 generalize hk : xz_ P t = k at h
 split at h <;> first | exact h.elim | skip
 rotate_left
 ·rename_i e q
  simp only [rep] at hi
  obtain ⟨rfl, _⟩ := hi
  split at h <;> first | exact h.elim | skip
  rename_i ps
  obtain ⟨hb, rfl⟩ := h
  obtain ⟨h0, h1⟩ := hb rfl
  simp only [rep] at hx
  have hx : SlP w (imm cx w H F) ps ux := hx
  have hx' := hx
  obtain ⟨_, hs⟩ := hx
  rcases hs with ⟨_, rfl⟩ | ⟨b, off, cap, rfl, _⟩
  ·simp at h1; omega
  ·obtain ⟨u1, u2⟩ := an0 hk
   obtain ⟨e', _, _, u3⟩ := Vu_ u2
   have hsz := yC_ (P := P) (e := e) (n := 1) u3 w
   refine ⟨.pointer (some ⟨b, off + 2 * q.toNat, none⟩), ?_, ?_⟩
   ·have hq : (q.toNat : Int) < ps.length := by omega
    simp [Instr.indexAt, asIntOf, run_underlying u1, hsz, h0, h1, yG_, Nat.mul_comm]
   ·simp only [rep]
    exact ⟨b, off, _, cap, hx', by omega, rfl⟩
 ·rename_i n q
  simp only [rep] at hi
  obtain ⟨rfl, _⟩ := hi
  split at h <;> first | exact h.elim | skip
  rename_i id off
  obtain ⟨hb, rfl⟩ := h
  obtain ⟨h0, h1⟩ := hb rfl
  simp only [rep] at hx
  obtain ⟨hd, b, hb2, rfl⟩ := hx
  obtain ⟨e', u1, u2, _⟩ := aT0 hk
  obtain ⟨_, u3⟩ := TU_ u2
  have hsz := yC_ (P := P) (e := e') (n := 0) u3 w
  refine ⟨.pointer (some ⟨b, off + q.toNat, none⟩), ?_, ?_⟩
  ·simp [Instr.indexAt, asIntOf, run_underlying u1, hsz, h0, h1, yG_, Instr.sureAddr]
  ·simp only [rep]
   exact ⟨hd, b, hb2, rfl⟩
 rename_i e q
 simp only [rep] at hi
 obtain ⟨rfl, _⟩ := hi
 split at h
 ·rename_i id path
  split at h <;> first | exact h.elim | skip
  rename_i n f he
  obtain ⟨hb, rfl⟩ := h
  obtain ⟨h0, h1⟩ := hb rfl
  simp only [rep] at hx
  obtain ⟨us, fp, k1, k2, _, _⟩ := yN_ ho he hx.2
  rcases k1.cell with ⟨k1, k3⟩ | ⟨b, off, cap, rfl, _⟩
  ·subst k3; simp at k2; omega
  ·refine ⟨_, ZP_ hk h0 (by omega), ?_⟩
   simp only [rep]
   exact ⟨hx.1, b, off, _, cap, hx.2, by omega, rfl⟩
 ·rename_i id path lo hi
  split at h <;> first | exact h.elim | skip
  rename_i nf he
  obtain ⟨n0, f⟩ := nf
  obtain ⟨hb, rfl⟩ := h
  obtain ⟨h0, h1⟩ := hb rfl
  simp only [rep] at hx
  obtain ⟨hd, a, n, cap, a', k1, k2, k3, k4, ⟨j, hj, hj2, rfl⟩, rfl⟩ := hx
  obtain ⟨us, fp, j1, j2, _, _⟩ := yN_ ho he k1
  rcases j1.cell with ⟨j1, j3⟩ | ⟨b, off, cap', j1, _, j3, _, _⟩
  ·cases j1; omega
  ·cases j1
   have hc : cap ≠ lo := by omega
   rw [hj2 hc]
   simp only [Option.map_some, yG_]
   refine ⟨_, ZP_ hk h0 (by omega), ?_⟩
   simp only [rep]
   exact ⟨hd, b, off, _, cap, k1, by omega, by rw [Nat.add_assoc]⟩
 ·split at h <;> first | exact h.elim | skip
  rename_i n f he
  obtain ⟨hb, rfl⟩ := h
  obtain ⟨h0, h1⟩ := hb rfl
  obtain ⟨us, k1, k2, _⟩ := wC_ he hx
  rcases k1 with ⟨k1, k3⟩ | ⟨b, off, cap, rfl, _⟩
  ·subst k3; simp at k2; omega
  ·refine ⟨_, ZP_ hk h0 (by omega), ?_⟩
   simp only [rep]
   exact ⟨b, off, _, cap, hx, by omega, rfl⟩
theorem UI_ {t : TypeId} {p v : AV} {f : Nat} {u : Value} (h : zf_ P t p f v) (hr : rep (mem cx w H ι F) p u) :
  ∃ y, (Instr.fieldAt t u f).run P w = .ok y w ∧ rep (mem cx w H ι F) v y := by
 unfold zf_ at h
 generalize hk : xz_ P t = k at h
 have key : ∀ {fs : List (Nat × Nat)} {sz : Nat}, xz_ P t = .st fs sz → ∀ {o s : Nat}, fs[f]? = some (o, s) → s ≠ 0 → ∀ (b off : Nat),
   (Instr.fieldAt t (.pointer (some ⟨b, off, none⟩)) f).run P w = .ok (.pointer (some ⟨b, off + o, none⟩)) w := by
  intro fs sz hk o s hf hs b off
  obtain ⟨gs, h1, h2, _⟩ := an1 hk
  subst h2
  simp only [List.getElem?_map, Option.map_eq_some_iff, Prod.mk.injEq] at hf
  obtain ⟨g, hg, rfl, rfl⟩ := hf
  obtain ⟨n, hn⟩ : ∃ n, P.cellsOf g.type = n + 1 := ⟨P.cellsOf g.type - 1, by omega⟩
  have hsz := yC_ hn w
  have hg' : gs[f]? = some g := by simpa using hg
  simp [Instr.fieldAt, run_underlying h1, hg', Instr.sureAddr, fieldPlace, hsz, yG_]
 split at h <;> first | exact h.elim | skip
 ·rename_i fs sz id off
  split at h <;> first | exact h.elim | skip
  rename_i o s hf
  obtain ⟨h1, rfl⟩ := h
  simp only [rep] at hr
  obtain ⟨hd, b, h2, rfl⟩ := hr
  exact ⟨_, key hk hf h1 b off, by simp only [rep]; exact ⟨hd, b, h2, rfl⟩⟩
 ·rename_i fs sz vs off
  split at h <;> first | exact h.elim | skip
  rename_i o s hf
  obtain ⟨h1, rfl⟩ := h
  simp only [rep] at hr
  obtain ⟨b, us, rfl, h2, h3, h4⟩ := hr
  exact ⟨_, key hk hf h1 b off, by simp only [rep]; exact ⟨b, us, rfl, h2, h3, h4⟩⟩
theorem Vy_ {t : TypeId} {x v : AV} {f : Nat} {u : Value} (h : SF_ P t x f v) (hr : rep (mem cx w H ι F) x u) :
  ∃ y, (Instr.field t u f).run P w = .ok y w ∧ rep (mem cx w H ι F) v y := by
 unfold SF_ at h
 split at h <;> first | exact h.elim | skip
 rename_i vs
 split at h <;> first | exact h.elim | skip
 rename_i fs hu
 split at h <;> first | exact h.elim | skip
 rename_i g hg
 simp only [rep] at hr
 obtain ⟨us, rfl, h3⟩ := hr
 split at h
 ·rename_i fs' sz hk
  obtain ⟨h2, rfl⟩ := h
  obtain ⟨gs, k1, _, k3⟩ := an1 hk
  have hn : ∃ i, P.info? g.type = some i := by
   cases hx : P.info? g.type with
   | none => simp [Program.underlying, hx] at k1
   | some i => exact ⟨i, rfl⟩
  obtain ⟨i, hi⟩ := hn
  have his : i.size = sz := by simp [Program.cellsOf, hi] at k3; omega
  refine ⟨.agg ((us.drop g.offset).take sz).toArray, ?_, by simp only [rep]; exact ⟨_, rfl, SG_ h3 _ _⟩⟩
  have hex : us.toArray.extract g.offset (g.offset + sz) = ((us.drop g.offset).take sz).toArray := by
   simp [List.extract_toArray, List.extract]
  simp [Instr.field, run_underlying hu, hg, asAgg, part, isAgg, run_underlying k1, sizeOf, typeInfo, hi, his, hex]
 ·obtain ⟨h1, h2, rfl⟩ := h
  obtain ⟨y, hy, hry⟩ := XW_ h3 h2
  refine ⟨y, ?_, hry⟩
  simp [Instr.field, run_underlying hu, hg, asAgg, part, SE_ h1, hy]
theorem w7_ (n : Int) : InR (IntKind.i64.wrap n) := by
 simp only [IntKind.wrap, IntKind.signed, IntKind.bits]
 unfold InR
 have := Int.emod_nonneg n (show (18446744073709551616 : Int) ≠ 0 by decide)
 have := Int.emod_lt_of_pos n (show (0 : Int) < 18446744073709551616 by decide)
 simp
 split <;> omega
theorem SJ_ {p q : Int} (h : InR p) : InR (aF2 p q) := by
 unfold aF2
 have hp : (0 : Int) < 2 ^ min q.toNat 64 := Int.pow_pos (by decide)
 rw [Int.fdiv_eq_ediv_of_nonneg _ (Int.le_of_lt hp)]
 generalize (2 : Int) ^ min q.toNat 64 = d at hp
 unfold InR at *
 have h1 : p / d * d ≤ p := Int.ediv_mul_le p (by omega)
 have h2 : p < (p / d + 1) * d := Int.lt_ediv_add_one_mul_self p hp
 constructor
 ·refine Int.not_lt.1 fun hn => ?_
  have : (p / d + 1) * d ≤ -9223372036854775808 * 1 := by
   have a : (-(p / d + 1)) * d ≥ 9223372036854775808 * 1 := Int.mul_le_mul (by omega) (by omega) (by decide) (by omega)
   rw [Int.neg_mul] at a
   omega
  omega
 ·refine Int.not_lt.1 fun hn => ?_
  have : p / d * d ≥ 9223372036854775808 * 1 := Int.mul_le_mul (by omega) (by omega) (by decide) (by omega)
  omega
theorem ZQ_ {m : Mem} : ∀ {xs : List AV} {us : List Value} {a : List Int}, Y0_ xs = some a → reps m xs us → us = a.map (Value.int .i64)
 | [], us, a, h, hr => by
  simp only [Y0_, Option.some.injEq] at h
  simp only [reps] at hr
  subst h hr; rfl
 | .int n :: as, us, a, h, hr => by
  simp only [Y0_, Option.map_eq_some_iff] at h
  obtain ⟨b, hb, rfl⟩ := h
  simp only [reps, rep] at hr
  obtain ⟨u, us', rfl, ⟨rfl, -⟩, h2⟩ := hr
  rw [ZQ_ hb h2]; rfl
 | .flt _ :: _, _, _, h, _ | .ik _ _ :: _, _, _, h, _ | .bool _ :: _, _, _, h, _ | .str _ :: _, _, _, h, _ | .nil :: _, _, _, h, _ | .nilfn :: _, _, _, h, _ | .l1 _ :: _, _, _, h, _ | .l2 _ :: _, _, _, h, _ | .l3 _ :: _, _, _, h, _
 | .lv _ :: _, _, _, h, _ | .agg _ :: _, _, _, h, _ | .tup _ :: _, _, _, h, _ | .fn _ _ :: _, _, _, h, _ | .eptr _ _ :: _, _, _, h, _ | .cptr _ _ :: _, _, _, h, _ | .ref _ _ :: _, _, _, h, _ | .sub _ _ _ _ :: _, _, _, h, _ | .eref _ _ _ :: _, _, _, h, _
 | .bptr _ _ :: _, _, _, h, _ | .when _ _ :: _, _, _, h, _ | .junk :: _, _, _, h, _ => by simp [Y0_] at h
theorem Vz_ {n : Nat} : ∀ {fs : List Field} {i : Nat}, aF3 P n i fs = true → i + fs.length = n
 | [], i, h => by simpa [aF3] using h
 | f :: fs, i, h => by
  simp only [aF3, Bool.and_eq_true] at h
  have := Vz_ h.2
  simp only [List.length_cons]
  omega
theorem Je_ {d n : Nat} {a b : List Int} (ha : a.length = n) (hb : b.length = n) : ∀ (fs : List Field) (i : Nat), aF3 P n i fs = true →
  (Op.eqFields (d + 1) (a.map (Value.int .i64)).toArray (b.map (Value.int .i64)).toArray fs).run P w = .ok (decide (a.drop i = b.drop i)) w
 | [], i, h => by
  have hi := Vz_ h
  simp only [List.length_nil] at hi
  have e1 : a.drop i = [] := List.drop_eq_nil_of_le (by omega)
  have e2 : b.drop i = [] := List.drop_eq_nil_of_le (by omega)
  rw [e1, e2]
  simp [Op.eqFields]
 | f :: fs, i, h => by
  have hi := Vz_ h
  simp only [List.length_cons] at hi
  simp only [aF3, Bool.and_eq_true, bne_iff_ne, ne_eq, beq_iff_eq] at h
  obtain ⟨⟨⟨h1, h2⟩, h3⟩, h4⟩ := h
  have ih := Je_ (d := d) ha hb fs (i + 1) h4
  have hk : xz_ P f.type = .int := by
   split at h3
   ·assumption
   ·cases h3
  have hone : (xz_ P f.type).one = true := by rw [hk]; rfl
  have la : i < a.length := by omega
  have lb : i < b.length := by omega
  have pa : (part f.type (a.map (Value.int .i64)).toArray f.offset).run P w = .ok (.int .i64 a[i]) w := by
   rw [h2]; simp [part, SE_ hone, la]
  have pb : (part f.type (b.map (Value.int .i64)).toArray f.offset).run P w = .ok (.int .i64 b[i]) w := by
   rw [h2]; simp [part, SE_ hone, lb]
  have hq := run_equalIn_int (P := P) w d f.type .i64 .i64 a[i] b[i] (WO_ hk)
  rw [List.drop_eq_getElem_cons la, List.drop_eq_getElem_cons lb]
  unfold Op.eqFields
  rw [if_pos h1]
  simp only [Sem.run_bind, pa, pb, hq, Result.andThen_ok]
  by_cases e : a[i] = b[i]
  ·have hb1 : (a[i] == b[i]) = true := beq_iff_eq.2 e
   simp only [hb1, Bool.not_true, Bool.false_eq_true, if_false, ih]
   congr 1
   rw [decide_eq_decide, e]
   exact ⟨fun h => by rw [h], fun h => (List.cons.inj h).2⟩
  ·have hb1 : (a[i] == b[i]) = false := beq_eq_false_iff_ne.2 e
   have hd : decide (a[i] :: a.drop (i + 1) = b[i] :: b.drop (i + 1)) = false := decide_eq_false fun h => e (List.cons.inj h).1
   simp only [hb1, Bool.not_false, if_true, hd]
   rfl
theorem Ql_ (ho : Owns cx H w ι F) {b : BinOp} {t : TypeId} {x y v : AV} {ux uy : Value} {ox oy : Operand} (h : Xy_ P H true b t x y v) (hx : rep (mem cx w H ι F) x ux) (hy : rep (mem cx w H ι F) y uy) :
  ∃ z, (do eqGuard b t ox oy ux uy; binOp b t ux uy : Sem Value).run P w = .ok z w ∧ rep (mem cx w H ι F) v z := by
 have slnil : ∀ {e : TypeId} (_ : xz_ P t = .sl e) (a : Option Addr) (n c : Nat), (binOp .eql t (.slice a n c) (.slice none 0 0)).run P w = .ok (.bool a.isNone) w := by
  intro e hk a n c
  exact Lib.run_eql_slice_nil w t e a n c 0 0 (YZ_ hk).1
 have slnil' : ∀ {e : TypeId} (_ : xz_ P t = .sl e) (a : Option Addr) (n c : Nat), (binOp .neq t (.slice a n c) (.slice none 0 0)).run P w = .ok (.bool (!a.isNone)) w := by
  intro e hk a n c
  have := slnil hk a n c
  simp only [binOp, Sem.run_bind, Sem.run_pure] at this ⊢
  cases hq : (Op.equal t (.slice a n c) (.slice none 0 0)).run P w with
  | ok r w' => rw [hq] at this; simp only [Result.andThen_ok, Result.ok.injEq, Value.bool.injEq] at this ⊢; simp [this.1, this.2]
  | halt r w' => rw [hq] at this; simp at this
 have guardS : ∀ (a : Option Addr) (n c : Nat), (eqGuard b t ox oy (.slice a n c) (.slice none 0 0)).run P w = .ok () w := by
  intro a n c
  unfold eqGuard
  cases b <;> rfl
 unfold Xy_ at h
 split at h
 ·rename_i p q
  simp only [rep] at hx hy
  obtain ⟨rfl, hp⟩ := hx
  obtain ⟨rfl, hq⟩ := hy
  have hg : (eqGuard b t ox oy (.int .i64 p) (.int .i64 q)).run P w = .ok () w := by unfold eqGuard; cases b <;> rfl
  simp only [Sem.run_bind, hg, Result.andThen_ok]
  cases b <;> simp only at h <;> first | exact h.elim | skip
  case and => subst h; exact ⟨_, by simp only [binOp, Op.intBits, ne_eq, not_true_eq_false, if_false]; rfl, x1_ (w7_ _)⟩
  case or => subst h; exact ⟨_, by simp only [binOp, Op.intBits, ne_eq, not_true_eq_false, if_false]; rfl, x1_ (w7_ _)⟩
  case xor => subst h; exact ⟨_, by simp only [binOp, Op.intBits, ne_eq, not_true_eq_false, if_false]; rfl, x1_ (w7_ _)⟩
  case andNot => subst h; exact ⟨_, by simp only [binOp, Op.intBits, ne_eq, not_true_eq_false, if_false]; rfl, x1_ (w7_ _)⟩
  case shl =>
   obtain ⟨h1, rfl⟩ := h
   have h1 : ¬ (q < 0) := by have := h1 (by trivial); omega
   exact ⟨_, by simp [binOp, Op.shift, h1]; rfl, x1_ (w7_ _)⟩
  case shr =>
   obtain ⟨h1, rfl⟩ := h
   have h1 : ¬ (q < 0) := by have := h1 (by trivial); omega
   exact ⟨_, by simp [binOp, Op.shift, h1]; rfl, x1_ (SJ_ hp)⟩
  ·obtain ⟨h1, rfl⟩ := h
   exact ⟨_, by simp [binOp, Op.intArith, wrap_in (h1 (by trivial))], x1_ (h1 (by trivial))⟩
  ·obtain ⟨h1, rfl⟩ := h
   exact ⟨_, by simp [binOp, Op.intArith, wrap_in (h1 (by trivial))], x1_ (h1 (by trivial))⟩
  ·obtain ⟨h1, rfl⟩ := h
   exact ⟨_, by simp [binOp, Op.intArith, wrap_in (h1 (by trivial))], x1_ (h1 (by trivial))⟩
  ·obtain ⟨h1, rfl⟩ := h
   obtain ⟨h1, h2⟩ := h1 (by trivial)
   exact ⟨_, by simp [binOp, Op.intDiv, h1, wrap_in h2], x1_ h2⟩
  ·obtain ⟨h1, rfl⟩ := h
   obtain ⟨h1, h2⟩ := h1 (by trivial)
   exact ⟨_, by simp [binOp, Op.intDiv, h1], x1_ h2⟩
  all_goals (subst h; refine ⟨_, by simp [binOp, Op.intCmp]; rfl, ?_⟩; simp only [rep])
  ·simp [BEq.beq]
  ·simp [bne, BEq.beq]
 ·rename_i k p k' q
  obtain ⟨rfl, h⟩ := h
  simp only [rep] at hx hy
  subst hx; subst hy
  have hg : (eqGuard b t ox oy (.int k p) (.int k q)).run P w = .ok () w := by unfold eqGuard; cases b <;> rfl
  simp only [Sem.run_bind, hg, Result.andThen_ok]
  cases b <;> simp only at h <;> first | exact h.elim | skip
  case and =>
   subst h
   exact ⟨.int k (k.wrap (BitVec.ofInt k.bits p &&& BitVec.ofInt k.bits q).toNat), by simp only [binOp, Op.intBits, ne_eq, not_true_eq_false, if_false]; rfl, by simp only [rep]⟩
  case or =>
   subst h
   exact ⟨.int k (k.wrap (BitVec.ofInt k.bits p ||| BitVec.ofInt k.bits q).toNat), by simp only [binOp, Op.intBits, ne_eq, not_true_eq_false, if_false]; rfl, by simp only [rep]⟩
  case andNot =>
   subst h
   exact ⟨.int k (k.wrap (BitVec.ofInt k.bits p &&& ~~~ BitVec.ofInt k.bits q).toNat), by simp only [binOp, Op.intBits, ne_eq, not_true_eq_false, if_false]; rfl, by simp only [rep]⟩
  case shr =>
   obtain ⟨h1, rfl⟩ := h
   have h1 : ¬ (q < 0) := by have := h1 (by trivial); omega
   exact ⟨_, by simp [binOp, Op.shift, h1]; rfl, by simp only [rep]⟩
  all_goals (subst h; refine ⟨_, by simp [binOp, Op.intArith, Op.intBits, Op.intCmp]; rfl, ?_⟩; simp only [rep])
  ·simp [BEq.beq]
  ·simp [bne, BEq.beq]
 ·rename_i p q
  simp only [rep] at hx hy
  subst hx; subst hy
  have hg : (eqGuard b t ox oy (.float .f64 p) (.float .f64 q)).run P w = .ok () w := by unfold eqGuard; cases b <;> rfl
  simp only [Sem.run_bind, hg, Result.andThen_ok]
  cases b <;> simp only at h <;> first | exact h.elim | skip
  all_goals
   obtain ⟨h1, rfl⟩ := h
   obtain ⟨r, hr⟩ := Option.isSome_iff_exists.1 (h1 (by trivial))
   exact ⟨_, run_float_arith w _ t .f64 p q r hr, by simp only [rep, an5, hr, Option.getD_some]⟩
 ·rename_i p k q
  simp only [rep] at hx hy
  obtain ⟨rfl, hp⟩ := hx
  subst hy
  have hg : (eqGuard b t ox oy (.int .i64 p) (.int k q)).run P w = .ok () w := by unfold eqGuard; cases b <;> rfl
  simp only [Sem.run_bind, hg, Result.andThen_ok]
  cases b <;> simp only at h <;> first | exact h.elim | skip
  case shl =>
   obtain ⟨h1, rfl⟩ := h
   have h1 : ¬ (q < 0) := by have := h1 (by trivial); omega
   exact ⟨_, by simp [binOp, Op.shift, h1]; rfl, x1_ (w7_ _)⟩
  case shr =>
   obtain ⟨h1, rfl⟩ := h
   have h1 : ¬ (q < 0) := by have := h1 (by trivial); omega
   exact ⟨_, by simp [binOp, Op.shift, h1]; rfl, x1_ (SJ_ hp)⟩
 ·rename_i p q
  simp only [rep] at hx hy
  subst hx; subst hy
  have hg : (eqGuard b t ox oy (.bool p) (.bool q)).run P w = .ok () w := by unfold eqGuard; cases b <;> rfl
  simp only [Sem.run_bind, hg, Result.andThen_ok]
  split at h <;> first | exact h.elim | skip
  ·rename_i hk
   subst h
   exact ⟨_, run_eql_bool w t p q (K9_ hk), by simp only [rep]⟩
  ·rename_i hk
   subst h
   exact ⟨_, run_neq_bool w t p q (K9_ hk), by simp only [rep]⟩
 ·rename_i p q
  simp only [rep] at hx hy
  obtain ⟨rfl, hp⟩ := hx
  obtain ⟨rfl, hq⟩ := hy
  have hg : (eqGuard b t ox oy (.string p) (.string q)).run P w = .ok () w := by unfold eqGuard; cases b <;> rfl
  simp only [Sem.run_bind, hg, Result.andThen_ok]
  split at h <;> first | exact h.elim | skip
  ·obtain ⟨h1, rfl⟩ := h
   have h1 := h1 (by trivial)
   refine ⟨.string (p ++ q), ?_, ?_⟩
   ·have : ¬ (((p.size + q.size : Nat) : Int) > IntKind.i64.max) := by simp only [IntKind.max, IntKind.signed, IntKind.bits]; simp; omega
    simp only [binOp, Op.stringOp]
    rw [if_neg this]; rfl
   ·simp only [rep]
    exact ⟨trivial, by simp [maxLen]; omega⟩
  ·subst h
   exact ⟨_, by simp [binOp, Op.stringOp]; rfl, by simp only [rep]⟩
  ·subst h
   exact ⟨_, by simp [binOp, Op.stringOp]; rfl, by simp only [rep]⟩
 ·rename_i xs ys
  simp only [rep] at hx hy
  obtain ⟨us, rfl, hx⟩ := hx
  obtain ⟨vs, rfl, hy⟩ := hy
  unfold Jb_ at h
  split at h <;> first | exact h.elim | skip
  rename_i a c ea ec
  obtain ⟨hl, hs, h⟩ := h
  rw [ZQ_ ea hx, ZQ_ ec hy]
  simp only [stI, Bool.and_eq_true, Bool.not_eq_true'] at hs
  obtain ⟨⟨⟨h1, h2⟩, h3⟩, h4⟩ := hs
  have hu : P.underlying t = some (.struct (P.fieldsOf t)) := by
   unfold Program.fieldsOf
   split at h1
   ·rename_i fs hfs; rw [hfs]
   ·cases h1
  have hg := run_eqGuard_agg (P := P) w b t ox oy (a.map (Value.int .i64)).toArray (c.map (Value.int .i64)).toArray h3
  have he := Je_ (P := P) (w := w) (d := 9998) rfl hl.symm _ 0 h4
  simp only [List.drop_zero] at he
  simp only [Sem.run_bind, hg, Result.andThen_ok]
  cases b <;> simp only at h <;> first | exact h.elim | skip
  ·subst h
   rw [run_eql_struct, run_equalIn_struct w 9999 t _ _ hu h2, he]
   exact ⟨_, rfl, by simp only [rep]⟩
  ·subst h
   rw [run_neq_struct, run_equalIn_struct w 9999 t _ _ hu h2, he]
   exact ⟨_, rfl, by simp only [rep]⟩
 ·simp only [rep] at hx hy
  subst hx; subst hy
  simp only [Sem.run_bind, guardS, Result.andThen_ok]
  split at h <;> first | exact h.elim | skip
  ·rename_i hk
   subst h
   exact ⟨_, slnil hk none 0 0, by simp only [rep]; rfl⟩
  ·rename_i hk
   subst h
   exact ⟨_, slnil' hk none 0 0, by simp only [rep]; rfl⟩
 ·rename_i id path
  simp only [rep] at hx hy
  subst hy
  split at h <;> first | exact h.elim | skip
  all_goals (
   rename_i e n f hk he
   obtain ⟨h1, rfl⟩ := h
   have h1 := h1 (by trivial)
   obtain ⟨us, fp, k1, k2, _, _⟩ := yN_ ho he hx.2
   rcases k1.cell with ⟨_, k3⟩ | ⟨b', off, cap, rfl, _⟩
   ·subst k3; simp at k2; omega
   ·simp only [Sem.run_bind, guardS, Result.andThen_ok]
    first
     | exact ⟨_, slnil hk _ _ _, by simp only [rep]; rfl⟩
     | exact ⟨_, slnil' hk _ _ _, by simp only [rep]; rfl⟩)
 ·simp only [rep] at hy
  subst hy
  split at h <;> first | exact h.elim | skip
  all_goals (
   rename_i e n f hk he
   obtain ⟨h1, rfl⟩ := h
   have h1 := h1 (by trivial)
   obtain ⟨us, k1, k2, _⟩ := wC_ he hx
   rcases k1 with ⟨_, k3⟩ | ⟨b', off, cap, rfl, _⟩
   ·subst k3; simp at k2; omega
   ·simp only [Sem.run_bind, guardS, Result.andThen_ok]
    first
     | exact ⟨_, slnil hk _ _ _, by simp only [rep]; rfl⟩
     | exact ⟨_, slnil' hk _ _ _, by simp only [rep]; rfl⟩)
 ·exact h.elim
theorem Jf_ {b : UnOp} {x v : AV} {ux : Value} (h : AUn true b x v) (hx : rep (mem cx w H ι F) x ux) :
  ∃ z, (Op.unary b ux).run P w = .ok z w ∧ rep (mem cx w H ι F) v z := by
 unfold AUn at h
 split at h <;> first | exact h.elim | skip
 ·subst h
  simp only [rep] at hx
  subst hx
  exact ⟨_, by simp [Op.unary]; rfl, by simp only [rep]⟩
 ·obtain ⟨h1, rfl⟩ := h
  simp only [rep] at hx
  obtain ⟨rfl, _⟩ := hx
  exact ⟨_, by simp only [Op.unary, Op.intArith, wrap_in (h1 (by trivial))]; rfl, x1_ (h1 (by trivial))⟩
theorem Yp_ {m : Mem} {x : AV} {g b : Bool} {u : Value} (h : wc_ x = some (g, b)) (hg : g = true) (hr : rep m x u) : u = .bool b := by
 unfold wc_ at h
 split at h <;> first | (cases h; done) | skip
 ·simp only [Option.some.injEq, Prod.mk.injEq] at h
  obtain ⟨_, rfl⟩ := h
  simpa only [rep] using hr
 ·simp only [Option.some.injEq, Prod.mk.injEq] at h
  obtain ⟨rfl, rfl⟩ := h
  simp only [rep] at hr
  exact hr.1 hg
theorem TW_ {c a b v : AV} {uc ua ub : Value} (h : an6 true c a b v) (hc : rep (mem cx w H ι F) c uc) (ha : rep (mem cx w H ι F) a ua) (hb : rep (mem cx w H ι F) b ub) :
  ∃ z, (do pure (.value (if ← asBool uc then ua else ub)) : Sem Next).run P w = .ok (.value z) w ∧ rep (mem cx w H ι F) v z := by
 unfold an6 at h
 split at h <;> first | exact h.elim | skip
 rename_i gc xc ga xa gb xb e1 e2 e3
 obtain ⟨h1, rfl⟩ := h
 obtain ⟨h1, h2, h3⟩ := h1 (by trivial)
 have hcv := Yp_ e1 h1 hc
 subst hcv
 cases xc
 ·have := Yp_ e3 (h3 rfl) hb
  subst this
  exact ⟨_, by simp [asBool]; rfl, by simp only [rep, cond_false]⟩
 ·have := Yp_ e2 (h2 rfl) ha
  subst this
  exact ⟨_, by simp [asBool]; rfl, by simp only [rep, cond_true]⟩
theorem wG_ {t : TypeId} (h : (xz_ P t).num = true) : ∃ k, P.underlying t = some (.int k) := by
 cases hk : xz_ P t with
 | int => exact ⟨_, WO_ hk⟩
 | ik k => exact ⟨_, an2 hk⟩
 | _ => rw [hk] at h; cases h
theorem ZR_ {m : Mem} : ∀ {vs : List AV} {ns : List Int} {us : List Value}, bytesOf vs = some ns → reps m vs us → us = ns.map (Value.int .u8)
 | [], _, us, h, hr => by
  simp only [bytesOf, Option.some.injEq] at h
  subst h
  simpa only [reps, List.map_nil] using hr
 | a :: as, ns, us, h, hr => by
  simp only [reps] at hr
  obtain ⟨u, us', rfl, h1, h2⟩ := hr
  simp only [bytesOf] at h
  split at h
  ·rename_i n ms hn hms
   cases h
   rw [ZR_ hms h2]
   unfold byteOf at hn
   split at hn
   ·cases hn
    simp only [rep] at h1
    rw [h1]; rfl
   ·cases hn
  ·cases h
theorem TX_ (ho : Owns cx H w ι F) {s d : TypeId} {x v : AV} {u : Value} (h : TV_ P H true s d x v) (hx : rep (mem cx w H ι F) x u) :
  ∃ z, (convert s d u).run P w = .ok z w ∧ rep (mem cx w H ι F) v z := by
 unfold TV_ at h
 generalize hk : xz_ P d = k at h
 split at h <;> first | exact h.elim | skip
 ·obtain ⟨h1, h2⟩ := h
  split at h1 <;> first | exact h1.elim | skip
  rename_i id e hs
  split at h2 <;> first | exact h2.elim | skip
  rename_i vs hf
  split at h2 <;> first | exact h2.elim | skip
  rename_i n ns hb
  obtain ⟨h3, rfl⟩ := h2
  simp only [rep] at hx
  have hx2 := hx.2
  simp only [xl_, Option.some.injEq, mem] at hx2
  have ht := ho.trees _ (xc_ hf)
  simp only [treeRep] at ht
  obtain ⟨us, g1, g2⟩ := ht
  have hus := ZR_ hb g2
  subst hus
  rw [hx2] at g1
  rcases g1 with ⟨-, g3, -⟩ | ⟨b, off, cap, c, E, rfl, -, k1, k2, k3, k4, k5⟩
  ·cases g3
  ·have hlen : ((n :: ns).map (Value.int .u8)).length = (n :: ns).length := by simp
   rw [hlen]
   refine ⟨_, run_convert_bytes_arg (P := P) w s e (YZ_ hs).1 (an2 h1) b off (n :: ns).length cap (n :: ns) rfl (fun i hi => ?_) d (at6 hk), ?_⟩
   ·have hu : ((n :: ns).map (Value.int .u8))[i]? = some (.int .u8 ((n :: ns).getD i 0)) := by
     rw [List.getElem?_map, List.getElem?_eq_getElem hi, List.getD_eq_getElem?_getD, List.getElem?_eq_getElem hi]
     rfl
    have := k5 i _ hu
    unfold World.cell?
    dsimp only
    have k1' : w.heap[b]? = _ := k1
    rw [k1']
    exact this
   ·simp only [rep, strOfNums_size]
    refine ⟨trivial, ?_⟩
    unfold maxLen
    omega
 ·obtain ⟨h1, rfl⟩ := h
  obtain ⟨ks, hs⟩ := wG_ h1
  simp only [rep] at hx
  obtain ⟨rfl, hn⟩ := hx
  exact ⟨_, by simp [convert, run_underlying hs, run_underlying (WO_ hk), Conv.intToInt, wrap_in hn], x1_ hn⟩
 ·obtain ⟨h1, h2, rfl⟩ := h
  obtain ⟨ks, hs⟩ := wG_ h1
  simp only [rep] at hx
  subst hx
  exact ⟨_, by simp [convert, run_underlying hs, run_underlying (WO_ hk), Conv.intToInt, wrap_in (h2 (by trivial))], x1_ (h2 (by trivial))⟩
 ·obtain ⟨h1, rfl⟩ := h
  obtain ⟨ks, hs⟩ := wG_ h1
  simp only [rep] at hx
  obtain ⟨rfl, hn⟩ := hx
  exact ⟨_, by simp [convert, run_underlying hs, run_underlying (an2 hk), Conv.intToInt]; rfl, by simp only [rep]⟩
 ·obtain ⟨h1, rfl⟩ := h
  obtain ⟨ks, hs⟩ := wG_ h1
  simp only [rep] at hx
  subst hx
  exact ⟨_, by simp [convert, run_underlying hs, run_underlying (an2 hk), Conv.intToInt]; rfl, by simp only [rep]⟩
 ·obtain ⟨h1, rfl⟩ := h
  obtain ⟨ks, hs⟩ := wG_ h1
  simp only [rep] at hx
  obtain ⟨rfl, hn⟩ := hx
  exact ⟨_, run_convert_int_float w s d .i64 .f64 _ (by rw [hs]; rfl) (aT1 hk), by simp only [rep]⟩
 ·obtain ⟨h1, h2, rfl⟩ := h
  simp only [rep] at hx
  subst hx
  obtain ⟨n, hn⟩ := Option.isSome_iff_exists.1 (h2 (by trivial))
  have hb := floatToIntVal_wf hn
  refine ⟨_, run_convert_float_int w s d .f64 .i64 _ n h1 (WO_ hk) hn, ?_⟩
  simp only [bi8, hn, Option.getD_some]
  refine x1_ ?_
  simpa [Lit.wf, IntKind.min, IntKind.max, IntKind.signed, IntKind.bits, InR] using hb
theorem UJ_ {l : Int} {n : Nat} (code : BoundsCode) (h0 : 0 ≤ l) (h1 : l ≤ n) : (Instr.sliceBound (.int .i64 l) n code).run P w = .ok l.toNat w := by
 have hc : (0 ≤ l ∧ l ≤ (n : Int)) := ⟨h0, h1⟩
 simp [Instr.sliceBound, asIntOf, hc]
theorem UK_ {t e : TypeId} (hk : xz_ P t = .sl e) {a : Option Addr} {n cap : Nat} {l : Int} {hi : Option Value} {h : Nat} (hl0 : 0 ≤ l) (hlh : l ≤ h) (hhn : h ≤ n) (hnc : n ≤ cap)
  (hhi : (hi = none ∧ h = n) ∨ hi = some (.int .i64 (h : Int))) (lo : Option Value) (hlo : lo = some (.int .i64 l) ∨ (lo = none ∧ l = 0)) :
  (Instr.sliceAt t (.slice a n cap) lo hi none).run P w = .ok (.slice (if cap = l.toNat then a else a.map (·.add l.toNat)) (h - l.toNat) (cap - l.toNat)) w := by
 obtain ⟨h2, h3⟩ := YZ_ hk
 have hs := yC_ (P := P) (e := e) (n := 0) h3 w
 have b1 : ∀ code, (Instr.sliceBound (.int .i64 (h : Int)) cap code).run P w = .ok h w := fun code => by
  have := UJ_ (P := P) (w := w) (l := (h : Int)) (n := cap) code (by omega) (by omega)
  simpa using this
 have b2 : ∀ code, (Instr.sliceBound (.int .i64 l) h code).run P w = .ok l.toNat w := fun code => UJ_ code hl0 hlh
 have hbounds : (Instr.sliceBounds true n cap lo hi none).run P w = .ok (l.toNat, h, cap) w := by
  rcases hhi with ⟨rfl, rfl⟩ | rfl <;> rcases hlo with rfl | ⟨rfl, rfl⟩ <;> simp [Instr.sliceBounds, b1, b2]
 have hm : (cap = l.toNat) = (cap = l.toNat) := rfl
 simp [Instr.sliceAt, Instr.slice, run_underlying h2, hbounds, hs]
theorem SlC.cap {S : Nat → Prop} {us : List Value} {a : Option Addr} {n cap : Nat} (h : SlC w S us (.slice a n cap)) : n = us.length ∧ n ≤ cap := by
 rcases h with ⟨⟨_, h1⟩, h2⟩ | ⟨b, off, c, h1, h2, _⟩
 ·cases h1; simp [h2]
 ·cases h1; exact ⟨rfl, h2⟩
theorem OwnSl.cap {fp : List Nat} {us : List Value} {a : Option Addr} {n cap : Nat} (h : OwnSl w fp us (.slice a n cap)) : n = us.length ∧ n ≤ cap := by
 rcases h.cell with ⟨h1, h2⟩ | ⟨b, off, c, h1, _, h2, _⟩
 ·cases h1; simp [h2]
 ·cases h1; exact ⟨rfl, h2⟩
theorem addr_add_add (x : Addr) (j l : Nat) : (x.add j).add l = x.add (j + l) := by
 unfold Addr.add
 by_cases h1 : j = 0 <;> by_cases h2 : l = 0 <;> simp_all [Nat.add_assoc]
theorem an7 {cap lo hi l h : Nat} {a a' : Option Addr} (ha : am8 cap lo a a') (h1 : h ≤ hi - lo) (h2 : l ≤ h) (h3 : hi ≤ cap) : am8 cap (lo + l) a (if cap - lo = l then a' else a'.map (·.add l)) := by
 obtain ⟨j, hj, hj2, rfl⟩ := ha
 by_cases hc : cap - lo = l
 ·rw [if_pos hc]
  exact ⟨j, by omega, fun h' => hj2 (by omega) ▸ (by omega), rfl⟩
 ·rw [if_neg hc]
  refine ⟨j + l, by omega, fun _ => by rw [hj2 (by omega)], ?_⟩
  cases a <;> simp [addr_add_add]
theorem wH_ (ho : Owns cx H w ι F) {t : TypeId} {x lo hi v : AV} {b : Bool} {ux ulo uhi : Value} (h : XT_ P H true t x lo hi v b) (hx : rep (mem cx w H ι F) x ux)
  (hlo : rep (mem cx w H ι F) lo ulo) (hhi : b = true → rep (mem cx w H ι F) hi uhi) :
  ∃ z, rep (mem cx w H ι F) v z ∧ (Instr.sliceAt t ux (some ulo) (if b then some uhi else none) none).run P w = .ok z w ∧ (ulo = .int .i64 0 → (Instr.sliceAt t ux none (if b then some uhi else none) none).run P w = .ok z w) := by
 unfold XT_ at h
 split at h <;> first | exact h.elim | skip
 rename_i l
 simp only [rep] at hlo
 obtain ⟨rfl, _⟩ := hlo
 generalize hk : xz_ P t = k at h
 have fin : ∀ {e : TypeId}, k = .sl e → ∀ {a : Option Addr} {n cap : Nat} {h : Nat}, ux = .slice a n cap → 0 ≤ l → l ≤ h → h ≤ n → n ≤ cap → ((b = false ∧ h = n) ∨ (b = true ∧ uhi = .int .i64 (h : Int))) →
   ∀ v, rep (mem cx w H ι F) v (.slice (if cap = l.toNat then a else a.map (·.add l.toNat)) (h - l.toNat) (cap - l.toNat)) →
   ∃ z, rep (mem cx w H ι F) v z ∧ (Instr.sliceAt t ux (some (.int .i64 l)) (if b then some uhi else none) none).run P w = .ok z w ∧ (Value.int .i64 l = .int .i64 0 → (Instr.sliceAt t ux none (if b then some uhi else none) none).run P w = .ok z w) := by
  intro e hke a n cap h hux h0 h1 h2 h3 hb v hv
  subst hke
  subst hux
  refine ⟨_, hv, UK_ hk h0 h1 h2 h3 ?_ _ (.inl rfl), fun hl => UK_ hk h0 h1 h2 h3 ?_ _ (.inr ⟨rfl, by cases hl; rfl⟩)⟩ <;>
   (rcases hb with ⟨rfl, rfl⟩ | ⟨rfl, rfl⟩ <;> simp)
 split at h
 ·rename_i e id path
  split at h <;> first | exact h.elim | skip
  rename_i n f he
  simp only [rep] at hx
  obtain ⟨us, fp, k1, k2, _, _⟩ := yN_ ho he hx.2
  obtain ⟨a, n', cap, rfl, hn⟩ := Za_ k1
  have hml := zL_ k1
  have hc := k1.cap
  split at h
  ·rename_i hbt
   split at h <;> first | exact h.elim | skip
   rename_i q
   obtain ⟨hb, rfl⟩ := h
   obtain ⟨h0, h1, h2⟩ := hb (by trivial)
   have hq := hhi hbt
   simp only [rep] at hq
   obtain ⟨rfl, _⟩ := hq
   refine fin rfl (h := q.toNat) rfl h0 (by omega) (by omega) hc.2 (.inr ⟨hbt, by congr 1; omega⟩) _ ?_
   simp only [rep]
   exact ⟨hx.1, a, n', cap, _, hx.2, by omega, by omega, by omega, Vs_ .., rfl⟩
  ·rename_i hbf
   obtain ⟨hb, rfl⟩ := h
   obtain ⟨h0, h1⟩ := hb (by trivial)
   refine fin rfl (h := n) rfl h0 (by omega) (by omega) hc.2 (.inl ⟨by simpa using hbf, by omega⟩) _ ?_
   simp only [rep]
   exact ⟨hx.1, a, n', cap, _, hx.2, by omega, by omega, by omega, Vs_ .., rfl⟩
 ·simp only [rep] at hx
  subst hx
  split at h
  ·rename_i hbt
   split at h <;> first | exact h.elim | skip
   rename_i q
   obtain ⟨hb, rfl⟩ := h
   obtain ⟨h0, h1⟩ := hb (by trivial)
   have hq := hhi hbt
   simp only [rep] at hq
   obtain ⟨rfl, _⟩ := hq
   subst h0; subst h1
   refine fin rfl (a := none) (n := 0) (cap := 0) (h := 0) rfl (by omega) (by omega) (by omega) (by omega) (.inr ⟨hbt, rfl⟩) _ ?_
   simp [rep]
  ·rename_i hbf
   obtain ⟨hb, rfl⟩ := h
   have h0 := hb (by trivial)
   subst h0
   refine fin rfl (a := none) (n := 0) (cap := 0) (h := 0) rfl (by omega) (by omega) (by omega) (by omega) (.inl ⟨by simpa using hbf, rfl⟩) _ ?_
   simp [rep]
 ·rename_i e id path lo0 hi0
  split at h <;> first | exact h.elim | skip
  rename_i nf he
  obtain ⟨n0, f⟩ := nf
  simp only [rep] at hx
  obtain ⟨hd, a, n, cap, a', k1, k2, k3, k4, ca, rfl⟩ := hx
  obtain ⟨us, fp, j1, j2, _, _⟩ := yN_ ho he k1
  have hc := j1.cap
  have res : ∀ {h : Nat}, 0 ≤ l → l ≤ h → h ≤ hi0 - lo0 → rep (mem cx w H ι F) (.sub id path (lo0 + l.toNat) (lo0 + h)) (.slice (if cap - lo0 = l.toNat then a' else a'.map (·.add l.toNat)) (h - l.toNat) (cap - lo0 - l.toNat)) := by
   intro h q0 q1 q2
   simp only [rep]
   refine ⟨hd, a, n, cap, _, k1, by omega, by omega, k4, an7 ca q2 (by omega) (by omega), ?_⟩
   congr 1 <;> omega
  split at h
  ·rename_i hbt
   split at h <;> first | exact h.elim | skip
   rename_i q
   obtain ⟨hb, rfl⟩ := h
   obtain ⟨h0, h1, h2⟩ := hb (by trivial)
   have hq := hhi hbt
   simp only [rep] at hq
   obtain ⟨rfl, _⟩ := hq
   exact fin rfl (h := q.toNat) rfl h0 (by omega) (by omega) (by omega) (.inr ⟨hbt, by congr 1; omega⟩) _ (res h0 (by omega) (by omega))
  ·rename_i hbf
   obtain ⟨hb, rfl⟩ := h
   obtain ⟨h0, h1⟩ := hb (by trivial)
   have := res (h := hi0 - lo0) h0 (by omega) (by omega)
   have e : lo0 + (hi0 - lo0) = hi0 := by omega
   rw [e] at this
   exact fin rfl (h := hi0 - lo0) rfl h0 (by omega) (by omega) (by omega) (.inl ⟨by simpa using hbf, by omega⟩) _ this
 ·split at h <;> first | exact h.elim | skip
  rename_i n f he
  obtain ⟨us, k1, k2, _⟩ := wC_ he hx
  obtain ⟨a, n', cap, rfl, hn⟩ := Vw_ k1
  have hml := Yo_ k1
  have hc := k1.cap
  split at h
  ·rename_i hbt
   split at h <;> first | exact h.elim | skip
   rename_i q
   obtain ⟨hb, hcut⟩ := h
   obtain ⟨h0, h1, h2⟩ := hb (by trivial)
   have hq := hhi hbt
   simp only [rep] at hq
   obtain ⟨rfl, _⟩ := hq
   exact fin rfl (h := q.toNat) rfl h0 (by omega) (by omega) hc.2 (.inr ⟨hbt, by congr 1; omega⟩) _ (Vv_ hcut hx (by omega) (by omega) (Vs_ ..))
  ·rename_i hbf
   obtain ⟨hb, hcut⟩ := h
   obtain ⟨h0, h1⟩ := hb (by trivial)
   exact fin rfl (h := n) rfl h0 (by omega) (by omega) hc.2 (.inl ⟨by simpa using hbf, by omega⟩) _ (Vv_ hcut hx (by omega) (by omega) (Vs_ ..))
 ·exact h.elim
end
end Go.Aw
namespace Go.Aw
open Go.RowKit
mutual
def xp_ (q : Nat → List Nat → Bool) : AV → AV
 | .ref id p => if q id p then .junk else .ref id p
 | .sub id p lo hi => if q id p then .junk else .sub id p lo hi
 | .eref id p i => if q id p then .junk else .eref id p i
 | .bptr id off => if q id [] then .junk else .bptr id off
 | .lv vs => .lv (xA_ q vs)
 | .agg vs => .agg (xA_ q vs)
 | .tup vs => .tup (xA_ q vs)
 | .fn f vs => .fn f (xA_ q vs)
 | .cptr vs off => .cptr (xA_ q vs) off
 | .eptr av i => .eptr (xp_ q av) i
 | .when g v => .when g (xp_ q v)
 | x => x
def xA_ (q : Nat → List Nat → Bool) : List AV → List AV
 | [] => []
 | a :: as => xp_ q a :: xA_ q as
end
def x4_ (q : Nat → List Nat → Bool) : Tree → Tree
 | .lv vs => .lv (xA_ q vs)
 | .bx vs => .bx (xA_ q vs)
 | .mx x i j u v => .mx x i j (xp_ q u) (xp_ q v)
 | t => t
def Mem.less (m : Mem) (q : Nat → List Nat → Bool) : Mem := { m with D := fun i p => m.D i p ∧ q i p = false }
mutual
theorem zo_ {m : Mem} {q : Nat → List Nat → Bool} : ∀ (av : AV) (v : Value), rep m av v → rep (m.less q) (xp_ q av) v
 | .int _, _, hr => by simpa only [rep, xp_] using hr
 | .flt _, _, hr | .ik _ _, _, hr => by simpa only [rep, xp_] using hr
 | .bool _, _, hr => by simpa only [rep, xp_] using hr
 | .str _, _, hr => by simpa only [rep, xp_] using hr
 | .nil, _, hr => by simpa only [rep, xp_] using hr
 | .nilfn, _, hr => by simpa only [rep, xp_] using hr
 | .l1 _, _, hr => by simp only [rep, xp_] at hr ⊢; exact hr
 | .l2 _, _, hr => by simp only [rep, xp_] at hr ⊢; exact hr
 | .l3 _, _, hr => by simp only [rep, xp_] at hr ⊢; exact hr
 | .lp _ _, _, hr => by simp only [rep, xp_] at hr ⊢; exact hr
 | .val _, _, hr => by simp only [rep, xp_] at hr ⊢; exact hr
 | .lv vs, _, hr => by
  simp only [rep, xp_] at hr ⊢
  obtain ⟨us, h1, h2⟩ := hr
  exact ⟨us, h1, y5_ vs us h2⟩
 | .agg vs, _, hr => by
  simp only [rep, xp_] at hr ⊢
  obtain ⟨us, h1, h2⟩ := hr
  exact ⟨us, h1, y5_ vs us h2⟩
 | .tup vs, _, hr => by
  simp only [rep, xp_] at hr ⊢
  obtain ⟨us, h1, h2⟩ := hr
  exact ⟨us, h1, y5_ vs us h2⟩
 | .fn _ vs, _, hr => by
  simp only [rep, xp_] at hr ⊢
  obtain ⟨us, h1, h2⟩ := hr
  exact ⟨us, h1, y5_ vs us h2⟩
 | .eptr av i, _, hr => by
  simp only [rep, xp_] at hr ⊢
  obtain ⟨b, off, n, cap, h1, h2, h3⟩ := hr
  exact ⟨b, off, n, cap, zo_ av _ h1, h2, h3⟩
 | .cptr vs off, _, hr => by
  simp only [rep, xp_] at hr ⊢
  obtain ⟨b, us, h1, h2, h3, h4⟩ := hr
  exact ⟨b, us, h1, h2, h3, y5_ vs us h4⟩
 | .when g x, _, hr => by
  simp only [rep, xp_] at hr ⊢
  exact ⟨fun hg => zo_ x _ (hr.1 hg), hr.2⟩
 | .junk, _, _ => by simp only [rep, xp_]
 | .ref id p, _, hr => by
  simp only [xp_]
  split
  ·simp only [rep]
  ·rename_i hq; simp only [rep] at hr ⊢; exact ⟨⟨hr.1, by simpa using hq⟩, hr.2⟩
 | .sub id p lo hi, _, hr => by
  simp only [xp_]
  split
  ·simp only [rep]
  ·rename_i hq; simp only [rep] at hr ⊢; exact ⟨⟨hr.1, by simpa using hq⟩, hr.2⟩
 | .eref id p i, _, hr => by
  simp only [xp_]
  split
  ·simp only [rep]
  ·rename_i hq; simp only [rep] at hr ⊢; exact ⟨⟨hr.1, by simpa using hq⟩, hr.2⟩
 | .bptr id off, _, hr => by
  simp only [xp_]
  split
  ·simp only [rep]
  ·rename_i hq; simp only [rep] at hr ⊢; exact ⟨⟨hr.1, by simpa using hq⟩, hr.2⟩
theorem y5_ {m : Mem} {q : Nat → List Nat → Bool} : ∀ (vs : List AV) (us : List Value), reps m vs us → reps (m.less q) (xA_ q vs) us
 | [], _, hr => by simpa only [reps, xA_] using hr
 | a :: as, _, hr => by
  simp only [reps, xA_] at hr ⊢
  obtain ⟨u, us', h1, h2, h3⟩ := hr
  exact ⟨u, us', h1, zo_ a u h2, y5_ as us' h3⟩
end
theorem y0_ {m : Mem} {q : Nat → List Nat → Bool} {fp : List Nat} : ∀ {t : Tree} {v : Value}, treeRep m fp t v → treeRep (m.less q) fp (x4_ q t) v
 | .t1 _, _, h => h
 | .t2 _, _, h => h
 | .t3 _, _, h => h
 | .r2 _, _, h => h
 | .r3 _, _, h => h
 | .a3 _ _, _, h => h
 | .mx _ _ _ _ _, _, ⟨us, f0, fs, h1, h2, h3, h4, h5, h6, h7⟩ => ⟨us, f0, fs, h1, h2, h3, h4, h5, fun y hy => zo_ _ _ (h6 y hy), fun y hy => zo_ _ _ (h7 y hy)⟩
 | .lv vs, _, ⟨us, h1, h2⟩ => ⟨us, h1, y5_ vs us h2⟩
 | .tp _, _, h => h
 | .tq _ _, _, h => h
 | .bx vs, _, ⟨b, us, E, h1, h2, h3, h4⟩ => ⟨b, us, E, h1, h2, h3, y5_ vs us h4⟩
def x8_ : List (Nat × Tree) → Nat → Tree → List (Nat × Tree)
 | [], id, t => [(id, t)]
 | (k, x) :: r, id, t => if k = id then (id, t) :: r else (k, x) :: x8_ r id t
def rmT (R : List Nat) (H : List (Nat × Tree)) : List (Nat × Tree) := H.filter fun p => !R.contains p.1
def xt_ (q : Nat → List Nat → Bool) (H : List (Nat × Tree)) : List (Nat × Tree) := H.map fun p => (p.1, x4_ q p.2)
theorem find_none {id : Nat} : ∀ {H : List (Nat × Tree)}, find H id = none ↔ id ∉ ids H
 | [] => by simp [find, ids]
 | (k, t) :: r => by
  have ih := find_none (id := id) (H := r)
  simp only [find, ids, List.map_cons, List.mem_cons, not_or] at ih ⊢
  split
  ·rename_i h; subst h; simp
  ·rename_i h; rw [ih]; exact ⟨fun h' => ⟨fun e => h e.symm, h'⟩, fun h' => h'.2⟩
theorem x5_ {p : Nat × Tree} : ∀ {H : List (Nat × Tree)}, (ids H).Nodup → p ∈ H → find H p.1 = some p.2
 | [], _, h => by simp at h
 | (k, t) :: r, hn, h => by
  simp only [ids, List.map_cons, List.nodup_cons] at hn
  rcases List.mem_cons.1 h with rfl | h
  ·simp [find]
  ·have : k ≠ p.1 := fun e => hn.1 (e ▸ List.mem_map.2 ⟨p, h, rfl⟩)
   simp only [find, if_neg this]
   exact x5_ hn.2 h
theorem wI_ {id k : Nat} {t : Tree} : ∀ {H : List (Nat × Tree)}, find (x8_ H id t) k = if k = id then some t else find H k
 | [] => by
  simp only [x8_, find]
  by_cases h : id = k
  ·subst h; simp
  ·rw [if_neg h, if_neg (fun e => h e.symm)]
 | (j, x) :: r => by
  simp only [x8_]
  split
  ·rename_i hj; subst hj
   simp only [find]
   by_cases h : j = k
   ·subst h; simp
   ·rw [if_neg h, if_neg (fun e => h e.symm), if_neg h]
  ·rename_i hj
   simp only [find]
   by_cases h : j = k
   ·subst h; rw [if_pos rfl, if_neg hj, if_pos rfl]
   ·rw [if_neg h, if_neg h]; exact wI_
theorem XX_ {R : List Nat} {k : Nat} : ∀ {H : List (Nat × Tree)}, find (rmT R H) k = if R.contains k then none else find H k
 | [] => by simp [rmT, find]
 | (j, x) :: r => by
  have ih := XX_ (R := R) (k := k) (H := r)
  simp only [rmT, List.filter_cons] at ih ⊢
  by_cases hj : R.contains j = true
  ·simp only [hj, Bool.not_true, Bool.false_eq_true, if_false]
   rw [ih]
   by_cases h : j = k
   ·subst h; simp only [hj, if_true]
   ·simp only [find, if_neg h]
  ·simp only [hj, Bool.not_false, if_true, find]
   by_cases h : j = k
   ·subst h; simp only [if_true]; rw [if_neg hj]
   ·rw [if_neg h, if_neg h]; exact ih
theorem zg_ {q : Nat → List Nat → Bool} {k : Nat} : ∀ {H : List (Nat × Tree)}, find (xt_ q H) k = (find H k).map (x4_ q)
 | [] => rfl
 | (j, x) :: r => by
  have ih := zg_ (q := q) (k := k) (H := r)
  simp only [xt_, List.map_cons, find] at ih ⊢
  split
  ·rfl
  ·exact ih
theorem wJ_ {id : Nat} {t : Tree} : ∀ {H : List (Nat × Tree)} {k : Nat}, k ∈ ids (x8_ H id t) → k = id ∨ k ∈ ids H
 | [], k, h => by simp [x8_, ids] at h; exact .inl h
 | (j, x) :: r, k, h => by
  simp only [x8_] at h
  split at h
  ·rename_i hj
   simp only [ids, List.map_cons, List.mem_cons] at h ⊢
   rcases h with h | h
   ·exact .inl h
   ·exact .inr (.inr h)
  ·simp only [ids, List.map_cons, List.mem_cons] at h ⊢
   rcases h with h | h
   ·exact .inr (.inl h)
   ·rcases wJ_ (H := r) h with h | h
    ·exact .inl h
    ·exact .inr (.inr h)
theorem VA_ {id : Nat} {t : Tree} : ∀ {H : List (Nat × Tree)}, (ids H).Nodup → (ids (x8_ H id t)).Nodup
 | [], _ => by simp [x8_, ids]
 | (j, x) :: r, h => by
  simp only [ids, List.map_cons, List.nodup_cons] at h
  simp only [x8_]
  split
  ·rename_i hj; subst hj; simpa only [ids, List.map_cons, List.nodup_cons] using h
  ·rename_i hj
   simp only [ids, List.map_cons, List.nodup_cons]
   refine ⟨fun hm => ?_, VA_ h.2⟩
   rcases wJ_ (H := r) hm with e | e
   ·exact hj e
   ·exact h.1 e
def zY_ {α : Type} (f : Nat → α) (id : Nat) (x : α) : Nat → α := fun k => if k = id then x else f k
theorem Zb_ {id : Nat} {t : Tree} {p : Nat × Tree} : ∀ {H : List (Nat × Tree)}, p ∈ x8_ H id t → p = (id, t) ∨ (p ∈ H ∧ p.1 ≠ id) ∨ (p ∈ H ∧ p.1 = id ∧ ¬ (ids H).Nodup)
 | [], h => by simp [x8_] at h; exact .inl h
 | (j, x) :: r, h => by
  simp only [x8_] at h
  split at h
  ·rename_i hj; subst hj
   rcases List.mem_cons.1 h with h | h
   ·exact .inl h
   ·by_cases hp : p.1 = j
    ·refine .inr (.inr ⟨List.mem_cons_of_mem _ h, hp, fun hn => ?_⟩)
     simp only [ids, List.map_cons, List.nodup_cons] at hn
     exact hn.1 (List.mem_map.2 ⟨p, h, hp⟩)
    ·exact .inr (.inl ⟨List.mem_cons_of_mem _ h, hp⟩)
  ·rename_i hj
   rcases List.mem_cons.1 h with h | h
   ·subst h; exact .inr (.inl ⟨List.mem_cons_self .., hj⟩)
   ·rcases Zb_ (H := r) h with h | ⟨h1, h2⟩ | ⟨h1, h2, h3⟩
    ·exact .inl h
    ·exact .inr (.inl ⟨List.mem_cons_of_mem _ h1, h2⟩)
    ·refine .inr (.inr ⟨List.mem_cons_of_mem _ h1, h2, fun hn => h3 ?_⟩)
     simp only [ids, List.map_cons, List.nodup_cons] at hn
     exact hn.2
theorem ym_ {p : Nat × Tree} {H : List (Nat × Tree)} {F : Nat → List Nat} : xW_ (p :: H) F = F p.1 ++ xW_ H F := by simp [xW_]
theorem mem_foot {H : List (Nat × Tree)} {F : Nat → List Nat} {b : Nat} : b ∈ xW_ H F ↔ ∃ p ∈ H, b ∈ F p.1 := by
 simp only [xW_, List.mem_flatten, List.mem_map]
 constructor
 ·rintro ⟨l, ⟨p, hp, rfl⟩, hb⟩; exact ⟨p, hp, hb⟩
 ·rintro ⟨p, hp, hb⟩; exact ⟨_, ⟨p, hp, rfl⟩, hb⟩
theorem ZS_ {H : List (Nat × Tree)} {F : Nat → List Nat} {id : Nat} {fp : List Nat} (h : id ∉ ids H) : xW_ H (zY_ F id fp) = xW_ H F := by
 unfold xW_
 congr 1
 refine List.map_congr_left fun p hp => ?_
 have : p.1 ≠ id := fun e => h (e ▸ List.mem_map.2 ⟨p, hp, rfl⟩)
 simp [zY_, this]
theorem zp_ {H : List (Nat × Tree)} {F : Nat → List Nat} {id : Nat} {t : Tree} {fp : List Nat} {b : Nat} (hn : (ids H).Nodup) :
  b ∈ xW_ (x8_ H id t) (zY_ F id fp) → b ∈ fp ∨ ∃ p ∈ H, p.1 ≠ id ∧ b ∈ F p.1 := by
 intro h
 obtain ⟨p, hp, hb⟩ := mem_foot.1 h
 rcases Zb_ hp with rfl | ⟨h1, h2⟩ | ⟨_, _, h3⟩
 ·simp only [zY_, if_true] at hb; exact .inl hb
 ·simp only [zY_, if_neg h2] at hb; exact .inr ⟨p, h1, h2, hb⟩
 ·exact absurd hn h3
theorem z5_ {F : Nat → List Nat} {id : Nat} {t : Tree} {fp : List Nat} (hfp : fp.Nodup) : ∀ {H : List (Nat × Tree)}, (ids H).Nodup → (xW_ H F).Nodup →
  (∀ b ∈ fp, ∀ p ∈ H, p.1 ≠ id → b ∉ F p.1) → (xW_ (x8_ H id t) (zY_ F id fp)).Nodup
 | [], _, _, _ => by simpa [x8_, xW_, zY_] using hfp
 | (k, x) :: r, hn, hf, hd => by
  rw [ym_, List.nodup_append] at hf
  simp only [ids, List.map_cons, List.nodup_cons] at hn
  simp only [x8_]
  split
  ·rename_i hk; subst hk
   rw [ym_, ZS_ (by exact hn.1), List.nodup_append]
   refine ⟨by simpa [zY_] using hfp, hf.2.1, fun a ha b hb e => ?_⟩
   subst e
   simp only [zY_, if_true] at ha
   obtain ⟨p, hp, hb⟩ := mem_foot.1 hb
   exact hd a ha p (List.mem_cons_of_mem _ hp) (fun e => hn.1 (e ▸ List.mem_map.2 ⟨p, hp, rfl⟩)) hb
  ·rename_i hk
   rw [ym_, List.nodup_append]
   refine ⟨by simpa [zY_, hk] using hf.1, z5_ hfp hn.2 hf.2.1 (fun b hb p hp => hd b hb p (List.mem_cons_of_mem _ hp)), fun a ha b hb e => ?_⟩
   subst e
   simp only [zY_, if_neg hk] at ha
   rcases zp_ (t := t) hn.2 hb with hb | ⟨p, hp, _, hb⟩
   ·exact hd a hb (k, x) (List.mem_cons_self ..) hk ha
   ·exact hf.2.2 a ha a (mem_foot.2 ⟨p, hp, hb⟩) rfl
theorem mem_rmT {R : List Nat} {H : List (Nat × Tree)} {p : Nat × Tree} : p ∈ rmT R H ↔ p ∈ H ∧ p.1 ∉ R := by
 simp [rmT, List.mem_filter]
theorem yK_ (R : List Nat) (F : Nat → List Nat) : ∀ (H : List (Nat × Tree)), (xW_ (rmT R H) F).Sublist (xW_ H F)
 | [] => by simp [rmT, xW_]
 | (k, x) :: r => by
  simp only [rmT, List.filter_cons]
  split
  ·rw [ym_, ym_]; exact (List.Sublist.refl _).append (yK_ R F r)
  ·rw [ym_]; exact (yK_ R F r).trans (List.sublist_append_right _ _)
theorem ZT_ {R : List Nat} {H : List (Nat × Tree)} (h : (ids H).Nodup) : (ids (rmT R H)).Nodup := by
 unfold ids rmT
 exact h.sublist ((List.filter_sublist).map _)
theorem zq_ {q : Nat → List Nat → Bool} {H : List (Nat × Tree)} : ids (xt_ q H) = ids H := by simp [ids, xt_]
theorem y1_ {q : Nat → List Nat → Bool} {H : List (Nat × Tree)} {F : Nat → List Nat} : xW_ (xt_ q H) F = xW_ H F := by simp [xW_, xt_, Function.comp_def]
theorem yO_ {q : Nat → List Nat → Bool} {t : Option Tree} {p : List Nat} : xq_ (t.map (x4_ q)) p = xq_ t p := by
 cases t with
 | none => rfl
 | some t => cases t <;> cases p <;> simp [x4_, xq_]
section
variable {cx : Cx} {H : List (Nat × Tree)} {w w' : World} {ι : Nat → Value} {F : Nat → List Nat}
theorem ZU_ (ho : Owns cx H w ι F) {id : Nat} {p : List Nat} (hl : xq_ (find H id) p = true) (hb : ∀ b ∈ F id, w'.heap[b]? = w.heap[b]?) {v : Value} (h : xl_ w (ι id) p = some v) : xl_ w' (ι id) p = some v := by
 match p, h with
 | [], h => simpa [xl_] using h
 | i :: p, h =>
  cases hf : find H id with
  | none => rw [hf] at hl; simp [xq_] at hl
  | some t =>
   rw [hf] at hl
   have ht := ho.trees _ (xc_ hf)
   simp only [mem] at ht
   obtain ⟨b, off, n, cap, x, hv, hi, hc, hx⟩ := xB_ h
   match t, p, hl with
   | .t2 xss, [], _ =>
    simp only [treeRep] at ht
    obtain ⟨us, f0, fs, h1, h2, h3⟩ := ht
    rcases h1.cell with ⟨k1, _⟩ | ⟨b', off', cap', k1, k2, _⟩
    ·rw [hv] at k1; cases k1
    ·rw [hv] at k1; cases k1
     rw [hv, xJ_ hi (by rw [cell_of_heap (hb b (by simp [h3, k2]))]; exact hc)]
     simpa [xl_] using hx
   | .tq xss _, [], _ =>
    simp only [treeRep] at ht
    obtain ⟨us, f0, fs, h1, h2, h3⟩ := ht.1
    rcases h1.cell with ⟨k1, _⟩ | ⟨b', off', cap', k1, k2, _⟩
    ·rw [hv] at k1; cases k1
    ·rw [hv] at k1; cases k1
     rw [hv, xJ_ hi (by rw [cell_of_heap (hb b (by simp [h3, k2]))]; exact hc)]
     simpa [xl_] using hx
   | .t3 xss, [], _ =>
    simp only [treeRep] at ht
    obtain ⟨us, f0, fs, h1, h2, h3⟩ := ht
    rcases h1.cell with ⟨k1, _⟩ | ⟨b', off', cap', k1, k2, _⟩
    ·rw [hv] at k1; cases k1
    ·rw [hv] at k1; cases k1
     rw [hv, xJ_ hi (by rw [cell_of_heap (hb b (by simp [h3, k2]))]; exact hc)]
     simpa [xl_] using hx
   | .t3 xss, [j], _ =>
    simp only [treeRep] at ht
    obtain ⟨us, f0, fs, h1, h2, h3⟩ := ht
    obtain ⟨y, hy, hp⟩ := h1.row h
    have hl : i < xss.length := by rw [h2.length.2]; exact (List.getElem?_eq_some_iff.1 hy).1
    obtain ⟨a, c, ha, hcc, hr⟩ := h2.get i _ (getD_some (d := []) hl)
    rw [hy] at hcc; cases hcc
    obtain ⟨us', g0, gs, j1, j2, j3⟩ := hr
    rcases h1.cell with ⟨k1, _⟩ | ⟨b', off', cap', k1, k2, _, _, k5⟩
    ·rw [hv] at k1; cases k1
    ·rw [hv] at k1; cases k1
     have hyx : y = x := by have := k5 i y hy; rw [hc] at this; cases this; rfl
     subst hyx
     rw [hv, xJ_ hi (by rw [cell_of_heap (hb b (by simp [h3, k2]))]; exact hc)]
     obtain ⟨b2, off2, n2, cap2, x2, hv2, hi2, hc2, hx2⟩ := xB_ hx
     rcases j1.cell with ⟨l1, _⟩ | ⟨b3, off3, cap3, l1, l2, _⟩
     ·rw [hv2] at l1; cases l1
     ·rw [hv2] at l1; cases l1
      rw [hv2, xJ_ hi2 (by
       rw [cell_of_heap (hb b2 (by
        rw [h3]; simp only [List.mem_append, List.mem_flatten]
        exact .inr ⟨a, List.mem_of_getElem? ha, by simp [j3, l2]⟩))]
       exact hc2)]
      simpa [xl_] using hx2
   | .a3 xss σ, [], _ =>
    simp only [treeRep] at ht
    obtain ⟨rows, f0, fs, h1, h2, h3, h4⟩ := ht
    rcases h1.cell with ⟨k1, _⟩ | ⟨b', off', cap', k1, k2, _⟩
    ·rw [hv] at k1; cases k1
    ·rw [hv] at k1; cases k1
     rw [hv, xJ_ hi (by rw [cell_of_heap (hb b (by simp [h4, k2]))]; exact hc)]
     simpa [xl_] using hx
   | .a3 xss σ, [j], _ =>
    simp only [treeRep] at ht
    obtain ⟨y, f, hi', hk, hy, hr, hfp, hyp⟩ := A3.row ht h
    obtain ⟨rows, f0, fs, h1, h2, h3, h4⟩ := ht
    have hyx : y = x := by
     rw [hv, xJ_ hi hc] at hy
     simpa [xl_] using hy.symm
    subst hyx
    rcases h1.cell with ⟨k1, _⟩ | ⟨b', off', cap', k1, k2, _⟩
    ·rw [hv] at k1; cases k1
    ·rw [hv] at k1; cases k1
     rw [hv, xJ_ hi (by rw [cell_of_heap (hb b (by simp [h4, k2]))]; exact hc)]
     obtain ⟨us', g0, gs, j1, j2, j3⟩ := hr
     obtain ⟨b2, off2, n2, cap2, x2, hv2, hi2, hc2, hx2⟩ := xB_ hx
     rcases j1.cell with ⟨l1, _⟩ | ⟨b3, off3, cap3, l1, l2, _⟩
     ·rw [hv2] at l1; cases l1
     ·rw [hv2] at l1; cases l1
      rw [hv2, xJ_ hi2 (by rw [cell_of_heap (hb b2 (hfp b2 (by simp [j3, l2])))]; exact hc2)]
      simpa [xl_] using hx2
theorem Owns.put (ho : Owns cx H w ι F) (R : List Nat) (id : Nat) (t' : Tree) (v' : Value) (fp' : List Nat) (q : Nat → List Nat → Bool)
  (hk : Keep cx w') (hsz : w.heap.size ≤ w'.heap.size)
  (hblk : ∀ b, b < w.heap.size → (∀ r, (r = id ∨ r ∈ R) → r ∈ Aw.ids H → b ∉ F r) → w'.heap[b]? = w.heap[b]?)
  (hfp : fp'.Nodup) (hfpm : ∀ b ∈ fp', b < w'.heap.size ∧ ((∃ r, (r = id ∨ r ∈ R) ∧ r ∈ Aw.ids H ∧ b ∈ F r) ∨ w.heap.size ≤ b))
  (hq : ∀ r, r ∈ R → ∀ p, q r p = true)
  (hqid : ∀ p, q id p = false → xq_ (find H id) p = true → xq_ (some t') p = true ∧ v' = ι id ∧ ∀ u, xl_ w (ι id) p = some u → xl_ w' (ι id) p = some u)
  (ht : (∀ av v, rep (mem cx w H ι F) av v → rep (mem cx w' (x8_ (xt_ q (rmT R H)) id t') (zY_ ι id v') (zY_ F id fp')) (xp_ q av) v) →
   treeRep (mem cx w' (x8_ (xt_ q (rmT R H)) id t') (zY_ ι id v') (zY_ F id fp')) fp' t' v') :
  Owns cx (x8_ (xt_ q (rmT R H)) id t') w' (zY_ ι id v') (zY_ F id fp') ∧
  ∀ av v, rep (mem cx w H ι F) av v → rep (mem cx w' (x8_ (xt_ q (rmT R H)) id t') (zY_ ι id v') (zY_ F id fp')) (xp_ q av) v := by
 have hn0 : (Aw.ids (xt_ q (rmT R H))).Nodup := by rw [zq_]; exact ZT_ ho.ids
 have hfoot : ∀ b, b ∈ xW_ (x8_ (xt_ q (rmT R H)) id t') (zY_ F id fp') → b ∈ fp' ∨ ∃ p ∈ H, p.1 ∉ R ∧ p.1 ≠ id ∧ b ∈ F p.1 := by
  intro b hb
  rcases zp_ hn0 hb with h | ⟨p, hp, h1, h2⟩
  ·exact .inl h
  ·simp only [xt_, List.mem_map] at hp
   obtain ⟨p0, hp0, rfl⟩ := hp
   rw [mem_rmT] at hp0
   exact .inr ⟨p0, hp0.1, hp0.2, h1, h2⟩
 have himm : ∀ b, imm cx w H F b → imm cx w' (x8_ (xt_ q (rmT R H)) id t') (zY_ F id fp') b ∧ w'.heap[b]? = w.heap[b]? := by
  intro b hb
  refine ⟨⟨hb.1, Nat.lt_of_lt_of_le hb.2.1 hsz, fun hf => ?_⟩, hblk b hb.2.1 fun r _ hri hbr => hb.2.2 ?_⟩
  ·rcases hfoot b hf with h | ⟨p, hp, _, _, h⟩
   ·rcases (hfpm b h).2 with ⟨r, _, hri, hbr⟩ | h
    ·obtain ⟨p, hp, rfl⟩ := List.mem_map.1 hri
     exact hb.2.2 (mem_foot.2 ⟨p, hp, hbr⟩)
    ·have := hb.2.1; omega
   ·exact hb.2.2 (mem_foot.2 ⟨p, hp, h⟩)
  ·obtain ⟨p, hp, rfl⟩ := List.mem_map.1 hri
   exact mem_foot.2 ⟨p, hp, hbr⟩
 have hother : ∀ p ∈ H, p.1 ∉ R → p.1 ≠ id → ∀ b ∈ F p.1, w'.heap[b]? = w.heap[b]? := by
  intro p hp hR hne b hb
  refine hblk b (ho.mine b (mem_foot.2 ⟨p, hp, hb⟩)).1 fun r hr hri hbr => ?_
  obtain ⟨p', hp', rfl⟩ := List.mem_map.1 hri
  have hne' : p.1 ≠ p'.1 := by
   rcases hr with h | h
   ·rw [h]; exact hne
   ·intro e; exact hR (e ▸ h)
  -- two objects share no block
  have : ∀ {H : List (Nat × Tree)}, (xW_ H F).Nodup → p ∈ H → p' ∈ H → p.1 ≠ p'.1 → b ∈ F p.1 → b ∈ F p'.1 → False := by
   intro H
   induction H with
   | nil => intro _ h; cases h
   | cons x r ih =>
    intro hn h1 h2 hne h3 h4
    rw [ym_, List.nodup_append] at hn
    rcases List.mem_cons.1 h1 with e1 | e1 <;> rcases List.mem_cons.1 h2 with e2 | e2
    ·subst e1; exact hne (by rw [e2])
    ·subst e1; exact hn.2.2 b h3 b (mem_foot.2 ⟨p', e2, h4⟩) rfl
    ·subst e2; exact hn.2.2 b h4 b (mem_foot.2 ⟨p, e1, h3⟩) rfl
    ·exact ih hn.2.1 e1 e2 hne h3 h4
  exact this ho.nodup hp hp' hne' hb hbr
 have hle : ((mem cx w H ι F).less q).le (mem cx w' (x8_ (xt_ q (rmT R H)) id t') (zY_ ι id v') (zY_ F id fp')) := by
  refine ⟨himm, fun i p hd => ?_⟩
  obtain ⟨hd, hqf⟩ := hd
  simp only [mem] at hd
  simp only [mem, wI_]
  by_cases hi : i = id
  ·subst hi
   obtain ⟨h1, h2, h3⟩ := hqid p hqf hd
   simp only [if_true, zY_]
   exact ⟨h1, h2, h3⟩
  ·have hiR : i ∉ R := fun h => by rw [hq i h p] at hqf; cases hqf
   simp only [if_neg hi, zY_, zg_, XX_]
   have hc : R.contains i = false := by simpa using hiR
   rw [hc]
   refine ⟨by simpa [yO_] using hd, rfl, fun u hu => ?_⟩
   cases hf : find H i with
   | none => rw [hf] at hd; simp [xq_] at hd
   | some t =>
    exact ZU_ ho hd (hother _ (xc_ hf) hiR hi) hu
 have hrep : ∀ av v, rep (mem cx w H ι F) av v → rep (mem cx w' (x8_ (xt_ q (rmT R H)) id t') (zY_ ι id v') (zY_ F id fp')) (xp_ q av) v :=
  fun av v h => rep.le hle _ _ (zo_ av v h)
 refine ⟨⟨hk, fun p hp => ?_, ?_, fun b hb => ?_, VA_ hn0, Nat.le_trans ho.old hsz⟩, hrep⟩
 ·rcases Zb_ hp with rfl | ⟨h1, h2⟩ | ⟨_, _, h3⟩
  ·simp only [zY_, if_true]
   exact ht hrep
  ·simp only [xt_, List.mem_map] at h1
   obtain ⟨p0, hp0, rfl⟩ := h1
   rw [mem_rmT] at hp0
   simp only [zY_, if_neg h2]
   exact (y0_ (ho.trees p0 hp0.1)).le hle (hother p0 hp0.1 hp0.2 h2)
  ·exact absurd hn0 h3
 ·refine z5_ hfp hn0 ?_ ?_
  ·rw [y1_]; exact ho.nodup.sublist (yK_ R F H)
  ·intro b hb p hp hne hbp
   simp only [xt_, List.mem_map] at hp
   obtain ⟨p0, hp0, rfl⟩ := hp
   rw [mem_rmT] at hp0
   rcases (hfpm b hb).2 with ⟨r, hr, hri, hbr⟩ | h
   ·obtain ⟨p', hp', rfl⟩ := List.mem_map.1 hri
    have hne' : p0.1 ≠ p'.1 := by
     rcases hr with h | h
     ·rw [h]; exact hne
     ·intro e; exact hp0.2 (e ▸ h)
    have : ∀ {H : List (Nat × Tree)}, (xW_ H F).Nodup → p0 ∈ H → p' ∈ H → p0.1 ≠ p'.1 → b ∈ F p0.1 → b ∈ F p'.1 → False := by
     intro H
     induction H with
     | nil => intro _ h; cases h
     | cons x r ih =>
      intro hn h1 h2 hne h3 h4
      rw [ym_, List.nodup_append] at hn
      rcases List.mem_cons.1 h1 with e1 | e1 <;> rcases List.mem_cons.1 h2 with e2 | e2
      ·subst e1; exact hne (by rw [e2])
      ·subst e1; exact hn.2.2 b h3 b (mem_foot.2 ⟨p', e2, h4⟩) rfl
      ·subst e2; exact hn.2.2 b h4 b (mem_foot.2 ⟨p0, e1, h3⟩) rfl
      ·exact ih hn.2.1 e1 e2 hne h3 h4
    exact this ho.nodup hp0.1 hp' hne' hbp hbr
   ·have := (ho.mine b (mem_foot.2 ⟨p0, hp0.1, hbp⟩)).1; omega
 ·rcases hfoot b hb with h | ⟨p, hp, _, _, h⟩
  ·refine ⟨(hfpm b h).1, ?_⟩
   rcases (hfpm b h).2 with ⟨r, _, hri, hbr⟩ | h'
   ·obtain ⟨p', hp', rfl⟩ := List.mem_map.1 hri
    exact (ho.mine b (mem_foot.2 ⟨p', hp', hbr⟩)).2
   ·exact .inl (Nat.le_trans ho.old h')
  ·exact ⟨Nat.lt_of_lt_of_le (ho.mine b (mem_foot.2 ⟨p, hp, h⟩)).1 hsz, (ho.mine b (mem_foot.2 ⟨p, hp, h⟩)).2⟩
end
end Go.Aw
namespace Go.Aw
open Go.RowKit
section
variable {P : Program} {w : World}
structure Turned (w w' : World) (fp : List Nat) : Prop where
 os : w'.os = w.os
 tape : w'.tape = w.tape
 output : w'.output = w.output
 size : w.heap.size ≤ w'.heap.size
 block : ∀ k, k < w.heap.size → k ∉ fp → w'.heap[k]? = w.heap[k]?
theorem Turned.refl (w : World) (fp : List Nat) : Turned w w fp := ⟨rfl, rfl, rfl, Nat.le_refl _, fun _ _ _ => rfl⟩
theorem Ext.turned {w' : World} (h : Ext w w') (fp : List Nat) : Turned w w' fp := ⟨h.os, h.tape, h.output, h.size, fun k hk _ => h.block k hk⟩
theorem Keep.turned {cx : Cx} {w' : World} {fp : List Nat} (h : Keep cx w) (hb : cx.B0 ≤ w.heap.size) (ht : Turned w w' fp) (hm : ∀ b ∈ fp, cx.B0 ≤ b ∨ cx.A0 b) : Keep cx w' :=
 ⟨ht.os.trans h.os, ht.tape.trans h.tape, ht.output.trans h.output, Nat.le_trans h.size ht.size, fun k hk hA => by
  rw [ht.block k (by omega) (fun hf => by rcases hm k hf with h | h; omega; exact hA h)]
  exact h.block k hk hA, h.gl⟩
theorem TY_ (z : Array Value) (n : Nat) : (Builtin.zeroCells z n).size = n * z.size := by simp [Builtin.zeroCells]
theorem ZV_ {S : Nat → Prop} {us : List Value} {v : Value} (h : SlC w S us v) : (Builtin.firstCells 1 us.length v).run P w = .ok us.toArray w := by
 rcases h with ⟨⟨a, rfl⟩, rfl⟩ | ⟨b, off, cap, rfl, _, _, _, h5⟩
 ·cases a with
  | none => exact run_firstCells_none w 1 _ _ _
  | some a => exact run_firstCells_some w 1 0 a 0 0 [] (by simp) (fun j v hv => by simp at hv)
 ·exact run_firstCells_some w 1 us.length ⟨b, off, none⟩ us.length cap us (by simp) (fun j v hv => by rw [yG_]; exact h5 j v hv)
theorem WR_ {t e : TypeId} {i : TypeInfo} {z : Value} (ht : P.underlying t = some (.slice e)) (hi : P.info? e = some i) (hz : i.zero = some z) (h1 : i.size = 1) (hzs : z.cells.size = 1) (hby : i.bytes ≤ 64)
  {fp : List Nat} {us news : List Value} {v x : Value} {S : Nat → Prop} (ho : OwnSl w fp us v) (hx : SlC w S news x) (hone : ∀ u ∈ news, u.oneCell' = true)
  (hlen : us.length + news.length ≤ 1099511627776) (hfpl : ∀ b ∈ fp, b < w.heap.size) (ty : TypeId) :
  ∃ v' w' fp', (Builtin.append_ #[t, t] ty #[v, x]).run P w = .ok v' w' ∧ OwnSl w' fp' (us ++ news) v' ∧ Turned w w' fp ∧ fp'.Nodup ∧ (∀ b ∈ fp', b < w'.heap.size ∧ (b ∈ fp ∨ w.heap.size ≤ b)) := by
 obtain ⟨na, nn, nc, rfl, hnn⟩ := Vw_ hx
 subst hnn
 obtain ⟨va, vn, vc, hv, hvn⟩ := Za_ ho
 subst hvn
 have hcap := (hv ▸ ho).cap
 have hbytes : (us.length + news.length) * i.bytes ≤ 140737488355328 := Nat.le_trans (Nat.mul_le_mul hlen hby) (by decide)
 have hfx := fun (w' : World) (he : ∀ S us v, SlC w S us v → SlC w' S us v) => ZV_ (P := P) (he S news _ hx)
 by_cases hroom : us.length + news.length ≤ vc
 ·-- there is room
  rcases ho with ⟨h1', h2, h3⟩ | ⟨b, off, cap, c, E, h1', h2, h3, h4, h5, h6, h7⟩
  ·subst h2; subst h3
   rw [hv] at h1'; cases h1'
   have hnil : news = [] := List.eq_nil_of_length_eq_zero (by simpa using hroom)
   subst hnil
   refine ⟨.slice none 0 0, w, [], ?_, .inl ⟨rfl, rfl, rfl⟩, Turned.refl _ _, List.nodup_nil, by simp⟩
   subst hv
   have := hfx w (fun _ _ _ h => h)
   simp only [List.length_nil] at this
   simp [Builtin.append_, run_underlying ht, sizeOf, typeInfo, hi, h1, Builtin.lenOf, this]
  ·rw [hv] at h1'; cases h1'
   have hf := hfx w (fun _ _ _ h => h)
   have hst := run_storeCells_at P b (off + us.length) E news 0 c w h3 (by omega) hone
   simp only [Nat.add_zero] at hst
   subst hv
   refine ⟨.slice (some ⟨b, off, none⟩) (us.length + news.length) vc, w.setRow b (c.toList.take (off + us.length) ++ news ++ c.toList.drop (off + us.length + news.length)).toArray, [b], ?_, ?_, ?_, by simp, ?_⟩
   ·simp [Builtin.append_, run_underlying ht, sizeOf, typeInfo, hi, h1, Builtin.lenOf, hroom, hf, yG_, hst]
   ·refine .inr ⟨b, off, vc, _, E, by simp, rfl, setRow_heap w b c _ E _ h3, ?_, by simpa using hroom, h6, fun i u hu => ?_⟩
    ·simp only [List.size_toArray, List.length_append, List.length_take, List.length_drop, Array.length_toList]; omega
    ·simp only [List.getElem?_toArray]
     rw [List.getElem?_append] at hu
     have htl : (c.toList.take (off + us.length)).length = off + us.length := by simp [List.length_take]; omega
     split at hu
     ·rename_i hlt
      have := h7 i u hu
      rw [List.append_assoc, List.getElem?_append_left (by rw [htl]; omega), List.getElem?_take, if_pos (by omega)]
      simpa using this
     ·rename_i hge
      have hl2 := (List.getElem?_eq_some_iff.1 hu).1
      rw [List.append_assoc, List.getElem?_append_right (by rw [htl]; omega), htl, List.getElem?_append_left (by omega)]
      rw [← hu]; congr 1; omega
   ·refine ⟨rfl, rfl, rfl, by simp, fun k _ hk => setRow_other w b k _ (fun e => hk (by simp [h2, e]))⟩
   ·intro k hk
    simp only [List.mem_singleton] at hk
    subst hk
    exact ⟨by simpa using hfpl k (by simp [h2]), .inl (by simp [h2])⟩
 ·-- it grows
  have hn : ¬ (us.length + news.length ≤ vc) := hroom
  have h63' : ¬ (9223372036854775807 < ((us.length : Int) + (news.length : Int))) := by omega
  have h48 := growslice_fits (need := us.length + news.length) (old := vc) (bytes := i.bytes) (by omega) hbytes
  have h48' : ¬ (281474976710656 < Builtin.nextslicecap (us.length + news.length) vc * i.bytes) := by omega
  have hdrew : ∀ S us v, SlC w S us v → SlC w.drew S us v := fun S us v h => by
   rcases h with h | ⟨b, off, cap, k1, k2, k3, k4, k5⟩
   ·exact .inl h
   ·exact .inr ⟨b, off, cap, k1, k2, k3, k4, fun i u hu => by simpa using k5 i u hu⟩
  have hf := hfx w.drew hdrew
  have hfo := ZV_ (P := P) (hdrew _ _ _ (ho.slC (S := fun _ => True) (fun _ _ => trivial)))
  subst hv
  have hge := grownCap_ge w (us.length + news.length) vc e
  have hml := grownCap_le_maxLen w (us.length + news.length) vc e (by simp only [maxLen]; omega)
  refine ⟨.slice (some ⟨w.heap.size, 0, none⟩) (us.length + news.length) (grownCap w (us.length + news.length) vc e),
   w.drew.alloc (.cells (us.toArray ++ news.toArray ++ Builtin.zeroCells z.cells (grownCap w (us.length + news.length) vc e - (us.length + news.length))) e), [w.heap.size], ?_, ?_, ?_, by simp, ?_⟩
  ·simp [Builtin.append_, run_underlying ht, sizeOf, typeInfo, zeroValue, hi, hz, h1, Builtin.lenOf, hn, h63', h48', Question.forced, hf, hfo, newRow, grownCap]
   rw [← List.append_toArray, ← Array.append_assoc]
  ·refine .inr ⟨w.heap.size, 0, _, _, e, by simp, rfl, heap_alloc_new w.drew _, ?_, by simpa using hge, hml, fun i u hu => ?_⟩
   ·simp only [Array.size_append, List.size_toArray, TY_, hzs]; omega
   ·have hl := (List.getElem?_eq_some_iff.1 hu).1
    rw [Nat.zero_add, Array.getElem?_append_left (by simpa using hl)]
    simpa using hu
  ·refine ⟨rfl, rfl, rfl, by simp, fun k hk _ => Below.heap_alloc w.drew _ k hk⟩
  ·intro k hk
   simp only [List.mem_singleton] at hk
   subst hk
   exact ⟨by simp, .inr (Nat.le_refl _)⟩
theorem Jg_ {t e : TypeId} {i : TypeInfo} {z : Value} (ht : P.underlying t = some (.slice e)) (hi : P.info? e = some i) (hz : i.zero = some z) (h1 : i.size = 1)
  (us : List Value) (hone : ∀ u ∈ us, u.oneCell' = true) (hlen : us.length ≤ 16777216) :
  (Instr.buildSlice t us.length ((us.zipIdx 0).map fun x => (x.2, x.1)).toArray).run P w = .ok (.slice (some ⟨w.heap.size, 0, none⟩) us.length us.length) (w.alloc (.cells us.toArray e)) := by
 have hcell : ∀ u : Value, u.oneCell' = true → u.cells = #[u] := fun u hu => by cases u <;> first | rfl | simp [Value.oneCell'] at hu
 by_cases h0 : us = []
 ·subst h0
  have h0 : Array.range 0 = #[] := by simp
  simp [Instr.buildSlice, run_underlying ht, sizeOf, typeInfo, hi, newRow, Instr.fill, h0]
 ·have hpos : us.length ≠ 0 := fun e => h0 (List.eq_nil_of_length_eq_zero e)
  obtain ⟨r, hr1, hr2, hr3⟩ := Great.fill_dense (s := 1) (by omega) us 0 ((Array.range (us.length * 1)).map (z.cells[· % z.cells.size]!)) (fun v hv => by rw [hcell v (hone v hv)]; rfl) (by simp)
  have hru : r = us.toArray := by
   apply Array.ext
   ·rw [hr2]; simp
   ·intro k hk1 hk2
    have := hr3 k
    simp only [Nat.zero_le, Nat.zero_add, Nat.mul_one, true_and, Nat.div_one, Nat.sub_zero, Nat.mod_one] at this
    have hk : k < us.length := by simpa using hk2
    rw [if_pos hk] at this
    have hs : us[k]? = some us[k] := by simp [hk]
    rw [hs] at this
    simp only [Option.bind_some, hcell _ (hone _ (List.getElem_mem hk))] at this
    simp at this
    have h2 := Array.getElem?_eq_getElem hk1
    rw [this] at h2
    simpa using h2.symm
  rw [hru] at hr1
  exact run_buildSlice w t e us.length _ us.toArray i z ht hi hz (by rw [h1]; omega) (by rw [h1]; omega) (by rw [h1]; simpa using hr1)
theorem an8 {t e : TypeId} {i : TypeInfo} {z : Value} (ht : P.underlying t = some (.slice e)) (hi : P.info? e = some i) (hz : i.zero = some z) (h1 : i.size = 1) (hzc : z.cells = #[z]) (hby : i.bytes ≤ 64)
  {n : Int} (h0 : 0 ≤ n) (hn : n ≤ 1099511627776) (k k' : IntKind) :
  (Instr.makeSlice t (.int k n) (.int k' n)).run P w = .ok (.slice (some ⟨w.heap.size, 0, none⟩) n.toNat n.toNat) (w.alloc (.cells (List.replicate n.toNat z).toArray e)) := by
 have hb : (i.bytes : Int) * n ≤ 281474976710656 := by
  have : (i.bytes : Int) * n ≤ 64 * 1099511627776 := Int.mul_le_mul (by omega) hn h0 (by decide)
  omega
 rw [run_make w t e i z ht hi hz k k' n n h0 (Int.le_refl _) hb (by omega)]
 congr 3
 rw [h1, hzc]
 apply Array.ext
 ·simp [madeCells]
 ·intro k hk1 hk2
  simp [madeCells, Nat.mod_one]
end
end Go.Aw
namespace Go.Aw
open Go.RowKit
def xR_ : List (Nat × Tree) → Nat
 | [] => 0
 | (k, _) :: r => max (k + 1) (xR_ r)
theorem VB_ : ∀ {H : List (Nat × Tree)} {k : Nat}, k ∈ ids H → k < xR_ H
 | [], k, h => by simp [ids] at h
 | (j, x) :: r, k, h => by
  simp only [ids, List.map_cons, List.mem_cons] at h
  simp only [xR_]
  rcases h with h | h
  ·omega
  ·have := VB_ (H := r) h; omega
theorem UL_ (H : List (Nat × Tree)) : xR_ H ∉ ids H := fun h => absurd (VB_ h) (Nat.lt_irrefl _)
theorem VC_ (H : List (Nat × Tree)) : find H (xR_ H) = none := find_none.2 (UL_ H)
def qOf (all subs : List Nat) : Nat → List Nat → Bool := fun i p => all.contains i || (subs.contains i && !p.isEmpty)
mutual
theorem yl_ : ∀ (v : AV), xp_ (qOf [] []) v = v
 | .ref _ _ | .sub _ _ _ _ | .eref _ _ _ | .bptr _ _ => by simp [xp_, qOf]
 | .lv vs | .agg vs | .tup vs | .fn _ vs | .cptr vs _ => by simp [xp_, ZW_ vs]
 | .eptr v _ | .when _ v => by simp [xp_, yl_ v]
 | .int _ | .flt _ | .ik _ _ | .bool _ | .str _ | .nil | .nilfn | .l1 _ | .l2 _ | .l3 _ | .lp _ _ | .val _ | .junk => by simp [xp_]
theorem ZW_ : ∀ (vs : List AV), xA_ (qOf [] []) vs = vs
 | [] => rfl
 | a :: as => by simp [xA_, yl_ a, ZW_ as]
end
theorem an9 (t : Tree) : x4_ (qOf [] []) t = t := by cases t <;> simp [x4_, ZW_, yl_]
theorem yH_ (H : List (Nat × Tree)) : xt_ (qOf [] []) H = H := by
 unfold xt_
 have : (fun p : Nat × Tree => (p.1, x4_ (qOf [] []) p.2)) = id := by funext p; simp [an9]
 rw [this]; simp
theorem yL_ (H : List (Nat × Tree)) : rmT [] H = H := by simp [rmT]
def ab8 : AV → Option (List Int)
 | .l1 xs => some xs
 | .nil => some []
 | _ => none
def QR_ : AV → Option (List (List Int))
 | .l2 xs => some xs
 | .nil => some []
 | _ => none
def isInt : AV → Option Int
 | .int n => some n
 | _ => none
def zx_ {α β : Type} (f : α → Option β) : List α → Option (List β)
 | [] => some []
 | a :: as => match f a, zx_ f as with
  | some x, some xs => some (x :: xs)
  | _, _ => none
def xj_ (P : Program) (e : TypeId) : Nat :=
 match xz_ P e with
 | .int => 1
 | .sl e' => match xz_ P e' with
  | .int => 2
  | .sl e'' => match xz_ P e'' with
   | .int => 3
   | _ => 0
  | _ => 0
 | _ => 0
def xv_ (P : Program) (e : TypeId) : Bool :=
 match P.info? e with
 | some i => i.size == 1 && decide (i.bytes ≤ 64) && (match i.zero with
  | some z => z.oneCell'
  | none => false)
 | none => false
theorem zh_ {P : Program} {e : TypeId} (h : xv_ P e = true) : ∃ i z, P.info? e = some i ∧ i.size = 1 ∧ i.bytes ≤ 64 ∧ i.zero = some z ∧ z.oneCell' = true ∧ z.cells = #[z] := by
 unfold xv_ at h
 split at h
 ·rename_i i hi
  simp only [Bool.and_eq_true, beq_iff_eq, decide_eq_true_eq] at h
  obtain ⟨⟨h1, h2⟩, h3⟩ := h
  split at h3
  ·rename_i z hz
   exact ⟨i, z, hi, h1, h2, hz, h3, by cases z <;> first | rfl | simp [Value.oneCell'] at h3⟩
  ·cases h3
 ·cases h
def wu_ (P : Program) (H : List (Nat × Tree)) (e : TypeId) (vs : List AV) (K : AV → List Nat → List Nat → List (Nat × Tree) → Prop) : Prop :=
 match vs with
 | [] => match xj_ P e with
  | 1 => K (.ref (xR_ H) []) [] [] (x8_ H (xR_ H) (.t1 []))
  | 2 => K (.ref (xR_ H) []) [] [] (x8_ H (xR_ H) (.t2 []))
  | 3 => K (.ref (xR_ H) []) [] [] (x8_ H (xR_ H) (.t3 []))
  | _ => K (.ref (xR_ H) []) [] [] (x8_ H (xR_ H) (.lv []))
 | [.ref id []] => xj_ P e ≠ 1 ∧ match find H id with
  | some (.t1 xs) => K (.ref (xR_ H) []) [id] [] (x8_ (xt_ (qOf [id] []) (rmT [id] H)) (xR_ H) (.t2 [xs]))
  | some (.t2 xs) => K (.ref (xR_ H) []) [id] [] (x8_ (xt_ (qOf [id] []) (rmT [id] H)) (xR_ H) (.t3 [xs]))
  | _ => False
 | vs => match zx_ isInt vs with
  | some xs => K (.ref (xR_ H) []) [] [] (x8_ H (xR_ H) (.t1 xs))
  | none => match zx_ ab8 vs with
   | some xs => K (.ref (xR_ H) []) [] [] (x8_ H (xR_ H) (.r2 xs))
   | none => match zx_ QR_ vs with
    | some xs => K (.l3 xs) [] [] H
    | none => vs.all (wh_ H) = true ∧ K (.ref (xR_ H) []) [] [] (x8_ H (xR_ H) (.lv vs))
def UM_ (P : Program) (H : List (Nat × Tree)) (e : TypeId) (n : Int) (K : AV → List Nat → List Nat → List (Nat × Tree) → Prop) : Prop :=
 0 ≤ n ∧ n ≤ 1099511627776 ∧ match xj_ P e with
  | 1 => K (.ref (xR_ H) []) [] [] (x8_ H (xR_ H) (.t1 (List.replicate n.toNat 0)))
  | 2 => K (.ref (xR_ H) []) [] [] (x8_ H (xR_ H) (.t2 (List.replicate n.toNat [])))
  | 3 => K (.ref (xR_ H) []) [] [] (x8_ H (xR_ H) (.t3 (List.replicate n.toNat [])))
  | _ => match xk_ P e with
   | some [z] => K (.ref (xR_ H) []) [] [] (x8_ H (xR_ H) (.lv (List.replicate n.toNat z)))
   | _ => False
section
variable {P : Program} {cx : Cx} {H : List (Nat × Tree)} {w : World} {ι : Nat → Value} {F : Nat → List Nat}
def Left (cx : Cx) (H : List (Nat × Tree)) (w : World) (ι : Nat → Value) (F : Nat → List Nat) (u : Value) (w' : World) (K : AV → List Nat → List Nat → List (Nat × Tree) → Prop) : Prop :=
 ∃ v all subs H' ι' F', K v all subs H' ∧ Owns cx H' w' ι' F' ∧ rep (mem cx w' H' ι' F') v u ∧ ∀ av x, rep (mem cx w H ι F) av x → rep (mem cx w' H' ι' F') (xp_ (qOf all subs) av) x
theorem zC_ {id : Nat} {t : Tree} : find (x8_ H id t) id = some t := by rw [wI_, if_pos rfl]
theorem Owns.new (ho : Owns cx H w ι F) (t : Tree) (v : Value) (c : Array Value) (E : TypeId)
  (ht : ∀ m : Mem, m.w = w.alloc (.cells c E) → (∀ av x, rep (mem cx w H ι F) av x → rep m av x) → treeRep m [w.heap.size] t v)
  {K : AV → List Nat → List Nat → List (Nat × Tree) → Prop} {av : AV} (hK : K av [] [] (x8_ H (xR_ H) t))
  (hav : ∀ m : Mem, m.D (xR_ H) [] → m.ι (xR_ H) = v → rep m av v) :
  Left cx H w ι F v (w.alloc (.cells c E)) K := by
 have hext : Ext w (w.alloc (.cells c E)) := (Below.refl _ _).alloc (Nat.le_refl _) _
 have key := ho.put (w' := w.alloc (.cells c E)) [] (xR_ H) t v [w.heap.size] (qOf [] []) (ho.keep.ext ho.old hext) hext.size
  (fun b hb _ => hext.block b hb) (by simp) (fun b hb => by simp only [List.mem_singleton] at hb; subst hb; exact ⟨by simp, .inr (Nat.le_refl _)⟩) (by simp)
  (fun p _ hl => by rw [VC_] at hl; simp [xq_] at hl)
  (fun hr => ht _ rfl (fun av x h => by have := hr av x h; rwa [yl_] at this))
 rw [yL_, yH_] at key
 refine ⟨av, [], [], _, _, _, hK, key.1, ?_, key.2⟩
 refine hav _ ?_ (by simp [mem, zY_])
 simp only [mem, zC_]
 cases t <;> rfl
theorem VD_ (m : Mem) : ∀ (l : List Value), reps m (l.map ofV) l
 | [] => by simp [reps]
 | a :: l => by simp only [List.map_cons, reps]; exact ⟨a, l, rfl, wk_ m a, VD_ m l⟩
theorem Qm_ (ho : Owns cx H w ι F) {t : TypeId} {vs : List AV} (hz : xk_ P t = some vs) {K : AV → List Nat → List Nat → List (Nat × Tree) → Prop}
  (hK : K (.bptr (xR_ H) 0) [] [] (x8_ H (xR_ H) (.bx vs))) :
  ∃ u w', (Instr.alloc t true (.tuple #[])).run P w = .ok u w' ∧ Left cx H w ι F u w' K := by
 unfold xk_ at hz
 split at hz
 ·rename_i z hz'
  cases hz
  simp only [Option.bind_eq_some_iff] at hz'
  obtain ⟨i, hi, hiz⟩ := hz'
  refine ⟨.pointer (some ⟨w.heap.size, 0, none⟩), w.alloc (.cells z.cells t), by simp [Instr.alloc, zeroValue, typeInfo, hi, hiz, newVar, newRow], ?_⟩
  refine ho.new (.bx (z.cells.toList.map ofV)) _ z.cells t (fun m hm hr => ?_) hK (fun m hd hv => ?_)
  ·simp only [treeRep]
   refine ⟨w.heap.size, z.cells.toList, t, rfl, rfl, ?_, VD_ m _⟩
   rw [hm]; simpa using heap_alloc_new w _
  ·simp only [rep]; exact ⟨hd, w.heap.size, hv, rfl⟩
 ·cases hz
theorem UN_ (ho : Owns cx H w ι F) {id : Nat} {p : List Nat} {u : Value} (h : ZN_ H id p = true) (hp : xl_ w (ι id) p = some u) : u.oneCell' = true := by
 unfold ZN_ at h
 split at h
 ·rename_i ps hf
  simp only [xl_, Option.some.injEq] at hp
  subst hp
  have ht := ho.trees _ (xc_ hf)
  simp only [treeRep] at ht
  obtain ⟨_, ht⟩ := ht
  rcases ht with ⟨h1, _⟩ | ⟨b, off, cap, c, E, h1, _⟩ <;> (rw [h1]; rfl)
 ·obtain ⟨⟨n, f⟩, he⟩ := Option.isSome_iff_exists.1 h
  obtain ⟨us, fp, k1, _⟩ := yN_ ho he hp
  rcases k1.cell with ⟨h1, _⟩ | ⟨b, off, cap, h1, _⟩ <;> (rw [h1]; rfl)
theorem Yq_ (ho : Owns cx H w ι F) {av : AV} {vs : List AV} {u : Value} (h : cellsA H av = some vs) (hr : rep (mem cx w H ι F) av u) : reps (mem cx w H ι F) vs u.cells.toList := by
 have one : ∀ {x : AV} {u : Value}, u.oneCell' = true → rep (mem cx w H ι F) x u → reps (mem cx w H ι F) [x] u.cells.toList := fun {x u} hu hx => by
  have : u.cells = #[u] := by cases u <;> first | rfl | simp [Value.oneCell'] at hu
  rw [this]; simp only [reps]; exact ⟨u, [], rfl, hx, rfl⟩
 have slone : ∀ {S : Nat → Prop} {us : List Value} {u : Value}, SlC w S us u → u.oneCell' = true := fun h => by
  rcases h with ⟨⟨_, rfl⟩, _⟩ | ⟨_, _, _, rfl, _⟩ <;> rfl
 unfold cellsA at h
 split at h <;> first | (cases h; done) | skip
 ·cases h
  simp only [rep] at hr
  obtain ⟨us, rfl, h2⟩ := hr
  simpa [Value.cells] using h2
 ·split at h
  ·rename_i hs
   cases h
   have hr' := hr
   simp only [rep] at hr'
   exact one (UN_ ho hs hr'.2) hr
  ·cases h
 ·cases h
  have hr' := hr
  simp only [rep] at hr'
  obtain ⟨_, a, n, cap, _, _, _, _, _, _, rfl⟩ := hr'
  exact one rfl hr
 ·rename_i v h1 h2 h3 h4 h7 h5 h6
  cases h
  refine one ?_ hr
  cases av <;> simp only [rep] at hr <;> first
   | exact absurd rfl (h1 _) | exact absurd rfl h2 | exact absurd rfl (h3 _ _) | exact absurd rfl (h4 _) | exact absurd rfl (h7 _) | exact absurd rfl (h5 _ _) | exact absurd rfl (h6 _ _ _ _)
   | exact K8_ (w := w) (S := imm cx w H F) (show LpR _ _ _ _ _ from hr)
   | (rw [hr.1]; rfl)
   | (rw [hr]; rfl)
   | exact slone hr.1
   | (obtain ⟨us, k1, _⟩ := hr; exact slone k1)
   | (obtain ⟨us, rfl, _⟩ := hr; rfl)
   | (obtain ⟨_, _, _, _, _, _, rfl⟩ := hr; rfl)
   | (obtain ⟨_, _, rfl, _⟩ := hr; rfl)
   | (obtain ⟨_, _, _, _, _, _, _, rfl⟩ := hr; rfl)
   | (obtain ⟨_, _, _, rfl⟩ := hr; rfl)
theorem zr_ {m m' : Mem} (h : ∀ av x, rep m av x → rep m' av x) : ∀ {vs : List AV} {us : List Value}, reps m vs us → reps m' vs us
 | [], _, hr => by simpa only [reps] using hr
 | a :: as, _, hr => by
  simp only [reps] at hr ⊢
  obtain ⟨u, us', h1, h2, h3⟩ := hr
  exact ⟨u, us', h1, h _ _ h2, zr_ h h3⟩
theorem ao0 (ho : Owns cx H w ι F) {t : TypeId} {av : AV} {vs : List AV} {x : Value} (hc : cellsA H av = some vs) (hr : rep (mem cx w H ι F) av x) {K : AV → List Nat → List Nat → List (Nat × Tree) → Prop}
  (hK : K (.bptr (xR_ H) 0) [] [] (x8_ H (xR_ H) (.bx vs))) :
  ∃ u w', (Instr.box t x).run P w = .ok u w' ∧ Left cx H w ι F u w' K := by
 have hcs := Yq_ ho hc hr
 refine ⟨.pointer (some ⟨w.heap.size, 0, none⟩), w.alloc (.cells x.cells t), by simp [Instr.box, newVar, newRow], ?_⟩
 refine ho.new (.bx vs) _ x.cells t (fun m hm hr => ?_) hK (fun m hd hv => ?_)
 ·simp only [treeRep]
  refine ⟨w.heap.size, x.cells.toList, t, rfl, rfl, ?_, zr_ hr hcs⟩
  rw [hm]; simpa using heap_alloc_new w _
 ·simp only [rep]; exact ⟨hd, w.heap.size, hv, rfl⟩
theorem ao1 (ho : Owns cx H w ι F) {t : TypeId} {av : AV} {vs : List AV} {x : Value} (hc : cellsA H av = some vs) (hr : rep (mem cx w H ι F) av x) {K : AV → List Nat → List Nat → List (Nat × Tree) → Prop}
  (hK : K (.cptr vs 0) [] [] H) :
  ∃ u w', (Instr.box t x).run P w = .ok u w' ∧ Left cx H w ι F u w' K := by
 have hcs := Yq_ ho hc hr
 have hext : Ext w (w.alloc (.cells x.cells t)) := (Below.refl _ _).alloc (Nat.le_refl _) _
 refine ⟨.pointer (some ⟨w.heap.size, 0, none⟩), w.alloc (.cells x.cells t), by simp [Instr.box, newVar, newRow], .cptr vs 0, [], [], H, ι, F, hK, ho.ext hext, ?_, fun av x hav => by rw [yl_]; exact rep.le (zd_ hext) _ _ hav⟩
 simp only [rep]
 refine ⟨w.heap.size, x.cells.toList, rfl, ⟨.inr (.inl ho.old), by simp, fun hm => ?_⟩, fun i u hu => ?_, zr_ (fun _ _ => rep.le (zd_ hext) _ _) hcs⟩
 ·have := (ho.mine _ hm).1
  omega
 ·have h1 : (w.alloc (.cells x.cells t)).heap[w.heap.size]? = some (.cells x.cells t) := by simpa using heap_alloc_new w _
  simp only [mem, World.cell?, h1]
  simpa using hu
theorem y6_ (us : List Value) (E : TypeId) (hl : us.length ≤ maxLen) (w' : World) (hw : w' = w.alloc (.cells us.toArray E)) : OwnSl w' [w.heap.size] us (.slice (some ⟨w.heap.size, 0, none⟩) us.length us.length) := by
 subst hw
 exact .inr ⟨w.heap.size, 0, us.length, us.toArray, E, rfl, rfl, heap_alloc_new w _, by simp, Nat.le_refl _, hl, fun i u hu => by simpa using hu⟩
theorem y2_ {α β γ : Type} {f : α → Option β} {R : α → γ → Prop} {R' : β → γ → Prop} (hf : ∀ a b c, f a = some b → R a c → R' b c) :
  ∀ {as : List α} {bs : List β} {cs : List γ}, zx_ f as = some bs → All2 R as cs → All2 R' bs cs
 | [], bs, cs, h, h2 => by
  simp only [zx_, Option.some.injEq] at h
  subst h
  cases cs with
  | nil => trivial
  | cons _ _ => exact h2.elim
 | a :: as, bs, cs, h, h2 => by
  simp only [zx_] at h
  split at h
  ·rename_i x xs hx hxs
   cases h
   cases cs with
   | nil => exact h2.elim
   | cons c cs => exact ⟨hf _ _ _ hx h2.1, y2_ hf hxs h2.2⟩
  ·cases h
theorem YP_ : ∀ {xs : List Int} {us : List Value}, All2 (fun (x : Int) (u : Value) => u = .int .i64 x ∧ InR x) xs us → us = ints xs ∧ ∀ x ∈ xs, InR x
 | [], [], _ => ⟨rfl, by simp⟩
 | x :: xs, u :: us, h => by
  obtain ⟨h1, h2⟩ := YP_ h.2
  exact ⟨by rw [h.1.1, h1]; rfl, fun y hy => by rcases List.mem_cons.1 hy with rfl | hy; exact h.1.2; exact h2 y hy⟩
 | [], _ :: _, h => h.elim
 | _ :: _, [], h => h.elim
theorem wm_ (ho : Owns cx H w ι F) {v : AV} {u : Value} (hc : wh_ H v = true) (hr : rep (mem cx w H ι F) v u) : u.oneCell' = true := by
 simp only [wh_, Bool.and_eq_true] at hc
 obtain ⟨h1, h2⟩ := hc
 obtain ⟨vs, hvs⟩ := Option.isSome_iff_exists.1 h1
 have hcs := Yq_ ho hvs hr
 unfold cellsA at hvs
 split at hvs <;> first | (cases hvs; done) | (simp at h2; done) | skip
 ·split at hvs
  ·rename_i hs
   have hr' := hr
   simp only [rep] at hr'
   exact UN_ ho hs hr'.2
  ·cases hvs
 ·have hr' := hr
  simp only [rep] at hr'
  obtain ⟨_, a, n, cap, _, _, _, _, _, _, rfl⟩ := hr'
  rfl
 ·rename_i x h1 h2 h3 h4 h7 h5 h6
  cases v <;> simp only [rep] at hr <;> first
   | exact absurd rfl (h1 _) | exact absurd rfl h2 | exact absurd rfl (h3 _ _) | exact absurd rfl (h4 _) | exact absurd rfl (h7 _) | exact absurd rfl (h5 _ _) | exact absurd rfl (h6 _ _ _ _)
   | exact K8_ (w := w) (S := imm cx w H F) (show LpR _ _ _ _ _ from hr)
   | (rw [hr.1]; rfl)
   | (rw [hr]; rfl)
   | (rcases hr.1 with ⟨⟨_, rfl⟩, _⟩ | ⟨_, _, _, rfl, _⟩ <;> rfl)
   | (obtain ⟨us, k1, _⟩ := hr; rcases k1 with ⟨⟨_, rfl⟩, _⟩ | ⟨_, _, _, rfl, _⟩ <;> rfl)
   | (obtain ⟨us, rfl, _⟩ := hr; rfl)
   | (obtain ⟨_, _, _, _, _, _, rfl⟩ := hr; rfl)
   | (obtain ⟨_, _, rfl, _⟩ := hr; rfl)
   | (obtain ⟨_, _, _, _, _, _, _, rfl⟩ := hr; rfl)
   | (obtain ⟨_, _, _, rfl⟩ := hr; rfl)
end
end Go.Aw
namespace Go.Aw
open Go.RowKit
def inOrder : Nat → List (Nat × Operand) → Bool
 | _, [] => true
 | k, (i, _) :: r => i == k && inOrder (k + 1) r
theorem ZX_ (f : Operand → Value) : ∀ (l : List (Nat × Operand)) (k : Nat), inOrder k l = true → (l.map fun p => (p.1, f p.2)) = ((l.map fun p => f p.2).zipIdx k).map fun x => (x.2, x.1)
 | [], _, _ => rfl
 | (i, x) :: r, k, h => by
  simp only [inOrder, Bool.and_eq_true, beq_iff_eq] at h
  simp only [List.map_cons, List.zipIdx_cons, h.1]
  rw [ZX_ f r (k + 1) h.2]
section
variable {P : Program} {cx : Cx} {H : List (Nat × Tree)} {w : World} {ι : Nat → Value} {F : Nat → List Nat}
theorem Xp_ {S : Nat → Prop} {us : List Value} {u : Value} (h : SlC w S us u) : u.oneCell' = true := by
 rcases h with ⟨⟨_, rfl⟩, _⟩ | ⟨_, _, _, rfl, _⟩ <;> rfl
theorem zs_ {fp : List Nat} {us : List Value} {u : Value} (h : OwnSl w fp us u) : u.oneCell' = true := Xp_ (h.slC (S := fun _ => True) (fun _ _ => trivial))
theorem Qn_ {vs : List AV} {xs : List Int} {us : List Value} {m : Mem} (h : zx_ isInt vs = some xs) (hr : All2 (rep m) vs us) : us = ints xs ∧ ∀ x ∈ xs, InR x := by
 refine YP_ (y2_ (f := isInt) (R := rep m) (fun a b c hab hr => ?_) h hr)
 unfold isInt at hab
 split at hab <;> first | (cases hab; done) | skip
 cases hab
 simpa only [rep] using hr
theorem SK_ (xs : List Int) : ∀ u ∈ ints xs, u.oneCell' = true := by
 intro u hu
 simp only [ints, List.mem_map] at hu
 obtain ⟨x, _, rfl⟩ := hu
 rfl
theorem w8_ {m : Mem} {a : AV} {b : List Int} {u : Value} (h : ab8 a = some b) (hr : rep m a u) : L1 m.w m.S b u := by
 unfold ab8 at h
 split at h <;> first | (cases h; done) | skip
 ·cases h; simpa only [rep] using hr
 ·cases h; simp only [rep] at hr; subst hr; exact ⟨.inl ⟨⟨_, rfl⟩, rfl⟩, by simp⟩
theorem XY_ {m : Mem} {a : AV} {b : List (List Int)} {u : Value} (h : QR_ a = some b) (hr : rep m a u) : L2 m.w m.S b u := by
 unfold QR_ at h
 split at h <;> first | (cases h; done) | skip
 ·cases h; simpa only [rep] using hr
 ·cases h; simp only [rep] at hr; subst hr; exact ⟨[], .inl ⟨⟨_, rfl⟩, rfl⟩, trivial⟩
theorem wK_ {α : Type} {R : α → Value → Prop} (hR : ∀ a u, R a u → u.oneCell' = true) : ∀ {vs : List α} {us : List Value}, All2 R vs us → ∀ u ∈ us, u.oneCell' = true
 | [], [], _, u, hu => by simp at hu
 | _ :: _, _ :: _, h, u, hu => by
  rcases List.mem_cons.1 hu with rfl | hu
  ·exact hR _ _ h.1
  ·exact wK_ hR h.2 u hu
 | [], _ :: _, h, _, _ => h.elim
 | _ :: _, [], h, _, _ => h.elim
theorem Qo_ (ho : Owns cx H w ι F) {t e : TypeId} (hk : xz_ P t = .sl e) (he : xv_ P e = true) {vs : List AV} {us : List Value} (hr : reps (mem cx w H ι F) vs us) (hlen : us.length ≤ 16777216)
  {K : AV → List Nat → List Nat → List (Nat × Tree) → Prop} (h : wu_ P H e vs K) :
  ∃ u w', (Instr.buildSlice t us.length ((us.zipIdx 0).map fun x => (x.2, x.1)).toArray).run P w = .ok u w' ∧ Left cx H w ι F u w' K := by
 obtain ⟨i, z, hi, h1, hby, hz, hzo, hzc⟩ := zh_ he
 have hml : us.length ≤ maxLen := by simp only [maxLen]; omega
 rw [xw_] at hr
 have run : (∀ u ∈ us, u.oneCell' = true) → (Instr.buildSlice t us.length ((us.zipIdx 0).map fun x => (x.2, x.1)).toArray).run P w = .ok (.slice (some ⟨w.heap.size, 0, none⟩) us.length us.length) (w.alloc (.cells us.toArray e)) :=
  fun hone => Jg_ (YZ_ hk).1 hi hz h1 us hone hlen
 have fresh : (∀ u ∈ us, u.oneCell' = true) → ∀ (t' : Tree), K (.ref (xR_ H) []) [] [] (x8_ H (xR_ H) t') →
   (∀ m : Mem, m.w = w.alloc (.cells us.toArray e) → (∀ av x, rep (mem cx w H ι F) av x → rep m av x) → treeRep m [w.heap.size] t' (.slice (some ⟨w.heap.size, 0, none⟩) us.length us.length)) →
   ∃ u w', (Instr.buildSlice t us.length ((us.zipIdx 0).map fun x => (x.2, x.1)).toArray).run P w = .ok u w' ∧ Left cx H w ι F u w' K := by
  intro hone t' hK ht
  exact ⟨_, _, run hone, ho.new t' _ us.toArray e ht hK (fun m hd hv => by simp only [rep]; exact ⟨hd, by rw [hv]; simp [xl_]⟩)⟩
 have take : ∀ (id : Nat) (tr tr' : Tree) (u : Value), find H id = some tr → us = [u] → u = ι id → u.oneCell' = true →
   K (.ref (xR_ H) []) [id] [] (x8_ (xt_ (qOf [id] []) (rmT [id] H)) (xR_ H) tr') →
   (∀ m : Mem, m.w = w.alloc (.cells us.toArray e) → treeRep m ([w.heap.size] ++ F id) tr' (.slice (some ⟨w.heap.size, 0, none⟩) us.length us.length)) →
   ∃ u w', (Instr.buildSlice t us.length ((us.zipIdx 0).map fun x => (x.2, x.1)).toArray).run P w = .ok u w' ∧ Left cx H w ι F u w' K := by
  intro id tr tr' u hf hus hu hone hK ht
  have hext : Ext w (w.alloc (.cells us.toArray e)) := (Below.refl _ _).alloc (Nat.le_refl _) _
  have hmem : (id, tr) ∈ H := xc_ hf
  have hid : id ∈ ids H := List.mem_map.2 ⟨_, hmem, rfl⟩
  have hne : xR_ H ≠ id := fun e => UL_ H (e ▸ hid)
  have hFid : ∀ b ∈ F id, b < w.heap.size := fun b hb => (ho.mine b (mem_foot.2 ⟨_, hmem, hb⟩)).1
  have hFn : (F id).Nodup := by
   have h0 := ho.nodup
   have : ∀ {H : List (Nat × Tree)}, (xW_ H F).Nodup → (id, tr) ∈ H → (F id).Nodup := by
    intro H
    induction H with
    | nil => intro _ h; cases h
    | cons x r ih =>
     intro hn h
     rw [ym_, List.nodup_append] at hn
     rcases List.mem_cons.1 h with e | h
     ·subst e; exact hn.1
     ·exact ih hn.2.1 h
   exact this h0 hmem
  have key := ho.put (w' := w.alloc (.cells us.toArray e)) [id] (xR_ H) tr' (.slice (some ⟨w.heap.size, 0, none⟩) us.length us.length) ([w.heap.size] ++ F id) (qOf [id] []) (ho.keep.ext ho.old hext) hext.size
   (fun b hb _ => hext.block b hb)
   (by
    rw [List.singleton_append, List.nodup_cons]
    exact ⟨fun h => by have := hFid _ h; omega, hFn⟩)
   (fun b hb => by
    rcases List.mem_append.1 hb with hb | hb
    ·simp only [List.mem_singleton] at hb; subst hb; exact ⟨by simp, .inr (Nat.le_refl _)⟩
    ·exact ⟨by have := hFid _ hb; simp; omega, .inl ⟨id, .inr (by simp), hid, hb⟩⟩)
   (fun r hr p => by simp only [List.mem_singleton] at hr; subst hr; simp [qOf])
   (fun p _ hl => by rw [VC_] at hl; simp [xq_] at hl)
   (fun _ => ht _ rfl)
  refine ⟨_, _, run (by rw [hus]; simpa using hone), .ref (xR_ H) [], [id], [], _, _, _, hK, key.1, ?_, key.2⟩
  simp only [rep, mem, zC_, zY_, if_true]
  exact ⟨by cases tr' <;> rfl, by simp [xl_]⟩
 unfold wu_ at h
 split at h
 ·have hu : us = [] := List.eq_nil_of_length_eq_zero (by rw [← hr.length]; rfl)
  subst hu
  split at h
  ·exact fresh (by simp) _ h (fun m hm _ => ⟨y6_ [] e (by simp [maxLen]) _ hm, by simp⟩)
  ·exact fresh (by simp) _ h (fun m hm _ => ⟨[], [w.heap.size], [], y6_ [] e (by simp [maxLen]) _ hm, trivial, by simp⟩)
  ·exact fresh (by simp) _ h (fun m hm _ => ⟨[], [w.heap.size], [], y6_ [] e (by simp [maxLen]) _ hm, trivial, by simp⟩)
  ·exact fresh (by simp) _ h (fun m hm _ => ⟨[], y6_ [] e (by simp [maxLen]) _ hm, by simp [reps]⟩)
 ·rename_i id
  obtain ⟨_, h⟩ := h
  cases us with
  | nil => exact hr.elim
  | cons u us =>
   cases us with
   | cons _ _ => exact hr.2.elim
   | nil =>
    have hru := hr.1
    simp only [rep, mem] at hru
    have hu : u = ι id := by have := hru.2; simp only [xl_, Option.some.injEq] at this; exact this.symm
    have hFid : ∀ {tr : Tree}, find H id = some tr → ∀ b ∈ F id, b < w.heap.size := fun hf b hb => (ho.mine b (mem_foot.2 ⟨_, xc_ hf, hb⟩)).1
    split at h
    ·rename_i xs hf
     have ht := ho.trees _ (xc_ hf)
     simp only [treeRep, mem] at ht
     refine take id _ _ u hf rfl hu (by rw [hu]; exact zs_ ht.1) h (fun m hm => ?_)
     simp only [treeRep]
     refine ⟨[u], [w.heap.size], [F id], y6_ [u] e (by simp [maxLen]) _ hm, ⟨?_, trivial⟩, by simp⟩
     rw [hu]
     refine O1.heap (w := w) (fun b hb => ?_) ht
     rw [hm]
     exact ((Below.refl _ _).alloc (Nat.le_refl _) _ : Ext w _).block b (hFid hf b hb)
    ·rename_i xs hf
     have ht := ho.trees _ (xc_ hf)
     simp only [treeRep, mem] at ht
     have hone : (ι id).oneCell' = true := by obtain ⟨_, _, _, k, _⟩ := ht; exact zs_ k
     refine take id _ _ u hf rfl hu (by rw [hu]; exact hone) h (fun m hm => ?_)
     simp only [treeRep]
     refine ⟨[u], [w.heap.size], [F id], y6_ [u] e (by simp [maxLen]) _ hm, ⟨?_, trivial⟩, by simp⟩
     rw [hu]
     refine O2.heap (w := w) (fun b hb => ?_) ht
     rw [hm]
     exact ((Below.refl _ _).alloc (Nat.le_refl _) _ : Ext w _).block b (hFid hf b hb)
    ·exact h.elim
 ·split at h
  ·rename_i xs hxs
   obtain ⟨rfl, hin⟩ := Qn_ hxs hr
   exact fresh (SK_ xs) _ h (fun m hm _ => ⟨y6_ _ e hml _ hm, hin⟩)
  ·split at h
   ·rename_i xs hxs
    have h2 := y2_ (f := ab8) (R := rep (mem cx w H ι F)) (R' := L1 w (imm cx w H F)) (fun a b c hab hr => w8_ hab hr) hxs hr
    refine fresh (wK_ (fun _ _ hl => Xp_ hl.1) h2) _ h (fun m hm hmr => ⟨us, y6_ us e hml _ hm, ?_⟩)
    exact y2_ (f := ab8) (R := rep m) (fun a b c hab hr => w8_ hab hr) hxs (hr.mono hmr)
   ·split at h
    ·rename_i xs hxs
     have h2 := y2_ (f := QR_) (R := rep (mem cx w H ι F)) (R' := L2 w (imm cx w H F)) (fun a b c hab hr => XY_ hab hr) hxs hr
     have hext : Ext w (w.alloc (.cells us.toArray e)) := (Below.refl _ _).alloc (Nat.le_refl _) _
     refine ⟨_, _, run (wK_ (fun _ _ hl => by obtain ⟨_, k, _⟩ := hl; exact Xp_ k) h2), .l3 xs, [], [], H, ι, F, h, ho.ext hext, ?_, fun av x hav => by rw [yl_]; exact rep.le (zd_ hext) _ _ hav⟩
     simp only [rep]
     refine ⟨us, (y6_ us e hml (w.alloc (.cells us.toArray e)) rfl).slC (fun b hb => ?_), ?_⟩
     ·simp only [List.mem_singleton] at hb
      subst hb
      refine ⟨.inr (.inl ho.old), by simp, fun hm => ?_⟩
      have := (ho.mine _ hm).1
      omega
     ·exact y2_ (f := QR_) (R := rep (mem cx (w.alloc (.cells us.toArray e)) H ι F)) (fun a b c hab hr => XY_ hab hr) hxs (hr.mono (fun _ _ hav => rep.le (zd_ hext) _ _ hav))
    ·obtain ⟨hall, hK⟩ := h
     have hone : ∀ {vs : List AV} {us : List Value}, vs.all (wh_ H) = true → All2 (rep (mem cx w H ι F)) vs us → ∀ u ∈ us, u.oneCell' = true := by
      intro vs
      induction vs with
      | nil => intro us _ h u hu; cases us with | nil => simp at hu | cons _ _ => exact h.elim
      | cons v vs ih =>
       intro us hall h u hu
       simp only [List.all_cons, Bool.and_eq_true] at hall
       cases us with
       | nil => exact h.elim
       | cons u' us =>
        rcases List.mem_cons.1 hu with rfl | hu
        ·exact wm_ ho hall.1 h.1
        ·exact ih hall.2 h.2 u hu
     refine fresh (hone hall hr) _ hK (fun m hm hmr => ⟨us, y6_ us e hml _ hm, ?_⟩)
     rw [xw_]
     exact hr.mono hmr
theorem Jh_ (ho : Owns cx H w ι F) {t e : TypeId} (hk : xz_ P t = .sl e) (he : xv_ P e = true) (hz0 : xk_ P e = (match xj_ P e with | 1 => some [.int 0] | 2 => some [.nil] | 3 => some [.nil] | _ => xk_ P e)) {n : Int}
  {K : AV → List Nat → List Nat → List (Nat × Tree) → Prop} (h : UM_ P H e n K) (k k' : IntKind) :
  ∃ u w', (Instr.makeSlice t (.int k n) (.int k' n)).run P w = .ok u w' ∧ Left cx H w ι F u w' K := by
 obtain ⟨i, z, hi, h1, hby, hz, hzo, hzc⟩ := zh_ he
 obtain ⟨h0, hn, h⟩ := h
 have run := an8 (P := P) (w := w) (YZ_ hk).1 hi hz h1 hzc hby h0 hn k k'
 have hml : (List.replicate n.toNat z).length ≤ maxLen := by simp [maxLen]; omega
 have hl : (List.replicate n.toNat z).length = n.toNat := by simp
 have fresh : ∀ (t' : Tree), K (.ref (xR_ H) []) [] [] (x8_ H (xR_ H) t') →
   (∀ m : Mem, m.w = w.alloc (.cells (List.replicate n.toNat z).toArray e) → treeRep m [w.heap.size] t' (.slice (some ⟨w.heap.size, 0, none⟩) (List.replicate n.toNat z).length (List.replicate n.toNat z).length)) →
   ∃ u w', (Instr.makeSlice t (.int k n) (.int k' n)).run P w = .ok u w' ∧ Left cx H w ι F u w' K := by
  intro t' hK ht
  refine ⟨_, _, run, ho.new t' _ _ e (fun m hm _ => ?_) hK (fun m hd hv => by simp only [rep]; exact ⟨hd, by rw [hv]; simp [xl_]⟩)⟩
  have := ht m hm
  rwa [hl] at this
 have hzz : xk_ P e = some [ofV z] := by simp [xk_, hi, hz, hzc]
 rw [hzz] at hz0
 split at h
 ·rename_i hek
  rw [hek] at hz0
  simp only [Option.some.injEq, List.cons.injEq, and_true] at hz0
  have hzi : z = .int .i64 0 := by
   have := wk_ (mem cx w H ι F) z
   rw [hz0] at this
   simp only [rep] at this
   exact this.1
  subst hzi
  refine fresh _ h (fun m hm => ?_)
  have := y6_ (List.replicate n.toNat (.int .i64 0)) e hml _ hm
  refine ⟨by simpa [ints] using this, fun x hx => ?_⟩
  rw [List.eq_of_mem_replicate hx]; constructor <;> decide
 ·rename_i hek
  rw [hek] at hz0
  simp only [Option.some.injEq, List.cons.injEq, and_true] at hz0
  have hzi : z = .slice none 0 0 := by
   have := wk_ (mem cx w H ι F) z
   rw [hz0] at this
   simpa only [rep] using this
  subst hzi
  refine fresh _ h (fun m hm => ⟨_, [w.heap.size], List.replicate n.toNat [], y6_ (List.replicate n.toNat (.slice none 0 0)) e hml _ hm, ?_, by simp⟩)
  generalize n.toNat = k
  induction k with
  | zero => trivial
  | succ k ih => exact ⟨⟨.inl ⟨rfl, rfl, rfl⟩, by simp⟩, ih⟩
 ·rename_i hek
  rw [hek] at hz0
  simp only [Option.some.injEq, List.cons.injEq, and_true] at hz0
  have hzi : z = .slice none 0 0 := by
   have := wk_ (mem cx w H ι F) z
   rw [hz0] at this
   simpa only [rep] using this
  subst hzi
  refine fresh _ h (fun m hm => ⟨_, [w.heap.size], List.replicate n.toNat [], y6_ (List.replicate n.toNat (.slice none 0 0)) e hml _ hm, ?_, by simp⟩)
  generalize n.toNat = k
  induction k with
  | zero => trivial
  | succ k ih => exact ⟨⟨[], [], [], .inl ⟨rfl, rfl, rfl⟩, trivial, rfl⟩, ih⟩
 ·split at h
  ·rename_i za hza
   rw [hzz] at hza
   simp only [Option.some.injEq, List.cons.injEq, and_true] at hza
   subst hza
   refine fresh _ h (fun m hm => ⟨_, y6_ (List.replicate n.toNat z) e hml _ hm, ?_⟩)
   rw [xw_]
   generalize n.toNat = k
   induction k with
   | zero => trivial
   | succ k ih => exact ⟨wk_ m z, ih⟩
  ·exact h.elim
end
end Go.Aw
namespace Go.Aw
open Go.RowKit
theorem All3.of_get {α β γ : Type} {R : α → β → γ → Prop} : ∀ {as : List α} {bs : List β} {cs : List γ}, as.length = bs.length → bs.length = cs.length →
  (∀ (i : Nat) a b c, as[i]? = some a → bs[i]? = some b → cs[i]? = some c → R a b c) → All3 R as bs cs
 | [], [], [], _, _, _ => trivial
 | a :: as, b :: bs, c :: cs, h1, h2, h => ⟨h 0 a b c rfl rfl rfl, All3.of_get (by simpa using h1) (by simpa using h2) (fun i x y z hx hy hz => h (i + 1) x y z (by simpa using hx) (by simpa using hy) (by simpa using hz))⟩
 | [], _ :: _, _, h, _, _ => by simp at h
 | _ :: _, [], _, h, _, _ => by simp at h
 | [], [], _ :: _, _, h, _ => by simp at h
 | _ :: _, _ :: _, [], _, h, _ => by simp at h
theorem All3.at {α β γ : Type} {R : α → β → γ → Prop} {as : List α} {bs : List β} {cs : List γ} (h : All3 R as bs cs) {i : Nat} {a : α} {b : β} {c : γ} (ha : as[i]? = some a) (hb : bs[i]? = some b) (hc : cs[i]? = some c) : R a b c := by
 obtain ⟨a', c', ha', hc', hr⟩ := h.get i b hb
 rw [ha] at ha'; rw [hc] at hc'; cases ha'; cases hc'; exact hr
theorem yj_ {l : List (List Nat)} (h : l.flatten.Nodup) {i j : Nat} {a b : List Nat} (hi : l[i]? = some a) (hj : l[j]? = some b) (hne : i ≠ j) {x : Nat} (ha : x ∈ a) (hb : x ∈ b) : False := by
 induction l generalizing i j with
 | nil => simp at hi
 | cons c l ih =>
  rw [List.flatten_cons, List.nodup_append] at h
  match i, j with
  | 0, 0 => exact hne rfl
  | 0, j + 1 =>
   simp at hi hj; subst hi
   exact h.2.2 x ha x (List.mem_flatten.2 ⟨b, List.mem_of_getElem? hj, hb⟩) rfl
  | i + 1, 0 =>
   simp at hi hj; subst hj
   exact h.2.2 x hb x (List.mem_flatten.2 ⟨a, List.mem_of_getElem? hi, ha⟩) rfl
  | i + 1, j + 1 => exact ih h.2.1 (by simpa using hi) (by simpa using hj) (by omega)
theorem x9_ {l : List (List Nat)} (h : l.flatten.Nodup) {i : Nat} {a : List Nat} (hi : l[i]? = some a) : a.Nodup := by
 induction l generalizing i with
 | nil => simp at hi
 | cons c l ih =>
  rw [List.flatten_cons, List.nodup_append] at h
  match i with
  | 0 => simp at hi; subst hi; exact h.1
  | i + 1 => exact ih h.2.1 (by simpa using hi)
theorem xO_ {l : List (List Nat)} {i x : Nat} {g : List Nat} (h : x ∈ (l.set i g).flatten) : x ∈ g ∨ x ∈ l.flatten := by
 obtain ⟨a, ha, hx⟩ := List.mem_flatten.1 h
 rcases List.mem_or_eq_of_mem_set ha with h | h
 ·exact .inr (List.mem_flatten.2 ⟨a, h, hx⟩)
 ·subst h; exact .inl hx
theorem ya_ {g : List Nat} (hg : g.Nodup) : ∀ {l : List (List Nat)} {i : Nat}, l.flatten.Nodup → (∀ x ∈ g, x ∉ l.flatten) → (l.set i g).flatten.Nodup
 | [], _, _, _ => by simp
 | c :: l, 0, h, hd => by
  rw [List.flatten_cons, List.nodup_append] at h
  simp only [List.set_cons_zero, List.flatten_cons, List.nodup_append]
  exact ⟨hg, h.2.1, fun a ha b hb e => by subst e; exact hd a ha (by simp only [List.flatten_cons, List.mem_append]; exact .inr hb)⟩
 | c :: l, i + 1, h, hd => by
  rw [List.flatten_cons, List.nodup_append] at h
  simp only [List.set_cons_succ, List.flatten_cons, List.nodup_append]
  refine ⟨h.1, ya_ hg h.2.1 (fun x hx hxl => hd x hx (by simp only [List.flatten_cons, List.mem_append]; exact .inr hxl)), fun a ha b hb e => ?_⟩
  subst e
  rcases xO_ hb with hb | hb
  ·exact hd a hb (by simp only [List.flatten_cons, List.mem_append]; exact .inl ha)
  ·exact h.2.2 a ha a hb rfl
section
variable {P : Program} {cx : Cx} {H : List (Nat × Tree)} {w w' : World} {ι : Nat → Value} {F : Nat → List Nat}
theorem zt_ {t : TypeId} (h1 : P.cellsOf t = 1) {u x : Value} (hu : u.oneCell' = true) {b o : Nat} (hc : w.cell? ⟨b, o, none⟩ = some x) (hf : w.frozen? ⟨b, o, none⟩ = false) :
  (Instr.storeAt t (.pointer (some ⟨b, o, none⟩)) u).run P w = .ok () (w.setCell ⟨b, o, none⟩ u) := by
 have hs := yC_ (P := P) (e := t) (n := 0) h1 w
 have hcs : u.cells = #[u] := by cases u <;> first | rfl | simp [Value.oneCell'] at hu
 have ha : (⟨b, o, none⟩ : Addr).add 0 = ⟨b, o, none⟩ := by rw [yG_]; simp
 simp [Instr.storeAt, Instr.sureAddr, storeVar, hs, hcs, storeCells, ha, run_store P w _ u _ hu, hc, hf]
theorem yo_ (w : World) (b o : Nat) (u : Value) : Turned w (w.setCell ⟨b, o, none⟩ u) [b] :=
 ⟨rfl, rfl, rfl, by simp, fun k _ hk => Below.heap_setCell _ _ _ _ (by simpa using hk)⟩
theorem OwnSl.set {fp : List Nat} {us : List Value} {b off n cap : Nat} (h : OwnSl w fp us (.slice (some ⟨b, off, none⟩) n cap)) {i : Nat} (u : Value) :
  OwnSl (w.setCell ⟨b, off + i, none⟩ u) fp (us.set i u) (.slice (some ⟨b, off, none⟩) n cap) := by
 rcases h with ⟨h1, _⟩ | ⟨b', off', cap', c, E, h1, h2, h3, h4, h5, h6, h7⟩
 ·cases h1
 ·cases h1
  refine .inr ⟨b, off, cap, c.setIfInBounds (off + i) u, E, by simp, h2, heap_setCell_same w b (off + i) c E u h3, by simpa using h4, by simpa using h5, h6, fun j x hx => ?_⟩
  rw [List.getElem?_set] at hx
  split at hx
  ·rename_i hij; subst hij
   split at hx
   ·rename_i hl; cases hx
    rw [Array.getElem?_setIfInBounds]
    simp only [if_true]
    rw [if_pos (by omega)]
   ·cases hx
  ·rename_i hij
   rw [Array.getElem?_setIfInBounds, if_neg (by omega)]
   exact h7 j x hx
theorem OwnSl.at {fp : List Nat} {us : List Value} {b off n cap : Nat} (h : OwnSl w fp us (.slice (some ⟨b, off, none⟩) n cap)) :
  fp = [b] ∧ n = us.length ∧ (∀ i, i < n → ∃ x, us[i]? = some x ∧ w.cell? ⟨b, off + i, none⟩ = some x) ∧ ∀ o, w.frozen? ⟨b, o, none⟩ = false := by
 rcases h with ⟨h1, _⟩ | ⟨b', off', cap', c, E, h1, h2, h3, h4, h5, h6, h7⟩
 ·cases h1
 ·cases h1
  refine ⟨h2, rfl, fun i hi => ⟨us[i], by simp [hi], ?_⟩, fun o => by simp [World.frozen?, h3]⟩
  have := h7 i us[i] (by simp [hi])
  simp [World.cell?, h3, this]
def ON {α : Type} (R : World → List Nat → α → Value → Prop) (w : World) (fp : List Nat) (as : List α) (v : Value) : Prop :=
 ∃ us f0 fs, OwnSl w f0 us v ∧ All3 (R w) fs as us ∧ fp = f0 ++ fs.flatten
theorem zZ_ {α : Type} {R : World → List Nat → α → Value → Prop} (frame : ∀ {w w' fp a v}, (∀ b ∈ fp, w'.heap[b]? = w.heap[b]?) → R w fp a v → R w' fp a v) {fp : List Nat} {as : List α} {v x : Value} {r b : Nat} {d a' : α}
  (h : ON R w fp as v) (hn : fp.Nodup) (hrow : xl_ w v [r] = some x) (hsame : ∀ k, k ≠ b → w'.heap[k]? = w.heap[k]?)
  (hin : ∀ f, f.Nodup → R w f (as.getD r d) x → b ∈ f ∧ R w' f a' x) :
  b ∈ fp ∧ ON R w' fp (as.set r a') v ∧ ∀ j u, xl_ w v [j] = some u → xl_ w' v [j] = some u := by
 obtain ⟨us, f0, fs, h1, h2, rfl⟩ := h
 obtain ⟨y, hy, hp⟩ := h1.row hrow
 simp only [xl_, Option.some.injEq] at hp; subst hp
 have hl : r < as.length := by rw [h2.length.2]; exact (List.getElem?_eq_some_iff.1 hy).1
 obtain ⟨f, c, hf, hc, hr⟩ := h2.get r _ (getD_some (d := d) hl)
 rw [hy] at hc; cases hc
 rw [List.nodup_append] at hn
 obtain ⟨hbf, hr'⟩ := hin f (x9_ hn.2.1 hf) hr
 have hbfs : b ∈ fs.flatten := List.mem_flatten.2 ⟨f, List.mem_of_getElem? hf, hbf⟩
 have h0 : ∀ k ∈ f0, w'.heap[k]? = w.heap[k]? := fun k hk => hsame k (fun e => by subst e; exact hn.2.2 k hk k hbfs rfl)
 refine ⟨by simp only [List.mem_append]; exact .inr hbfs, ⟨us, f0, fs, h1.heap h0, ?_, rfl⟩, fun j u hj => ?_⟩
 ·refine All3.of_get (by rw [List.length_set]; exact h2.length.1) (by rw [List.length_set]; exact h2.length.2) (fun i g a u hg ha hu => ?_)
  rw [List.getElem?_set] at ha
  split at ha
  ·rename_i hir; subst hir
   rw [hf] at hg; rw [hy] at hu; cases hg; cases hu
   cases ha
   exact hr'
  ·rename_i hir
   refine frame (fun k hk => hsame k (fun e => ?_)) (h2.at hg ha hu)
   subst e
   exact yj_ hn.2.1 hg hf (fun e => hir e.symm) hk hbf
 ·obtain ⟨b', off, n, cap, x', rfl, hi, hc', hx'⟩ := xB_ hj
  have hfp := h1.at.1
  rw [xJ_ hi (by rw [cell_of_heap (h0 b' (by simp [hfp]))]; exact hc')]
  simpa [xl_] using hx'
theorem Ji_ {α : Type} {R : World → List Nat → α → Value → Prop} (frame : ∀ {w w' fp a v}, (∀ b ∈ fp, w'.heap[b]? = w.heap[b]?) → R w fp a v → R w' fp a v) {fp g : List Nat} {as : List α} {u : Value} {i b off n cap : Nat} {a' : α}
  (h : ON R w fp as (.slice (some ⟨b, off, none⟩) n cap)) (hn : fp.Nodup) (hg : g.Nodup) (hd : ∀ x ∈ g, x ∉ fp) (hu : R w g a' u) :
  b ∈ fp ∧ ∃ fp', ON R (w.setCell ⟨b, off + i, none⟩ u) fp' (as.set i a') (.slice (some ⟨b, off, none⟩) n cap) ∧ fp'.Nodup ∧ ∀ x ∈ fp', x ∈ fp ∨ x ∈ g := by
 obtain ⟨us, f0, fs, h1, h2, rfl⟩ := h
 have h0 := h1.at.1
 rw [List.nodup_append] at hn
 have hbf : b ∉ fs.flatten := fun hb => hn.2.2 b (by simp [h0]) b hb rfl
 have hbg : b ∉ g := fun hb => hd b hb (by simp [h0])
 have hs : ∀ k, k ≠ b → (w.setCell ⟨b, off + i, none⟩ u).heap[k]? = w.heap[k]? := fun k hk => Below.heap_setCell _ _ _ _ (by simpa using hk)
 refine ⟨by simp [h0], f0 ++ (fs.set i g).flatten, ⟨us.set i u, f0, fs.set i g, h1.set u, ?_, rfl⟩, ?_, fun x hx => ?_⟩
 ·refine All3.set i (h2.mono fun f hf _ _ hr => frame (fun k hk => hs k (fun e => hbf (e ▸ List.mem_flatten.2 ⟨f, hf, hk⟩))) hr) (frame (fun k hk => hs k (fun e => hbg (e ▸ hk))) hu)
 ·rw [List.nodup_append]
  refine ⟨hn.1, ya_ hg hn.2.1 (fun x hx hxl => hd x hx (by simp only [List.mem_append]; exact .inr hxl)), fun a ha c hc e => ?_⟩
  subst e
  rcases xO_ hc with hc | hc
  ·exact hd a hc (by simp only [List.mem_append]; exact .inl ha)
  ·exact hn.2.2 a ha a hc rfl
 ·rcases List.mem_append.1 hx with hx | hx
  ·exact .inl (by simp only [List.mem_append]; exact .inl hx)
  ·rcases xO_ hx with hx | hx
   ·exact .inr hx
   ·exact .inl (by simp only [List.mem_append]; exact .inr hx)
theorem O1.set {fp : List Nat} {xs : List Int} {b off n cap : Nat} (h : O1 w fp xs (.slice (some ⟨b, off, none⟩) n cap)) (i : Nat) {k : Int} (hk : InR k) :
  b ∈ fp ∧ O1 (w.setCell ⟨b, off + i, none⟩ (.int .i64 k)) fp (xs.set i k) (.slice (some ⟨b, off, none⟩) n cap) := by
 have h0 := h.1.at.1
 refine ⟨by simp [h0], ?_, fun x hx => ?_⟩
 ·have := h.1.set (i := i) (.int .i64 k)
  simpa [ints, List.map_set] using this
 ·rcases List.mem_or_eq_of_mem_set hx with hx | hx
  ·exact h.2 x hx
  ·subst hx; exact hk
end
end Go.Aw
