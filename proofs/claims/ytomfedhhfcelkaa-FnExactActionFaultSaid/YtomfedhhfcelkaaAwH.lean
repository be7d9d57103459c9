/-
  The operations that make or turn memory, abstractly ('AHeap'). Of no program.
-/
import Derived.Test.YtomfedhhfcelkaaAwG
set_option linter.unusedSimpArgs false
set_option linter.unusedVariables false
namespace Go.Aw
open Go.RowKit

def newId : List (Nat × Tree) → Nat
  | [] => 0
  | (k, _) :: r => max (k + 1) (newId r)
theorem newId_lt : ∀ {H : List (Nat × Tree)} {k : Nat}, k ∈ ids H → k < newId H
  | [], k, h => by simp [ids] at h
  | (j, x) :: r, k, h => by
    simp only [ids, List.map_cons, List.mem_cons] at h
    simp only [newId]
    rcases h with h | h
    · omega
    · have := newId_lt (H := r) h; omega
theorem newId_not (H : List (Nat × Tree)) : newId H ∉ ids H := fun h => absurd (newId_lt h) (Nat.lt_irrefl _)
theorem find_new (H : List (Nat × Tree)) : find H (newId H) = none := find_none.2 (newId_not H)

/-- Which paths are forgotten: all of some objects; those behind the root of some others. -/
def qOf (all subs : List Nat) : Nat → List Nat → Bool := fun i p => all.contains i || (subs.contains i && !p.isEmpty)

mutual
theorem killA_no : ∀ (v : AV), killA (qOf [] []) v = v
  | .ref _ _ | .sub _ _ _ _ | .eref _ _ _ | .bptr _ _ => by simp [killA, qOf]
  | .lv vs | .agg vs | .tup vs | .fn _ vs | .cptr vs _ => by simp [killA, killAs_no vs]
  | .eptr v _ | .when _ v => by simp [killA, killA_no v]
  | .int _ | .ik _ _ | .bool _ | .str _ | .nil | .nilfn | .l1 _ | .l2 _ | .l3 _ | .junk => by simp [killA]
theorem killAs_no : ∀ (vs : List AV), killAs (qOf [] []) vs = vs
  | [] => rfl
  | a :: as => by simp [killAs, killA_no a, killAs_no as]
end
theorem killT_no (t : Tree) : killT (qOf [] []) t = t := by cases t <;> simp [killT, killAs_no]
theorem killH_no (H : List (Nat × Tree)) : killH (qOf [] []) H = H := by
  unfold killH
  have : (fun p : Nat × Tree => (p.1, killT (qOf [] []) p.2)) = id := by funext p; simp [killT_no]
  rw [this]; simp
theorem rmT_no (H : List (Nat × Tree)) : rmT [] H = H := by simp [rmT]

def zeroAVs (P : Program) (t : TypeId) : Option (List AV) :=
  match (P.info? t).bind (·.zero) with
  | some z => some (z.cells.toList.map ofV)
  | none => none

/-- What lies in the cells of a value; nothing where that is not known. -/
def cellsA (H : List (Nat × Tree)) : AV → Option (List AV)
  | .agg vs => some vs
  | .junk | .when .. | .tup _ => none
  | .ref id p => if (elemsT H id p).isSome then some [.ref id p] else none
  | .sub id p lo hi => some [.sub id p lo hi]
  | v => some [v]

/-- A value of one cell. -/
def oneA (H : List (Nat × Tree)) (v : AV) : Bool := (cellsA H v).isSome && (match v with | .agg _ => false | _ => true)

def isL1 : AV → Option (List Int)
  | .l1 xs => some xs
  | .nil => some []
  | _ => none
def isL2 : AV → Option (List (List Int))
  | .l2 xs => some xs
  | .nil => some []
  | _ => none
def isInt : AV → Option Int
  | .int n => some n
  | _ => none
def allSome {α β : Type} (f : α → Option β) : List α → Option (List β)
  | [] => some []
  | a :: as => match f a, allSome f as with
    | some x, some xs => some (x :: xs)
    | _, _ => none

/-- The elements of a type: integers, slices of them, slices of slices of them, all else. -/
def elemKind (P : Program) (e : TypeId) : Nat :=
  match tkOf P e with
  | .int => 1
  | .sl e' => match tkOf P e' with
    | .int => 2
    | .sl e'' => match tkOf P e'' with
      | .int => 3
      | _ => 0
    | _ => 0
  | _ => 0

/-- A type whose elements lie in one cell each, and whose zero value is known. -/
def okElem (P : Program) (e : TypeId) : Bool :=
  match P.info? e with
  | some i => i.size == 1 && decide (i.bytes ≤ 64) && (match i.zero with
    | some z => z.oneCell'
    | none => false)
  | none => false

theorem okElem_info {P : Program} {e : TypeId} (h : okElem P e = true) : ∃ i z, P.info? e = some i ∧ i.size = 1 ∧ i.bytes ≤ 64 ∧ i.zero = some z ∧ z.oneCell' = true ∧ z.cells = #[z] := by
  unfold okElem at h
  split at h
  · rename_i i hi
    simp only [Bool.and_eq_true, beq_iff_eq, decide_eq_true_eq] at h
    obtain ⟨⟨h1, h2⟩, h3⟩ := h
    split at h3
    · rename_i z hz
      exact ⟨i, z, hi, h1, h2, hz, h3, by cases z <;> first | rfl | simp [Value.oneCell'] at h3⟩
    · cases h3
  · cases h

/-- What a list of parts becomes: a row of integers; one owned row taken in; rows that are only read. -/
def ABuild (P : Program) (H : List (Nat × Tree)) (e : TypeId) (vs : List AV) (K : AV → List Nat → List Nat → List (Nat × Tree) → Prop) : Prop :=
  match vs with
  | [] => match elemKind P e with
    | 1 => K (.ref (newId H) []) [] [] (putT H (newId H) (.t1 []))
    | 2 => K (.ref (newId H) []) [] [] (putT H (newId H) (.t2 []))
    | 3 => K (.ref (newId H) []) [] [] (putT H (newId H) (.t3 []))
    | _ => K (.ref (newId H) []) [] [] (putT H (newId H) (.lv []))
  | [.ref id []] => match find H id with
    | some (.t1 xs) => K (.ref (newId H) []) [id] [] (putT (killH (qOf [id] []) (rmT [id] H)) (newId H) (.t2 [xs]))
    | some (.t2 xs) => K (.ref (newId H) []) [id] [] (putT (killH (qOf [id] []) (rmT [id] H)) (newId H) (.t3 [xs]))
    | _ => False
  | vs => match allSome isInt vs with
    | some xs => K (.ref (newId H) []) [] [] (putT H (newId H) (.t1 xs))
    | none => match allSome isL1 vs with
      | some xs => K (.ref (newId H) []) [] [] (putT H (newId H) (.r2 xs))
      | none => match allSome isL2 vs with
        | some xs => K (.ref (newId H) []) [] [] (putT H (newId H) (.r3 xs))
        | none => vs.all (oneA H) = true ∧ K (.ref (newId H) []) [] [] (putT H (newId H) (.lv vs))

def AMake (P : Program) (H : List (Nat × Tree)) (e : TypeId) (n : Int) (K : AV → List Nat → List Nat → List (Nat × Tree) → Prop) : Prop :=
  0 ≤ n ∧ n ≤ 1099511627776 ∧ match elemKind P e with
    | 1 => K (.ref (newId H) []) [] [] (putT H (newId H) (.t1 (List.replicate n.toNat 0)))
    | 2 => K (.ref (newId H) []) [] [] (putT H (newId H) (.t2 (List.replicate n.toNat [])))
    | 3 => K (.ref (newId H) []) [] [] (putT H (newId H) (.t3 (List.replicate n.toNat [])))
    | _ => match zeroAVs P e with
      | some [z] => K (.ref (newId H) []) [] [] (putT H (newId H) (.lv (List.replicate n.toNat z)))
      | _ => False

section
variable {P : Program} {cx : Cx} {H : List (Nat × Tree)} {w : World} {ι : Nat → Value} {F : Nat → List Nat}

/-- What an operation leaves. -/
def Left (cx : Cx) (H : List (Nat × Tree)) (w : World) (ι : Nat → Value) (F : Nat → List Nat) (u : Value) (w' : World) (K : AV → List Nat → List Nat → List (Nat × Tree) → Prop) : Prop :=
  ∃ v all subs H' ι' F', K v all subs H' ∧ Owns cx H' w' ι' F' ∧ rep (mem cx w' H' ι' F') v u ∧ ∀ av x, rep (mem cx w H ι F) av x → rep (mem cx w' H' ι' F') (killA (qOf all subs) av) x

theorem find_put_self {id : Nat} {t : Tree} : find (putT H id t) id = some t := by rw [find_putT, if_pos rfl]

/-- A new block, a new object. -/
theorem Owns.new (ho : Owns cx H w ι F) (t : Tree) (v : Value) (c : Array Value) (E : TypeId)
    (ht : ∀ m : Mem, m.w = w.alloc (.cells c E) → (∀ av x, rep (mem cx w H ι F) av x → rep m av x) → treeRep m [w.heap.size] t v)
    {K : AV → List Nat → List Nat → List (Nat × Tree) → Prop} {av : AV} (hK : K av [] [] (putT H (newId H) t))
    (hav : ∀ m : Mem, m.D (newId H) [] → m.ι (newId H) = v → rep m av v) :
    Left cx H w ι F v (w.alloc (.cells c E)) K := by
  have hext : Ext w (w.alloc (.cells c E)) := (Below.refl _ _).alloc (Nat.le_refl _) _
  have key := ho.put (w' := w.alloc (.cells c E)) [] (newId H) t v [w.heap.size] (qOf [] []) (ho.keep.ext ho.old hext) hext.size
    (fun b hb _ => hext.block b hb) (by simp) (fun b hb => by simp only [List.mem_singleton] at hb; subst hb; exact ⟨by simp, .inr (Nat.le_refl _)⟩) (by simp)
    (fun p _ hl => by rw [find_new] at hl; simp [livePath] at hl)
    (fun hr => ht _ rfl (fun av x h => by have := hr av x h; rwa [killA_no] at this))
  rw [rmT_no, killH_no] at key
  refine ⟨av, [], [], _, _, _, hK, key.1, ?_, key.2⟩
  refine hav _ ?_ (by simp [mem, updF])
  simp only [mem, find_put_self]
  cases t <;> rfl

theorem all2_map {α β γ : Type} {R : β → γ → Prop} {f : α → β} : ∀ {as : List α} {cs : List γ}, All2 (fun a c => R (f a) c) as cs → All2 R (as.map f) cs
  | [], [], _ => trivial
  | _ :: _, _ :: _, h => ⟨h.1, all2_map h.2⟩
  | [], _ :: _, h => h.elim
  | _ :: _, [], h => h.elim

theorem ofV_reps (m : Mem) : ∀ (l : List Value), reps m (l.map ofV) l
  | [] => by simp [reps]
  | a :: l => by simp only [List.map_cons, reps]; exact ⟨a, l, rfl, ofV_rep m a, ofV_reps m l⟩

theorem alloc_left (ho : Owns cx H w ι F) {t : TypeId} {vs : List AV} (hz : zeroAVs P t = some vs) {K : AV → List Nat → List Nat → List (Nat × Tree) → Prop}
    (hK : K (.bptr (newId H) 0) [] [] (putT H (newId H) (.bx vs))) :
    ∃ u w', (Instr.alloc t true (.tuple #[])).run P w = .ok u w' ∧ Left cx H w ι F u w' K := by
  unfold zeroAVs at hz
  split at hz
  · rename_i z hz'
    cases hz
    simp only [Option.bind_eq_some_iff] at hz'
    obtain ⟨i, hi, hiz⟩ := hz'
    refine ⟨.pointer (some ⟨w.heap.size, 0, none⟩), w.alloc (.cells z.cells t), by simp [Instr.alloc, zeroValue, typeInfo, hi, hiz, newVar, newRow], ?_⟩
    refine ho.new (.bx (z.cells.toList.map ofV)) _ z.cells t (fun m hm hr => ?_) hK (fun m hd hv => ?_)
    · simp only [treeRep]
      refine ⟨w.heap.size, z.cells.toList, t, rfl, rfl, ?_, ofV_reps m _⟩
      rw [hm]; simpa using heap_alloc_new w _
    · simp only [rep]; exact ⟨hd, w.heap.size, hv, rfl⟩
  · cases hz

theorem cellsA_rep (ho : Owns cx H w ι F) {av : AV} {vs : List AV} {u : Value} (h : cellsA H av = some vs) (hr : rep (mem cx w H ι F) av u) : reps (mem cx w H ι F) vs u.cells.toList := by
  have one : ∀ {x : AV} {u : Value}, u.oneCell' = true → rep (mem cx w H ι F) x u → reps (mem cx w H ι F) [x] u.cells.toList := fun {x u} hu hx => by
    have : u.cells = #[u] := by cases u <;> first | rfl | simp [Value.oneCell'] at hu
    rw [this]; simp only [reps]; exact ⟨u, [], rfl, hx, rfl⟩
  have slone : ∀ {S : Nat → Prop} {us : List Value} {u : Value}, SlC w S us u → u.oneCell' = true := fun h => by
    rcases h with ⟨⟨_, rfl⟩, _⟩ | ⟨_, _, _, rfl, _⟩ <;> rfl
  unfold cellsA at h
  split at h <;> first | (cases h; done) | skip
  · cases h
    simp only [rep] at hr
    obtain ⟨us, rfl, h2⟩ := hr
    simpa [Value.cells] using h2
  · split at h
    · rename_i hs
      cases h
      have hr' := hr
      simp only [rep] at hr'
      obtain ⟨⟨n, f⟩, he⟩ := Option.isSome_iff_exists.1 hs
      obtain ⟨us, fp, k1, _⟩ := elemsT_rep ho he hr'.2
      exact one (slone (k1.slC (S := fun _ => True) (fun _ _ => trivial))) hr
    · cases h
  · cases h
    have hr' := hr
    simp only [rep] at hr'
    obtain ⟨_, a, n, cap, _, _, _, _, rfl⟩ := hr'
    exact one rfl hr
  · rename_i v h1 h2 h3 h4 h5 h6
    cases h
    refine one ?_ hr
    cases av <;> simp only [rep] at hr <;> first
      | exact absurd rfl (h1 _) | exact absurd rfl h2 | exact absurd rfl (h3 _ _) | exact absurd rfl (h4 _) | exact absurd rfl (h5 _ _) | exact absurd rfl (h6 _ _ _ _)
      | (rw [hr.1]; rfl)
      | (rw [hr]; rfl)
      | exact slone hr.1
      | (obtain ⟨us, k1, _⟩ := hr; exact slone k1)
      | (obtain ⟨us, rfl, _⟩ := hr; rfl)
      | (obtain ⟨_, _, _, _, _, _, rfl⟩ := hr; rfl)
      | (obtain ⟨_, _, rfl, _⟩ := hr; rfl)
      | (obtain ⟨_, _, _, _, _, _, _, rfl⟩ := hr; rfl)
      | (obtain ⟨_, _, _, rfl⟩ := hr; rfl)

theorem reps_mono {m m' : Mem} (h : ∀ av x, rep m av x → rep m' av x) : ∀ {vs : List AV} {us : List Value}, reps m vs us → reps m' vs us
  | [], _, hr => by simpa only [reps] using hr
  | a :: as, _, hr => by
    simp only [reps] at hr ⊢
    obtain ⟨u, us', h1, h2, h3⟩ := hr
    exact ⟨u, us', h1, h _ _ h2, reps_mono h h3⟩

theorem box_left (ho : Owns cx H w ι F) {t : TypeId} {av : AV} {vs : List AV} {x : Value} (hc : cellsA H av = some vs) (hr : rep (mem cx w H ι F) av x) {K : AV → List Nat → List Nat → List (Nat × Tree) → Prop}
    (hK : K (.bptr (newId H) 0) [] [] (putT H (newId H) (.bx vs))) :
    ∃ u w', (Instr.box t x).run P w = .ok u w' ∧ Left cx H w ι F u w' K := by
  have hcs := cellsA_rep ho hc hr
  refine ⟨.pointer (some ⟨w.heap.size, 0, none⟩), w.alloc (.cells x.cells t), by simp [Instr.box, newVar, newRow], ?_⟩
  refine ho.new (.bx vs) _ x.cells t (fun m hm hr => ?_) hK (fun m hd hv => ?_)
  · simp only [treeRep]
    refine ⟨w.heap.size, x.cells.toList, t, rfl, rfl, ?_, reps_mono hr hcs⟩
    rw [hm]; simpa using heap_alloc_new w _
  · simp only [rep]; exact ⟨hd, w.heap.size, hv, rfl⟩

/-- A new row holds what it was made of. -/
theorem new_own (us : List Value) (E : TypeId) (hl : us.length ≤ maxLen) (w' : World) (hw : w' = w.alloc (.cells us.toArray E)) : OwnSl w' [w.heap.size] us (.slice (some ⟨w.heap.size, 0, none⟩) us.length us.length) := by
  subst hw
  exact .inr ⟨w.heap.size, 0, us.length, us.toArray, E, rfl, rfl, heap_alloc_new w _, by simp, Nat.le_refl _, hl, fun i u hu => by simpa using hu⟩

theorem allSome_all2 {α β γ : Type} {f : α → Option β} {R : α → γ → Prop} {R' : β → γ → Prop} (hf : ∀ a b c, f a = some b → R a c → R' b c) :
    ∀ {as : List α} {bs : List β} {cs : List γ}, allSome f as = some bs → All2 R as cs → All2 R' bs cs
  | [], bs, cs, h, h2 => by
    simp only [allSome, Option.some.injEq] at h
    subst h
    cases cs with
    | nil => trivial
    | cons _ _ => exact h2.elim
  | a :: as, bs, cs, h, h2 => by
    simp only [allSome] at h
    split at h
    · rename_i x xs hx hxs
      cases h
      cases cs with
      | nil => exact h2.elim
      | cons c cs => exact ⟨hf _ _ _ hx h2.1, allSome_all2 hf hxs h2.2⟩
    · cases h

theorem all2_eq_ints : ∀ {xs : List Int} {us : List Value}, All2 (fun (x : Int) (u : Value) => u = .int .i64 x ∧ InR x) xs us → us = ints xs ∧ ∀ x ∈ xs, InR x
  | [], [], _ => ⟨rfl, by simp⟩
  | x :: xs, u :: us, h => by
    obtain ⟨h1, h2⟩ := all2_eq_ints h.2
    exact ⟨by rw [h.1.1, h1]; rfl, fun y hy => by rcases List.mem_cons.1 hy with rfl | hy; exact h.1.2; exact h2 y hy⟩
  | [], _ :: _, h => h.elim
  | _ :: _, [], h => h.elim

theorem rep_one (ho : Owns cx H w ι F) {v : AV} {u : Value} (hc : oneA H v = true) (hr : rep (mem cx w H ι F) v u) : u.oneCell' = true := by
  simp only [oneA, Bool.and_eq_true] at hc
  obtain ⟨h1, h2⟩ := hc
  obtain ⟨vs, hvs⟩ := Option.isSome_iff_exists.1 h1
  have hcs := cellsA_rep ho hvs hr
  unfold cellsA at hvs
  split at hvs <;> first | (cases hvs; done) | (simp at h2; done) | skip
  · split at hvs
    · cases hvs
      simp only [reps] at hcs
      obtain ⟨y, ys, e, _, rfl⟩ := hcs
      cases u <;> first | rfl | skip
      · rename_i cs
        have hr' := hr
        simp only [rep] at hr'
        obtain ⟨⟨n, f⟩, he⟩ := Option.isSome_iff_exists.1 ‹(elemsT H _ _).isSome = true›
        obtain ⟨us, fp, k1, _⟩ := elemsT_rep ho he hr'.2
        obtain ⟨_, _, _, k, _⟩ := len_size k1
        cases k
      · rename_i cs
        have hr' := hr
        simp only [rep] at hr'
        obtain ⟨⟨n, f⟩, he⟩ := Option.isSome_iff_exists.1 ‹(elemsT H _ _).isSome = true›
        obtain ⟨us, fp, k1, _⟩ := elemsT_rep ho he hr'.2
        obtain ⟨_, _, _, k, _⟩ := len_size k1
        cases k
    · cases hvs
  · have hr' := hr
    simp only [rep] at hr'
    obtain ⟨_, a, n, cap, _, _, _, _, rfl⟩ := hr'
    rfl
  · rename_i x h1 h2 h3 h4 h5 h6
    cases v <;> simp only [rep] at hr <;> first
      | exact absurd rfl (h1 _) | exact absurd rfl h2 | exact absurd rfl (h3 _ _) | exact absurd rfl (h4 _) | exact absurd rfl (h5 _ _) | exact absurd rfl (h6 _ _ _ _)
      | (rw [hr.1]; rfl)
      | (rw [hr]; rfl)
      | (rcases hr.1 with ⟨⟨_, rfl⟩, _⟩ | ⟨_, _, _, rfl, _⟩ <;> rfl)
      | (obtain ⟨us, k1, _⟩ := hr; rcases k1 with ⟨⟨_, rfl⟩, _⟩ | ⟨_, _, _, rfl, _⟩ <;> rfl)
      | (obtain ⟨us, rfl, _⟩ := hr; rfl)
      | (obtain ⟨_, _, _, _, _, _, rfl⟩ := hr; rfl)
      | (obtain ⟨_, _, rfl, _⟩ := hr; rfl)
      | (obtain ⟨_, _, _, _, _, _, _, rfl⟩ := hr; rfl)
      | (obtain ⟨_, _, _, rfl⟩ := hr; rfl)

end
end Go.Aw
