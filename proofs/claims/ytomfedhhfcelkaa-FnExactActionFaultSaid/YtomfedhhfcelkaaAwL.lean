/-
  'append', abstractly ('AAppend'), and its soundness. Of no program.
-/
import Derived.Test.YtomfedhhfcelkaaAwK
set_option linter.unusedSimpArgs false
set_option linter.unusedVariables false
namespace Go.Aw
open Go.RowKit

mutual
theorem killA_data {q : Nat → List Nat → Bool} : ∀ {av : AV}, isData av = true → killA q av = av
  | .ref _ _, h | .sub _ _ _ _, h | .eref _ _ _, h | .bptr _ _, h => by simp [isData] at h
  | .lv vs, h | .agg vs, h | .tup vs, h | .fn _ vs, h | .cptr vs _, h => by
    simp only [isData] at h
    simp [killA, killAs_data h]
  | .eptr v _, h | .when _ v, h => by
    simp only [isData] at h
    simp [killA, killA_data h]
  | .int _, _ | .ik _ _, _ | .bool _, _ | .str _, _ | .nil, _ | .nilfn, _ | .l1 _, _ | .l2 _, _ | .l3 _, _ | .junk, _ => by simp [killA]
theorem killAs_data {q : Nat → List Nat → Bool} : ∀ {vs : List AV}, areData vs = true → killAs q vs = vs
  | [], _ => rfl
  | a :: as, h => by
    simp only [areData, Bool.and_eq_true] at h
    simp [killAs, killA_data h.1, killAs_data h.2]
end

def cutTree (lo hi : Nat) : Tree → Option Tree
  | .t1 xs => some (.t1 ((xs.take hi).drop lo))
  | .t2 xs => some (.t2 ((xs.take hi).drop lo))
  | .t3 xs => some (.t3 ((xs.take hi).drop lo))
  | .r2 xs => some (.r2 ((xs.take hi).drop lo))
  | .r3 xs => some (.r3 ((xs.take hi).drop lo))
  | .lv xs => some (.lv ((xs.take hi).drop lo))
  | .bx _ => none

def kindTree (P : Program) (e : TypeId) : Tree :=
  match elemKind P e with
  | 1 => .t1 []
  | 2 => .t2 []
  | 3 => .t3 []
  | _ => .lv []

/-- What is appended to. -/
def target (P : Program) (H : List (Nat × Tree)) (e : TypeId) : AV → Option (Nat × Tree)
  | .nil => some (newId H, kindTree P e)
  | .ref id [] => match find H id with
    | some (.bx _) => none
    | some t => some (id, t)
    | none => none
  | .sub id [] lo hi => ((find H id).bind (cutTree lo hi)).map (fun t => (id, t))
  | _ => none

def srcD (H : List (Nat × Tree)) : AV → Option AV
  | .nil => some .nil
  | v => view1 H v
def srcR2 (H : List (Nat × Tree)) : AV → Option (List (List Int))
  | .ref id [] => match find H id with
    | some (.r2 ys) => some ys
    | _ => none
  | v => isL2 v
def isL3 : AV → Option (List (List (List Int)))
  | .l3 xs => some xs
  | .nil => some []
  | _ => none
def srcR3 (H : List (Nat × Tree)) : AV → Option (List (List (List Int)))
  | .ref id [] => match find H id with
    | some (.r3 ys) => some ys
    | _ => none
  | v => isL3 v
def srcLv (H : List (Nat × Tree)) : AV → Option (List AV)
  | .ref id [] => match find H id with
    | some (.lv ys) => some ys
    | _ => none
  | .lv vs => some vs
  | .nil => some []
  | _ => none

def AApp (H : List (Nat × Tree)) (id : Nat) (t0 : Tree) (x : AV) (K : AV → List Nat → List Nat → List (Nat × Tree) → Prop) : Prop :=
  match t0 with
  | .t1 xs => match (srcD H x).bind isL1 with
    | some ys => xs.length + ys.length ≤ 1099511627776 ∧ K (.ref id []) [id] [] (putT (killH (qOf [id] []) H) id (.t1 (xs ++ ys)))
    | none => False
  | .t2 xs => match x with
    | .ref id2 [] => match find H id2 with
      | some (.t2 ys) => id2 ≠ id ∧ xs.length + ys.length ≤ 1099511627776 ∧ K (.ref id []) [id2, id] [] (putT (killH (qOf [id2, id] []) (rmT [id2] H)) id (.t2 (xs ++ ys)))
      | some (.r2 ys) => xs = [] ∧ ys.length ≤ 1099511627776 ∧ K (.ref id []) [id] [] (putT (killH (qOf [id] []) H) id (.r2 ys))
      | _ => False
    | x => match isL2 x with
      | some ys => xs = [] ∧ ys.length ≤ 1099511627776 ∧ K (.ref id []) [id] [] (putT (killH (qOf [id] []) H) id (.r2 ys))
      | none => False
  | .t3 xs => match x with
    | .ref id2 [] => match find H id2 with
      | some (.t3 ys) => id2 ≠ id ∧ xs.length + ys.length ≤ 1099511627776 ∧ K (.ref id []) [id2, id] [] (putT (killH (qOf [id2, id] []) (rmT [id2] H)) id (.t3 (xs ++ ys)))
      | some (.r3 ys) => xs = [] ∧ ys.length ≤ 1099511627776 ∧ K (.ref id []) [id] [] (putT (killH (qOf [id] []) H) id (.r3 ys))
      | _ => False
    | x => match isL3 x with
      | some ys => xs = [] ∧ ys.length ≤ 1099511627776 ∧ K (.ref id []) [id] [] (putT (killH (qOf [id] []) H) id (.r3 ys))
      | none => False
  | .r2 xs => match srcR2 H x with
    | some ys => xs.length + ys.length ≤ 1099511627776 ∧ K (.ref id []) [id] [] (putT (killH (qOf [id] []) H) id (.r2 (xs ++ ys)))
    | none => False
  | .r3 xs => match srcR3 H x with
    | some ys => xs.length + ys.length ≤ 1099511627776 ∧ K (.ref id []) [id] [] (putT (killH (qOf [id] []) H) id (.r3 (xs ++ ys)))
    | none => False
  | .lv xs => match srcLv H x with
    | some ys => xs.length + ys.length ≤ 1099511627776 ∧ areData (xs ++ ys) = true ∧ ys.all (oneA H) = true ∧ K (.ref id []) [id] [] (putT (killH (qOf [id] []) H) id (.lv (xs ++ ys)))
    | none => False
  | .bx _ => False

def AAppend (P : Program) (H : List (Nat × Tree)) (t : TypeId) (s x : AV) (K : AV → List Nat → List Nat → List (Nat × Tree) → Prop) : Prop :=
  match tkOf P t with
  | .sl e => okElem P e = true ∧ match target P H e s with
    | some (id, t0) => AApp H id t0 x K
    | none => False
  | _ => False

section
variable {P : Program} {cx : Cx} {H : List (Nat × Tree)} {w w' : World} {ι : Nat → Value} {F : Nat → List Nat}

theorem OwnSl.cut {fp : List Nat} {us : List Value} {a : Option Addr} {n cap : Nat} (h : OwnSl w fp us (.slice a n cap)) {lo hi : Nat} (h1 : lo ≤ hi) (h2 : hi ≤ n) :
    OwnSl w fp ((us.take hi).drop lo) (.slice (if cap = lo then a else a.map (·.add lo)) (hi - lo) (cap - lo)) := by
  rcases h with ⟨hv, hu, hf⟩ | ⟨b, off, c, cs, E, hv, hf, k1, k2, k3, k4, k5⟩
  · cases hv
    subst hu
    have : lo = 0 := by omega
    have : hi = 0 := by omega
    subst_vars
    exact .inl ⟨by simp, by simp, rfl⟩
  · cases hv
    have hl : ((us.take hi).drop lo).length = hi - lo := by simp [List.length_take]; omega
    by_cases hc : cap = lo
    · subst hc
      refine .inr ⟨b, off, 0, cs, E, ?_, hf, k1, by omega, by omega, Nat.zero_le _, fun i u hu => ?_⟩
      · simp [hl]
      · have := (List.getElem?_eq_some_iff.1 hu).1; omega
    · refine .inr ⟨b, off + lo, cap - lo, cs, E, ?_, hf, k1, by omega, by omega, by omega, fun i u hu => ?_⟩
      · rw [if_neg hc, hl]
        simp only [Option.map_some, add_cell]
      · rw [List.getElem?_drop, List.getElem?_take] at hu
        split at hu
        · have := k5 _ _ hu
          rwa [Nat.add_assoc]
        · cases hu

theorem All3.take {α β γ : Type} {R : α → β → γ → Prop} : ∀ (n : Nat) {as : List α} {bs : List β} {cs : List γ}, All3 R as bs cs → All3 R (as.take n) (bs.take n) (cs.take n)
  | 0, _, _, _, _ => trivial
  | _ + 1, [], [], [], _ => trivial
  | n + 1, _ :: _, _ :: _, _ :: _, h => ⟨h.1, All3.take n h.2⟩
  | _ + 1, [], _ :: _, _, h => h.elim
  | _ + 1, [], [], _ :: _, h => h.elim
  | _ + 1, _ :: _, [], _, h => h.elim
  | _ + 1, _ :: _, _ :: _, [], h => h.elim
theorem All3.drop {α β γ : Type} {R : α → β → γ → Prop} : ∀ (n : Nat) {as : List α} {bs : List β} {cs : List γ}, All3 R as bs cs → All3 R (as.drop n) (bs.drop n) (cs.drop n)
  | 0, _, _, _, h => by simpa using h
  | _ + 1, [], [], [], _ => trivial
  | n + 1, _ :: _, _ :: _, _ :: _, h => by simpa using All3.drop n h.2
  | _ + 1, [], _ :: _, _, h => h.elim
  | _ + 1, [], [], _ :: _, h => h.elim
  | _ + 1, _ :: _, [], _, h => h.elim
  | _ + 1, _ :: _, _ :: _, [], h => h.elim

theorem flatten_sub {l l' : List (List Nat)} (h : l.Sublist l') : l.flatten.Sublist l'.flatten := by
  induction h with
  | slnil => exact List.Sublist.refl _
  | cons a _ ih => rw [List.flatten_cons]; exact ih.trans (List.sublist_append_right _ _)
  | cons_cons a _ ih => rw [List.flatten_cons, List.flatten_cons]; exact (List.Sublist.refl _).append ih

theorem on_cut {α : Type} {R : World → List Nat → α → Value → Prop} {fp : List Nat} {as : List α} {a : Option Addr} {n cap lo hi : Nat} (h : ON R w fp as (.slice a n cap)) (h1 : lo ≤ hi) (h2 : hi ≤ n) :
    ∃ fp', ON R w fp' ((as.take hi).drop lo) (.slice (if cap = lo then a else a.map (·.add lo)) (hi - lo) (cap - lo)) ∧ fp'.Sublist fp := by
  obtain ⟨us, f0, fs, k1, k2, rfl⟩ := h
  refine ⟨f0 ++ ((fs.take hi).drop lo).flatten, ⟨_, f0, _, k1.cut h1 h2, (k2.take hi).drop lo, rfl⟩, ?_⟩
  exact (List.Sublist.refl _).append (flatten_sub ((List.drop_sublist _ _).trans (List.take_sublist _ _)))

theorem tree_cut {m : Mem} {fp : List Nat} {t t' : Tree} {a : Option Addr} {n cap lo hi : Nat} (hc : cutTree lo hi t = some t') (h : treeRep m fp t (.slice a n cap)) (h1 : lo ≤ hi) (h2 : hi ≤ n) :
    ∃ fp', treeRep m fp' t' (.slice (if cap = lo then a else a.map (·.add lo)) (hi - lo) (cap - lo)) ∧ fp'.Sublist fp := by
  unfold cutTree at hc
  split at hc <;> first | (cases hc; done) | skip
  all_goals cases hc
  · simp only [treeRep] at h ⊢
    refine ⟨fp, ⟨?_, fun x hx => h.2 x (List.mem_of_mem_take (List.mem_of_mem_drop hx))⟩, List.Sublist.refl _⟩
    have := h.1.cut h1 h2
    simpa [ints, List.map_take, List.map_drop] using this
  · exact on_cut (R := O1) h h1 h2
  · exact on_cut (R := O2) h h1 h2
  · obtain ⟨us, k1, k2⟩ := h
    exact ⟨fp, ⟨_, k1.cut h1 h2, (k2.take hi).drop lo⟩, List.Sublist.refl _⟩
  · obtain ⟨us, k1, k2⟩ := h
    exact ⟨fp, ⟨_, k1.cut h1 h2, (k2.take hi).drop lo⟩, List.Sublist.refl _⟩
  · obtain ⟨us, k1, k2⟩ := h
    exact ⟨fp, ⟨_, k1.cut h1 h2, by rw [reps_all2] at k2 ⊢; exact (k2.take hi).drop lo⟩, List.Sublist.refl _⟩

/-- What is appended to, in memory. -/
theorem target_rep (ho : Owns cx H w ι F) {e : TypeId} {s : AV} {u : Value} {id : Nat} {t0 : Tree} (h : target P H e s = some (id, t0)) (hr : rep (mem cx w H ι F) s u) :
    ∃ fp, treeRep (mem cx w H ι F) fp t0 u ∧ fp.Nodup ∧ (∀ b ∈ fp, id ∈ Aw.ids H ∧ b ∈ F id) := by
  unfold target at h
  split at h <;> first | (cases h; done) | skip
  · cases h
    simp only [rep] at hr
    subst hr
    refine ⟨[], ?_, List.nodup_nil, by simp⟩
    unfold kindTree
    split
    · exact ⟨.inl ⟨rfl, rfl, rfl⟩, by simp⟩
    · exact ⟨[], [], [], .inl ⟨rfl, rfl, rfl⟩, trivial, rfl⟩
    · exact ⟨[], [], [], .inl ⟨rfl, rfl, rfl⟩, trivial, rfl⟩
    · exact ⟨[], .inl ⟨rfl, rfl, rfl⟩, by simp [reps]⟩
  · split at h <;> first | (cases h; done) | skip
    rename_i t hnb hf
    cases h
    simp only [rep, mem, pathV, Option.some.injEq] at hr
    obtain ⟨_, rfl⟩ := hr
    exact ⟨F id, ho.trees _ (find_mem hf), foot_part ho hf, fun b hb => ⟨List.mem_map.2 ⟨_, find_mem hf, rfl⟩, hb⟩⟩
  · rename_i id' lo hi
    simp only [Option.map_eq_some_iff, Option.bind_eq_some_iff, Prod.mk.injEq] at h
    obtain ⟨t', ⟨t, hf, hcut⟩, rfl, rfl⟩ := h
    simp only [rep, mem, pathV, Option.some.injEq] at hr
    obtain ⟨_, a, n, cap, h1, h2, h3, h4, rfl⟩ := hr
    have ht := ho.trees _ (find_mem hf)
    rw [h1] at ht
    obtain ⟨fp', k1, k2⟩ := tree_cut hcut ht h2 h3
    exact ⟨fp', k1, (foot_part ho hf).sublist k2, fun b hb => ⟨List.mem_map.2 ⟨_, find_mem hf, rfl⟩, k2.subset hb⟩⟩

theorem Owns.grow (ho : Owns cx H w ι F) {id : Nat} {t' : Tree} {v' : Value} {fp fp' : List Nat} {R : List Nat} {w' : World} (hfp : ∀ b ∈ fp, id ∈ Aw.ids H ∧ b ∈ F id) (hw : Turned w w' fp)
    (hn : fp'.Nodup) (hm : ∀ b ∈ fp', b < w'.heap.size ∧ ((id ∈ Aw.ids H ∧ b ∈ F id) ∨ (∃ r ∈ R, r ∈ Aw.ids H ∧ b ∈ F r) ∨ w.heap.size ≤ b))
    (ht : ∀ m : Mem, m.w = w' → (∀ av x, rep (mem cx w H ι F) av x → rep m (killA (qOf (R ++ [id]) []) av) x) → treeRep m fp' t' v')
    {K : AV → List Nat → List Nat → List (Nat × Tree) → Prop} (hnb : ∀ vs, t' ≠ .bx vs) (hK : K (.ref id []) (R ++ [id]) [] (putT (killH (qOf (R ++ [id]) []) (rmT R H)) id t')) :
    Left cx H w ι F v' w' K := by
  have hbm : ∀ b ∈ fp, cx.B0 ≤ b ∨ cx.A0 b := fun b hb => by
    obtain ⟨h1, h2⟩ := hfp b hb
    obtain ⟨p, hp, rfl⟩ := List.mem_map.1 h1
    exact (ho.mine b (mem_foot.2 ⟨p, hp, h2⟩)).2
  have key := ho.put (w' := w') R id t' v' fp' (qOf (R ++ [id]) []) (ho.keep.turned ho.old hw hbm) hw.size
    (fun x hx hno => hw.block x hx (fun he => by obtain ⟨h1, h2⟩ := hfp x he; exact hno id (.inl rfl) h1 h2))
    hn (fun b hb => by
      obtain ⟨h1, h2⟩ := hm b hb
      refine ⟨h1, ?_⟩
      rcases h2 with ⟨h2, h3⟩ | ⟨r, h2, h3, h4⟩ | h2
      · exact .inl ⟨id, .inl rfl, h2, h3⟩
      · exact .inl ⟨r, .inr h2, h3, h4⟩
      · exact .inr h2)
    (fun r hr p => by simp [qOf, hr])
    (fun p hq _ => by simp [qOf] at hq)
    (fun hr => ht _ rfl hr)
  refine ⟨_, _, _, _, _, _, hK, key.1, ?_, key.2⟩
  simp only [rep, mem, find_put_self, updF, if_true]
  refine ⟨?_, by simp [pathV]⟩
  cases t' <;> first | rfl | exact absurd rfl (hnb _)

theorem own_tree_slice {m : Mem} {fp : List Nat} {t : Tree} {v : Value} (h : treeRep m fp t v) (hnb : ∀ vs, t ≠ .bx vs) : ∃ a n c, v = .slice a n c := by
  cases t with
  | t1 xs => obtain ⟨a, n, c, h, _⟩ := len_size h.1; exact ⟨a, n, c, h⟩
  | t2 xs => obtain ⟨_, _, _, h, _⟩ := h; obtain ⟨a, n, c, h, _⟩ := len_size h; exact ⟨a, n, c, h⟩
  | t3 xs => obtain ⟨_, _, _, h, _⟩ := h; obtain ⟨a, n, c, h, _⟩ := len_size h; exact ⟨a, n, c, h⟩
  | r2 xs => obtain ⟨_, h, _⟩ := h; obtain ⟨a, n, c, h, _⟩ := len_size h; exact ⟨a, n, c, h⟩
  | r3 xs => obtain ⟨_, h, _⟩ := h; obtain ⟨a, n, c, h, _⟩ := len_size h; exact ⟨a, n, c, h⟩
  | lv xs => obtain ⟨_, h, _⟩ := h; obtain ⟨a, n, c, h, _⟩ := len_size h; exact ⟨a, n, c, h⟩
  | bx vs => exact absurd rfl (hnb vs)

theorem isL3_rep {m : Mem} {a : AV} {b : List (List (List Int))} {u : Value} (h : isL3 a = some b) (hr : rep m a u) : L3 m.w m.S b u := by
  unfold isL3 at h
  split at h <;> first | (cases h; done) | skip
  · cases h; simpa only [rep] using hr
  · cases h; simp only [rep] at hr; subst hr; exact ⟨[], .inl ⟨⟨_, rfl⟩, rfl⟩, trivial⟩

theorem srcD_rep (ho : Owns cx H w ι F) {x d : AV} {u : Value} (h : srcD H x = some d) (hr : rep (mem cx w H ι F) x u) : Rd w (allow cx w) d u := by
  unfold srcD at h
  split at h
  · cases h; simpa only [Rd, rep] using hr
  · exact view1_rep ho _ _ _ h hr
theorem on_append {α : Type} {R : World → List Nat → α → Value → Prop} (frame : ∀ {w w' fp a v}, (∀ b ∈ fp, w'.heap[b]? = w.heap[b]?) → R w fp a v → R w' fp a v) (hone : ∀ {f a u}, R w f a u → u.oneCell' = true)
    {t e : TypeId} {i : TypeInfo} {z : Value} (ht : P.underlying t = some (.slice e)) (hi : P.info? e = some i) (hz : i.zero = some z) (h1 : i.size = 1) (hzs : z.cells.size = 1) (hby : i.bytes ≤ 64)
    {fp gp : List Nat} {as bs : List α} {v x : Value} (h : ON R w fp as v) (h2 : ON R w gp bs x) (hf : fp.Nodup) (hg : gp.Nodup) (hd : ∀ b ∈ gp, b ∉ fp) (hlt : ∀ b ∈ fp, b < w.heap.size) (hlt2 : ∀ b ∈ gp, b < w.heap.size)
    (hlen : as.length + bs.length ≤ 1099511627776) (ty : TypeId) :
    ∃ v' w' fp' f0, (Builtin.append_ #[t, t] ty #[v, x]).run P w = .ok v' w' ∧ ON R w' fp' (as ++ bs) v' ∧ Turned w w' f0 ∧ (∀ b ∈ f0, b ∈ fp) ∧ fp'.Nodup ∧ ∀ b ∈ fp', b < w'.heap.size ∧ (b ∈ fp ∨ b ∈ gp ∨ w.heap.size ≤ b) := by
  obtain ⟨us, f0, fs, k1, k2, rfl⟩ := h
  obtain ⟨vs, g0, gs, j1, j2, rfl⟩ := h2
  rw [List.nodup_append] at hf hg
  obtain ⟨v', w', fp0, r1, r2, r3, r4, r5⟩ := append_run (P := P) ht hi hz h1 hzs hby k1 (j1.slC (S := fun _ => True) (fun _ _ => trivial))
    (fun u hu => by
      obtain ⟨n, hn⟩ := List.getElem?_of_mem hu
      obtain ⟨a, ha, _⟩ : ∃ a, gs[n]? = some a ∧ True := by
        have hl : n < gs.length := by rw [j2.length.1, j2.length.2]; exact (List.getElem?_eq_some_iff.1 hn).1
        exact ⟨gs[n], by simp [hl], trivial⟩
      obtain ⟨b, hb⟩ : ∃ b, bs[n]? = some b := by
        have hl : n < bs.length := by rw [j2.length.2]; exact (List.getElem?_eq_some_iff.1 hn).1
        exact ⟨bs[n], by simp [hl]⟩
      exact hone (j2.at ha hb hn))
    (by rw [← k2.length.2, ← j2.length.2]; exact hlen) (fun b hb => hlt b (by simp [hb])) ty
  have hfl : ∀ b ∈ fs.flatten, b ∉ f0 := fun b hb hb0 => hf.2.2 b hb0 b hb rfl
  have hgl : ∀ b ∈ gs.flatten, b ∉ f0 := fun b hb hb0 => hd b (by simp only [List.mem_append]; exact .inr hb) (by simp [hb0])
  refine ⟨v', w', fp0 ++ (fs ++ gs).flatten, f0, r1, ⟨us ++ vs, fp0, fs ++ gs, r2, ?_, rfl⟩, r3, fun b hb => by simp [hb], ?_, fun b hb => ?_⟩
  · refine (k2.mono fun f hf' _ _ hr => frame (fun b hb => ?_) hr).append (j2.mono fun f hf' _ _ hr => frame (fun b hb => ?_) hr)
    · have hm : b ∈ fs.flatten := List.mem_flatten.2 ⟨f, hf', hb⟩
      exact r3.block b (hlt b (by simp only [List.mem_append]; exact .inr hm)) (hfl b hm)
    · have hm : b ∈ gs.flatten := List.mem_flatten.2 ⟨f, hf', hb⟩
      exact r3.block b (hlt2 b (by simp only [List.mem_append]; exact .inr hm)) (hgl b hm)
  · rw [List.nodup_append, List.flatten_append, List.nodup_append]
    refine ⟨r4, ⟨hf.2.1, hg.2.1, fun a ha b hb e => ?_⟩, fun a ha b hb e => ?_⟩
    · subst e; exact hd a (by simp only [List.mem_append]; exact .inr hb) (by simp only [List.mem_append]; exact .inr ha)
    · subst e
      rcases List.mem_append.1 hb with hb | hb
      · rcases (r5 a ha).2 with h | h
        · exact hfl a hb h
        · have := hlt a (by simp only [List.mem_append]; exact .inr hb); omega
      · rcases (r5 a ha).2 with h | h
        · exact hgl a hb h
        · have := hlt2 a (by simp only [List.mem_append]; exact .inr hb); omega
  · rcases List.mem_append.1 hb with hb | hb
    · obtain ⟨h1, h2⟩ := r5 b hb
      refine ⟨h1, ?_⟩
      rcases h2 with h | h
      · exact .inl (by simp [h])
      · exact .inr (.inr h)
    · rw [List.flatten_append] at hb
      rcases List.mem_append.1 hb with hb | hb
      · exact ⟨Nat.lt_of_lt_of_le (hlt b (by simp only [List.mem_append]; exact .inr hb)) r3.size, .inl (by simp only [List.mem_append]; exact .inr hb)⟩
      · exact ⟨Nat.lt_of_lt_of_le (hlt2 b (by simp only [List.mem_append]; exact .inr hb)) r3.size, .inr (.inl (by simp only [List.mem_append]; exact .inr hb))⟩

theorem ref_root (ho : Owns cx H w ι F) {id : Nat} {t : Tree} {u : Value} (hf : find H id = some t) (hr : rep (mem cx w H ι F) (.ref id []) u) : u = ι id ∧ treeRep (mem cx w H ι F) (F id) t u := by
  simp only [rep, mem, pathV, Option.some.injEq] at hr
  obtain ⟨_, rfl⟩ := hr
  exact ⟨rfl, ho.trees _ (find_mem hf)⟩

theorem append_left (ho : Owns cx H w ι F) {t : TypeId} {s x : AV} {us ux : Value} {K : AV → List Nat → List Nat → List (Nat × Tree) → Prop} (h : AAppend P H t s x K)
    (hs : rep (mem cx w H ι F) s us) (hx : rep (mem cx w H ι F) x ux) (ty : TypeId) :
    ∃ u w', (Builtin.append_ #[t, t] ty #[us, ux]).run P w = .ok u w' ∧ Left cx H w ι F u w' K := by
  unfold AAppend at h
  split at h <;> first | exact h.elim | skip
  rename_i e hk
  obtain ⟨he, h⟩ := h
  obtain ⟨i, z, hi, h1, hby, hz, hzo, hzc⟩ := okElem_info he
  have htu := (tk_sl hk).1
  have hzs : z.cells.size = 1 := by rw [hzc]; rfl
  split at h <;> first | exact h.elim | skip
  rename_i id t0 htar
  obtain ⟨fp, hfp, hfn, hfm⟩ := target_rep ho htar hs
  have hflt : ∀ b ∈ fp, b < w.heap.size := fun b hb => by
    obtain ⟨k1, k2⟩ := hfm b hb
    obtain ⟨p, hp, rfl⟩ := List.mem_map.1 k1
    exact (ho.mine b (mem_foot.2 ⟨p, hp, k2⟩)).1
  have hFlt : ∀ {id2 : Nat} {t2 : Tree}, find H id2 = some t2 → ∀ b ∈ F id2, b < w.heap.size := fun hf b hb => (ho.mine b (mem_foot.2 ⟨_, find_mem hf, hb⟩)).1
  -- one row of one's own, what is appended only read
  have flat : ∀ {old news : List Value} {t' : Tree} {S : Nat → Prop}, OwnSl w fp old us → SlC w S news ux → (∀ u ∈ news, u.oneCell' = true) → old.length + news.length ≤ 1099511627776 →
      (∀ vs, t' ≠ .bx vs) → K (.ref id []) [id] [] (putT (killH (qOf [id] []) H) id t') →
      (∀ (m : Mem) (fp' : List Nat) (v' : Value), (∀ b, lower w b → b ∉ fp → m.w.heap[b]? = w.heap[b]?) → (∀ av x, rep (mem cx w H ι F) av x → rep m (killA (qOf [id] []) av) x) → OwnSl m.w fp' (old ++ news) v' → treeRep m fp' t' v') →
      ∃ u w', (Builtin.append_ #[t, t] ty #[us, ux]).run P w = .ok u w' ∧ Left cx H w ι F u w' K := by
    intro old news t' S ho1 hsrc hone hlen hnb hK htr
    obtain ⟨v', w', fp', r1, r2, r3, r4, r5⟩ := append_run (P := P) htu hi hz h1 hzs hby ho1 hsrc hone hlen hflt ty
    refine ⟨v', w', r1, ho.grow (R := []) hfm r3 r4 (fun b hb => ?_) (fun m hm hr => ?_) hnb (by rw [rmT_no]; exact hK)⟩
    · obtain ⟨k1, k2⟩ := r5 b hb
      exact ⟨k1, orMap k2 (hfm b) .inr⟩
    · exact htr m fp' v' (fun b hb hbf => by rw [hm]; exact r3.block b hb hbf) hr (by rw [hm]; exact r2)
  -- rows of one's own, rows taken in
  have deep : ∀ {α : Type} {R : World → List Nat → α → Value → Prop} {id2 : Nat} {t2 t' : Tree} {as bs : List α}, (∀ {w w' fp a v}, (∀ b ∈ fp, w'.heap[b]? = w.heap[b]?) → R w fp a v → R w' fp a v) → (∀ {f a u}, R w f a u → u.oneCell' = true) →
      ON R w fp as us → find H id2 = some t2 → ON R w (F id2) bs ux → id2 ≠ id → as.length + bs.length ≤ 1099511627776 → (∀ vs, t' ≠ .bx vs) →
      K (.ref id []) [id2, id] [] (putT (killH (qOf [id2, id] []) (rmT [id2] H)) id t') → (∀ (m : Mem) (fp' : List Nat) (v' : Value), ON R m.w fp' (as ++ bs) v' → treeRep m fp' t' v') →
      ∃ u w', (Builtin.append_ #[t, t] ty #[us, ux]).run P w = .ok u w' ∧ Left cx H w ι F u w' K := by
    intro α R id2 t2 t' as bs frame hone hon hf2 hon2 hne hlen hnb hK htr
    have hdis : ∀ b ∈ F id2, b ∉ fp := fun b hb hbf => by
      obtain ⟨k1, k2⟩ := hfm b hbf
      obtain ⟨p, hp, rfl⟩ := List.mem_map.1 k1
      exact foot_disj ho hf2 (find_of_mem ho.ids hp) hne hb k2
    obtain ⟨v', w', fp', f0, r1, r2, r3, r4, r5, r6⟩ := on_append (P := P) (R := R) (fun h h' => frame h h') (fun h => hone h) htu hi hz h1 hzs hby hon hon2 hfn (foot_part ho hf2) hdis hflt (hFlt hf2) hlen ty
    refine ⟨v', w', r1, ho.grow (R := [id2]) (fun b hb => hfm b (r4 b hb)) r3 r5 (fun b hb => ?_) (fun m hm _ => htr m fp' v' (by rw [hm]; exact r2)) hnb hK⟩
    obtain ⟨k1, k2⟩ := r6 b hb
    refine ⟨k1, ?_⟩
    rcases k2 with k2 | k2 | k2
    · exact .inl (hfm b k2)
    · exact .inr (.inl ⟨id2, by simp, List.mem_map.2 ⟨_, find_mem hf2, rfl⟩, k2⟩)
    · exact .inr (.inr k2)
  have rowsR : ∀ {ys : List (List Int)} {vs : List Value} {m : Mem}, (∀ av x, rep (mem cx w H ι F) av x → rep m (killA (qOf [id] []) av) x) → All2 (L1 w (imm cx w H F)) ys vs → All2 (L1 m.w m.S) ys vs := fun hr h =>
    h.mono fun a c hac => by
      have := hr (.l1 a) c (by simp only [rep]; exact hac)
      simpa only [killA, rep] using this
  have rowsR3 : ∀ {ys : List (List (List Int))} {vs : List Value} {m : Mem}, (∀ av x, rep (mem cx w H ι F) av x → rep m (killA (qOf [id] []) av) x) → All2 (L2 w (imm cx w H F)) ys vs → All2 (L2 m.w m.S) ys vs := fun hr h =>
    h.mono fun a c hac => by
      have := hr (.l2 a) c (by simp only [rep]; exact hac)
      simpa only [killA, rep] using this
  have one1 : ∀ {S : Nat → Prop} {ys : List (List Int)} {vs : List Value}, All2 (L1 w S) ys vs → ∀ u ∈ vs, u.oneCell' = true := fun h => all2_one' (fun _ _ hl => slC_one hl.1) h
  have one2 : ∀ {S : Nat → Prop} {ys : List (List (List Int))} {vs : List Value}, All2 (L2 w S) ys vs → ∀ u ∈ vs, u.oneCell' = true := fun h => all2_one' (fun _ _ hl => by obtain ⟨_, k, _⟩ := hl; exact slC_one k) h
  -- sources of rows that are only read
  have src2 : ∀ {ys : List (List Int)}, (isL2 x = some ys ∨ ∃ id2, x = .ref id2 [] ∧ find H id2 = some (.r2 ys)) → ∃ vs S, SlC w S vs ux ∧ All2 (L1 w (imm cx w H F)) ys vs := by
    intro ys h
    rcases h with h | ⟨id2, rfl, hf⟩
    · obtain ⟨vs, k1, k2⟩ := isL2_rep h hx
      exact ⟨vs, _, k1, k2⟩
    · obtain ⟨_, k⟩ := ref_root ho hf hx
      obtain ⟨vs, k1, k2⟩ := k
      exact ⟨vs, fun _ => True, k1.slC (fun _ _ => trivial), k2⟩
  have src3 : ∀ {ys : List (List (List Int))}, (isL3 x = some ys ∨ ∃ id2, x = .ref id2 [] ∧ find H id2 = some (.r3 ys)) → ∃ vs S, SlC w S vs ux ∧ All2 (L2 w (imm cx w H F)) ys vs := by
    intro ys h
    rcases h with h | ⟨id2, rfl, hf⟩
    · obtain ⟨vs, k1, k2⟩ := isL3_rep h hx
      exact ⟨vs, _, k1, k2⟩
    · obtain ⟨_, k⟩ := ref_root ho hf hx
      obtain ⟨vs, k1, k2⟩ := k
      exact ⟨vs, fun _ => True, k1.slC (fun _ _ => trivial), k2⟩
  have into2 : ∀ {xs ys : List (List Int)} {old : List Value}, OwnSl w fp old us → All2 (L1 w (imm cx w H F)) xs old → (isL2 x = some ys ∨ ∃ id2, x = .ref id2 [] ∧ find H id2 = some (.r2 ys)) → xs.length + ys.length ≤ 1099511627776 →
      K (.ref id []) [id] [] (putT (killH (qOf [id] []) H) id (.r2 (xs ++ ys))) → ∃ u w', (Builtin.append_ #[t, t] ty #[us, ux]).run P w = .ok u w' ∧ Left cx H w ι F u w' K := by
    intro xs ys old k1 k2 hsrc hlen hK
    obtain ⟨vs, S, j1, j2⟩ := src2 hsrc
    refine flat k1 j1 (one1 j2) (by rw [← k2.length, ← j2.length]; exact hlen) (by simp) hK (fun m fp' v' _ hr hown => ?_)
    exact ⟨old ++ vs, hown, (rowsR hr k2).append (rowsR hr j2)⟩
  have into3 : ∀ {xs ys : List (List (List Int))} {old : List Value}, OwnSl w fp old us → All2 (L2 w (imm cx w H F)) xs old → (isL3 x = some ys ∨ ∃ id2, x = .ref id2 [] ∧ find H id2 = some (.r3 ys)) → xs.length + ys.length ≤ 1099511627776 →
      K (.ref id []) [id] [] (putT (killH (qOf [id] []) H) id (.r3 (xs ++ ys))) → ∃ u w', (Builtin.append_ #[t, t] ty #[us, ux]).run P w = .ok u w' ∧ Left cx H w ι F u w' K := by
    intro xs ys old k1 k2 hsrc hlen hK
    obtain ⟨vs, S, j1, j2⟩ := src3 hsrc
    refine flat k1 j1 (one2 j2) (by rw [← k2.length, ← j2.length]; exact hlen) (by simp) hK (fun m fp' v' _ hr hown => ?_)
    exact ⟨old ++ vs, hown, (rowsR3 hr k2).append (rowsR3 hr j2)⟩
  unfold AApp at h
  split at h
  · -- t1
    rename_i xs
    split at h <;> first | exact h.elim | skip
    rename_i ys hys
    obtain ⟨hlen, hK⟩ := h
    simp only [Option.bind_eq_some_iff] at hys
    obtain ⟨d, hd, hl1⟩ := hys
    have hsrc := isL1_rep hl1 (srcD_rep ho hd hx)
    simp only [treeRep, mem] at hfp
    refine flat hfp.1 hsrc.1 (ints_one ys) (by rw [ints_length, ints_length]; exact hlen) (by simp) hK (fun m fp' v' _ _ hown => ⟨by simpa [ints] using hown, fun y hy => ?_⟩)
    rcases List.mem_append.1 hy with hy | hy
    · exact hfp.2 y hy
    · exact hsrc.2 y hy
  · -- t2
    rename_i xs
    simp only [treeRep, mem] at hfp
    have emp : xs = [] → ∃ old, OwnSl w fp old us ∧ All2 (L1 w (imm cx w H F)) xs old := by
      intro hx0
      subst hx0
      obtain ⟨vs, f0, fs, k1, k2, k3⟩ := hfp
      have hv : vs = [] := List.eq_nil_of_length_eq_zero (by rw [← k2.length.2]; rfl)
      have hfs : fs = [] := List.eq_nil_of_length_eq_zero (by rw [k2.length.1]; rfl)
      subst hv; subst hfs
      rw [k3]
      exact ⟨[], by simpa using k1, trivial⟩
    split at h
    · rename_i id2
      split at h <;> first | exact h.elim | skip
      · rename_i ys hf2
        obtain ⟨hne, hlen, hK⟩ := h
        obtain ⟨_, htr⟩ := ref_root ho hf2 hx
        exact deep (R := O1) (fun h h' => O1.heap h h') (fun h => ownSl_one h.1) hfp hf2 htr hne hlen (by simp) hK (fun m fp' v' h => h)
      · rename_i ys hf2
        obtain ⟨hx0, hlen, hK⟩ := h
        obtain ⟨old, k1, k2⟩ := emp hx0
        exact into2 k1 k2 (.inr ⟨id2, rfl, hf2⟩) (by rw [hx0]; simpa using hlen) (by rw [hx0]; exact hK)
    · split at h <;> first | exact h.elim | skip
      rename_i ys hys
      obtain ⟨hx0, hlen, hK⟩ := h
      obtain ⟨old, k1, k2⟩ := emp hx0
      exact into2 k1 k2 (.inl hys) (by rw [hx0]; simpa using hlen) (by rw [hx0]; exact hK)
  · -- t3
    rename_i xs
    simp only [treeRep, mem] at hfp
    have emp : xs = [] → ∃ old, OwnSl w fp old us ∧ All2 (L2 w (imm cx w H F)) xs old := by
      intro hx0
      subst hx0
      obtain ⟨vs, f0, fs, k1, k2, k3⟩ := hfp
      have hv : vs = [] := List.eq_nil_of_length_eq_zero (by rw [← k2.length.2]; rfl)
      have hfs : fs = [] := List.eq_nil_of_length_eq_zero (by rw [k2.length.1]; rfl)
      subst hv; subst hfs
      rw [k3]
      exact ⟨[], by simpa using k1, trivial⟩
    split at h
    · rename_i id2
      split at h <;> first | exact h.elim | skip
      · rename_i ys hf2
        obtain ⟨hne, hlen, hK⟩ := h
        obtain ⟨_, htr⟩ := ref_root ho hf2 hx
        exact deep (R := O2) (fun h h' => O2.heap h h') (fun h => by obtain ⟨_, _, _, k, _⟩ := h; exact ownSl_one k) hfp hf2 htr hne hlen (by simp) hK (fun m fp' v' h => h)
      · rename_i ys hf2
        obtain ⟨hx0, hlen, hK⟩ := h
        obtain ⟨old, k1, k2⟩ := emp hx0
        exact into3 k1 k2 (.inr ⟨id2, rfl, hf2⟩) (by rw [hx0]; simpa using hlen) (by rw [hx0]; exact hK)
    · split at h <;> first | exact h.elim | skip
      rename_i ys hys
      obtain ⟨hx0, hlen, hK⟩ := h
      obtain ⟨old, k1, k2⟩ := emp hx0
      exact into3 k1 k2 (.inl hys) (by rw [hx0]; simpa using hlen) (by rw [hx0]; exact hK)
  · -- r2
    rename_i xs
    split at h <;> first | exact h.elim | skip
    rename_i ys hys
    obtain ⟨hlen, hK⟩ := h
    simp only [treeRep, mem] at hfp
    obtain ⟨old, k1, k2⟩ := hfp
    refine into2 k1 k2 ?_ hlen hK
    unfold srcR2 at hys
    split at hys
    · split at hys <;> first | (cases hys; done) | skip
      rename_i id2 _ hf2
      cases hys
      exact .inr ⟨_, rfl, by assumption⟩
    · exact .inl hys
  · -- r3
    rename_i xs
    split at h <;> first | exact h.elim | skip
    rename_i ys hys
    obtain ⟨hlen, hK⟩ := h
    simp only [treeRep, mem] at hfp
    obtain ⟨old, k1, k2⟩ := hfp
    refine into3 k1 k2 ?_ hlen hK
    unfold srcR3 at hys
    split at hys
    · split at hys <;> first | (cases hys; done) | skip
      cases hys
      exact .inr ⟨_, rfl, by assumption⟩
    · exact .inl hys
  · -- any values
    rename_i xs
    split at h <;> first | exact h.elim | skip
    rename_i ys hys
    obtain ⟨hlen, hdat, hone, hK⟩ := h
    simp only [treeRep] at hfp
    obtain ⟨old, k1, k2⟩ := hfp
    have hsrc : ∃ vs S, SlC w S vs ux ∧ reps (mem cx w H ι F) ys vs := by
      unfold srcLv at hys
      split at hys
      · split at hys <;> first | (cases hys; done) | skip
        rename_i hf2
        cases hys
        obtain ⟨_, k⟩ := ref_root ho hf2 hx
        obtain ⟨vs, j1, j2⟩ := k
        exact ⟨vs, fun _ => True, OwnSl.slC (w := w) j1 (fun _ _ => trivial), j2⟩
      · cases hys
        simp only [rep] at hx
        obtain ⟨vs, j1, j2⟩ := hx
        exact ⟨vs, _, j1, j2⟩
      · cases hys
        simp only [rep] at hx
        subst hx
        exact ⟨[], fun _ => True, .inl ⟨⟨_, rfl⟩, rfl⟩, by simp [reps]⟩
      · cases hys
    obtain ⟨vs, S, j1, j2⟩ := hsrc
    have hones : ∀ u ∈ vs, u.oneCell' = true := by
      have : ∀ {vs : List AV} {us : List Value}, vs.all (oneA H) = true → reps (mem cx w H ι F) vs us → ∀ u ∈ us, u.oneCell' = true := by
        intro vs
        induction vs with
        | nil => intro us _ h u hu; simp only [reps] at h; subst h; simp at hu
        | cons v vs ih =>
          intro us hall h u hu
          simp only [List.all_cons, Bool.and_eq_true] at hall
          simp only [reps] at h
          obtain ⟨y, ys, rfl, hy, hys⟩ := h
          rcases List.mem_cons.1 hu with rfl | hu
          · exact rep_one ho hall.1 hy
          · exact ih hall.2 hys u hu
      exact this hone j2
    have hl1 : xs.length = old.length := by rw [reps_all2] at k2; exact k2.length
    have hl2 : ys.length = vs.length := by rw [reps_all2] at j2; exact j2.length
    refine flat k1 j1 hones (by rw [← hl1, ← hl2]; exact hlen) (by simp) hK (fun m fp' v' _ hr hown => ⟨old ++ vs, hown, ?_⟩)
    have happ : reps (mem cx w H ι F) (xs ++ ys) (old ++ vs) := by
      rw [reps_all2] at k2 j2 ⊢; exact k2.append j2
    have hk : ∀ {vs : List AV} {us : List Value}, areData vs = true → reps (mem cx w H ι F) vs us → reps m vs us := by
      intro vs
      induction vs with
      | nil => intro us _ h; simpa only [reps] using h
      | cons v vs ih =>
        intro us hd h
        simp only [areData, Bool.and_eq_true] at hd
        simp only [reps] at h ⊢
        obtain ⟨y, ys, h1, hy, hys⟩ := h
        exact ⟨y, ys, h1, by have := hr v y hy; rwa [killA_data hd.1] at this, ih hd.2 hys⟩
    exact hk hdat happ
  · exact h.elim

end
end Go.Aw
