import Derived.Test.YtcmgjlgmajhekaaLib3
set_option linter.unusedSimpArgs false
set_option linter.unusedVariables false
namespace Go.Aw
open Go.RowKit
section
variable {P : Program} {st : St}
theorem own2C {a t u : Nat} {v r : AV} {is : List Nat} (h1 : ALoad P st.H t (st.get a) v) (h1' : okG true (st.get u)) (h2 : ownsA st.H (.tup [v, strip (st.get u)]) = some (r, is)) (h3 : is.Nodup) :
  Ends .ret ∧ ∃ v is, resL P st [.cell a t, .tmp u] v ∧ ownsA st.H v = some (r, is) ∧ is.Nodup := ⟨.inr rfl, _, is, ⟨v, _, h1, ⟨h1', rfl⟩, rfl⟩, h2, h3⟩
theorem fin2C {a t u : Nat} {v r : AV} (h1 : ALoad P st.H t (st.get a) v) (h1' : okG true (st.get u)) (h2 : view1 st.H (.tup [v, strip (st.get u)]) = some r) : Ends .ret ∧ ∃ v, resL P st [.cell a t, .tmp u] v ∧ view1 st.H v = some r :=
 ⟨.inr rfl, _, ⟨v, _, h1, ⟨h1', rfl⟩, rfl⟩, h2⟩
end
end Go.Aw
namespace Go.Aw
open Go.RowKit
def Ext2 (H H2 : List (Nat × Tree)) : Prop := ∀ id t, find H id = some t → find H2 id = some t
section
variable {P : Program} {H H2 : List (Nat × Tree)}
theorem elemsT_ext (hx : Ext2 H H2) {id : Nat} {path : List Nat} {r : Nat × (Nat → AV)} (h : elemsT H id path = some r) : elemsT H2 id path = some r := by
 unfold elemsT at h ⊢
 cases hf : find H id with
 | none => rw [hf] at h; cases path <;> simp at h
 | some t => rw [hf] at h; rw [hx id t hf]; exact h
theorem viewT_ext (hx : Ext2 H H2) {id : Nat} {path : List Nat} {d : AV} (h : viewT (find H id) path = some d) : viewT (find H2 id) path = some d := by
 cases hf : find H id with
 | none => rw [hf] at h; simp [viewT] at h
 | some t => rw [hf] at h; rw [hx id t hf]; exact h
mutual
theorem view1_ext (hx : Ext2 H H2) : ∀ (a d : AV), view1 H a = some d → view1 H2 a = some d
 | .ref id path, d, h => by simp only [view1] at h ⊢; exact viewT_ext hx h
 | .sub id path lo hi, d, h => by
  simp only [view1, Option.bind_eq_some_iff] at h ⊢
  obtain ⟨x, h1, h2⟩ := h
  exact ⟨x, viewT_ext hx h1, h2⟩
 | .agg vs, d, h => by
  simp only [view1, Option.map_eq_some_iff] at h ⊢
  obtain ⟨x, h1, h2⟩ := h
  exact ⟨x, views1_ext hx vs x h1, h2⟩
 | .tup vs, d, h => by
  simp only [view1, Option.map_eq_some_iff] at h ⊢
  obtain ⟨x, h1, h2⟩ := h
  exact ⟨x, views1_ext hx vs x h1, h2⟩
 | .eref _ _ _, _, h => by simp [view1] at h
 | .bptr _ _, _, h => by simp [view1] at h
 | .when _ _, _, h => by simp [view1] at h
 | .junk, _, h => by simp [view1] at h
 | .int _, _, h => by simpa only [view1] using h
 | .flt _, _, h | .ik _ _, _, h => by simpa only [view1] using h
 | .bool _, _, h => by simpa only [view1] using h
 | .str _, _, h => by simpa only [view1] using h
 | .nil, _, h => by simpa only [view1] using h
 | .nilfn, _, h => by simpa only [view1] using h
 | .l1 _, _, h => by simpa only [view1] using h
 | .l2 _, _, h => by simpa only [view1] using h
 | .l3 _, _, h | .lp _ _, _, h | .val _, _, h => by simpa only [view1] using h
 | .lv _, _, h => by simpa only [view1] using h
 | .fn _ _, _, h => by simpa only [view1] using h
 | .eptr _ _, _, h => by simpa only [view1] using h
 | .cptr _ _, _, h => by simpa only [view1] using h
theorem views1_ext (hx : Ext2 H H2) : ∀ (as ds : List AV), views1 H as = some ds → views1 H2 as = some ds
 | [], _, h => by simpa only [views1] using h
 | a :: as, ds, h => by
  simp only [views1] at h ⊢
  split at h
  ·rename_i x xs h1 h2
   cases h
   rw [view1_ext hx a x h1, views1_ext hx as xs h2]
  ·cases h
end
theorem viewB_ext (hx : Ext2 H H2) {a d : AV} (h : viewB H a = some d) : viewB H2 a = some d := by
 unfold viewB at h ⊢
 split at h
 ·rename_i id off
  split at h
  ·rename_i vs hf
   rw [hx _ _ hf]
   simp only [Option.map_eq_some_iff] at h ⊢
   obtain ⟨x, h1, h2⟩ := h
   exact ⟨x, views1_ext hx _ _ h1, h2⟩
  ·cases h
 ·exact view1_ext hx _ _ h
theorem viewsB_ext (hx : Ext2 H H2) : ∀ {as ds : List AV}, viewsB H as = some ds → viewsB H2 as = some ds
 | [], _, h => by simpa only [viewsB] using h
 | a :: as, ds, h => by
  simp only [viewsB] at h ⊢
  split at h
  ·rename_i x xs h1 h2
   cases h
   rw [viewB_ext hx h1, viewsB_ext hx h2]
  ·cases h
theorem view_ext (hx : Ext2 H H2) {a d : AV} (h : view H a = some d) : view H2 a = some d := by
 unfold view at h ⊢
 split at h
 ·simp only [Option.map_eq_some_iff] at h ⊢
  obtain ⟨x, h1, h2⟩ := h
  exact ⟨x, viewsB_ext hx h1, h2⟩
 ·exact viewB_ext hx h
theorem views_ext (hx : Ext2 H H2) : ∀ {as ds : List AV}, views H as = some ds → views H2 as = some ds
 | [], _, h => by simpa only [views] using h
 | a :: as, ds, h => by
  simp only [views] at h ⊢
  split at h
  ·rename_i x xs h1 h2
   cases h
   rw [view_ext hx h1, views_ext hx h2]
  ·cases h
theorem ACall_ext (hx : Ext2 H H2) {f : FuncId} {args : List AV} {v : AV} (h : ACall P H f args v) : ACall P H2 f args v := by
 rcases h with h | ⟨ds, h1, h2⟩
 ·exact .inl h
 ·exact .inr ⟨ds, views_ext hx h1, h2⟩
theorem ALoad_ext (hx : Ext2 H H2) {t : TypeId} {p v : AV} (h : ALoad P H t p v) : ALoad P H2 t p v := by
 unfold ALoad at h ⊢
 generalize tkOf P t = k at h ⊢
 cases p <;> cases k <;> simp only [] at h ⊢ <;> first | exact h | exact h.elim | skip
 all_goals first
  | (rename_i ps o n; cases o <;> first | exact h | exact h.elim)
  | (rename_i id off; cases hf : find H id with
    | none => simp [hf] at h
    | some t => rw [hf] at h; rw [hx _ _ hf]; exact h)
  | (rename_i id path i; cases hf : elemsT H id path with
    | none => simp [hf] at h
    | some t => rw [hf] at h; rw [elemsT_ext hx hf]; exact h)
  | (rename_i id off _; cases hf : find H id with
    | none => simp [hf] at h
    | some t => rw [hf] at h; rw [hx _ _ hf]; exact h)
  | (rename_i id off _ _; cases hf : find H id with
    | none => simp [hf] at h
    | some t => rw [hf] at h; rw [hx _ _ hf]; exact h)
  | (rename_i id path i _; cases hf : elemsT H id path with
    | none => simp [hf] at h
    | some t => rw [hf] at h; rw [elemsT_ext hx hf]; exact h)
  | (rename_i id path i _ _; cases hf : elemsT H id path with
    | none => simp [hf] at h
    | some t => rw [hf] at h; rw [elemsT_ext hx hf]; exact h)
theorem AIndexAddr_ext (hx : Ext2 H H2) {γ : Bool} {t : TypeId} {x i v : AV} (h : AIndexAddr P H γ t x i v) : AIndexAddr P H2 γ t x i v := by
 unfold AIndexAddr at h ⊢
 generalize tkOf P t = k at h ⊢
 cases k <;> cases i <;> simp only [] at h ⊢ <;> first | exact h.elim | skip
 rotate_left
 ·exact h
 ·exact h
 cases x <;> simp only [] at h ⊢ <;> first | exact h | skip
 ·rename_i id path
  cases hf : elemsT H id path with
  | none => simp [hf] at h
  | some t => rw [hf] at h; rw [elemsT_ext hx hf]; exact h
 ·rename_i id path lo hi
  cases hf : elemsT H id path with
  | none => simp [hf] at h
  | some t => rw [hf] at h; rw [elemsT_ext hx hf]; exact h
theorem ALen_ext (hx : Ext2 H H2) {t : TypeId} {x v : AV} (h : ALen P H t x v) : ALen P H2 t x v := by
 unfold ALen at h ⊢
 generalize tkOf P t = k at h ⊢
 cases k <;> cases x <;> simp only [] at h ⊢ <;> first | exact h | exact h.elim | skip
 rotate_left
 ·rename_i ps o
  cases o <;> first | exact h | exact h.elim
 rename_i id path
 cases hf : elemsT H id path with
 | none => simp [hf] at h
 | some t => rw [hf] at h; rw [elemsT_ext hx hf]; exact h
theorem ABin_ext (hx : Ext2 H H2) {γ : Bool} {b : BinOp} {t : TypeId} {x y v : AV} (h : ABin P H γ b t x y v) : ABin P H2 γ b t x y v := by
 unfold ABin at h ⊢
 cases x <;> cases y <;> simp only [] at h ⊢ <;> first | exact h | exact h.elim | skip
 rename_i id path
 cases hf : elemsT H id path with
 | none => simp [hf] at h
 | some t => rw [hf] at h; rw [elemsT_ext hx hf]; exact h
theorem ASlice_ext (hx : Ext2 H H2) {γ : Bool} {t : TypeId} {x lo hi v : AV} {hh : Bool} (h : ASlice P H γ t x lo hi v hh) : ASlice P H2 γ t x lo hi v hh := by
 unfold ASlice at h ⊢
 cases lo <;> simp only [] at h ⊢ <;> first | exact h.elim | skip
 generalize tkOf P t = k at h ⊢
 cases k <;> cases x <;> simp only [] at h ⊢ <;> first | exact h | exact h.elim | skip
 ·rename_i id path
  cases hf : elemsT H id path with
  | none => simp [hf] at h
  | some t => rw [hf] at h; rw [elemsT_ext hx hf]; exact h
 ·rename_i id path _ _
  cases hf : elemsT H id path with
  | none => simp [hf] at h
  | some t => rw [hf] at h; rw [elemsT_ext hx hf]; exact h
theorem okRef_ext (hx : Ext2 H H2) {id : Nat} {p : List Nat} (h : okRef H id p = true) : okRef H2 id p = true := by
 unfold okRef at h ⊢
 split at h
 ·rename_i ps hf
  rw [hx _ _ hf]
 ·obtain ⟨r, hr⟩ := Option.isSome_iff_exists.1 h
  have h2 := elemsT_ext hx hr
  split
  ·rfl
  ·rw [h2]; rfl
theorem oneA_ext (hx : Ext2 H H2) {v : AV} (h : oneA H v = true) : oneA H2 v = true := by
 unfold oneA cellsA at h ⊢
 cases v <;> simp only [] at h ⊢ <;> first | exact h | skip
 rename_i id path
 cases hf : okRef H id path with
 | false => simp [hf] at h
 | true => rw [okRef_ext hx hf]; rw [hf] at h; exact h
theorem okPart_ext (hx : Ext2 H H2) {v : AV} (h : okPart H v = true) : okPart H2 v = true := by
 unfold okPart at h ⊢
 split at h
 ·rename_i ws
  rw [List.all_eq_true] at h ⊢
  exact fun x hx' => oneA_ext hx (h x hx')
 ·exact oneA_ext hx h
theorem ABuildS_ext (hx : Ext2 H H2) {γ : Bool} {t : TypeId} {ps : List (Nat × AV)} {v : AV} (h : ABuildS P H γ t ps v) : ABuildS P H2 γ t ps v := by
 unfold ABuildS at h ⊢
 split at h <;> first | exact h.elim | skip
 refine ⟨h.1, fun hg => ?_, h.2.2⟩
 have := h.2.1 hg
 rw [List.all_eq_true] at this ⊢
 exact fun x hx' => okPart_ext hx (this x hx')
theorem AConv_ext (hx : Ext2 H H2) {γ : Bool} {s d : TypeId} {x v : AV} (h : AConv P H γ s d x v) : AConv P H2 γ s d x v := by
 unfold AConv at h ⊢
 split at h <;> first | exact h.elim | exact h | skip
 refine ⟨h.1, ?_⟩
 have h2 := h.2
 split at h2 <;> first | exact h2.elim | skip
 rename_i e
 rw [hx _ _ e]
 exact h2
theorem AVal_ext (hx : Ext2 H H2) {γ : Bool} {ρ : Operand → AV} {op : Op} {v : AV} (h : AVal P H γ ρ op v) : AVal P H2 γ ρ op v := by
 unfold AVal at h ⊢
 split at h <;> first | exact h.elim | exact h | skip
 ·exact ⟨h.1, ALoad_ext hx h.2⟩
 ·exact ⟨h.1, h.2.1, AIndexAddr_ext hx h.2.2⟩
 ·exact ⟨h.1, h.2.1, ABin_ext hx h.2.2⟩
 ·exact ⟨h.1, AConv_ext hx h.2⟩
 ·exact ⟨h.1, h.2.1, ASlice_ext hx h.2.2⟩
 ·exact ⟨h.1, h.2.1, h.2.2.1, ASlice_ext hx h.2.2.2⟩
 ·exact ⟨h.1, h.2.1, ASlice_ext hx h.2.2⟩
 ·unfold ABuiltin at h ⊢
  split at h <;> first | exact h.elim | exact h | skip
  exact ⟨h.1, ALen_ext hx h.2⟩
 ·split at h <;> first | exact h.elim | skip
  exact ⟨h.1, h.2.1, fun hg => ACall_ext hx (h.2.2 hg)⟩
 ·exact ABuildS_ext hx h
theorem PYield_ext (hx : Ext2 H H2) {ops : Array Oper} {g : Nat → AV} {o : Oper} {x : AV} (h : PYield P ops g H o x) : PYield P ops g H2 o x :=
 let ⟨γ, v, h1, h2, h3⟩ := h
 ⟨γ, v, h1, AVal_ext hx h2, h3⟩
theorem ext_put (t : Tree) : Ext2 H (putT H (newId H) t) := fun id t' h => by
 rw [find_putT, if_neg (fun e => by subst e; rw [find_new] at h; cases h)]
 exact h
def gentle (P : Program) (o : Oper) : Bool :=
 match o.op with
 | .alloc _ => true
 | .buildSlice t n _ => match tkOf P t with
  | .sl e => n == 0 || elemKind P e == 1
  | _ => false
 | .makeSlice .. => true
 | _ => false
theorem kill_none (g : Nat → AV) : (fun k => killA (qOf [] []) (g k)) = g := funext fun k => killA_no (g k)
theorem gentle_dec {fx : Fx} {n : Nat} {g : Nat → AV} {o : Oper} {ops : Array Oper} {K : Post} (hp : pureOp o.op = false) (hg : gentle P o = true) (h : aOper P ops fx n g H o K) :
  ∃ v H2, Ext2 H H2 ∧ K (upd g o.dst v) H2 ∧ ∀ (g' : Nat → AV) (K' : Post), (∀ x ∈ o.op.operands.toList, evF g x = evF g' x) → K' (upd g' o.dst v) H2 → aOper P ops fx n g' H o K' := by
 obtain ⟨h1, h2⟩ := h
 rw [if_neg (by rw [hp]; decide)] at h2
 obtain ⟨h3, h4⟩ := h2
 have hback : ∀ {g' : Nat → AV} {K' : Post}, AHeap P H (evF g') o.op (fun v all subs H' => K' (upd (fun k => killA (qOf all subs) (g' k)) o.dst v) H') → aOper P ops fx n g' H o K' :=
  fun hh => ⟨h1, by rw [if_neg (by rw [hp]; decide)]; exact ⟨h3, hh⟩⟩
 obtain ⟨dst, op, ty, pos, af, gd⟩ := o
 unfold gentle at hg
 simp only at hg h4 hback ⊢
 split at hg <;> first | (cases hg; done) | skip
 ·rename_i t
  simp only [AHeap] at h4 hback
  cases hz : zeroAVs P t with
  | none => rw [hz] at h4; exact h4.elim
  | some vs =>
   rw [hz] at h4
   simp only [kill_none] at h4
   refine ⟨_, _, ext_put _, h4, fun g' K' _ hk => hback ?_⟩
   rw [hz]
   simp only [kill_none]
   exact hk
 ·rename_i t len parts
  have hargs : ∀ g', (∀ x ∈ (Op.buildSlice t len parts).operands.toList, evF g x = evF g' x) → parts.toList.map (fun p => evF g' p.2) = parts.toList.map (fun p => evF g p.2) := fun g' hh =>
   List.map_congr_left fun p hp => (hh p.2 (by simp only [Op.operands, Array.toList_map, List.mem_map]; exact ⟨p, hp, rfl⟩)).symm
  simp only [AHeap] at h4 hback
  cases hk : tkOf P t with
  | sl e =>
   simp only [hk] at h4 hback hg
   obtain ⟨a1, a2, a3, a4, a5⟩ := h4
   have hb2 : ∀ {g' : Nat → AV} {K' : Post}, parts.toList.map (fun p => evF g' p.2) = parts.toList.map (fun p => evF g p.2) →
     ABuild P H e (parts.toList.map (fun p => evF g p.2)) (fun v all subs H' => K' (upd (fun k => killA (qOf all subs) (g' k)) dst v) H') → aOper P ops fx n g' H ⟨dst, .buildSlice t len parts, ty, pos, af, gd⟩ K' := fun ho hh =>
    hback ⟨a1, a2, a3, a4, by rw [ho]; exact hh⟩
   generalize hvs : parts.toList.map (fun p => evF g p.2) = vs at a5 hb2 hargs
   have h0 : vs = [] ∨ elemKind P e = 1 := by
    simp only [Bool.or_eq_true, beq_iff_eq] at hg
    rcases hg with hg | hg
    ·subst hg
     have : parts.toList = [] := List.eq_nil_of_length_eq_zero a3.symm
     exact .inl (by rw [← hvs, this]; rfl)
    ·exact .inr hg
   unfold ABuild at a5 hb2
   split at a5
   ·split at a5
    ·rename_i hek
     simp only [hek, kill_none] at hb2 a5
     exact ⟨_, _, ext_put _, a5, fun g' K' ho hk' => hb2 (hargs g' ho) hk'⟩
    ·rename_i hek
     simp only [hek, kill_none] at hb2 a5
     exact ⟨_, _, ext_put _, a5, fun g' K' ho hk' => hb2 (hargs g' ho) hk'⟩
    ·rename_i hek
     simp only [hek, kill_none] at hb2 a5
     exact ⟨_, _, ext_put _, a5, fun g' K' ho hk' => hb2 (hargs g' ho) hk'⟩
    ·rename_i n1 n2 n3
     simp only [kill_none] at a5
     refine ⟨_, _, ext_put _, a5, fun g' K' ho hk' => hb2 (hargs g' ho) ?_⟩
     simp only [kill_none]
     exact hk'
   ·exact absurd (h0.resolve_left (by simp)) a5.1
   ·rename_i hn1 hn2
    have hre : ∀ {K2 : AV → List Nat → List Nat → List (Nat × Tree) → Prop}, (match allSome isInt vs with
     | some xs => K2 (.ref (newId H) []) [] [] (putT H (newId H) (.t1 xs))
     | none => match allSome isL1 vs with
      | some xs => K2 (.ref (newId H) []) [] [] (putT H (newId H) (.r2 xs))
      | none => match allSome isL2 vs with
       | some xs => K2 (.l3 xs) [] [] H
       | none => vs.all (oneA H) = true ∧ K2 (.ref (newId H) []) [] [] (putT H (newId H) (.lv vs))) → ABuild P H e vs K2 := fun hh => by
     unfold ABuild
     split
     ·exact absurd rfl hn1
     ·rename_i id; exact absurd rfl (hn2 id)
     ·exact hh
    have hb3 : ∀ {g' : Nat → AV} {K' : Post}, parts.toList.map (fun p => evF g' p.2) = vs → ABuild P H e vs (fun v all subs H' => K' (upd (fun k => killA (qOf all subs) (g' k)) dst v) H') → aOper P ops fx n g' H ⟨dst, .buildSlice t len parts, ty, pos, af, gd⟩ K' := fun ho hh =>
     hback ⟨a1, a2, a3, a4, by rw [ho]; exact hh⟩
    clear hb2
    split at a5
    ·rename_i xs hx
     simp only [kill_none] at a5
     exact ⟨_, _, ext_put _, a5, fun g' K' ho hk' => hb3 (hargs g' ho) (hre (by rw [hx]; simp only [kill_none]; exact hk'))⟩
    ·rename_i hx1
     split at a5
     ·rename_i xs hx
      simp only [kill_none] at a5
      exact ⟨_, _, ext_put _, a5, fun g' K' ho hk' => hb3 (hargs g' ho) (hre (by rw [hx1]; simp only [hx, kill_none]; exact hk'))⟩
     ·rename_i hx2
      split at a5
      ·rename_i xs hx
       simp only [kill_none] at a5
       exact ⟨_, _, fun _ _ h => h, a5, fun g' K' ho hk' => hb3 (hargs g' ho) (hre (by rw [hx1]; simp only [hx2, hx, kill_none]; exact hk'))⟩
      ·rename_i hx3
       simp only [kill_none] at a5
       exact ⟨_, _, ext_put _, a5.2, fun g' K' ho hk' => hb3 (hargs g' ho) (hre (by rw [hx1]; simp only [hx2, hx3, kill_none]; exact ⟨a5.1, hk'⟩))⟩
  | sp e => simp only [hk] at hg; cases hg
  | _ => simp only [hk] at h4
 ·rename_i t l c
  have hops : ∀ g', (∀ x ∈ (Op.makeSlice t l c).operands.toList, evF g x = evF g' x) → evF g' l = evF g l ∧ evF g' c = evF g c := fun g' hh =>
   ⟨(hh l (by simp [Op.operands])).symm, (hh c (by simp [Op.operands])).symm⟩
  simp only [AHeap] at h4 hback
  split at h4 <;> first | exact h4.elim | skip
  rename_i e m m' hk1 hk2 hk3
  obtain ⟨a1, a2, a3, a4⟩ := h4
  have hb2 : ∀ {g' : Nat → AV} {K' : Post}, (evF g' l = evF g l ∧ evF g' c = evF g c) → AMake P H e m (fun v all subs H' => K' (upd (fun k => killA (qOf all subs) (g' k)) dst v) H') → aOper P ops fx n g' H ⟨dst, .makeSlice t l c, ty, pos, af, gd⟩ K' := fun ho hh =>
   hback (by rw [ho.1, ho.2, hk1, hk2, hk3]; exact ⟨a1, a2, a3, hh⟩)
  unfold AMake at a4 hb2
  obtain ⟨b1, b2, b3⟩ := a4
  split at b3
  ·rename_i hek
   simp only [hek, kill_none] at hb2 b3
   exact ⟨_, _, ext_put _, b3, fun g' K' ho hk => hb2 (hops g' ho) ⟨b1, b2, hk⟩⟩
  ·rename_i hek
   simp only [hek, kill_none] at hb2 b3
   exact ⟨_, _, ext_put _, b3, fun g' K' ho hk => hb2 (hops g' ho) ⟨b1, b2, hk⟩⟩
  ·rename_i hek
   simp only [hek, kill_none] at hb2 b3
   exact ⟨_, _, ext_put _, b3, fun g' K' ho hk => hb2 (hops g' ho) ⟨b1, b2, hk⟩⟩
  ·rename_i n1 n2 n3
   split at b3 <;> first | exact b3.elim | skip
   rename_i z hz
   simp only [kill_none] at b3
   refine ⟨_, _, ext_put _, b3, fun g' K' ho hk => hb2 (hops g' ho) ⟨b1, b2, ?_⟩⟩
   split <;> first | (exact absurd (by assumption) n1) | (exact absurd (by assumption) n2) | (exact absurd (by assumption) n3) | skip
   simp only [hz, kill_none]
   exact hk
def dep (md : Region.Mode) (ops : Array Oper) (i : Nat) : Nat → Nat → Bool
 | 0, _ => false
 | fuel + 1, j => match ops[j]? with
  | some o => o.after.any fun e => Region.binds md e && (e.on == i || dep md ops i fuel e.on)
  | none => false
def Closed (md : Region.Mode) (ops : Array Oper) (listed : Array Bool) : Prop :=
 ∀ k o, ops[k]? = some o → listed.getD k false = true → ∀ e ∈ o.after, Region.binds md e = true → listed.getD e.on false = true
theorem dep_no {md : Region.Mode} {ops : Array Oper} {listed : Array Bool} {i : Nat} (hc : Closed md ops listed) (hi : listed.getD i false = false) : ∀ (fuel j : Nat) (o : Oper), ops[j]? = some o → (∀ e ∈ o.after, Region.binds md e = true → listed.getD e.on false = true) → dep md ops i fuel j = false
 | 0, _, _, _, _ => rfl
 | fuel + 1, j, o, ho, hall => by
  cases hd : dep md ops i (fuel + 1) j with
  | false => rfl
  | true =>
   simp only [dep, ho] at hd
   obtain ⟨e, he, hb⟩ := Array.any_eq_true'.1 hd
   simp only [Bool.and_eq_true, Bool.or_eq_true, beq_iff_eq] at hb
   have hl := hall e he hb.1
   rcases hb.2 with h | h
   ·rw [h, hi] at hl; cases hl
   ·cases hoe : ops[e.on]? with
    | none => cases fuel <;> simp [dep, hoe] at h
    | some o2 =>
     rw [dep_no hc hi fuel e.on o2 hoe (hc _ _ hoe hl)] at h
     cases h
theorem Closed.set {md : Region.Mode} {ops : Array Oper} {listed : Array Bool} (hc : Closed md ops listed) {j : Nat} (hj : j ∈ Region.ready md ops listed) : Closed md ops (listed.setIfInBounds j true) := by
 obtain ⟨hun, oj, hoj, hall⟩ := mem_ready.1 hj
 intro k o hk hl e he hb
 by_cases hjk : j = k
 ·subst hjk
  rw [hoj] at hk; cases hk
  exact getD_set_true (hall e he hb)
 ·rw [getD_set_ne false hjk] at hl
  exact getD_set_true (hc k o hk hl e he hb)
def pickO (ops : Array Oper) (k : Nat) : Oper := (ops[k]?).getD ⟨none, .move (.tmp 0), 0, "", #[], none⟩
end
section
variable {b : Bool} {P : Program} {ops : Array Oper} {n : Nat} {r : List Oper} {st : St} {K : St → Prop}
theorem YR_eq2 {d : Option Nat} {w : Option Bool} (a : AV) : YR b P ops n r st d w K (fun v => a = v) = gRun b P ops n r ⟨putL d (wrp w a) st.s, st.H⟩ K := propext ⟨fun ⟨_, h, k⟩ => h ▸ k, fun k => ⟨a, rfl, k⟩⟩
end
attribute [go_sem] YR_eq2
section
variable {P : Program} {cx : Cx} {n : Nat} {Q : SQ} {st : St} {cs : List Code}
end
end Go.Aw
