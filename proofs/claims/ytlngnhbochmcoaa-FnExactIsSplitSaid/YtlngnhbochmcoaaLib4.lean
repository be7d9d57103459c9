import Derived.Test.YtlngnhbochmcoaaLib3
set_option linter.unusedSimpArgs false
set_option linter.unusedVariables false
namespace Go.Aw
open Go.RowKit
section
variable {P : Program} {st : St}
end
end Go.Aw
namespace Go.Aw
open Go.RowKit
def Z5_ (H H2 : List (Nat × Tree)) : Prop := ∀ id t, find H id = some t → find H2 id = some t
section
variable {P : Program} {H H2 : List (Nat × Tree)}
theorem yD_ (hx : Z5_ H H2) {id : Nat} {path : List Nat} {r : Nat × (Nat → AV)} (h : x0_ H id path = some r) : x0_ H2 id path = some r := by
 unfold x0_ at h ⊢
 cases hf : find H id with
 | none => rw [hf] at h; cases path <;> simp at h
 | some t => rw [hf] at h; rw [hx id t hf]; exact h
theorem UT_ (hx : Z5_ H H2) {id : Nat} {path : List Nat} {d : AV} (h : ZK_ (find H id) path = some d) : ZK_ (find H2 id) path = some d := by
 cases hf : find H id with
 | none => rw [hf] at h; simp [ZK_] at h
 | some t => rw [hf] at h; rw [hx id t hf]; exact h
mutual
theorem UU_ (hx : Z5_ H H2) : ∀ (a d : AV), xI_ H a = some d → xI_ H2 a = some d
 | .ref id path, d, h => by simp only [xI_] at h ⊢; exact UT_ hx h
 | .sub id path lo hi, d, h => by
  simp only [xI_, Option.bind_eq_some_iff] at h ⊢
  obtain ⟨x, h1, h2⟩ := h
  exact ⟨x, UT_ hx h1, h2⟩
 | .agg vs, d, h => by
  simp only [xI_, Option.map_eq_some_iff] at h ⊢
  obtain ⟨x, h1, h2⟩ := h
  exact ⟨x, Xa_ hx vs x h1, h2⟩
 | .tup vs, d, h => by
  simp only [xI_, Option.map_eq_some_iff] at h ⊢
  obtain ⟨x, h1, h2⟩ := h
  exact ⟨x, Xa_ hx vs x h1, h2⟩
 | .eref _ _ _, _, h => by simp [xI_] at h
 | .bptr _ _, _, h => by simp [xI_] at h
 | .when _ _, _, h => by simp [xI_] at h
 | .junk, _, h => by simp [xI_] at h
 | .int _, _, h => by simpa only [xI_] using h
 | .flt _, _, h | .ik _ _, _, h => by simpa only [xI_] using h
 | .bool _, _, h => by simpa only [xI_] using h
 | .str _, _, h => by simpa only [xI_] using h
 | .nil, _, h => by simpa only [xI_] using h
 | .nilfn, _, h => by simpa only [xI_] using h
 | .l1 _, _, h => by simpa only [xI_] using h
 | .l2 _, _, h => by simpa only [xI_] using h
 | .l3 _, _, h | .lp _ _, _, h | .val _, _, h => by simpa only [xI_] using h
 | .lv _, _, h => by simpa only [xI_] using h
 | .fn _ _, _, h => by simpa only [xI_] using h
 | .eptr _ _, _, h => by simpa only [xI_] using h
 | .cptr _ _, _, h => by simpa only [xI_] using h
theorem Xa_ (hx : Z5_ H H2) : ∀ (as ds : List AV), zJ_ H as = some ds → zJ_ H2 as = some ds
 | [], _, h => by simpa only [zJ_] using h
 | a :: as, ds, h => by
  simp only [zJ_] at h ⊢
  split at h
  ·rename_i x xs h1 h2
   cases h
   rw [UU_ hx a x h1, Xa_ hx as xs h2]
  ·cases h
end
theorem UV_ (hx : Z5_ H H2) {a d : AV} (h : ze_ H a = some d) : ze_ H2 a = some d := by
 unfold ze_ at h ⊢
 split at h
 ·rename_i id off
  split at h
  ·rename_i vs hf
   rw [hx _ _ hf]
   simp only [Option.map_eq_some_iff] at h ⊢
   obtain ⟨x, h1, h2⟩ := h
   exact ⟨x, Xa_ hx _ _ h1, h2⟩
  ·cases h
 ·exact UU_ hx _ _ h
theorem WV_ (hx : Z5_ H H2) : ∀ {as ds : List AV}, wD_ H as = some ds → wD_ H2 as = some ds
 | [], _, h => by simpa only [wD_] using h
 | a :: as, ds, h => by
  simp only [wD_] at h ⊢
  split at h
  ·rename_i x xs h1 h2
   cases h
   rw [UV_ hx h1, WV_ hx h2]
  ·cases h
theorem ao6 (hx : Z5_ H H2) {a d : AV} (h : view H a = some d) : view H2 a = some d := by
 unfold view at h ⊢
 split at h
 ·simp only [Option.map_eq_some_iff] at h ⊢
  obtain ⟨x, h1, h2⟩ := h
  exact ⟨x, WV_ hx h1, h2⟩
 ·exact UV_ hx h
theorem UW_ (hx : Z5_ H H2) : ∀ {as ds : List AV}, Xc_ H as = some ds → Xc_ H2 as = some ds
 | [], _, h => by simpa only [Xc_] using h
 | a :: as, ds, h => by
  simp only [Xc_] at h ⊢
  split at h
  ·rename_i x xs h1 h2
   cases h
   rw [ao6 hx h1, UW_ hx h2]
  ·cases h
theorem Js_ (hx : Z5_ H H2) {f : FuncId} {args : List AV} {v : AV} (h : UG_ P H f args v) : UG_ P H2 f args v := by
 rcases h with h | ⟨ds, h1, h2⟩
 ·exact .inl h
 ·exact .inr ⟨ds, UW_ hx h1, h2⟩
theorem Jt_ (hx : Z5_ H H2) {t : TypeId} {p v : AV} (h : wy_ P H t p v) : wy_ P H2 t p v := by
 unfold wy_ at h ⊢
 generalize xz_ P t = k at h ⊢
 cases p <;> cases k <;> simp only [] at h ⊢ <;> first | exact h | exact h.elim | skip
 all_goals first
  | (rename_i ps o n; cases o <;> first | exact h | exact h.elim)
  | (rename_i id off; cases hf : find H id with
    | none => simp [hf] at h
    | some t => rw [hf] at h; rw [hx _ _ hf]; exact h)
  | (rename_i id path i; cases hf : x0_ H id path with
    | none => simp [hf] at h
    | some t => rw [hf] at h; rw [yD_ hx hf]; exact h)
  | (rename_i id off _; cases hf : find H id with
    | none => simp [hf] at h
    | some t => rw [hf] at h; rw [hx _ _ hf]; exact h)
  | (rename_i id off _ _; cases hf : find H id with
    | none => simp [hf] at h
    | some t => rw [hf] at h; rw [hx _ _ hf]; exact h)
  | (rename_i id path i _; cases hf : x0_ H id path with
    | none => simp [hf] at h
    | some t => rw [hf] at h; rw [yD_ hx hf]; exact h)
  | (rename_i id path i _ _; cases hf : x0_ H id path with
    | none => simp [hf] at h
    | some t => rw [hf] at h; rw [yD_ hx hf]; exact h)
theorem Ww_ (hx : Z5_ H H2) {γ : Bool} {t : TypeId} {x i v : AV} (h : xT_ P H γ t x i v) : xT_ P H2 γ t x i v := by
 unfold xT_ at h ⊢
 generalize xz_ P t = k at h ⊢
 cases k <;> cases i <;> simp only [] at h ⊢ <;> first | exact h.elim | skip
 rotate_left
 ·exact h
 ·exact h
 cases x <;> simp only [] at h ⊢ <;> first | exact h | skip
 ·rename_i id path
  cases hf : x0_ H id path with
  | none => simp [hf] at h
  | some t => rw [hf] at h; rw [yD_ hx hf]; exact h
 ·rename_i id path lo hi
  cases hf : x0_ H id path with
  | none => simp [hf] at h
  | some t => rw [hf] at h; rw [yD_ hx hf]; exact h
theorem ao7 (hx : Z5_ H H2) {t : TypeId} {x v : AV} (h : Y9_ P H t x v) : Y9_ P H2 t x v := by
 unfold Y9_ at h ⊢
 generalize xz_ P t = k at h ⊢
 cases k <;> cases x <;> simp only [] at h ⊢ <;> first | exact h | exact h.elim | skip
 rotate_left
 ·rename_i ps o
  cases o <;> first | exact h | exact h.elim
 rename_i id path
 cases hf : x0_ H id path with
 | none => simp [hf] at h
 | some t => rw [hf] at h; rw [yD_ hx hf]; exact h
theorem ao8 (hx : Z5_ H H2) {γ : Bool} {b : BinOp} {t : TypeId} {x y v : AV} (h : Xy_ P H γ b t x y v) : Xy_ P H2 γ b t x y v := by
 unfold Xy_ at h ⊢
 cases x <;> cases y <;> simp only [] at h ⊢ <;> first | exact h | exact h.elim | skip
 rename_i id path
 cases hf : x0_ H id path with
 | none => simp [hf] at h
 | some t => rw [hf] at h; rw [yD_ hx hf]; exact h
theorem Yw_ (hx : Z5_ H H2) {γ : Bool} {t : TypeId} {x lo hi v : AV} {hh : Bool} (h : XT_ P H γ t x lo hi v hh) : XT_ P H2 γ t x lo hi v hh := by
 unfold XT_ at h ⊢
 cases lo <;> simp only [] at h ⊢ <;> first | exact h.elim | skip
 generalize xz_ P t = k at h ⊢
 cases k <;> cases x <;> simp only [] at h ⊢ <;> first | exact h | exact h.elim | skip
 ·rename_i id path
  cases hf : x0_ H id path with
  | none => simp [hf] at h
  | some t => rw [hf] at h; rw [yD_ hx hf]; exact h
 ·rename_i id path _ _
  cases hf : x0_ H id path with
  | none => simp [hf] at h
  | some t => rw [hf] at h; rw [yD_ hx hf]; exact h
theorem Ju_ (hx : Z5_ H H2) {id : Nat} {p : List Nat} (h : ZN_ H id p = true) : ZN_ H2 id p = true := by
 unfold ZN_ at h ⊢
 split at h
 ·rename_i ps hf
  rw [hx _ _ hf]
 ·obtain ⟨r, hr⟩ := Option.isSome_iff_exists.1 h
  have h2 := yD_ hx hr
  split
  ·rfl
  ·rw [h2]; rfl
theorem SS_ (hx : Z5_ H H2) {v : AV} (h : wh_ H v = true) : wh_ H2 v = true := by
 unfold wh_ cellsA at h ⊢
 cases v <;> simp only [] at h ⊢ <;> first | exact h | skip
 rename_i id path
 cases hf : ZN_ H id path with
 | false => simp [hf] at h
 | true => rw [Ju_ hx hf]; rw [hf] at h; exact h
theorem Qw_ (hx : Z5_ H H2) {v : AV} (h : YO_ H v = true) : YO_ H2 v = true := by
 unfold YO_ at h ⊢
 split at h
 ·rename_i ws
  rw [List.all_eq_true] at h ⊢
  exact fun x hx' => SS_ hx (h x hx')
 ·exact SS_ hx h
theorem T3_ (hx : Z5_ H H2) {γ : Bool} {t : TypeId} {ps : List (Nat × AV)} {v : AV} (h : Xn_ P H γ t ps v) : Xn_ P H2 γ t ps v := by
 unfold Xn_ at h ⊢
 split at h <;> first | exact h.elim | skip
 refine ⟨h.1, fun hg => ?_, h.2.2⟩
 have := h.2.1 hg
 rw [List.all_eq_true] at this ⊢
 exact fun x hx' => Qw_ hx (this x hx')
theorem Jv_ (hx : Z5_ H H2) {γ : Bool} {s d : TypeId} {x v : AV} (h : TV_ P H γ s d x v) : TV_ P H2 γ s d x v := by
 unfold TV_ at h ⊢
 split at h <;> first | exact h.elim | exact h | skip
 refine ⟨h.1, ?_⟩
 have h2 := h.2
 split at h2 <;> first | exact h2.elim | skip
 rename_i e
 rw [hx _ _ e]
 exact h2
theorem ao9 (hx : Z5_ H H2) {γ : Bool} {ρ : Operand → AV} {op : Op} {v : AV} (h : V9_ P H γ ρ op v) : V9_ P H2 γ ρ op v := by
 unfold V9_ at h ⊢
 split at h <;> first | exact h.elim | exact h | skip
 ·exact ⟨h.1, Jt_ hx h.2⟩
 ·exact ⟨h.1, h.2.1, Ww_ hx h.2.2⟩
 ·exact ⟨h.1, h.2.1, ao8 hx h.2.2⟩
 ·exact ⟨h.1, Jv_ hx h.2⟩
 ·exact ⟨h.1, h.2.1, Yw_ hx h.2.2⟩
 ·exact ⟨h.1, h.2.1, h.2.2.1, Yw_ hx h.2.2.2⟩
 ·exact ⟨h.1, h.2.1, Yw_ hx h.2.2⟩
 ·unfold XU_ at h ⊢
  split at h <;> first | exact h.elim | exact h | skip
  exact ⟨h.1, ao7 hx h.2⟩
 ·split at h <;> first | exact h.elim | skip
  exact ⟨h.1, h.2.1, fun hg => Js_ hx (h.2.2 hg)⟩
 ·exact T3_ hx h
theorem WW_ (hx : Z5_ H H2) {ops : Array Oper} {g : Nat → AV} {o : Oper} {x : AV} (h : zX_ P ops g H o x) : zX_ P ops g H2 o x :=
 let ⟨γ, v, h1, h2, h3⟩ := h
 ⟨γ, v, h1, ao9 hx h2, h3⟩
theorem zy_ (t : Tree) : Z5_ H (x8_ H (xR_ H) t) := fun id t' h => by
 rw [wI_, if_neg (fun e => by subst e; rw [VC_] at h; cases h)]
 exact h
def wO_ (P : Program) (o : Oper) : Bool :=
 match o.op with
 | .alloc _ => true
 | .buildSlice t n _ => match xz_ P t with
  | .sl e => n == 0 || xj_ P e == 1
  | _ => false
 | .makeSlice .. => true
 | _ => false
theorem yb_ (g : Nat → AV) : (fun k => xp_ (qOf [] []) (g k)) = g := funext fun k => yl_ (g k)
theorem WX_ {fx : Fx} {n : Nat} {g : Nat → AV} {o : Oper} {ops : Array Oper} {K : wf_} (hp : yw_ o.op = false) (hg : wO_ P o = true) (h : Xi_ P ops fx n g H o K) :
  ∃ v H2, Z5_ H H2 ∧ K (upd g o.dst v) H2 ∧ ∀ (g' : Nat → AV) (K' : wf_), (∀ x ∈ o.op.operands.toList, evF g x = evF g' x) → K' (upd g' o.dst v) H2 → Xi_ P ops fx n g' H o K' := by
 obtain ⟨h1, h2⟩ := h
 rw [if_neg (by rw [hp]; decide)] at h2
 obtain ⟨h3, h4⟩ := h2
 have hback : ∀ {g' : Nat → AV} {K' : wf_}, wx_ P H (evF g') o.op (fun v all subs H' => K' (upd (fun k => xp_ (qOf all subs) (g' k)) o.dst v) H') → Xi_ P ops fx n g' H o K' :=
  fun hh => ⟨h1, by rw [if_neg (by rw [hp]; decide)]; exact ⟨h3, hh⟩⟩
 obtain ⟨dst, op, ty, pos, af, gd⟩ := o
 unfold wO_ at hg
 simp only at hg h4 hback ⊢
 split at hg <;> first | (cases hg; done) | skip
 ·rename_i t
  simp only [wx_] at h4 hback
  cases hz : xk_ P t with
  | none => rw [hz] at h4; exact h4.elim
  | some vs =>
   rw [hz] at h4
   simp only [yb_] at h4
   refine ⟨_, _, zy_ _, h4, fun g' K' _ hk => hback ?_⟩
   rw [hz]
   simp only [yb_]
   exact hk
 ·rename_i t len parts
  have hargs : ∀ g', (∀ x ∈ (Op.buildSlice t len parts).operands.toList, evF g x = evF g' x) → parts.toList.map (fun p => evF g' p.2) = parts.toList.map (fun p => evF g p.2) := fun g' hh =>
   List.map_congr_left fun p hp => (hh p.2 (by simp only [Op.operands, Array.toList_map, List.mem_map]; exact ⟨p, hp, rfl⟩)).symm
  simp only [wx_] at h4 hback
  cases hk : xz_ P t with
  | sl e =>
   simp only [hk] at h4 hback hg
   obtain ⟨a1, a2, a3, a4, a5⟩ := h4
   have hb2 : ∀ {g' : Nat → AV} {K' : wf_}, parts.toList.map (fun p => evF g' p.2) = parts.toList.map (fun p => evF g p.2) →
     wu_ P H e (parts.toList.map (fun p => evF g p.2)) (fun v all subs H' => K' (upd (fun k => xp_ (qOf all subs) (g' k)) dst v) H') → Xi_ P ops fx n g' H ⟨dst, .buildSlice t len parts, ty, pos, af, gd⟩ K' := fun ho hh =>
    hback ⟨a1, a2, a3, a4, by rw [ho]; exact hh⟩
   generalize hvs : parts.toList.map (fun p => evF g p.2) = vs at a5 hb2 hargs
   have h0 : vs = [] ∨ xj_ P e = 1 := by
    simp only [Bool.or_eq_true, beq_iff_eq] at hg
    rcases hg with hg | hg
    ·subst hg
     have : parts.toList = [] := List.eq_nil_of_length_eq_zero a3.symm
     exact .inl (by rw [← hvs, this]; rfl)
    ·exact .inr hg
   unfold wu_ at a5 hb2
   split at a5
   ·split at a5
    ·rename_i hek
     simp only [hek, yb_] at hb2 a5
     exact ⟨_, _, zy_ _, a5, fun g' K' ho hk' => hb2 (hargs g' ho) hk'⟩
    ·rename_i hek
     simp only [hek, yb_] at hb2 a5
     exact ⟨_, _, zy_ _, a5, fun g' K' ho hk' => hb2 (hargs g' ho) hk'⟩
    ·rename_i hek
     simp only [hek, yb_] at hb2 a5
     exact ⟨_, _, zy_ _, a5, fun g' K' ho hk' => hb2 (hargs g' ho) hk'⟩
    ·rename_i n1 n2 n3
     simp only [yb_] at a5
     refine ⟨_, _, zy_ _, a5, fun g' K' ho hk' => hb2 (hargs g' ho) ?_⟩
     simp only [yb_]
     exact hk'
   ·exact absurd (h0.resolve_left (by simp)) a5.1
   ·rename_i hn1 hn2
    have hre : ∀ {K2 : AV → List Nat → List Nat → List (Nat × Tree) → Prop}, (match zx_ isInt vs with
     | some xs => K2 (.ref (xR_ H) []) [] [] (x8_ H (xR_ H) (.t1 xs))
     | none => match zx_ ab8 vs with
      | some xs => K2 (.ref (xR_ H) []) [] [] (x8_ H (xR_ H) (.r2 xs))
      | none => match zx_ QR_ vs with
       | some xs => K2 (.l3 xs) [] [] H
       | none => vs.all (wh_ H) = true ∧ K2 (.ref (xR_ H) []) [] [] (x8_ H (xR_ H) (.lv vs))) → wu_ P H e vs K2 := fun hh => by
     unfold wu_
     split
     ·exact absurd rfl hn1
     ·rename_i id; exact absurd rfl (hn2 id)
     ·exact hh
    have hb3 : ∀ {g' : Nat → AV} {K' : wf_}, parts.toList.map (fun p => evF g' p.2) = vs → wu_ P H e vs (fun v all subs H' => K' (upd (fun k => xp_ (qOf all subs) (g' k)) dst v) H') → Xi_ P ops fx n g' H ⟨dst, .buildSlice t len parts, ty, pos, af, gd⟩ K' := fun ho hh =>
     hback ⟨a1, a2, a3, a4, by rw [ho]; exact hh⟩
    clear hb2
    split at a5
    ·rename_i xs hx
     simp only [yb_] at a5
     exact ⟨_, _, zy_ _, a5, fun g' K' ho hk' => hb3 (hargs g' ho) (hre (by rw [hx]; simp only [yb_]; exact hk'))⟩
    ·rename_i hx1
     split at a5
     ·rename_i xs hx
      simp only [yb_] at a5
      exact ⟨_, _, zy_ _, a5, fun g' K' ho hk' => hb3 (hargs g' ho) (hre (by rw [hx1]; simp only [hx, yb_]; exact hk'))⟩
     ·rename_i hx2
      split at a5
      ·rename_i xs hx
       simp only [yb_] at a5
       exact ⟨_, _, fun _ _ h => h, a5, fun g' K' ho hk' => hb3 (hargs g' ho) (hre (by rw [hx1]; simp only [hx2, hx, yb_]; exact hk'))⟩
      ·rename_i hx3
       simp only [yb_] at a5
       exact ⟨_, _, zy_ _, a5.2, fun g' K' ho hk' => hb3 (hargs g' ho) (hre (by rw [hx1]; simp only [hx2, hx3, yb_]; exact ⟨a5.1, hk'⟩))⟩
  | sp e => simp only [hk] at hg; cases hg
  | _ => simp only [hk] at h4
 ·rename_i t l c
  have hops : ∀ g', (∀ x ∈ (Op.makeSlice t l c).operands.toList, evF g x = evF g' x) → evF g' l = evF g l ∧ evF g' c = evF g c := fun g' hh =>
   ⟨(hh l (by simp [Op.operands])).symm, (hh c (by simp [Op.operands])).symm⟩
  simp only [wx_] at h4 hback
  split at h4 <;> first | exact h4.elim | skip
  rename_i e m m' hk1 hk2 hk3
  obtain ⟨a1, a2, a3, a4⟩ := h4
  have hb2 : ∀ {g' : Nat → AV} {K' : wf_}, (evF g' l = evF g l ∧ evF g' c = evF g c) → UM_ P H e m (fun v all subs H' => K' (upd (fun k => xp_ (qOf all subs) (g' k)) dst v) H') → Xi_ P ops fx n g' H ⟨dst, .makeSlice t l c, ty, pos, af, gd⟩ K' := fun ho hh =>
   hback (by rw [ho.1, ho.2, hk1, hk2, hk3]; exact ⟨a1, a2, a3, hh⟩)
  unfold UM_ at a4 hb2
  obtain ⟨b1, b2, b3⟩ := a4
  split at b3
  ·rename_i hek
   simp only [hek, yb_] at hb2 b3
   exact ⟨_, _, zy_ _, b3, fun g' K' ho hk => hb2 (hops g' ho) ⟨b1, b2, hk⟩⟩
  ·rename_i hek
   simp only [hek, yb_] at hb2 b3
   exact ⟨_, _, zy_ _, b3, fun g' K' ho hk => hb2 (hops g' ho) ⟨b1, b2, hk⟩⟩
  ·rename_i hek
   simp only [hek, yb_] at hb2 b3
   exact ⟨_, _, zy_ _, b3, fun g' K' ho hk => hb2 (hops g' ho) ⟨b1, b2, hk⟩⟩
  ·rename_i n1 n2 n3
   split at b3 <;> first | exact b3.elim | skip
   rename_i z hz
   simp only [yb_] at b3
   refine ⟨_, _, zy_ _, b3, fun g' K' ho hk => hb2 (hops g' ho) ⟨b1, b2, ?_⟩⟩
   split <;> first | (exact absurd (by assumption) n1) | (exact absurd (by assumption) n2) | (exact absurd (by assumption) n3) | skip
   simp only [hz, yb_]
   exact hk
def dep (md : Region.Mode) (ops : Array Oper) (i : Nat) : Nat → Nat → Bool
 | 0, _ => false
 | fuel + 1, j => match ops[j]? with
  | some o => o.after.any fun e => Region.binds md e && (e.on == i || dep md ops i fuel e.on)
  | none => false
def Closed (md : Region.Mode) (ops : Array Oper) (listed : Array Bool) : Prop :=
 ∀ k o, ops[k]? = some o → listed.getD k false = true → ∀ e ∈ o.after, Region.binds md e = true → listed.getD e.on false = true
theorem Jw_ {md : Region.Mode} {ops : Array Oper} {listed : Array Bool} {i : Nat} (hc : Closed md ops listed) (hi : listed.getD i false = false) : ∀ (fuel j : Nat) (o : Oper), ops[j]? = some o → (∀ e ∈ o.after, Region.binds md e = true → listed.getD e.on false = true) → dep md ops i fuel j = false
 | 0, _, _, _, _ => rfl
 | fuel + 1, j, o, ho, hall => by
  cases hd : dep md ops i (fuel + 1) j with
  | false => rfl
  | true =>
   simp only [dep, ho] at hd
   obtain ⟨e, he, hb⟩ := Array.any_eq_true'.1 hd
   simp only [Bool.and_eq_true, Bool.or_eq_true, beq_iff_eq] at hb
   have hl := hall e he hb.1
   rcases hb.2 with h | h
   ·rw [h, hi] at hl; cases hl
   ·cases hoe : ops[e.on]? with
    | none => cases fuel <;> simp [dep, hoe] at h
    | some o2 =>
     rw [Jw_ hc hi fuel e.on o2 hoe (hc _ _ hoe hl)] at h
     cases h
theorem Closed.set {md : Region.Mode} {ops : Array Oper} {listed : Array Bool} (hc : Closed md ops listed) {j : Nat} (hj : j ∈ Region.ready md ops listed) : Closed md ops (listed.setIfInBounds j true) := by
 obtain ⟨hun, oj, hoj, hall⟩ := mem_ready.1 hj
 intro k o hk hl e he hb
 by_cases hjk : j = k
 ·subst hjk
  rw [hoj] at hk; cases hk
  exact getD_set_true (hall e he hb)
 ·rw [getD_set_ne false hjk] at hl
  exact getD_set_true (hc k o hk hl e he hb)
theorem T4_ {cx : Cx} {md : Region.Mode} {ops : Array Oper} {n : Nat} {Q : wf_} {i : Nat} {oi : Oper} {x : AV} (hi : ops[i]? = some oi) (hp : yw_ oi.op = true) (hdst : UA_ cx.fix n oi) :
  ∀ (fuel : Nat) (listed : Array Bool) (g : Nat → AV) (H : List (Nat × Tree)),
   Closed md ops listed → (∀ j oj, ops[j]? = some oj → j ≠ i → listed.getD j true = false → dep md ops i ops.size j = false → oi.apart ops oj = true ∧ (yw_ oj.op = true ∨ wO_ P oj = true)) →
   i ∈ Region.ready md ops listed → zX_ P ops g H oi x →
   am3 P md ops cx.fix n Q fuel (listed.setIfInBounds i true) (upd g oi.dst x) H → am3 P md ops cx.fix n Q (fuel + 1) listed g H := by
 intro fuel
 induction fuel with
 | zero =>
  intro listed g H _ _ hr hy hA
  refine ⟨fun h => (by rw [h] at hr; cases hr), fun j hj => ?_⟩
  by_cases hji : j = i
  ·subst hji
   unfold aAt
   rw [hi]
   exact ⟨hdst, by rw [if_pos hp]; exact ⟨x, hy, hA⟩⟩
  ·have := ready_mono hj hji
   rw [hA.1] at this
   cases this
 | succ fuel ih =>
  intro listed g H hcl hfree hr hy hA
  refine ⟨fun h => (by rw [h] at hr; cases hr), fun j hj => ?_⟩
  by_cases hji : j = i
  ·subst hji
   unfold aAt
   rw [hi]
   exact ⟨hdst, by rw [if_pos hp]; exact ⟨x, hy, hA⟩⟩
  ·have h1 := hA.2 j (ready_mono hj hji)
   obtain ⟨hjun, oj, hoj, hall⟩ := mem_ready.1 hj
   have hi0 : listed.getD i false = false := by
    have h0 := (mem_ready.1 hr).1
    rcases Nat.lt_or_ge i listed.size with h' | h'
    ·simp [h'] at h0 ⊢; exact h0
    ·simp [Array.getElem?_eq_none h']
   obtain ⟨hap, hpj⟩ := hfree j oj hoj hji hjun (Jw_ hcl hi0 _ j oj hoj hall)
   obtain ⟨a1, a2, a3⟩ := Oper.apart_spec hap
   have hfree' : ∀ k ok, ops[k]? = some ok → k ≠ i → (listed.setIfInBounds j true).getD k true = false → dep md ops i ops.size k = false → oi.apart ops ok = true ∧ (yw_ ok.op = true ∨ wO_ P ok = true) := by
    intro k ok hk hki hun hno
    refine hfree k ok hk hki ?_ hno
    by_cases hjk : j = k
    ·subst hjk; exact hjun
    ·rw [getD_set_ne true hjk] at hun; exact hun
   unfold aAt at h1 ⊢
   rw [hoj] at h1 ⊢
   by_cases hpure : yw_ oj.op = true
   ·obtain ⟨d1, d2⟩ := h1
    rw [if_pos hpure] at d2
    obtain ⟨y, hyj, hK⟩ := d2
    have hyj' : zX_ P ops g H oj y := (yX_ a1).1 hyj
    refine ⟨d1, by
     rw [if_pos hpure]
     refine ⟨y, hyj', ih (listed.setIfInBounds j true) _ H (hcl.set hj) hfree' (ready_mono hr (Ne.symm hji)) ((yX_ a3).2 hy) ?_⟩
     rw [Array.setIfInBounds_comm _ _ hji, ← XN_ a2]
     exact hK⟩
   ·have hgj : wO_ P oj = true := hpj.resolve_left hpure
    obtain ⟨v, H2, e1, e2, e3⟩ := WX_ (by simpa using hpure) hgj h1
    refine e3 g _ (fun z hz => ZE_ fun t ht => ?_) (ih (listed.setIfInBounds j true) _ H2 (hcl.set hj) hfree' (ready_mono hr (Ne.symm hji)) ((yX_ a3).2 (WW_ e1 hy)) ?_)
    ·have hla : t ∈ oj.looksAt ops := by
      subst ht
      simp only [Oper.looksAt, List.mem_append, List.mem_filterMap]
      exact .inl ⟨.tmp t, hz, rfl⟩
     cases hd : oi.dst with
     | none => rfl
     | some d =>
      have : d ≠ t := fun e => a1 d hd (e ▸ hla)
      simp only [upd, if_neg this]
    ·rw [Array.setIfInBounds_comm _ _ hji, ← XN_ a2]
     exact e2
def Yx_ (P : Program) (md : Region.Mode) (ops : Array Oper) (listed : Array Bool) (i : Nat) : Bool :=
 match ops[i]? with
 | some oi => (List.range ops.size).all fun j => match ops[j]? with
  | some oj => j == i || listed.getD j true || dep md ops i ops.size j || (oi.apart ops oj && (yw_ oj.op || wO_ P oj))
  | none => true
 | none => false
theorem Z6_ {md : Region.Mode} {ops : Array Oper} {listed : Array Bool} {i : Nat} {oi : Oper} (hi : ops[i]? = some oi) (h : Yx_ P md ops listed i = true) {j : Nat} {oj : Oper} (hj : ops[j]? = some oj) (hne : j ≠ i) (hun : listed.getD j true = false)
  (hno : dep md ops i ops.size j = false) : oi.apart ops oj = true ∧ (yw_ oj.op = true ∨ wO_ P oj = true) := by
 unfold Yx_ at h
 simp only [hi] at h
 rw [List.all_eq_true] at h
 have hl : j < ops.size := (Array.getElem?_eq_some_iff.1 hj).1
 have := h j (List.mem_range.2 hl)
 rw [hj] at this
 simp only [Bool.or_eq_true, beq_iff_eq, Bool.and_eq_true, hun, hno, Bool.false_eq_true, or_false, hne, false_or] at this
 exact this
def zO_ (ops : Array Oper) (k : Nat) : Oper := (ops[k]?).getD ⟨none, .move (.tmp 0), 0, "", #[], none⟩
def T5_ (ops : Array Oper) (perm : List Nat) : List Oper := perm.map (zO_ ops)
def aU9 (P : Program) (md : Region.Mode) (ops : Array Oper) : List Nat → Array Bool → Bool
 | [], listed => (Region.ready md ops listed).isEmpty
 | k :: r, listed =>
  (match ops[k]? with
   | some o => if yw_ o.op then (Region.ready md ops listed).contains k && Yx_ P md ops listed k else Region.ready md ops listed == [k]
   | none => false) && aU9 P md ops r (listed.setIfInBounds k true)
theorem Z7_ {cx : Cx} {md : Region.Mode} {ops : Array Oper} {n : Nat} {Q : wf_} : ∀ (perm : List Nat) (listed : Array Bool) (g : Nat → AV) (H : List (Nat × Tree)),
  Closed md ops listed → aU9 P md ops perm listed = true → as8 P ops cx.fix n Q (T5_ ops perm) g H → am3 P md ops cx.fix n Q perm.length listed g H
 | [], _, _, _, _, hB, h => ⟨by simpa [aU9] using hB, h⟩
 | k :: l, listed, g, H, hcl, hB, h => by
  simp only [aU9, Bool.and_eq_true] at hB
  obtain ⟨hB1, hB2⟩ := hB
  cases h0 : ops[k]? with
  | none => rw [h0] at hB1; cases hB1
  | some o =>
   have hpo : zO_ ops k = o := by simp [zO_, h0]
   simp only [T5_, List.map_cons, hpo] at h
   rw [h0] at hB1
   simp only at hB1
   by_cases hp : yw_ o.op = true
   ·rw [if_pos hp] at hB1
    simp only [Bool.and_eq_true] at hB1
    obtain ⟨hr, hpf⟩ := hB1
    have hr' : k ∈ Region.ready md ops listed := by simpa using hr
    obtain ⟨d1, d2⟩ := h
    rw [if_pos hp] at d2
    obtain ⟨x, hy, hK⟩ := d2
    exact T4_ h0 hp d1 l.length listed g H hcl (fun j oj hj hne hun hno => Z6_ h0 hpf hj hne hun hno) hr' hy
     (Z7_ l _ _ _ (hcl.set hr') hB2 hK)
   ·rw [if_neg hp] at hB1
    have hr : Region.ready md ops listed = [k] := by simpa using hB1
    refine ⟨fun h => (by rw [h] at hr; cases hr), fun i hi => ?_⟩
    rw [hr] at hi
    simp only [List.mem_singleton] at hi
    subst hi
    have hr' : i ∈ Region.ready md ops listed := by rw [hr]; exact List.mem_cons_self ..
    unfold aAt
    rw [h0]
    exact w3_ (fun g' H' hK => Z7_ l _ g' H' (hcl.set hr') hB2 hK) h
theorem Jx_ {l : List Oper} {k : Nat} {d : Nat} (h : (zO_ l.toArray k).dst = some d) : zO_ l.toArray k ∈ l := by
 unfold zO_ at h ⊢
 cases hk : l[k]? with
 | none => simp [hk] at h
 | some o => simp [hk]; exact List.mem_of_getElem? hk
def drawP (P : Program) (perm : List Nat) (ops : Array Oper) : Bool := perm.length == ops.size && aU9 P .any ops perm (Array.replicate ops.size false)
theorem AT.drawP {cx : Cx} {n : Nat} {Q : SQ} {st : St} {id : Nat} {l : List Oper} {perm : List Nat} (hx : ∀ o ∈ l, ∀ d, o.dst = some d → cx.fix d = false) (hm : P.follows .mixedOrders = true) (hB : Aw.drawP P perm l.toArray = true) (h : am5 P l.toArray n (T5_ l.toArray perm) st (fun st' => Q .normal st')) : AT P cx n (.region id l.toArray true) Q st := by
 intro tmps w hs
 refine wpIn_region_any hm ?_
 have hs' : SimF cx n st.get st.H tmps { w with drawn := w.drawn + 1 } := by
  obtain ⟨h1, ι, F, h2, h3⟩ := hs
  have e : Ext w { w with drawn := w.drawn + 1 } := (Below.refl _ _).drew
  exact ⟨h1, ι, F, h2.ext e, fun k => rep.le (zd_ e) _ _ (h3 k)⟩
 refine Yk_ (Q := Vp_ (fun st' => Q .normal st')) ?_ _ _ hs' ?_
 ·rintro a w' ⟨h1, g, H, ⟨st', rfl, rfl, h2⟩, h3⟩
  exact ⟨h1, st', h2, h3⟩
 ·unfold Aw.drawP at hB
  simp only [Bool.and_eq_true, beq_iff_eq] at hB
  have hx' : ∀ o ∈ T5_ l.toArray perm, ∀ d, o.dst = some d → cx.fix d = false := by
   intro o ho d hd
   simp only [T5_, List.mem_map] at ho
   obtain ⟨k, _, rfl⟩ := ho
   exact hx _ (Jx_ hd) d hd
  have := Z7_ (md := .any) perm (Array.replicate l.toArray.size false) st.get st.H (fun k o hk hl => by
   simp [Array.getD_eq_getD_getElem?, Array.getElem?_replicate] at hl
   split at hl <;> simp at hl) hB.2 (XO_ hx' h)
  rw [hB.1] at this
  exact this
end
section
variable {b : Bool} {P : Program} {ops : Array Oper} {n : Nat} {r : List Oper} {st : St} {K : St → Prop}
theorem aV0 {d : Option Nat} {w : Option Bool} (a : AV) : YR b P ops n r st d w K (fun v => a = v) = y3_ b P ops n r ⟨Yl_ d (wrp w a) st.s, st.H⟩ K := propext ⟨fun ⟨_, h, k⟩ => h ▸ k, fun k => ⟨a, rfl, k⟩⟩
end
attribute [go_sem] aV0
section
variable {P : Program} {cx : Cx} {n : Nat} {Q : SQ} {st : St} {cs : List Code}
theorem Jy_ (perm : List Nat) {id : Nat} {l : List Oper} (hx : ∀ o ∈ l, ∀ d, o.dst = some d → cx.fix d = false) (hm : P.follows .mixedOrders = true) (hB : drawP P perm l.toArray = true) (h : ∀ K : St → Prop, (∀ s, ATs P cx n cs Q s → K s) → y3_ false P l.toArray n (T5_ l.toArray perm) st K) : ATs P cx n (.region id l.toArray true :: cs) Q st :=
 AT.drawP hx hm hB (h _ fun _ h => h)
end
end Go.Aw
