/-
  The rule of a region in one order, and the contract of a function that turns what it is handed. Of no program.
-/
import Derived.Test.YtomfedhhfcelkaaAwV
set_option linter.unusedSimpArgs false
set_option linter.unusedVariables false
namespace Go.Aw
open Go.RowKit

section
variable {P : Program} {cx : Cx} {n : Nat} {ops : Array Oper}

theorem fRun_sound {K : St → Prop} {Q' : Exit → Act → World → Prop} (hQ : ∀ a w, After cx n (ofSt K) a w → Q' .normal a w) : ∀ (l : List Oper) {st : St} {tmps : Array Value} {w : World}, (∀ o ∈ l, ∀ d, o.dst = some d → cx.fix ≤ d) →
    SimF cx n st.get st.H tmps w → fRun P ops n l st K → wpList P ops Q' l ⟨tmps, []⟩ w
  | [], st, tmps, w, _, hs, h => hQ _ _ ⟨rfl, _, _, ⟨st, rfl, rfl, h⟩, hs⟩
  | o :: l, st, tmps, w, hx, hs, h => by
    have := fOper_sound (Q := Q') hs (hx o (List.mem_cons_self ..)) h
    have next : ∀ a w, After cx n (ofSt (fun st' => fRun P ops n l st' K)) a w → wpList P ops Q' l a w := by
      rintro a w ⟨hd, g', H', ⟨st', rfl, rfl, hK⟩, hs'⟩
      rw [act_eta hd]
      exact fRun_sound hQ l (fun o ho => hx o (List.mem_cons_of_mem _ ho)) hs' hK
    unfold wpList
    split
    · rename_i hw
      rw [if_pos hw] at this
      exact .inl (Oper.wp_mono next this)
    · rename_i hw
      rw [if_neg hw] at this
      exact next _ _ this

theorem AT.run {Q : SQ} {st : St} {id : Nat} {l : List Oper} (hx : ∀ o ∈ l, ∀ d, o.dst = some d → cx.fix ≤ d) (h : fRun P l.toArray n l st (fun st' => Q .normal st')) : AT P cx n (.region id l.toArray false) Q st := by
  intro tmps w hs
  refine wp_region_list ?_
  have : wpList P l.toArray _ l ⟨tmps, []⟩ w := fRun_sound (Q' := fun e a w' => a.defers = [] ∧ ∃ st', Q e st' ∧ SimF cx n st'.get st'.H a.tmps w') (K := fun st' => Q .normal st')
    (fun a w' ⟨h1, g, H, ⟨st', e1, e2, h2⟩, h3⟩ => by subst e1; subst e2; exact ⟨h1, st', h2, h3⟩) l hx hs h
  simpa using this
theorem ats_run {Q : SQ} {st : St} {cs : List Code} {id : Nat} {l : List Oper} (hx : ∀ o ∈ l, ∀ d, o.dst = some d → cx.fix ≤ d) (h : ∀ K : St → Prop, (∀ s, ATs P cx n cs Q s → K s) → fRun P l.toArray n l st K) : ATs P cx n (.region id l.toArray false :: cs) Q st :=
  AT.run hx (h _ fun _ h => h)

/-! ### Calls in such a run -/
theorem fcall_data {H : List (Nat × Tree)} {f : FuncId} {args : List AV} {v : AV} {K : AV → List Nat → List (Nat × Tree) → Prop} (h : PureCall P f args v) (hd : areData args = true) (k : K v [] H) : FCall P H f args K := .inl ⟨v, acall_data h hd, k⟩
theorem fcall_free {H : List (Nat × Tree)} {f : FuncId} {args ds : List AV} {v : AV} {K : AV → List Nat → List (Nat × Tree) → Prop} (hv : views H args = some ds) (hm : memFree v = true) (h : PureCall P f ds v) (k : K v [] H) : FCall P H f args K := .inl ⟨v, acall_free hv hm h, k⟩
theorem fcall_fresh {H : List (Nat × Tree)} {f : FuncId} {args ds : List AV} {v : AV} {K : AV → List Nat → List (Nat × Tree) → Prop} (hv : views H args = some ds) (h : FreshCall P f ds v) (k : K v [] H) : FCall P H f args K := .inl ⟨v, acall_fresh hv h, k⟩
theorem fcall_own {H : List (Nat × Tree)} {f : FuncId} {args ds : List AV} {d v : AV} {es : List (Nat × Tree)} {K : AV → List Nat → List (Nat × Tree) → Prop} (hv : views H args = some ds) (h : FreshCall P f ds d) (ht : thaw (newId H) d = some (v, es)) (k : K v [] (es ++ H)) : FCall P H f args K :=
  .inr (.inl ⟨ds, d, v, es, hv, h, ht, k⟩)
theorem fcall_turn {H : List (Nat × Tree)} {f : FuncId} {args as : List AV} {T T' : List (Nat × Tree)} {r : AV} {K : AV → List Nat → List (Nat × Tree) → Prop} (ρ : Nat → Nat) (h : TurnCall P f as T T' r) (ha : rens ρ as = args) (hp : plains T as = true) (hf : (T.all fun p => flatT p.2) = true)
    (hn : ((ids T).map ρ).Nodup) (hm : ∀ p ∈ T, find H (ρ p.1) = some p.2) (k : K r ((ids T).map ρ) (renT ρ T' ++ killH (qOf [] ((ids T).map ρ)) (rmT ((ids T).map ρ) H))) : FCall P H f args K :=
  .inr (.inr (.inl ⟨r, _, _, ⟨as, T, T', ρ, ha, h, hp, hf, hn, hm, rfl, rfl⟩, k⟩))
theorem fcall_row2 {H : List (Nat × Tree)} {f : FuncId} {id i : Nat} {k : Int} {xss : List (List Int)} {ys : List Int} {r : AV} {K : AV → List Nat → List (Nat × Tree) → Prop} (hf : find H id = some (.t2 xss)) (hi : i < xss.length)
    (h : TurnCall P f [.ref 0 [], .int k] [(0, .t1 (xss.getD i []))] [(0, .t1 ys)] r) (kk : K r [id] ((id, .t2 (xss.set i ys)) :: killH (qOf [] [id]) (rmT [id] H))) : FCall P H f [.ref id [i], .int k] K :=
  .inr (.inr (.inr ⟨r, id, _, ⟨i, k, rfl, .inl ⟨xss, ys, hf, hi, h, rfl⟩⟩, kk⟩))
theorem fcall_row3 {H : List (Nat × Tree)} {f : FuncId} {id i : Nat} {k : Int} {xss : List (List (List Int))} {ys : List (List Int)} {r : AV} {K : AV → List Nat → List (Nat × Tree) → Prop} (hf : find H id = some (.t3 xss)) (hi : i < xss.length)
    (h : TurnCall P f [.ref 0 [], .int k] [(0, .t2 (xss.getD i []))] [(0, .t2 ys)] r) (kk : K r [id] ((id, .t3 (xss.set i ys)) :: killH (qOf [] [id]) (rmT [id] H))) : FCall P H f [.ref id [i], .int k] K :=
  .inr (.inr (.inr ⟨r, id, _, ⟨i, k, rfl, .inr ⟨xss, ys, hf, hi, h, rfl⟩⟩, kk⟩))

/-! ### A function that turns what it is handed -/
mutual
def refsOf : AV → List Nat
  | .ref i [] => [i]
  | .agg vs => refsOfs vs
  | _ => []
def refsOfs : List AV → List Nat
  | [] => []
  | a :: as => refsOf a ++ refsOfs as
end
mutual
theorem refs_agree {m m' : Mem} : ∀ (a : AV) (u : Value), rep m a u → rep m' a u → ∀ i ∈ refsOf a, m'.ι i = m.ι i
  | .ref i [], u, h, h', j, hj => by
    simp only [refsOf, List.mem_singleton] at hj; subst hj
    simp only [rep, pathV, Option.some.injEq] at h h'
    rw [h.2, h'.2]
  | .ref i (_ :: _), _, _, _, j, hj => by simp [refsOf] at hj
  | .agg vs, u, h, h', j, hj => by
    simp only [refsOf] at hj
    simp only [rep] at h h'
    obtain ⟨us, rfl, h1⟩ := h
    obtain ⟨us', e, h2⟩ := h'
    have : us' = us := by
      simp only [Value.agg.injEq] at e
      exact (congrArg Array.toList e).symm
    subst this
    exact refss_agree vs _ h1 h2 j hj
  | .int _, _, _, _, _, hj | .bool _, _, _, _, _, hj | .str _, _, _, _, _, hj | .nil, _, _, _, _, hj | .tup _, _, _, _, _, hj
  | .ik _ _, _, _, _, _, hj | .nilfn, _, _, _, _, hj | .lv _, _, _, _, _, hj | .fn _ _, _, _, _, _, hj | .eptr _ _, _, _, _, _, hj | .cptr _ _, _, _, _, _, hj
  | .sub _ _ _ _, _, _, _, _, hj | .eref _ _ _, _, _, _, _, hj | .bptr _ _, _, _, _, _, hj | .when _ _, _, _, _, _, hj | .junk, _, _, _, _, hj | .l1 _, _, _, _, _, hj | .l2 _, _, _, _, _, hj | .l3 _, _, _, _, _, hj => by simp [refsOf] at hj
theorem refss_agree {m m' : Mem} : ∀ (as : List AV) (us : List Value), reps m as us → reps m' as us → ∀ i ∈ refsOfs as, m'.ι i = m.ι i
  | [], _, _, _, j, hj => by simp [refsOfs] at hj
  | a :: as, us, h, h', j, hj => by
    simp only [refsOfs, List.mem_append] at hj
    simp only [reps] at h h'
    obtain ⟨u, us1, rfl, h1, h2⟩ := h
    obtain ⟨u', us2, e, h3, h4⟩ := h'
    cases e
    rcases hj with hj | hj
    · exact refs_agree a _ h1 h3 j hj
    · exact refss_agree as _ h2 h4 j hj
end

theorem nodup_of_find {H : List (Nat × Tree)} {w : World} {ι : Nat → Value} {F : Nat → List Nat} (ho : Owns cx H w ι F) : ∀ {l : List (Nat × Tree)}, (Aw.ids l).Nodup → (∀ p ∈ l, find H p.1 = some p.2) → (foot l F).Nodup
  | [], _, _ => by simp [foot]
  | p :: l, hn, hl => by
    simp only [Aw.ids, List.map_cons, List.nodup_cons] at hn
    rw [foot_cons, List.nodup_append]
    refine ⟨foot_part ho (hl p (List.mem_cons_self ..)), nodup_of_find ho hn.2 (fun q hq => hl q (List.mem_cons_of_mem _ hq)), fun a ha c hc e => ?_⟩
    subst e
    obtain ⟨q, hq, hb⟩ := mem_foot.1 hc
    exact foot_disj ho (hl p (List.mem_cons_self ..)) (hl q (List.mem_cons_of_mem _ hq)) (fun e => hn.1 (e ▸ List.mem_map.2 ⟨q, hq, rfl⟩)) ha hb

theorem TurnCall.intro {f : FuncId} {fn : Func} {c : Code} {rs : List ResultVar} {a0 : AV} {as : List AV} {T T' : List (Nat × Tree)} {r : AV} (hcall : ∀ args w, (callFunc f args).run P w = .ok (.enter f args) w) (hf : P.funcs[f]? = some fn) (hb : fn.body = some c)
    (hn : fn.ntmps = n) (hrs : fn.results = rs.toArray) (hl : (a0 :: as).length ≤ n) (hids : Aw.ids T' = Aw.ids T) (hnd : (Aw.ids T).Nodup) (hflat : (T'.all fun p => flatT p.2) = true) (hfree : memFree r = true) (href : ((Aw.ids T).all fun i => (refsOf a0).contains i) = true)
    (h : ∀ cx, cx.fix = 1 → AT P cx n c (fun e st => Ends e ∧ resL P st rs r ∧ st.get 0 = a0 ∧ ∀ p ∈ T', find st.H p.1 = some p.2) ⟨argSlots 0 (a0 :: as), T⟩) : TurnCall P f (a0 :: as) T T' r := by
  refine ⟨hcall, hids, hfree, fun us w ι G hT hGn hGb hr => calls_of_wp hf hb ?_⟩
  rw [hn]
  have hr0 := hr
  rw [reps_all2] at hr
  have hlen := hr.length
  let u0 : Value := us.headD undef
  let cx : Cx := ⟨w.heap.size, fun b => b ∈ foot T G, fun _ => False, w, 1, fun _ => u0⟩
  have hget : ∀ k, (us.toArray ++ Array.replicate (n - us.toArray.size) undef).getD k undef = (us[k]?).getD undef := by
    intro k
    rw [Array.getD_eq_getD_getElem?]
    by_cases hk : k < us.length
    · rw [Array.getElem?_append_left (by simpa using hk)]; simp
    · rw [Array.getElem?_append_right (by simpa using hk)]
      rw [List.getElem?_eq_none (by omega)]
      simp only [Array.getElem?_replicate]
      split <;> rfl
  have hu0 : us[0]?.getD undef = u0 := by
    cases us with
    | nil => rfl
    | cons a l => rfl
  have ho : Owns cx T w ι G := ⟨⟨rfl, rfl, rfl, Nat.le_refl _, fun _ _ _ => rfl⟩, fun p hp => (hT p hp).tree rfl, hGn, fun b hb => ⟨hGb b hb, .inr hb⟩, hnd, Nat.le_refl _⟩
  have hm : All2 (rep (mem cx w T ι G)) (a0 :: as) us := hr.mono fun d v hdv =>
    rep.le (m := ⟨w, fun _ => False, ι, fun id path => livePath (find T id) path = true⟩) (m' := mem cx w T ι G) ⟨fun b hb => hb.elim, fun i p hd => ⟨hd, rfl, fun v hv => hv⟩⟩ _ _ hdv
  have hs : SimF cx n (St.mk (argSlots 0 (a0 :: as)) T).get T (us.toArray ++ Array.replicate (n - us.toArray.size) undef) w := by
    refine ⟨⟨by simp only [List.size_toArray, Array.size_append, Array.size_replicate]; omega, fun j hj => ?_⟩, ι, G, ho, fun k => ?_⟩
    · have : j = 0 := Nat.lt_one_iff.1 hj
      subst this
      rw [hget]; exact hu0
    · have := argSlots_get 0 hm k
      simp only [Nat.not_lt_zero, if_false, Nat.sub_zero] at this
      rw [hget]
      exact this
  refine wp_mono (h cx rfl _ w hs) ?_
  rintro e a w' ⟨h1, st', ⟨he, hv, hg0, hfd⟩, ⟨hsz, hfx⟩, ι', F', ho', hr'⟩
  obtain ⟨u, k1, k2⟩ := results_run (P := P) hrs ho' hr' hv
  have hin : ∀ p ∈ T', p.1 ∈ refsOf a0 := fun p hp => by
    have : p.1 ∈ Aw.ids T := by rw [← hids]; exact List.mem_map.2 ⟨p, hp, rfl⟩
    have := (List.all_eq_true.1 href) _ this
    simpa using this
  have hι : ∀ p ∈ T', ι' p.1 = ι p.1 := fun p hp => by
    have r0 := hr' 0
    rw [hg0, hfx 0 (Nat.lt_succ_self 0)] at r0
    have r1 : rep ⟨w, fun _ => False, ι, fun id path => livePath (find T id) path = true⟩ a0 u0 := by
      simp only [reps] at hr0
      obtain ⟨u, us', rfl, q1, _⟩ := hr0
      exact q1
    exact refs_agree a0 u0 r1 r0 _ (hin p hp)
  have hfin : ∃ x, (results fn a.tmps).run P w' = .ok x w' ∧ ∃ v G', Ending.returned x = .returned v ∧ Turned w w' (foot T G) ∧ (∀ p ∈ T', flatRep w' (G' p.1) p.2 (ι p.1)) ∧ (foot T' G').Nodup ∧
      (∀ b ∈ foot T' G', b < w'.heap.size ∧ (b ∈ foot T G ∨ w.heap.size ≤ b)) ∧ rep ⟨w', fun _ => False, fun _ => undef, fun _ _ => False⟩ r v := by
    refine ⟨u, k1, u, F', rfl, ⟨ho'.keep.os, ho'.keep.tape, ho'.keep.output, ho'.keep.size, fun k hk hkn => ho'.keep.block k hk hkn⟩, fun p hp => ?_, nodup_of_find ho' (by rw [hids]; exact hnd) hfd, fun b hb => ?_, rep_memFree hfree k2⟩
    · rw [← hι p hp]
      exact flatT_rep (m := mem cx w' st'.H ι' F') ((List.all_eq_true.1 hflat) p hp) (ho'.trees _ (find_mem (hfd p hp)))
    · obtain ⟨p, hp, hb⟩ := mem_foot.1 hb
      have := ho'.mine b (mem_foot.2 ⟨_, find_mem (hfd p hp), hb⟩)
      exact ⟨this.1, this.2.symm⟩
  rcases he with rfl | rfl
  · exact ⟨h1, hfin⟩
  · exact ⟨h1, hfin⟩

end
theorem made : True ∧ True := by simp only [fRun, fOper, killS, lRun, lOper, gam, pureOp, AVal, ABuiltin, ALen, ALoad, AIndexAddr, AFieldAddr, AField, ABin, AUn, APick, AConv, TK.num, ASlice, cutData, okG, okGs, strip, boolOf, evF, argSlots, ofV1, ofV, wrapG, putL, killL, killA, killAs, killT, killH, rmT, qOf, St.get, slotGet, find, elemsOf, elemsT, putT, newId, AHeap, AHeapB, ABuild, AMake, AStore, AAppend, AApp, target, kindTree, srcD, srcR2, srcR3, srcLv, cutTree, isL1, isL2, isL3, isInt, allSome, oneA, cellsA, inOrder, view1, views1, viewT, isData, areData, InR, and_self]

end Go.Aw
