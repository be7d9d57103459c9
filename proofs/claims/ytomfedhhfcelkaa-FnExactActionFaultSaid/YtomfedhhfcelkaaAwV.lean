/-
  Runs in one order with calls that turn memory or hand back memory of their caller's; the contract of a function that turns what it is handed. Of no program.
-/
import Derived.Test.YtomfedhhfcelkaaAwU
set_option linter.unusedSimpArgs false
set_option linter.unusedVariables false
namespace Go.Aw
open Go.RowKit

def FCall (P : Program) (H : List (Nat × Tree)) (f : FuncId) (args : List AV) (K : AV → List Nat → List (Nat × Tree) → Prop) : Prop :=
  (∃ v, ACall P H f args v ∧ K v [] H) ∨
  (∃ ds d v es, views H args = some ds ∧ FreshCall P f ds d ∧ thaw (newId H) d = some (v, es) ∧ K v [] (es ++ H)) ∨
  (∃ r subs H', TurnOf P H f args r subs H' ∧ K r subs H') ∨
  (∃ r id H', TurnRow P H f args r id H' ∧ K r [id] H')

/-- What follows a call waits until the call is told. -/
@[congr] theorem fcall_congr {P : Program} {H H2 : List (Nat × Tree)} {f : FuncId} {args args2 : List AV} {K : AV → List Nat → List (Nat × Tree) → Prop} (h : args = args2) (h2 : H = H2) : FCall P H f args K = FCall P H2 f args2 K := by rw [h, h2]

section
variable {P : Program} {cx : Cx} {H : List (Nat × Tree)} {w w' : World} {ι : Nat → Value} {F : Nat → List Nat}

theorem fcall_sound (ho : Owns cx H w ι F) {f : FuncId} {args : List AV} {K : AV → List Nat → List (Nat × Tree) → Prop} (h : FCall P H f args K) {us : List Value} (hr : reps (mem cx w H ι F) args us) :
    (∀ args w, (callFunc f args).run P w = .ok (.enter f args) w) ∧ Calls P f us.toArray w fun e w' => ∃ u v subs H' ι' F', e = .returned u ∧ K v subs H' ∧ Owns cx H' w' ι' F' ∧ rep (mem cx w' H' ι' F') v u ∧
      ∀ av x, rep (mem cx w H ι F) av x → rep (mem cx w' H' ι' F') (killA (qOf [] subs) av) x := by
  rcases h with ⟨v, h1, h2⟩ | ⟨ds, d, v, es, h1, h2, h3, h4⟩ | ⟨r, subs, H', h1, h2⟩ | ⟨r, id, H', h1, h2⟩
  · obtain ⟨k1, k2⟩ := acall_sound ho h1 hr
    exact ⟨k1, k2.mono fun e w' ⟨u, j1, j2, j3⟩ => ⟨u, v, [], H, ι, F, j1, h2, ho.ext j2, j3, fun av x h => by rw [killA_no]; exact rep.le (mem_ext j2) _ _ h⟩⟩
  · have hv := views_rep ho args ds us h1 hr
    refine ⟨h2.enter, (h2.runs us w (allow cx w) (fun b hb => hb.1) hv).mono fun e w' ⟨u, fp, k1, k2, k3, k4, k5⟩ => ?_⟩
    obtain ⟨G, J, t1, t2⟩ := thaw_rep d (newId H) fp u v es k3 h3
    obtain ⟨j1, j2, j3⟩ := ho.adds k2 t1 k4 k5
    exact ⟨u, v, [], _, _, _, k1, h4, j1, t2 _ rfl j3, fun av x h => by rw [killA_no]; exact j2 _ _ h⟩
  · obtain ⟨k1, k2⟩ := turnOf_sound ho h1 hr
    exact ⟨k1, k2.mono fun e w' ⟨u, F', j1, j2, j3, j4⟩ => ⟨u, r, subs, H', ι, F', j1, h2, j2, j3, j4⟩⟩
  · obtain ⟨k1, k2⟩ := turnRow_sound ho h1 hr
    exact ⟨k1, k2.mono fun e w' ⟨u, F', j1, j2, j3, j4⟩ => ⟨u, r, [id], H', ι, F', j1, h2, j2, j3, j4⟩⟩

end

def killS (subs : List Nat) (s : List (Nat × AV)) : List (Nat × AV) :=
  match subs with
  | [] => s
  | _ => killL [] subs s
theorem killS_eq (subs : List Nat) (s : List (Nat × AV)) : killS subs s = killL [] subs s := by
  cases subs with
  | nil =>
    simp only [killS, killL, killA_no]
    simp
  | cons _ _ => rfl

/-- One operation in a run in one order. -/
def fOper (P : Program) (ops : Array Oper) (n : Nat) (st : St) (o : Oper) (K : St → Prop) : Prop :=
  match o.op, o.guard with
  | .call { callee := .value g, args, .. }, none =>
    (match o.dst with
      | some d => d < n
      | none => True) ∧
    (match strip (evF st.get g) with
      | .fn f caps => okG true (evF st.get g) ∧ okGs true (args.toList.map (evF st.get)) ∧ FCall P st.H f ((args.toList.map (evF st.get)).map strip ++ caps) (fun v subs H' => K ⟨putL o.dst v (killS subs st.s), H'⟩)
      | _ => False)
  | _, _ => lOper P ops n st o K

@[congr] theorem foper_congr {P : Program} {ops : Array Oper} {n : Nat} {st st2 : St} {o : Oper} {K : St → Prop} (h : st = st2) : fOper P ops n st o K = fOper P ops n st2 o K := by rw [h]

def fRun (P : Program) (ops : Array Oper) (n : Nat) : List Oper → St → (St → Prop) → Prop
  | [], st, K => K st
  | o :: r, st, K => fOper P ops n st o (fun st' => fRun P ops n r st' K)

section
variable {P : Program} {cx : Cx} {n : Nat} {ops : Array Oper} {o : Oper} {st : St} {tmps : Array Value} {w : World}

theorem fOper_sound (hs : SimF cx n st.get st.H tmps w) (hx : ∀ d, o.dst = some d → cx.fix ≤ d) {K : St → Prop} (h : fOper P ops n st o K) {Q : Exit → Act → World → Prop} :
    if Region.wanted o (yielded ops tmps) then o.wp P ⟨tmps, []⟩ w (After cx n (ofSt K)) Q else After cx n (ofSt K) ((⟨tmps, []⟩ : Act).put o.dst undef) w := by
  unfold fOper at h
  split at h
  · rename_i g args ts hop hgd
    obtain ⟨h1, h2⟩ := h
    have hd : dstOk cx.fix n o := fun d hd => ⟨hx d hd, by rw [hd] at h1; exact h1⟩
    rw [if_pos (by simp [Region.wanted, hgd])]
    obtain ⟨hsz, ι, F, ho, hr⟩ := hs
    have hdst : ∀ d, o.dst = some d → d < tmps.size := fun d h => by rw [hsz.1]; exact (hd d h).2
    have hρ := ev_rep hr
    have hg := hρ g
    split at h2 <;> first | exact h2.elim | skip
    rename_i f caps hsf
    obtain ⟨g1, g2, g3⟩ := h2
    have hgs := strip_rep rfl g1 hg
    rw [hsf] at hgs
    simp only [rep] at hgs
    obtain ⟨cs, hcv, hcr⟩ := hgs
    have hok : ∀ (l : List Operand), okGs true (l.map (evF st.get)) → reps (mem cx w st.H ι F) ((l.map (evF st.get)).map strip) (l.map (⟨tmps, []⟩ : Act).eval) := by
      intro l
      induction l with
      | nil => intro _; simp [reps]
      | cons x l ih =>
        intro h
        simp only [List.map_cons, okGs] at h
        simp only [List.map_cons, reps]
        exact ⟨_, _, rfl, strip_rep rfl h.1 (hρ x), ih h.2⟩
    have har := reps_append (hok _ g2) hcr
    obtain ⟨k1, k2⟩ := fcall_sound ho g3 har
    unfold Oper.wp
    have hrun : (execOp (⟨tmps, []⟩ : Act).eval o).run P w = .ok (.enter f (args.toList.map (⟨tmps, []⟩ : Act).eval ++ cs).toArray) w := by
      unfold execOp
      simp only [hop, resolve, Sem.run_bind]
      rw [hcv]
      simp [Deferred.ofValue, invoke, k1]
    rw [hrun, Oper.upon_enter]
    refine k2.mono fun e w' ⟨u, v, subs, H', ι', F', j1, j2, j3, j4, j5⟩ => ?_
    subst j1
    refine ⟨(put_size _ _).2, _, _, ⟨_, rfl, rfl, j2⟩, put_fix hsz hd _, ι', F', j3, ?_⟩
    have := put_rep (m := mem cx w' H' ι' F') (g := fun k => killA (qOf [] subs) (st.get k)) (tmps := tmps) (fun k => j5 _ _ (hr k)) hdst j4
    intro k
    have hk := this k
    show rep _ (slotGet (putL o.dst v (killS subs st.s)) k) _
    rw [killS_eq]
    have e1 := congrFun (get_put ⟨killL [] subs st.s, H'⟩ o.dst v) k
    rw [e1]
    show rep _ (upd (fun k => slotGet (killL [] subs st.s) k) o.dst v k) _
    rw [get_kill]
    exact hk
  · exact aOper_sound hs (lOper_aOper hx h)

end
end Go.Aw
