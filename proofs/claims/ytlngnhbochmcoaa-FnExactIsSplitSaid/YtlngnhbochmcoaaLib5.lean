import Derived.Test.YtlngnhbochmcoaaLib4
set_option linter.unusedSimpArgs false
set_option linter.unusedVariables false
namespace Go.Aw
open Go.RowKit
inductive Plan where
 | fin
 | stop
 | one (k : Nat) (p : Plan)
 | alt (k : Nat) (p r : Plan)
def Plan.sz : Plan → Nat
 | .fin => 1
 | .stop => 1
 | .one _ p => p.sz + 1
 | .alt _ p r => p.sz + r.sz + 1
theorem Plan.sz_pos : ∀ p : Plan, 0 < p.sz
 | .fin => Nat.one_pos
 | .stop => Nat.one_pos
 | .one _ _ => Nat.succ_pos _
 | .alt _ _ _ => Nat.succ_pos _
section
variable {P : Program} {cx : Cx} {n : Nat} {ops : Array Oper} {md : Region.Mode}
def Wx_ (P : Program) (ops : Array Oper) (fx : Fx) (n : Nat) (ow : Bool) (g : Nat → AV) (H : List (Nat × Tree)) (o : Oper) (K : wf_) : Prop :=
 match ow with
 | true => (∀ d, o.dst = some d → fx d = false) ∧ ∃ st : St, st.get = g ∧ st.H = H ∧ ys_ P ops n st o (fun st' => K st'.get st'.H)
 | false => Xi_ P ops fx n g H o K
theorem Z8_ {ow : Bool} {g : Nat → AV} {H : List (Nat × Tree)} {o : Oper} {K : wf_} {tmps : Array Value} {w : World} (hs : SimF cx n g H tmps w) (h : Wx_ P ops cx.fix n ow g H o K) {Q : Exit → Act → World → Prop} :
  if Region.wanted o (yielded ops tmps) then o.wpIn (Fr cx.rd) 0 P ⟨tmps, cx.ds⟩ w (After cx n K) Q else After cx n K ((⟨tmps, cx.ds⟩ : Act).put o.dst undef) w := by
 cases ow with
 | false => exact zH_ hs h
 | true =>
  obtain ⟨hx, st, rfl, rfl, hf⟩ := h
  have hm : ∀ a w', After cx n (Vp_ fun st' => K st'.get st'.H) a w' → After cx n K a w' := by
   rintro a w' ⟨h1, g', H', ⟨st', rfl, rfl, hk⟩, h3⟩
   exact ⟨h1, _, _, hk, h3⟩
  have := Zu_ (Q := Q) hs hx hf
  split
  ·rename_i hw
   rw [if_pos hw] at this
   exact Oper.wpIn_mono hm this
  ·rename_i hw
   rw [if_neg hw] at this
   exact hm _ _ this
def eAt (P : Program) (ops : Array Oper) (fx : Fx) (n : Nat) (ow : Nat → Bool) (i : Nat) (K : wf_) : wf_ := fun g H =>
 match ops[i]? with
 | none => K g H
 | some o => Wx_ P ops fx n (ow i) g H o K
def aK2 (P : Program) (md : Region.Mode) (ops : Array Oper) (fx : Fx) (n : Nat) (ow : Nat → Bool) (Q : wf_) : Nat → Array Bool → wf_
 | 0, listed, g, H => Region.ready md ops listed = [] ∧ Q g H
 | fuel + 1, listed, g, H => (Region.ready md ops listed = [] → Q g H) ∧ ∀ i ∈ Region.ready md ops listed, eAt P ops fx n ow i (aK2 P md ops fx n ow Q fuel (listed.setIfInBounds i true)) g H
theorem WY_ {ow : Nat → Bool} {Q : wf_} {Q' : Exit → Act → World → Prop} (hQ : ∀ a w, After cx n Q a w → Q' .normal a w) : ∀ (fuel : Nat) (listed : Array Bool) {g : Nat → AV} {H : List (Nat × Tree)} {tmps : Array Value} {w : World},
  SimF cx n g H tmps w → aK2 P md ops cx.fix n ow Q fuel listed g H → wpAnyIn (Fr cx.rd) 0 P md ops Q' fuel listed ⟨tmps, cx.ds⟩ w
 | 0, _, g, H, _, _, hs, h => ⟨h.1, hQ _ _ ⟨rfl, g, H, h.2, hs⟩⟩
 | fuel + 1, listed, g, H, tmps, w, hs, h => by
  refine ⟨fun h0 => hQ _ _ ⟨rfl, g, H, h.1 h0, hs⟩, fun i hi => ?_⟩
  have hh := h.2 i hi
  have next : ∀ a w, After cx n (aK2 P md ops cx.fix n ow Q fuel (listed.setIfInBounds i true)) a w → wpAnyIn (Fr cx.rd) 0 P md ops Q' fuel (listed.setIfInBounds i true) a w := by
   rintro a w ⟨hd, g', H', hK, hs'⟩
   rw [zv_ hd]
   exact WY_ hQ fuel _ hs' hK
  unfold eAt at hh
  unfold wpOpIn
  split
  ·rename_i ho
   rw [ho] at hh
   exact next _ _ ⟨rfl, g, H, hh, hs⟩
  ·rename_i o ho
   rw [ho] at hh
   have := Z8_ (Q := Q') hs hh
   split
   ·rename_i hw
    rw [if_pos hw] at this
    exact Oper.wpIn_mono next this
   ·rename_i hw
    rw [if_neg hw] at this
    exact ⟨fun _ _ => trivial, next _ _ this⟩
theorem Qx_ {ow : Nat → Bool} {Q : wf_} {i : Nat} {oi : Oper} {x : AV} (hi : ops[i]? = some oi) (hp : yw_ oi.op = true) (how : ow i = false) (hdst : UA_ cx.fix n oi) :
  ∀ (fuel : Nat) (listed : Array Bool) (g : Nat → AV) (H : List (Nat × Tree)),
   Closed md ops listed → (∀ j oj, ops[j]? = some oj → j ≠ i → listed.getD j true = false → dep md ops i ops.size j = false → ow j = false ∧ oi.apart ops oj = true ∧ (yw_ oj.op = true ∨ wO_ P oj = true)) →
   i ∈ Region.ready md ops listed → zX_ P ops g H oi x →
   aK2 P md ops cx.fix n ow Q fuel (listed.setIfInBounds i true) (upd g oi.dst x) H → aK2 P md ops cx.fix n ow Q (fuel + 1) listed g H := by
 have self : ∀ {K : wf_} {g : Nat → AV} {H : List (Nat × Tree)}, zX_ P ops g H oi x → K (upd g oi.dst x) H → eAt P ops cx.fix n ow i K g H := fun hy hA => by
  unfold eAt
  rw [hi]
  unfold Wx_
  rw [how]
  exact ⟨hdst, by rw [if_pos hp]; exact ⟨x, hy, hA⟩⟩
 intro fuel
 induction fuel with
 | zero =>
  intro listed g H _ _ hr hy hA
  refine ⟨fun h => (by rw [h] at hr; cases hr), fun j hj => ?_⟩
  by_cases hji : j = i
  ·subst hji; exact self hy hA
  ·have := ready_mono hj hji
   rw [hA.1] at this
   cases this
 | succ fuel ih =>
  intro listed g H hcl hfree hr hy hA
  refine ⟨fun h => (by rw [h] at hr; cases hr), fun j hj => ?_⟩
  by_cases hji : j = i
  ·subst hji; exact self hy hA
  ·have h1 := hA.2 j (ready_mono hj hji)
   obtain ⟨hjun, oj, hoj, hall⟩ := mem_ready.1 hj
   have hi0 : listed.getD i false = false := by
    have h0 := (mem_ready.1 hr).1
    rcases Nat.lt_or_ge i listed.size with h' | h'
    ·simp [h'] at h0 ⊢; exact h0
    ·simp [Array.getElem?_eq_none h']
   obtain ⟨hoj', hap, hpj⟩ := hfree j oj hoj hji hjun (Jw_ hcl hi0 _ j oj hoj hall)
   obtain ⟨a1, a2, a3⟩ := Oper.apart_spec hap
   have hfree' : ∀ k ok, ops[k]? = some ok → k ≠ i → (listed.setIfInBounds j true).getD k true = false → dep md ops i ops.size k = false → ow k = false ∧ oi.apart ops ok = true ∧ (yw_ ok.op = true ∨ wO_ P ok = true) := by
    intro k ok hk hki hun hno
    refine hfree k ok hk hki ?_ hno
    by_cases hjk : j = k
    ·subst hjk; exact hjun
    ·rw [getD_set_ne true hjk] at hun; exact hun
   unfold eAt Wx_ at h1 ⊢
   rw [hoj] at h1 ⊢
   rw [hoj'] at h1 ⊢
   simp only at h1 ⊢
   by_cases hpure : yw_ oj.op = true
   ·obtain ⟨d1, d2⟩ := h1
    rw [if_pos hpure] at d2
    obtain ⟨y, hyj, hK⟩ := d2
    have hyj' : zX_ P ops g H oj y := (yX_ a1).1 hyj
    refine ⟨d1, by
     rw [if_pos hpure]
     refine ⟨y, hyj', ih (listed.setIfInBounds j true) _ H (hcl.set hj) hfree' (ready_mono hr (Ne.symm hji)) ((yX_ a3).2 hy) ?_⟩
     rw [Array.setIfInBounds_comm _ _ hji, ← XN_ a2]
     exact hK⟩
   ·have hgj : wO_ P oj = true := hpj.resolve_left hpure
    obtain ⟨v, H2, e1, e2, e3⟩ := WX_ (by simpa using hpure) hgj h1
    refine e3 g _ (fun z hz => ZE_ fun t ht => ?_) (ih (listed.setIfInBounds j true) _ H2 (hcl.set hj) hfree' (ready_mono hr (Ne.symm hji)) ((yX_ a3).2 (WW_ e1 hy)) ?_)
    ·have hla : t ∈ oj.looksAt ops := by
      subst ht
      simp only [Oper.looksAt, List.mem_append, List.mem_filterMap]
      exact .inl ⟨.tmp t, hz, rfl⟩
     cases hd : oi.dst with
     | none => rfl
     | some d =>
      have : d ≠ t := fun e => a1 d hd (e ▸ hla)
      simp only [upd, if_neg this]
    ·rw [Array.setIfInBounds_comm _ _ hji, ← XN_ a2]
     exact e2
def keys : Plan → List Nat
 | .alt k _ r => k :: keys r
 | _ => []
def T6_ (P : Program) (md : Region.Mode) (ops : Array Oper) (ow : Nat → Bool) (listed : Array Bool) (i : Nat) : Bool :=
 match ops[i]? with
 | some oi => !ow i && yw_ oi.op && (Region.ready md ops listed).contains i && (List.range ops.size).all fun j => match ops[j]? with
  | some oj => j == i || listed.getD j true || dep md ops i ops.size j || (!ow j && oi.apart ops oj && (yw_ oj.op || wO_ P oj))
  | none => true
 | none => false
def zP_ (P : Program) (md : Region.Mode) (ops : Array Oper) (ow : Nat → Bool) : Bool → Plan → Nat → Array Bool → Bool
 | top, .fin, fuel, listed => top && fuel == 0 && (Region.ready md ops listed).isEmpty
 | top, .stop, _, _ => !top
 | top, .one k p, fuel, listed => top && fuel != 0 && T6_ P md ops ow listed k && zP_ P md ops ow true p (fuel - 1) (listed.setIfInBounds k true)
 | top, .alt k p r, fuel, listed => (!top || (fuel != 0 && !(Region.ready md ops listed).isEmpty && (Region.ready md ops listed).all fun i => (k :: keys r).contains i)) && (ops[k]?).isSome && zP_ P md ops ow true p (fuel - 1) (listed.setIfInBounds k true) && zP_ P md ops ow false r fuel listed
def VJ_ (P : Program) (ops : Array Oper) (fx : Fx) (n : Nat) (ow : Nat → Bool) (Q : wf_) : Plan → wf_
 | .fin => Q
 | .stop => fun _ _ => True
 | .one k p => eAt P ops fx n ow k (VJ_ P ops fx n ow Q p)
 | .alt k p r => fun g H => eAt P ops fx n ow k (VJ_ P ops fx n ow Q p) g H ∧ VJ_ P ops fx n ow Q r g H
theorem Qy_ {ow : Bool} {fx : Fx} {g : Nat → AV} {H : List (Nat × Tree)} {o : Oper} {K K' : wf_} (hfm : ∀ st, ys_ P ops n st o (fun st' => K st'.get st'.H) → ys_ P ops n st o (fun st' => K' st'.get st'.H)) (ham : Xi_ P ops fx n g H o K → Xi_ P ops fx n g H o K') (hh : Wx_ P ops fx n ow g H o K) : Wx_ P ops fx n ow g H o K' := by
 cases ow with
 | true =>
  obtain ⟨h1, st, h2, h3, h4⟩ := hh
  exact ⟨h1, st, h2, h3, hfm st h4⟩
 | false => exact ham hh
theorem Qz_ {st : St} {o : Oper} {K K' : St → Prop} (h : ∀ s, K s → K' s) (hl : Xj_ P ops n st o K) : Xj_ P ops n st o K' := by
 unfold Xj_ at hl ⊢
 refine ⟨hl.1, ?_⟩
 have h2 := hl.2
 revert h2
 cases hγ : gam ops st.get o with
 | none => exact fun h2 => h2
 | some γ =>
  intro h2
  simp only at h2 ⊢
  split
  ·rename_i hp
   rw [if_pos hp] at h2
   obtain ⟨v, k1, k2⟩ := h2
   exact ⟨v, k1, h _ k2⟩
  ·rename_i hp
   rw [if_neg hp] at h2
   exact ⟨h2.1, w2_ (fun _ _ _ _ k => h _ k) h2.2⟩
theorem QA_ {H : List (Nat × Tree)} {f : FuncId} {args : List AV} {K K' : AV → List Nat → List Nat → List (Nat × Tree) → Prop} (h : ∀ v a s H, K v a s H → K' v a s H) (hh : XG_ P H f args K) : XG_ P H f args K' := by
 rcases hh with ⟨v, k1, k2⟩ | ⟨ds, d, v, es, k1, k2, k3, k4⟩ | ⟨r, subs, H', k1, k2⟩ | (⟨r, id, H', k1, k2⟩ | ⟨r, H', k1, k2⟩) | ⟨r, all, subs, H', k1, k2⟩ | ⟨R, v, k1, k2, k3⟩ | ⟨R, r, all, subs, H', k1, k2⟩
 ·exact .inl ⟨v, k1, h _ _ _ _ k2⟩
 ·exact .inr (.inl ⟨ds, d, v, es, k1, k2, k3, h _ _ _ _ k4⟩)
 ·exact .inr (.inr (.inl ⟨r, subs, H', k1, h _ _ _ _ k2⟩))
 ·exact .inr (.inr (.inr (.inl (.inl ⟨r, id, H', k1, h _ _ _ _ k2⟩))))
 ·exact .inr (.inr (.inr (.inl (.inr ⟨r, H', k1, h _ _ _ _ k2⟩))))
 ·exact .inr (.inr (.inr (.inr (.inl ⟨r, all, subs, H', k1, h _ _ _ _ k2⟩))))
 ·exact .inr (.inr (.inr (.inr (.inr (.inl ⟨R, v, k1, k2, h _ _ _ _ k3⟩)))))
 ·exact .inr (.inr (.inr (.inr (.inr (.inr ⟨R, r, all, subs, H', k1, h _ _ _ _ k2⟩)))))
theorem WZ_ {st : St} {o : Oper} {K K' : St → Prop} (h : ∀ s, K s → K' s) (hh : ys_ P ops n st o K) : ys_ P ops n st o K' := by
 unfold ys_ at hh ⊢
 split
 ·rename_i g args ts hop hgd
  simp only [hop, hgd] at hh
  refine ⟨hh.1, ?_⟩
  have h2 := hh.2
  split at h2 <;> first | exact h2.elim | skip
  exact ⟨h2.1, h2.2.1, QA_ (fun _ _ _ _ k => h _ k) h2.2.2⟩
 ·rename_i hno
  split at hh
  ·rename_i g args ts hop hgd
   exact absurd hgd (hno _ _ _ hop)
  ·exact Qz_ h hh
theorem ap0 {fx : Fx} {ow : Nat → Bool} {i : Nat} {g : Nat → AV} {H : List (Nat × Tree)} {K K' : wf_} (h : ∀ g H, K g H → K' g H) (hh : eAt P ops fx n ow i K g H) : eAt P ops fx n ow i K' g H := by
 unfold eAt at *
 split
 ·rename_i ho; rw [ho] at hh; exact h _ _ hh
 ·rename_i o ho
  rw [ho] at hh
  refine Qy_ (fun st hf => WZ_ (fun s hs => h _ _ hs) hf) (fun ha => ?_) hh
  obtain ⟨h1, h2⟩ := ha
  refine ⟨h1, ?_⟩
  split
  ·rename_i hp
   rw [if_pos hp] at h2
   obtain ⟨x, k1, k2⟩ := h2
   exact ⟨x, k1, h _ _ k2⟩
  ·rename_i hp
   rw [if_neg hp] at h2
   exact ⟨h2.1, w2_ (fun _ _ _ _ k => h _ _ k) h2.2⟩
theorem ST_ {fx : Fx} {ow : Nat → Bool} {Q : wf_} {g : Nat → AV} {H : List (Nat × Tree)} {fuel : Nat} {listed : Array Bool} : ∀ {p : Plan} {top : Bool}, zP_ P md ops ow top p fuel listed = true → VJ_ P ops fx n ow Q p g H → ∀ i ∈ keys p,
  ∃ p', p'.sz < p.sz ∧ zP_ P md ops ow true p' (fuel - 1) (listed.setIfInBounds i true) = true ∧ eAt P ops fx n ow i (VJ_ P ops fx n ow Q p') g H
 | .fin, _, _, _, _, h => by simp [keys] at h
 | .stop, _, _, _, _, h => by simp [keys] at h
 | .one _ _, _, _, _, _, h => by simp [keys] at h
 | .alt k p r, top, hB, hR, i, hi => by
  simp only [zP_, Bool.and_eq_true] at hB
  simp only [VJ_] at hR
  simp only [keys, List.mem_cons] at hi
  rcases hi with rfl | hi
  ·exact ⟨p, by simp only [Plan.sz]; omega, hB.1.2, hR.1⟩
  ·obtain ⟨p', h1, h2, h3⟩ := ST_ hB.2 hR.2 i hi
   exact ⟨p', by simp only [Plan.sz]; omega, h2, h3⟩
theorem VK_ {ow : Nat → Bool} {Q : wf_} : ∀ (m : Nat) (p : Plan), p.sz ≤ m → ∀ (fuel : Nat) (listed : Array Bool) (g : Nat → AV) (H : List (Nat × Tree)), Closed md ops listed → zP_ P md ops ow true p fuel listed = true → VJ_ P ops cx.fix n ow Q p g H →
  aK2 P md ops cx.fix n ow Q fuel listed g H
 | 0, p, hm, _, _, _, _, _, _, _ => absurd p.sz_pos (by omega)
 | m + 1, .fin, _, fuel, listed, g, H, _, hB, h => by
  simp only [zP_, Bool.and_eq_true, beq_iff_eq, Bool.true_and] at hB
  obtain ⟨rfl, hB⟩ := hB
  exact ⟨by simpa using hB, h⟩
 | m + 1, .stop, _, _, _, _, _, _, hB, _ => by simp [zP_] at hB
 | m + 1, .one k p, hm, fuel, listed, g, H, hcl, hB, h => by
  simp only [zP_, Bool.and_eq_true, Bool.true_and, bne_iff_ne, ne_eq] at hB
  obtain ⟨⟨h0, hf⟩, hB⟩ := hB
  obtain ⟨fuel, rfl⟩ : ∃ f, fuel = f + 1 := ⟨fuel - 1, by omega⟩
  simp only [Nat.add_sub_cancel] at hB
  unfold T6_ at hf
  cases hk : ops[k]? with
  | none => rw [hk] at hf; cases hf
  | some o =>
   rw [hk] at hf
   simp only [Bool.and_eq_true, Bool.not_eq_true'] at hf
   obtain ⟨⟨⟨f1, f2⟩, f3⟩, f4⟩ := hf
   have hr : k ∈ Region.ready md ops listed := by simpa using f3
   simp only [VJ_, eAt, hk, Wx_, f1] at h
   obtain ⟨d1, d2⟩ := h
   rw [if_pos f2] at d2
   obtain ⟨x, hy, hK⟩ := d2
   refine Qx_ hk f2 f1 d1 fuel listed g H hcl (fun j oj hj hne hun hno => ?_) hr hy (VK_ m p (by simp only [Plan.sz] at hm; omega) fuel _ _ _ (hcl.set hr) hB hK)
   rw [List.all_eq_true] at f4
   have := f4 j (List.mem_range.2 (Array.getElem?_eq_some_iff.1 hj).1)
   rw [hj] at this
   simp only [Bool.or_eq_true, beq_iff_eq, Bool.and_eq_true, hun, hno, Bool.false_eq_true, or_false, hne, false_or, Bool.not_eq_true'] at this
   exact ⟨this.1.1, this.1.2, this.2⟩
 | m + 1, .alt k p r, hm, fuel, listed, g, H, hcl, hB, h => by
  have hB' := hB
  simp only [zP_, Bool.and_eq_true, Bool.not_true, Bool.false_or, bne_iff_ne, ne_eq, Bool.not_eq_true'] at hB'
  obtain ⟨⟨⟨⟨⟨h0, hne⟩, hall⟩, _⟩, _⟩, _⟩ := hB'
  obtain ⟨fuel, rfl⟩ : ∃ f, fuel = f + 1 := ⟨fuel - 1, by omega⟩
  refine ⟨fun hr => (by rw [hr] at hne; simp at hne), fun i hi => ?_⟩
  rw [List.all_eq_true] at hall
  have hik : i ∈ keys (.alt k p r) := by simpa [keys] using hall i hi
  obtain ⟨p', h1, h2, h3⟩ := ST_ hB h i hik
  simp only [Nat.add_sub_cancel] at h2
  exact ap0 (fun g' H' hK => VK_ m p' (by simp only [Plan.sz] at hm h1; omega) fuel _ g' H' (hcl.set hi) h2 hK) h3
end
def Yy_ (P : Program) (ops : Array Oper) (n : Nat) (own : List Nat) : Plan → St → (St → Prop) → Prop
 | .fin, st, K => K st
 | .stop, _, _ => True
 | .one k p, st, K => y3_ (own.contains k) P ops n [zO_ ops k] st (fun st' => Yy_ P ops n own p st' K)
 | .alt k p r, st, K => y3_ (own.contains k) P ops n [zO_ ops k] st (fun st' => Yy_ P ops n own p st' K) ∧ Yy_ P ops n own r st K
def PK (P : Program) (ops : Array Oper) (n : Nat) (own : List Nat) (p : Plan) (K : St → Prop) : St → Prop := fun st => Yy_ P ops n own p st K
section
variable {P : Program} {ops : Array Oper} {n : Nat} {own : List Nat} {st : St} {K : St → Prop}
theorem aV1 : Yy_ P ops n own .fin st K = K st := rfl
theorem aF7 : Yy_ P ops n own .stop st K = True := rfl
theorem aV2 (k : Nat) (p : Plan) : Yy_ P ops n own (.one k p) st K = y3_ (own.contains k) P ops n [zO_ ops k] st (PK P ops n own p K) := rfl
theorem aV3 (k : Nat) (p r : Plan) : Yy_ P ops n own (.alt k p r) st K = (y3_ (own.contains k) P ops n [zO_ ops k] st (PK P ops n own p K) ∧ Yy_ P ops n own r st K) := rfl
theorem bg9 (p : Plan) : PK P ops n own p K st = Yy_ P ops n own p st K := rfl
theorem SU_ {cx : Cx} {l : List Oper} {k : Nat} {K : St → Prop} {K' : wf_} (hx : ∀ o ∈ l, ∀ d, o.dst = some d → cx.fix d = false) (hk : (l.toArray[k]?).isSome = true) (h : y3_ (own.contains k) P l.toArray n [zO_ l.toArray k] st K) (hm : ∀ s, K s → K' s.get s.H) : eAt P l.toArray cx.fix n (fun k => own.contains k) k K' st.get st.H := by
 obtain ⟨o, ho⟩ := Option.isSome_iff_exists.1 hk
 have hp : zO_ l.toArray k = o := by unfold zO_; rw [ho]; rfl
 have hol : o ∈ l := by
  have : l[k]? = some o := by simpa using ho
  exact List.mem_of_getElem? this
 rw [hp] at h
 unfold eAt
 rw [ho]
 show Wx_ P l.toArray cx.fix n (own.contains k) st.get st.H o K'
 unfold Wx_
 cases hw : own.contains k with
 | true =>
  rw [hw] at h
  exact ⟨hx o hol, st, rfl, rfl, WZ_ hm (show ys_ P l.toArray n st o K from h)⟩
 | false =>
  rw [hw] at h
  have h' : Xj_ P l.toArray n st o K := h
  exact w3_ (fun g H ⟨s, h1, h2, h3⟩ => h1 ▸ h2 ▸ hm s h3) (Xk_ (hx o hol) h')
theorem wo_ {cx : Cx} {md : Region.Mode} {l : List Oper} (hx : ∀ o ∈ l, ∀ d, o.dst = some d → cx.fix d = false) : ∀ (p : Plan) {top : Bool} {fuel : Nat} {listed : Array Bool} {st : St} {K : St → Prop}, zP_ P md l.toArray (fun k => own.contains k) top p fuel listed = true → Yy_ P l.toArray n own p st K → VJ_ P l.toArray cx.fix n (fun k => own.contains k) (Vp_ K) p st.get st.H
 | .fin, _, _, _, st, K, _, h => ⟨st, rfl, rfl, h⟩
 | .stop, _, _, _, _, _, _, _ => trivial
 | .one k p, top, fuel, listed, st, K, hB, h => by
  simp only [zP_, Bool.and_eq_true] at hB
  refine SU_ hx ?_ h fun s hs => wo_ hx p hB.2 hs
  have := hB.1.2
  unfold T6_ at this
  cases hk : (l.toArray)[k]? with
  | none => rw [hk] at this; cases this
  | some o => rfl
 | .alt k p r, top, fuel, listed, st, K, hB, h => by
  simp only [zP_, Bool.and_eq_true] at hB
  exact ⟨SU_ hx hB.1.1.2 h.1 fun s hs => wo_ hx p hB.1.2 hs, wo_ hx r hB.2 h.2⟩
end
def drawPl (P : Program) (own : List Nat) (p : Plan) (ops : Array Oper) : Bool := zP_ P .any ops (fun k => own.contains k) true p ops.size (Array.replicate ops.size false)
section
variable {P : Program} {cx : Cx} {n : Nat} {Q : SQ} {st : St} {cs : List Code}
theorem AT.drawPl {id : Nat} {l : List Oper} {own : List Nat} {p : Plan} (hx : ∀ o ∈ l, ∀ d, o.dst = some d → cx.fix d = false) (hm : P.follows .mixedOrders = true) (hB : Aw.drawPl P own p l.toArray = true) (h : Yy_ P l.toArray n own p st (fun st' => Q .normal st')) : AT P cx n (.region id l.toArray true) Q st := by
 intro tmps w hs
 refine wpIn_region_any hm ?_
 have hs' : SimF cx n st.get st.H tmps { w with drawn := w.drawn + 1 } := by
  obtain ⟨h1, ι, F, h2, h3⟩ := hs
  have e : Ext w { w with drawn := w.drawn + 1 } := (Below.refl _ _).drew
  exact ⟨h1, ι, F, h2.ext e, fun k => rep.le (zd_ e) _ _ (h3 k)⟩
 refine WY_ (ow := fun k => own.contains k) (Q := Vp_ (fun st' => Q .normal st')) ?_ _ _ hs' ?_
 ·rintro a w' ⟨h1, g, H, ⟨st', rfl, rfl, h2⟩, h3⟩
  exact ⟨h1, st', h2, h3⟩
 ·exact VK_ (md := .any) p.sz p (Nat.le_refl _) _ (Array.replicate l.toArray.size false) st.get st.H (fun k o hk hl => by
   simp [Array.getD_eq_getD_getElem?, Array.getElem?_replicate] at hl
   split at hl <;> simp at hl) hB (wo_ hx p hB h)
theorem AT.weak {c : Code} (h : AT P cx n c (fun e s => ∃ z, Le s z ∧ Q e z) st) : AT P cx n c Q st :=
 fun tmps w hs => wpIn_mono (h tmps w hs) fun _ _ _ ⟨h1, _, ⟨z, hl, hq⟩, h3⟩ => ⟨h1, z, hq, hl.sim h3⟩
theorem ap1 (own : List Nat) (p : Plan) (z : St) {id : Nat} {l : List Oper} (hx : ∀ o ∈ l, ∀ d, o.dst = some d → cx.fix d = false) (hm : P.follows .mixedOrders = true) (hB : drawPl P own p l.toArray = true) (h : ∀ K : St → Prop, (∀ s, Le s z → K s) → Yy_ P l.toArray n own p st K) (hz : ATs P cx n cs Q z) : ATs P cx n (.region id l.toArray true :: cs) Q st :=
 AT.weak (AT.drawPl hx hm hB (h _ fun s hl => ⟨z, hl, hz⟩))
end
end Go.Aw
namespace Go.Aw
open Go.ChangeShapes Go.WideShapes Go.ChangeAt Go.RowKit
section
variable {P : Program} {w : World} {H : Type} {enc : TypeId × Value → H} {held : Bool}
end
end Go.Aw
