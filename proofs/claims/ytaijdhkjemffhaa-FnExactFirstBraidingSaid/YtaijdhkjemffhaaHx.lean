import Derived.Test.YtaijdhkjemffhaaHw
import Derived.Test.YtaijdhkjemffhaaGc
set_option linter.unusedSimpArgs false
set_option linter.unusedVariables false
namespace Go.Proofs.Ytaijdhkjemffhaa
open Go Go.Aw Go.Pl
theorem pure_of_own {P : Program} {f : FuncId} {ds : List AV} {T' : List (Nat × Tree)} {r d : AV} {X : List Nat} (h : OwnCall P f ds [] T' r X) (hv : view1 T' r = some d) : PureCall P f ds d := by
  refine ⟨h.enter, fun vs w S hS hd => ?_⟩
  have ho : Owns (ownCx w [] (fun _ => []) S 0 (fun _ => undef)) [] w (fun _ => undef) (fun _ => []) := ⟨⟨rfl, rfl, rfl, Nat.le_refl _, fun _ _ _ => rfl⟩, by simp, by simp [foot], by simp [foot], by simp [ids], Nat.le_refl _⟩
  have hr : reps (mem (ownCx w [] (fun _ => []) S 0 (fun _ => undef)) w [] (fun _ => undef) (fun _ => [])) ds vs := by
    rw [reps_all2]
    refine hd.mono fun d v hdv => ?_
    exact rep.le (m := ⟨w, S, fun _ => undef, fun _ _ => False⟩) (m' := mem (ownCx w [] (fun _ => []) S 0 (fun _ => undef)) w [] (fun _ => undef) (fun _ => [])) ⟨fun b hb => ⟨⟨.inl hb, hS b hb, by simp [foot]⟩, rfl⟩, fun _ _ hd => hd.elim⟩ _ _ hdv
  refine (h.runs vs w S _ _ ho hr).mono fun e w' ⟨v, ι', F', he, hO, hrv, _⟩ => ⟨v, he, ⟨hO.keep.os, hO.keep.tape, hO.keep.output, hO.keep.size, fun k hk => hO.keep.block k hk (by simp [ownCx, foot])⟩, ?_⟩
  have k3 := view1_rep hO _ _ _ hv hrv
  refine rep.le (m := ⟨w', allow (ownCx w [] (fun _ => []) S 0 (fun _ => undef)) w', fun _ => undef, fun _ _ => False⟩) (m' := ⟨w', fun b => S b ∨ (w.heap.size ≤ b ∧ b < w'.heap.size), fun _ => undef, fun _ _ => False⟩) ⟨fun b hb => ⟨?_, rfl⟩, fun _ _ hd => hd.elim⟩ _ _ k3
  obtain ⟨hb1, hb2⟩ := hb
  rcases hb2 with hb2 | hb2 | hb2
  · exact .inl hb2
  · exact .inr ⟨hb2, hb1⟩
  · simp [ownCx, foot] at hb2
def manyB (o : List Int) (m : Int) : Bool := decide (3 < o.length) || decide (20000 < m.toNat ^ (o.length * o.length))
def fnB (o : List Int) (L : List Int) (d : Nat) : Nat → Bool
  | 0 => true
  | x + 1 => fnB o L d x && (decide (L.getD (d - 1 - x) 0 = 0) || !decide (((own o ((d - 1 - x) / o.length) : Nat) : Int) = 0) && !decide (((own o ((d - 1 - x) % o.length) : Nat) : Int) = 0))
noncomputable def cntP (o : List Int) (m : Int) (w : List (List (List Int))) (M d : Nat) : Nat → Nat
  | 0 => 0
  | c + 1 => cntP o m w M d c + if (pOk o m w (cdL M d c)).isSome = true then 1 else 0
theorem fnB_iff {o : List Int} {L : List Int} {d : Nat} : ∀ x, x ≤ d → (fnB o L d x = true ↔ ∀ j, d - x ≤ j → j < d → L.getD j 0 = 0 ∨ (own o (j / o.length) ≠ 0 ∧ own o (j % o.length) ≠ 0))
  | 0, _ => ⟨fun _ j h1 h2 => by omega, fun _ => rfl⟩
  | x + 1, hx => by
    have ih := fnB_iff (o := o) (L := L) (d := d) x (by omega)
    have key : fnB o L d (x + 1) = true ↔ fnB o L d x = true ∧ (L.getD (d - 1 - x) 0 = 0 ∨ (own o ((d - 1 - x) / o.length) ≠ 0 ∧ own o ((d - 1 - x) % o.length) ≠ 0)) := by
      have e : fnB o L d (x + 1) = (fnB o L d x && (decide (L.getD (d - 1 - x) 0 = 0) || !decide (((own o ((d - 1 - x) / o.length) : Nat) : Int) = 0) && !decide (((own o ((d - 1 - x) % o.length) : Nat) : Int) = 0))) := rfl
      rw [e]
      generalize fnB o L d x = B
      generalize own o ((d - 1 - x) / o.length) = a
      generalize own o ((d - 1 - x) % o.length) = b
      generalize L.getD (d - 1 - x) 0 = l
      cases B with
      | false => simp
      | true =>
        by_cases h : l = 0
        · simp [h]
        · by_cases h2 : a = 0
          · simp [h, h2]
          · by_cases h3 : b = 0
            · simp [h, h2, h3]
            · have h2' : ¬ ((a : Nat) : Int) = 0 := by omega
              have h3' : ¬ ((b : Nat) : Int) = 0 := by omega
              simp [h, h2, h3]
    rw [key, ih]
    constructor
    · rintro ⟨h1, h2⟩ j hj1 hj2
      by_cases e : j = d - 1 - x
      · rw [e]; exact h2
      · exact h1 j (by omega) hj2
    · intro h
      exact ⟨fun j h1 h2 => h j (by omega) h2, h _ (by omega) (by omega)⟩
theorem fnB_fine {o : List Int} {L : List Int} : fnB o L (o.length * o.length) (o.length * o.length) = true ↔ Fine o L := by
  rw [fnB_iff _ (Nat.le_refl _)]
  unfold Fine
  exact ⟨fun h j hj => h j (by omega) hj, fun h j _ hj => h j hj⟩
theorem thn_x {K : St → Prop} {Q : SQ} {id : Nat} {st : St} (h : Q (.exit id) st) : thn K Q (.exit id) st := h
theorem pOk_pos {o : List Int} {m : Int} {w : List (List (List Int))} {L : List Int} (h : Fine o L ∧ isBr o m w (bLd o m w L) = true) : pOk o m w L = some (bLd o m w L) := by
  unfold pOk
  rw [if_pos h]
theorem pOk_neg {o : List Int} {m : Int} {w : List (List (List Int))} {L : List Int} (h : ¬ (Fine o L ∧ isBr o m w (bLd o m w L) = true)) : pOk o m w L = none := by
  unfold pOk
  rw [if_neg h]
set_option maxHeartbeats 4000000 in
theorem Backward5_ok (xs : List Int) : OwnCall Try.prog 50 [.ref 5 []] [(5, .t1 xs)] [(5, .t1 xs), (8, .bx [.ref 5 []])] (.fn 76 [.bptr 8 0]) [5] := by
  refine OwnCall.intro (n := 4) (rs := [.tmp 2]) 1 [0] (X := [5]) Try.call50 Try.func50 rfl rfl rfl (by simp only [List.length_cons, List.length_nil]; omega) (by simp [Aw.ids, rootsA, rootsAs, argSlots, slotGet]) (fun cx hcx => AT.weakG (ats_of ?_)); simp only [argSlots, Nat.zero_add, Nat.reduceAdd]
  (repeat refine ats_seq ?_); refine ats_go (by first | exact fix0 hcx | exact fix1 hcx rfl | exact fixN hcx rfl) fun K hK => ?_; simp only [go_sem, seval]; (repeat refine And.intro (by first | omega | (intro hq; first | omega | (simp at hq <;> omega) | (simp_all <;> omega))) ?_); refine hK _ ?_; clear hK K
  (repeat refine ats_seq ?_); refine ats_go (by first | exact fix0 hcx | exact fix1 hcx rfl | exact fixN hcx rfl) fun K hK => ?_; simp only [go_sem, seval]; (repeat refine And.intro (by first | omega | (intro hq; first | omega | (simp at hq <;> omega) | (simp_all <;> omega))) ?_); refine hK _ ?_; clear hK K
  refine ats_ret ⟨⟨[(0, .ref 5 []), (2, .fn 76 [.bptr 8 0])], [(5, .t1 xs), (8, .bx [.ref 5 []])]⟩, ghost_trans (ghost_drop []) (ghost_can [(6, 8)] (by simp only [killL, killA, killAs, qOf, rmT, killH, killT, List.filter_cons, List.filter_nil, List.contains_cons, List.contains_nil, Bool.or_false, Bool.or_true, Bool.false_and, Bool.not_true, Bool.not_false, Bool.false_eq_true, if_true, if_false, rnLs, rnL, rn, rns, sw, SlotsLe, St.get, slotGet, List.map_cons, List.map_nil, seval, AV.int.injEq, AV.bool.injEq, AV.l1.injEq, AV.l2.injEq, AV.l3.injEq, true_and, and_true]) (by simp only [killL, killA, killAs, qOf, rmT, killH, killT, List.filter_cons, List.filter_nil, List.contains_cons, List.contains_nil, Bool.or_false, Bool.or_true, Bool.false_and, Bool.not_true, Bool.not_false, Bool.false_eq_true, if_true, if_false, sortH, insH, rnHs, rnH, rnT, rn, rns, sw, List.map_cons, List.map_nil, seval])), .inr rfl, (by first | rfl | exact ⟨trivial, rfl⟩ | (simp only [resL, resA, go_sem, seval]; done)), (by simp [St.get, slotGet, argSlots]), rfl⟩
end Go.Proofs.Ytaijdhkjemffhaa
