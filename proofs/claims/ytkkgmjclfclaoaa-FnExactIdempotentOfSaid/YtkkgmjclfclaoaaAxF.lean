/-
  Trees get other names: two ids change places. Of no program.
-/
import Derived.Test.YtkkgmjclfclaoaaLib5
set_option linter.unusedSimpArgs false
set_option linter.unusedVariables false
namespace Go.Aw
open Go.RowKit

def sw (a b i : Nat) : Nat := if i = a then b else if i = b then a else i
theorem sw_sw (a b i : Nat) : sw a b (sw a b i) = i := by
  unfold sw
  repeat' split
  all_goals omega
mutual
def rn (σ : Nat → Nat) : AV → AV
  | .ref i p => .ref (σ i) p
  | .sub i p lo hi => .sub (σ i) p lo hi
  | .eref i p j => .eref (σ i) p j
  | .bptr i o => .bptr (σ i) o
  | .lv vs => .lv (rns σ vs)
  | .agg vs => .agg (rns σ vs)
  | .tup vs => .tup (rns σ vs)
  | .fn f vs => .fn f (rns σ vs)
  | .cptr vs o => .cptr (rns σ vs) o
  | .eptr v i => .eptr (rn σ v) i
  | .when g v => .when g (rn σ v)
  | .int n => .int n
  | .ik k n => .ik k n
  | .bool b => .bool b
  | .str s => .str s
  | .nil => .nil
  | .nilfn => .nilfn
  | .l1 x => .l1 x
  | .l2 x => .l2 x
  | .l3 x => .l3 x
  | .junk => .junk
def rns (σ : Nat → Nat) : List AV → List AV
  | [] => []
  | a :: as => rn σ a :: rns σ as
end
def rnT (σ : Nat → Nat) : Tree → Tree
  | .lv vs => .lv (rns σ vs)
  | .bx vs => .bx (rns σ vs)
  | .t1 x => .t1 x
  | .t2 x => .t2 x
  | .t3 x => .t3 x
  | .r2 x => .r2 x
  | .r3 x => .r3 x
def rnH (σ : Nat → Nat) (H : List (Nat × Tree)) : List (Nat × Tree) := H.map fun p => (σ p.1, rnT σ p.2)
def rnL (σ : Nat → Nat) (s : List (Nat × AV)) : List (Nat × AV) := s.map fun p => (p.1, rn σ p.2)
def Mem.sw (m : Mem) (σ : Nat → Nat) : Mem := ⟨m.w, m.S, fun i => m.ι (σ i), fun i p => m.D (σ i) p⟩

section
variable {m : Mem} {σ : Nat → Nat}
mutual
theorem rn_rep (hσ : ∀ i, σ (σ i) = i) : ∀ (a : AV) (v : Value), rep m a v → rep (m.sw σ) (rn σ a) v
  | .ref i p, v, h | .sub i p lo hi, v, h | .eref i p j, v, h | .bptr i o, v, h => by simpa only [rn, rep, Mem.sw, hσ] using h
  | .int _, v, h | .ik _ _, v, h | .bool _, v, h | .str _, v, h | .nil, v, h | .nilfn, v, h | .l1 _, v, h | .l2 _, v, h | .l3 _, v, h | .junk, v, h => by simp only [rn, rep, Mem.sw] at h ⊢; try exact h
  | .lv vs, v, h => by
    simp only [rn, rep] at h ⊢
    obtain ⟨us, h1, h2⟩ := h
    exact ⟨us, h1, rns_rep hσ vs us h2⟩
  | .agg vs, v, h => by
    simp only [rn, rep] at h ⊢
    obtain ⟨us, h1, h2⟩ := h
    exact ⟨us, h1, rns_rep hσ vs us h2⟩
  | .tup vs, v, h => by
    simp only [rn, rep] at h ⊢
    obtain ⟨us, h1, h2⟩ := h
    exact ⟨us, h1, rns_rep hσ vs us h2⟩
  | .fn f vs, v, h => by
    simp only [rn, rep] at h ⊢
    obtain ⟨us, h1, h2⟩ := h
    exact ⟨us, h1, rns_rep hσ vs us h2⟩
  | .cptr vs o, v, h => by
    simp only [rn, rep] at h ⊢
    obtain ⟨b, us, h1, h2, h3, h4⟩ := h
    exact ⟨b, us, h1, h2, h3, rns_rep hσ vs us h4⟩
  | .eptr a i, v, h => by
    simp only [rn, rep] at h ⊢
    obtain ⟨b, off, k, cap, h1, h2⟩ := h
    exact ⟨b, off, k, cap, rn_rep hσ a _ h1, h2⟩
  | .when g a, v, h => by
    simp only [rn, rep] at h ⊢
    exact ⟨fun hg => rn_rep hσ a _ (h.1 hg), h.2⟩
theorem rns_rep (hσ : ∀ i, σ (σ i) = i) : ∀ (vs : List AV) (us : List Value), reps m vs us → reps (m.sw σ) (rns σ vs) us
  | [], us, h => by simpa only [rns, reps] using h
  | a :: as, us, h => by
    simp only [rns, reps] at h ⊢
    obtain ⟨u, us', h1, h2, h3⟩ := h
    exact ⟨u, us', h1, rn_rep hσ a u h2, rns_rep hσ as us' h3⟩
end
theorem rnT_rep (hσ : ∀ i, σ (σ i) = i) {fp : List Nat} : ∀ (t : Tree) (v : Value), treeRep m fp t v → treeRep (m.sw σ) fp (rnT σ t) v
  | .t1 _, _, h | .t2 _, _, h | .t3 _, _, h | .r2 _, _, h | .r3 _, _, h => h
  | .lv vs, v, h => by
    simp only [rnT, treeRep] at h ⊢
    obtain ⟨us, h1, h2⟩ := h
    exact ⟨us, h1, rns_rep hσ vs us h2⟩
  | .bx vs, v, h => by
    simp only [rnT, treeRep] at h ⊢
    obtain ⟨b, us, E, h1, h2, h3, h4⟩ := h
    exact ⟨b, us, E, h1, h2, h3, rns_rep hσ vs us h4⟩
theorem live_rnT (t : Tree) (p : List Nat) : livePath (some (rnT σ t)) p = livePath (some t) p := by
  cases t <;> (rcases p with _ | ⟨a, _ | ⟨b, _ | _⟩⟩ <;> rfl)
theorem find_rnH (hσ : ∀ i, σ (σ i) = i) : ∀ (H : List (Nat × Tree)) (i : Nat), find (rnH σ H) i = (find H (σ i)).map (rnT σ)
  | [], _ => rfl
  | (k, t) :: r, i => by
    have ih := find_rnH hσ r i
    simp only [rnH, List.map_cons, find] at ih ⊢
    by_cases h : σ k = i
    · have h' : k = σ i := by rw [← h, hσ]
      rw [if_pos h, if_pos h']; rfl
    · have h' : ¬ k = σ i := fun e => h (by rw [e, hσ])
      rw [if_neg h, if_neg h']; exact ih
theorem foot_rnH (hσ : ∀ i, σ (σ i) = i) (H : List (Nat × Tree)) (F : Nat → List Nat) : foot (rnH σ H) (fun i => F (σ i)) = foot H F := by
  simp only [foot, rnH, List.map_map, Function.comp_def, hσ]
theorem ids_rnH (H : List (Nat × Tree)) : ids (rnH σ H) = (ids H).map σ := by simp [ids, rnH]
theorem slotGet_rnL (s : List (Nat × AV)) (k : Nat) : slotGet (rnL σ s) k = rn σ (slotGet s k) := by
  induction s with
  | nil => simp [rnL, slotGet, rn]
  | cons p r ih =>
    obtain ⟨j, v⟩ := p
    simp only [rnL, List.map_cons, slotGet] at ih ⊢
    split
    · rfl
    · exact ih
theorem mem_rnH (hσ : ∀ i, σ (σ i) = i) (cx : Cx) (w : World) (H : List (Nat × Tree)) (ι : Nat → Value) (F : Nat → List Nat) : mem cx w (rnH σ H) (fun i => ι (σ i)) (fun i => F (σ i)) = (mem cx w H ι F).sw σ := by
  unfold mem Mem.sw
  have e1 : imm cx w (rnH σ H) (fun i => F (σ i)) = imm cx w H F := by
    unfold imm
    rw [foot_rnH hσ]
  have e2 : (fun id path => livePath (find (rnH σ H) id) path = true) = fun i p => livePath (find H (σ i)) p = true := by
    funext i p
    rw [find_rnH hσ]
    cases h : find H (σ i) with
    | none => rfl
    | some t => rw [Option.map_some, live_rnT]
  rw [e1, e2]
theorem Owns.rn {cx : Cx} {H : List (Nat × Tree)} {w : World} {ι : Nat → Value} {F : Nat → List Nat} (hσ : ∀ i, σ (σ i) = i) (ho : Owns cx H w ι F) : Owns cx (rnH σ H) w (fun i => ι (σ i)) (fun i => F (σ i)) := by
  refine ⟨ho.keep, fun p hp => ?_, by rw [foot_rnH hσ]; exact ho.nodup, fun b hb => ho.mine b (by rw [foot_rnH hσ] at hb; exact hb), ?_, ho.old⟩
  · simp only [rnH, List.mem_map] at hp
    obtain ⟨q, hq, rfl⟩ := hp
    rw [mem_rnH hσ]
    simp only [hσ]
    exact rnT_rep hσ _ _ (ho.trees q hq)
  · rw [ids_rnH]
    exact List.Pairwise.map σ (fun a b h e => h (by rw [← hσ a, e, hσ])) ho.ids
theorem ghost_rn {cx : Cx} {n : Nat} {st : St} (hσ : ∀ i, σ (σ i) = i) : Ghost cx n st ⟨rnL σ st.s, rnH σ st.H⟩ := by
  intro tmps w ⟨h1, ι, F, h2, h3⟩
  refine ⟨h1, _, _, h2.rn hσ, fun k => ?_⟩
  show rep _ (slotGet (rnL σ st.s) k) _
  rw [slotGet_rnL, mem_rnH hσ]
  exact rn_rep hσ _ _ (h3 k)
end
section
variable {P : Program} {cx : Cx} {n : Nat} {Q : SQ} {st : St} {cs : List Code}
/-- Trees are let go, two ids change places, and the rest is told shortly. -/
theorem ats_swap {st' : St} {c : Code} {R : List Nat} {a b : Nat} (h1 : SlotsLe ⟨rnL (sw a b) (killL R [] st.s), st.H⟩ st'.s) (h2 : rnH (sw a b) (killH (qOf R []) (rmT R st.H)) = st'.H) (h : ATs P cx n (c :: cs) Q st') : ATs P cx n (c :: cs) Q st := by
  refine AT.ghost (st' := st') ?_ h
  intro tmps w hs
  have g1 : SimF cx n (⟨killL R [] st.s, killH (qOf R []) (rmT R st.H)⟩ : St).get (killH (qOf R []) (rmT R st.H)) tmps w := by
    obtain ⟨hsz, ι, F, ho, hr⟩ := hs
    obtain ⟨k1, k2⟩ := ho.drop R
    refine ⟨hsz, ι, F, k1, fun k => ?_⟩
    have e := congrFun (get_kill st R []) k
    show rep _ (slotGet (killL R [] st.s) k) _
    rw [e]
    exact k2 _ _ (hr k)
  have g2 := ghost_rn (cx := cx) (n := n) (st := ⟨killL R [] st.s, killH (qOf R []) (rmT R st.H)⟩) (sw_sw a b) tmps w g1
  refine Le.sim (st := ⟨rnL (sw a b) (killL R [] st.s), rnH (sw a b) (killH (qOf R []) (rmT R st.H))⟩) ⟨?_, h2⟩ g2
  have : ∀ (l : List (Nat × AV)) (s : List (Nat × AV)) (H1 H2 : List (Nat × Tree)), SlotsLe ⟨s, H1⟩ l → SlotsLe ⟨s, H2⟩ l := by
    intro l s H1 H2
    induction l with
    | nil => exact id
    | cons p l ih => exact fun h => ⟨h.1, ih h.2⟩
  exact this _ _ _ _ h1
end
end Go.Aw
