/-
  States told in one form: ids renamed, trees in the order of their ids. Of no program.
-/
import Derived.Test.YtkkgmjclfclaoaaAxF
set_option linter.unusedSimpArgs false
set_option linter.unusedVariables false
namespace Go.Aw
open Go.RowKit

def insH (p : Nat × Tree) : List (Nat × Tree) → List (Nat × Tree)
  | [] => [p]
  | q :: r => if p.1 ≤ q.1 then p :: q :: r else q :: insH p r
def sortH : List (Nat × Tree) → List (Nat × Tree)
  | [] => []
  | p :: r => insH p (sortH r)
theorem insH_perm (p : Nat × Tree) : ∀ l, (insH p l).Perm (p :: l)
  | [] => List.Perm.refl _
  | q :: r => by
    simp only [insH]
    split
    · exact List.Perm.refl _
    · exact ((insH_perm p r).cons q).trans (List.Perm.swap p q r)
theorem sortH_perm : ∀ l, (sortH l).Perm l
  | [] => List.Perm.refl _
  | p :: r => (insH_perm p (sortH r)).trans ((sortH_perm r).cons p)
theorem find_perm {H H' : List (Nat × Tree)} (hn : (ids H).Nodup) (hp : H'.Perm H) (i : Nat) : find H' i = find H i := by
  have hn' : (ids H').Nodup := (hp.map _).nodup_iff.2 hn
  by_cases hi : i ∈ ids H
  · simp only [ids, List.mem_map] at hi
    obtain ⟨p, hp1, rfl⟩ := hi
    rw [find_of_mem hn hp1, find_of_mem hn' (hp.mem_iff.2 hp1)]
  · have hi' : i ∉ ids H' := fun h => hi ((hp.map _).mem_iff.1 h)
    rw [find_none.2 hi, find_none.2 hi']
section
variable {cx : Cx} {n : Nat}
theorem foot_perm {H H' : List (Nat × Tree)} (hp : H'.Perm H) (F : Nat → List Nat) : (foot H' F).Perm (foot H F) := (hp.map _).flatten
theorem mem_perm {H H' : List (Nat × Tree)} (hn : (ids H).Nodup) (hp : H'.Perm H) (w : World) (ι : Nat → Value) (F : Nat → List Nat) : mem cx w H' ι F = mem cx w H ι F := by
  unfold mem
  have e1 : imm cx w H' F = imm cx w H F := by
    unfold imm
    funext b
    rw [(foot_perm hp F).mem_iff]
  have e2 : (fun id path => livePath (find H' id) path = true) = fun id path => livePath (find H id) path = true := by
    funext i p
    rw [find_perm hn hp]
  rw [e1, e2]
theorem ghost_perm {s : List (Nat × AV)} {H H' : List (Nat × Tree)} (hp : H'.Perm H) : Ghost cx n ⟨s, H⟩ ⟨s, H'⟩ := by
  intro tmps w ⟨h1, ι, F, ho, h3⟩
  have hm := mem_perm (cx := cx) ho.ids hp w ι F
  refine ⟨h1, ι, F, ⟨ho.keep, fun p hp' => ?_, (foot_perm hp F).nodup_iff.2 ho.nodup, fun b hb => ho.mine b ((foot_perm hp F).mem_iff.1 hb), (hp.map _).nodup_iff.2 ho.ids, ho.old⟩, fun k => ?_⟩
  · rw [hm]
    exact ho.trees p (hp.mem_iff.1 hp')
  · rw [hm]
    exact h3 k
def rnLs : List (Nat × Nat) → List (Nat × AV) → List (Nat × AV)
  | [], s => s
  | (a, b) :: r, s => rnLs r (rnL (sw a b) s)
def rnHs : List (Nat × Nat) → List (Nat × Tree) → List (Nat × Tree)
  | [], H => H
  | (a, b) :: r, H => rnHs r (rnH (sw a b) H)
theorem ghost_trans {a b c : St} (h1 : Ghost cx n a b) (h2 : Ghost cx n b c) : Ghost cx n a c := fun tmps w h => h2 tmps w (h1 tmps w h)
theorem ghost_rns : ∀ (σs : List (Nat × Nat)) (s : List (Nat × AV)) (H : List (Nat × Tree)), Ghost cx n ⟨s, H⟩ ⟨rnLs σs s, rnHs σs H⟩
  | [], _, _ => fun _ _ h => h
  | (a, b) :: r, s, H => ghost_trans (ghost_rn (st := ⟨s, H⟩) (sw_sw a b)) (ghost_rns r (rnL (sw a b) s) (rnH (sw a b) H))
theorem slotsLe_any {s : List (Nat × AV)} {H1 H2 : List (Nat × Tree)} : ∀ {l : List (Nat × AV)}, SlotsLe ⟨s, H1⟩ l → SlotsLe ⟨s, H2⟩ l
  | [], _ => trivial
  | _ :: _, h => ⟨h.1, slotsLe_any h.2⟩
theorem ghost_can (σs : List (Nat × Nat)) {s z : St} (h1 : SlotsLe ⟨rnLs σs s.s, s.H⟩ z.s) (h2 : sortH (rnHs σs s.H) = z.H) : Ghost cx n s z :=
  ghost_trans (ghost_rns σs s.s s.H) (ghost_trans (ghost_perm (sortH_perm _)) fun tmps w h => Le.sim (st := ⟨rnLs σs s.s, sortH (rnHs σs s.H)⟩) ⟨slotsLe_any h1, h2⟩ h)
theorem ghost_drop (R : List Nat) {s : List (Nat × AV)} {H : List (Nat × Tree)} : Ghost cx n ⟨s, H⟩ ⟨killL R [] s, killH (qOf R []) (rmT R H)⟩ := by
  intro tmps w ⟨hsz, ι, F, ho, hr⟩
  obtain ⟨k1, k2⟩ := ho.drop R
  refine ⟨hsz, ι, F, k1, fun k => ?_⟩
  have e := congrFun (get_kill ⟨s, H⟩ R []) k
  show rep _ (slotGet (killL R [] s) k) _
  rw [e]
  exact k2 _ _ (hr k)
/-- Trees let go, the others in the order of their ids. -/
theorem ghost_cd (R : List Nat) {s z : St} (h1 : SlotsLe ⟨killL R [] s.s, s.H⟩ z.s) (h2 : sortH (killH (qOf R []) (rmT R s.H)) = z.H) : Ghost cx n s z :=
  ghost_trans (ghost_drop R) (ghost_trans (ghost_perm (sortH_perm _)) fun tmps w h => Le.sim (st := ⟨killL R [] s.s, sortH (killH (qOf R []) (rmT R s.H))⟩) ⟨slotsLe_any h1, h2⟩ h)
section
variable {P : Program} {Q : SQ} {st : St} {cs : List Code}
theorem AT.weakG {c : Code} (h : AT P cx n c (fun e s => ∃ z, Ghost cx n s z ∧ Q e z) st) : AT P cx n c Q st :=
  fun tmps w hs => wp_mono (h tmps w hs) fun _ _ _ ⟨h1, _, ⟨z, hl, hq⟩, h3⟩ => ⟨h1, z, hq, hl _ _ h3⟩
theorem ats_planG (own : List Nat) (p : Plan) (z : St) {id : Nat} {l : List Oper} (hx : ∀ o ∈ l, ∀ d, o.dst = some d → cx.fix ≤ d) (hm : P.follows .mixedOrders = true) (hB : drawPl P own p l.toArray = true) (h : ∀ K : St → Prop, (∀ s, Ghost cx n s z → K s) → plRun P l.toArray n own p st K) (hz : ATs P cx n cs Q z) : ATs P cx n (.region id l.toArray true :: cs) Q st :=
  AT.weakG (AT.drawPl hx hm hB (h _ fun s hl => ⟨z, hl, hz⟩))
/-- The state told in another form. -/
theorem ats_can {st' : St} {c : Code} (σs : List (Nat × Nat)) (h1 : SlotsLe ⟨rnLs σs st.s, st.H⟩ st'.s) (h2 : sortH (rnHs σs st.H) = st'.H) (h : ATs P cx n (c :: cs) Q st') : ATs P cx n (c :: cs) Q st :=
  AT.ghost (st' := st') (ghost_can σs h1 h2) h
end
end
end Go.Aw
