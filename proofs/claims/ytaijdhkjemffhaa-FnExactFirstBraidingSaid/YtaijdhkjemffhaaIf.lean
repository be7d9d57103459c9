import Derived.Test.YtaijdhkjemffhaaIe
import Derived.Test.YtaijdhkjemffhaaHy
set_option linter.unusedSimpArgs false
set_option linter.unusedVariables false
namespace Go.Proofs.Ytaijdhkjemffhaa
open Go Go.Aw Go.Pl
theorem fromT3 {P : Program} {f : FuncId} {args : List AV} {k : Nat} {T' : List (Nat × Tree)} {r : AV} {X : List Nat} (h : OwnCall P f args [(k, .r3 [])] T' r X) (ha : killAs (qOf [] [k]) args = args) : OwnCall P f args [(k, .t3 [])] T' r X := by
  refine ⟨h.enter, h.keep, fun us w S ι F ho hr => ?_⟩
  have hf : find [(k, Tree.t3 [])] k = some (.t3 []) := by simp [find]
  have hn : (F k).Nodup := by
    have := ho.nodup
    simpa [foot] using this
  have hm : ∀ b ∈ F k, b < w.heap.size := fun b hb => (ho.mine b (by simpa [foot] using hb)).1
  have key := ho.put (w' := w) [] k (.r3 []) (ι k) (F k) (qOf [] [k]) ho.keep (Nat.le_refl _) (fun _ _ _ => rfl) hn
    (fun x hx => ⟨hm x hx, .inl ⟨k, .inl rfl, by simp [Aw.ids], hx⟩⟩) (fun r hr => by simp at hr)
    (fun p hp _ => by
      have : p = [] := by simpa [qOf] using hp
      subst this
      exact ⟨rfl, rfl, fun u h => h⟩)
    (fun _ => by
      have ht := ho.trees (k, .t3 []) (by simp)
      simp only [treeRep, O3] at ht
      obtain ⟨us, f0, fs, k1, k2, k3⟩ := ht
      cases us with
      | cons _ _ => cases fs <;> exact k2.elim
      | nil =>
        cases fs with
        | cons _ _ => exact k2.elim
        | nil =>
          simp only [List.flatten_nil, List.append_nil] at k3
          simp only [treeRep]
          exact ⟨[], by rw [k3]; exact k1, trivial⟩)
  have e1 : updF ι k (ι k) = ι := by funext i; unfold updF; split <;> simp_all
  have e2 : updF F k (F k) = F := by funext i; unfold updF; split <;> simp_all
  have e3 : putT (killH (qOf [] [k]) (rmT [] [(k, Tree.t3 [])])) k (.r3 []) = [(k, .r3 [])] := by simp [rmT, killH, putT, killT]
  rw [e1, e2, e3] at key
  have hr2 : reps (mem (ownCx w [(k, .t3 [])] F S 0 (fun _ => undef)) w [(k, .r3 [])] ι F) args us := by
    have h1 : reps (mem (ownCx w [(k, .t3 [])] F S 0 (fun _ => undef)) w [(k, .r3 [])] ι F) (killAs (qOf [] [k]) args) us := by
      rw [reps_all2] at hr ⊢
      have : ∀ (vs : List AV) (us : List Value), All2 (rep (mem (ownCx w [(k, .t3 [])] F S 0 (fun _ => undef)) w [(k, .t3 [])] ι F)) vs us → All2 (rep (mem (ownCx w [(k, .t3 [])] F S 0 (fun _ => undef)) w [(k, .r3 [])] ι F)) (killAs (qOf [] [k]) vs) us := by
        intro vs
        induction vs with
        | nil => intro us h; cases us with
          | nil => trivial
          | cons _ _ => exact h.elim
        | cons a vs ih =>
          intro us h
          cases us with
          | nil => exact h.elim
          | cons u us => exact ⟨key.2 _ _ h.1, ih _ h.2⟩
      exact this _ _ hr
    rw [ha] at h1
    exact h1
  exact h.runs us w S ι F key.1 hr2
noncomputable def cbA (o : List Int) (m : Int) (w : List (List (List Int))) : AV := if isCoc o m w = true then (if manyB o m = true then .tup [.int 0, .int 3] else .tup [.int (cntP o m w m.toNat (o.length * o.length) (m.toNat ^ (o.length * o.length)) : Nat), .int 0]) else .tup [.int 0, .int 1]
theorem isCoc_ok {o : List Int} {m : Int} {w : List (List (List Int))} (h : isCoc o m w = true) : CocOk o m w := by
  unfold isCoc at h
  exact bd_iff.1 h
theorem many_no {o : List Int} {M : Nat} (h : manyB o M = false) : o.length ≤ 3 ∧ M ^ (o.length * o.length) ≤ 20000 := by
  unfold manyB at h
  simp only [Bool.or_eq_false_iff, decide_eq_false_iff_not, Int.toNat_natCast] at h
  omega
theorem cdL_num {M d c : Nat} (h : 0 < M) : (cdL M d c).length = d ∧ NumL M (cdL M d c) := by
  have hl : (cdL M d c).length = d := rowF_length ..
  refine ⟨hl, fun j hj => ?_⟩
  rw [hl] at hj
  unfold cdL
  rw [rowF_get hj]
  unfold dgt
  have := Nat.mod_lt (c / M ^ (d - 1 - j)) h
  omega
theorem sp_cd {o : List Int} {M : Nat} {w : List (List (List Int))} (hc : CocOk o M w) (hk : chk o = true) {c : Nat} : sOk o M w (cdL M (o.length * o.length) c) = pOk o M w (cdL M (o.length * o.length) c) := by
  have M0 : 0 < M := by have := hc.1.2.2.1; omega
  obtain ⟨h1, h2⟩ := cdL_num (c := c) (d := o.length * o.length) M0
  exact sOk_pOk hc.1 hc.2.1 hk h1 (fun j hj => h2 j (by omega))
noncomputable def cbN (o : List Int) (m : Int) (w : List (List (List Int))) : Int := if isCoc o m w = true then (if manyB o m = true then 0 else (cntP o m w m.toNat (o.length * o.length) (m.toNat ^ (o.length * o.length)) : Nat)) else 0
noncomputable def cbK (o : List Int) (m : Int) (w : List (List (List Int))) : Int := if isCoc o m w = true then (if manyB o m = true then 3 else 0) else 1
end Go.Proofs.Ytaijdhkjemffhaa
