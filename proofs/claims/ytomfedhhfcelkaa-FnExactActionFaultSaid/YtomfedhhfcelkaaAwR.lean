/-
  What a walk knows of its values: bounds of numbers and lengths. Of no program.
-/
import Derived.Test.YtomfedhhfcelkaaAwQ
set_option linter.unusedSimpArgs false
set_option linter.unusedVariables false
namespace Go.Aw
open Go.RowKit

def F1 (xs : List Int) : Prop := xs.length ≤ 9223372036854775807 ∧ ∀ x ∈ xs, InR x
def F2 (xss : List (List Int)) : Prop := xss.length ≤ 9223372036854775807 ∧ ∀ x ∈ xss, F1 x
def F3 (xsss : List (List (List Int))) : Prop := xsss.length ≤ 9223372036854775807 ∧ ∀ x ∈ xsss, F2 x

mutual
def fact : AV → Prop
  | .int n => InR n
  | .str s => s.size ≤ 9223372036854775807
  | .l1 xs => F1 xs
  | .l2 xss => F2 xss
  | .l3 xsss => F3 xsss
  | .lv vs => vs.length ≤ 9223372036854775807
  | .agg vs | .tup vs | .cptr vs _ => facts vs
  | _ => True
def facts : List AV → Prop
  | [] => True
  | a :: as => fact a ∧ facts as
end
def factT : Option Tree → Prop
  | some (.t1 xs) => F1 xs
  | some (.t2 xss) => F2 xss
  | some (.t3 xsss) => F3 xsss
  | some (.r2 xss) => F2 xss
  | some (.r3 xsss) => F3 xsss
  | some (.lv vs) => vs.length ≤ 9223372036854775807
  | some (.bx vs) => facts vs
  | none => True

theorem all2_left {α β : Type} {R : α → β → Prop} {p : α → Prop} (h : ∀ a b, R a b → p a) : ∀ {as : List α} {bs : List β}, All2 R as bs → ∀ a ∈ as, p a
  | a :: as, b :: bs, ha, x, hx => by
    rcases List.mem_cons.1 hx with rfl | hx
    · exact h _ _ ha.1
    · exact all2_left h ha.2 x hx
  | [], _, _, _, hx => by simp at hx
theorem all3_mid {α β γ : Type} {R : α → β → γ → Prop} {p : β → Prop} (h : ∀ a b c, R a b c → p b) : ∀ {as : List α} {bs : List β} {cs : List γ}, All3 R as bs cs → ∀ b ∈ bs, p b
  | a :: as, b :: bs, c :: cs, ha, x, hx => by
    rcases List.mem_cons.1 hx with rfl | hx
    · exact h _ _ _ ha.1
    · exact all3_mid h ha.2 x hx
  | _, [], _, _, _, hx => by simp at hx
theorem L1.fact {w : World} {S : Nat → Prop} {xs : List Int} {v : Value} (h : L1 w S xs v) : F1 xs := ⟨by have := slC_len h.1; rw [ints_length] at this; exact this, h.2⟩
theorem L2.fact {w : World} {S : Nat → Prop} {xs : List (List Int)} {v : Value} (h : L2 w S xs v) : F2 xs := by
  obtain ⟨us, h1, h2⟩ := h
  exact ⟨by rw [h2.length]; exact slC_len h1, all2_left (fun _ _ h => h.fact) h2⟩
theorem L3.fact {w : World} {S : Nat → Prop} {xs : List (List (List Int))} {v : Value} (h : L3 w S xs v) : F3 xs := by
  obtain ⟨us, h1, h2⟩ := h
  exact ⟨by rw [h2.length]; exact slC_len h1, all2_left (fun _ _ h => h.fact) h2⟩
theorem O1.fact {w : World} {fp : List Nat} {xs : List Int} {v : Value} (h : O1 w fp xs v) : F1 xs := ⟨by have := ownSl_len h.1; rw [ints_length] at this; exact this, h.2⟩
theorem O2.fact {w : World} {fp : List Nat} {xs : List (List Int)} {v : Value} (h : O2 w fp xs v) : F2 xs := by
  obtain ⟨us, f0, fs, h1, h2, _⟩ := h
  exact ⟨by rw [h2.length.2]; exact ownSl_len h1, all3_mid (fun _ _ _ h => h.fact) h2⟩
theorem O3.fact {w : World} {fp : List Nat} {xs : List (List (List Int))} {v : Value} (h : O3 w fp xs v) : F3 xs := by
  obtain ⟨us, f0, fs, h1, h2, _⟩ := h
  exact ⟨by rw [h2.length.2]; exact ownSl_len h1, all3_mid (fun _ _ _ h => h.fact) h2⟩

mutual
theorem fact_rep {m : Mem} : ∀ (av : AV) (v : Value), rep m av v → fact av
  | .int n, v, h => by simp only [rep] at h; simp only [fact]; exact h.2
  | .str n, v, h => by simp only [rep] at h; simp only [fact]; exact h.2
  | .l1 _, v, h => by simp only [rep] at h; simp only [fact]; exact h.fact
  | .l2 _, v, h => by simp only [rep] at h; simp only [fact]; exact h.fact
  | .l3 _, v, h => by simp only [rep] at h; simp only [fact]; exact h.fact
  | .lv vs, v, h => by
    simp only [rep] at h; simp only [fact]
    obtain ⟨us, h1, h2⟩ := h
    rw [reps_all2] at h2
    rw [h2.length]; exact slC_len h1
  | .agg vs, v, h => by
    simp only [rep] at h; simp only [fact]
    obtain ⟨us, h1, h2⟩ := h
    exact facts_rep vs us h2
  | .tup vs, v, h => by
    simp only [rep] at h; simp only [fact]
    obtain ⟨us, h1, h2⟩ := h
    exact facts_rep vs us h2
  | .cptr vs _, v, h => by
    simp only [rep] at h; simp only [fact]
    obtain ⟨b, us, _, _, _, h2⟩ := h
    exact facts_rep vs us h2
  | .ik _ _, _, _ | .bool _, _, _ | .nil, _, _ | .nilfn, _, _ | .fn _ _, _, _ | .eptr _ _, _, _ | .ref _ _, _, _ | .sub _ _ _ _, _, _ | .eref _ _ _, _, _ | .bptr _ _, _, _ | .when _ _, _, _ | .junk, _, _ => by simp only [fact]
theorem facts_rep {m : Mem} : ∀ (vs : List AV) (us : List Value), reps m vs us → facts vs
  | [], _, _ => by simp only [facts]
  | a :: as, _, h => by
    simp only [reps] at h
    obtain ⟨u, us', _, h1, h2⟩ := h
    simp only [facts]
    exact ⟨fact_rep a u h1, facts_rep as us' h2⟩
end

section
variable {P : Program} {cx : Cx} {n : Nat} {Q : SQ} {st : St} {cs : List Code} {c : Code}

theorem owns_fact {H : List (Nat × Tree)} {w : World} {ι : Nat → Value} {F : Nat → List Nat} (ho : Owns cx H w ι F) (id : Nat) : factT (find H id) := by
  cases hf : find H id with
  | none => exact trivial
  | some t =>
    have ht := ho.trees _ (find_mem hf)
    cases t <;> simp only [treeRep, mem] at ht <;> simp only [factT]
    · exact ht.fact
    · exact ht.fact
    · exact ht.fact
    · obtain ⟨us, h1, h2⟩ := ht
      exact ⟨by rw [h2.length]; exact ownSl_len h1, all2_left (fun _ _ h => h.fact) h2⟩
    · obtain ⟨us, h1, h2⟩ := ht
      exact ⟨by rw [h2.length]; exact ownSl_len h1, all2_left (fun _ _ h => h.fact) h2⟩
    · obtain ⟨us, h1, h2⟩ := ht
      rw [reps_all2] at h2
      rw [h2.length]; exact ownSl_len h1
    · obtain ⟨b, us, E, _, _, _, h2⟩ := ht
      exact facts_rep _ _ h2

theorem ats_know (k : Nat) (h : fact (st.get k) → ATs P cx n (c :: cs) Q st) : ATs P cx n (c :: cs) Q st := by
  intro tmps w hs
  obtain ⟨hsz, ι, F, ho, hr⟩ := hs
  exact h (fact_rep _ _ (hr k)) tmps w ⟨hsz, ι, F, ho, hr⟩
theorem ats_knowT (id : Nat) (h : factT (find st.H id) → ATs P cx n (c :: cs) Q st) : ATs P cx n (c :: cs) Q st := by
  intro tmps w hs
  obtain ⟨hsz, ι, F, ho, hr⟩ := hs
  exact h (owns_fact ho id) tmps w ⟨hsz, ι, F, ho, hr⟩

end

theorem F1.get {xs : List Int} (h : F1 xs) (i : Nat) : InR (xs.getD i 0) := by
  by_cases hi : i < xs.length
  · exact h.2 _ (getD_mem hi)
  · simp [List.getD, Nat.le_of_not_lt hi, InR]
theorem F2.get {xs : List (List Int)} (h : F2 xs) (i : Nat) : F1 (xs.getD i []) := by
  by_cases hi : i < xs.length
  · exact h.2 _ (getD_mem hi)
  · simp [List.getD, Nat.le_of_not_lt hi, F1]
theorem F3.get {xs : List (List (List Int))} (h : F3 xs) (i : Nat) : F2 (xs.getD i []) := by
  by_cases hi : i < xs.length
  · exact h.2 _ (getD_mem hi)
  · simp [List.getD, Nat.le_of_not_lt hi, F2]

/-! ### Lists looked through from the front -/
theorem take_succ_eq {α : Type} {xs ys : List α} {d : α} {k : Nat} (hx : k < xs.length) (hy : k < ys.length) (h : xs.take k = ys.take k) (he : xs.getD k d = ys.getD k d) : xs.take (k + 1) = ys.take (k + 1) := by
  rw [List.take_add_one, List.take_add_one, h, getD_some (d := d) hx, getD_some (d := d) hy, he]
theorem ne_of_getD {α : Type} {xs ys : List α} {d : α} {k : Nat} (h : xs.getD k d ≠ ys.getD k d) : xs ≠ ys := fun e => h (by rw [e])

theorem beqT (b : Bool) : (b == true) = b := by cases b <;> rfl
theorem beqF (b : Bool) : (b == false) = !b := by cases b <;> rfl

/-! ### Forks, with the condition as it is meant -/
section
variable {P : Program} {cx : Cx} {n : Nat} {Q : SQ} {st : St} {cs : List Code}
theorem ats_ifp {x : Operand} {a b : Code} {p : Prop} {inst : Decidable p} (hx : strip (evF st.get x) = .bool (decide p)) (hg : okG true (evF st.get x)) (ht : p → ATs P cx n (a :: cs) Q st) (hf : ¬ p → ATs P cx n (b :: cs) Q st) : ATs P cx n (.cond x a b :: cs) Q st :=
  ats_cond hx hg (fun h => ht (of_decide_eq_true h)) (fun h => hf (of_decide_eq_false h))
theorem ats_ifn {x : Operand} {a b : Code} {p : Prop} {inst : Decidable p} (hx : strip (evF st.get x) = .bool (!decide p)) (hg : okG true (evF st.get x)) (ht : ¬ p → ATs P cx n (a :: cs) Q st) (hf : p → ATs P cx n (b :: cs) Q st) : ATs P cx n (.cond x a b :: cs) Q st :=
  ats_cond hx hg (fun h => ht (of_decide_eq_false (by simpa using h))) (fun h => hf (of_decide_eq_true (by simpa using h)))
end

/-! ### Ends, one for each kind of result -/
section
variable {P : Program} {st : St}
theorem finB {t : Nat} {b b' : Bool} (h1 : st.get t = .bool b) (h2 : b = b') : Ends .ret ∧ ∃ v, resL P st [.tmp t] v ∧ view1 st.H v = some (.bool b') := by
  subst h2; exact fin1 (by rw [h1]; trivial) (by rw [h1]; simp only [strip, view1, isData, if_true])
theorem finI {t : Nat} {b b' : Int} (h1 : st.get t = .int b) (h2 : b = b') : Ends .ret ∧ ∃ v, resL P st [.tmp t] v ∧ view1 st.H v = some (.int b') := by
  subst h2; exact fin1 (by rw [h1]; trivial) (by rw [h1]; simp only [strip, view1, isData, if_true])
theorem finV {t : Nat} {a r : AV} (h1 : st.get t = a) (h0 : strip a = a ∧ okG true a) (h2 : view1 st.H a = some r) : Ends .ret ∧ ∃ v, resL P st [.tmp t] v ∧ view1 st.H v = some r := by
  exact fin1 (by rw [h1]; exact h0.2) (by rw [h1, h0.1]; exact h2)
theorem ownV {t : Nat} {a r : AV} {is : List Nat} (h1 : st.get t = a) (h0 : strip a = a ∧ okG true a) (h2 : ownsA st.H a = some (r, is)) (h3 : is.Nodup) : Ends .ret ∧ ∃ v is, resL P st [.tmp t] v ∧ ownsA st.H v = some (r, is) ∧ is.Nodup := by
  exact own1 (by rw [h1]; exact h0.2) (by rw [h1, h0.1]; exact h2) h3
theorem ownC {a t : Nat} {v r : AV} {is : List Nat} (h1 : ALoad P st.H t (st.get a) v) (h2 : ownsA st.H v = some (r, is)) (h3 : is.Nodup) : Ends .ret ∧ ∃ v is, resL P st [.cell a t] v ∧ ownsA st.H v = some (r, is) ∧ is.Nodup := ⟨.inr rfl, v, is, h1, h2, h3⟩
theorem finC {a t : Nat} {v r : AV} (h1 : ALoad P st.H t (st.get a) v) (h2 : view1 st.H v = some r) : Ends .ret ∧ ∃ v, resL P st [.cell a t] v ∧ view1 st.H v = some r := ⟨.inr rfl, v, h1, h2⟩
end
end Go.Aw
