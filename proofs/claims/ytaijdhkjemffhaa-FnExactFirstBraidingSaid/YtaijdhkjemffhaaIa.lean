import Derived.Test.YtaijdhkjemffhaaHx
set_option linter.unusedSimpArgs false
set_option linter.unusedVariables false
namespace Go.Proofs.Ytaijdhkjemffhaa
open Go Go.Aw Go.Pl
attribute [local go_sem] pl_fin pl_stop pl_one pl_alt PK_ap pickO List.getElem?_toArray List.getElem?_cons_zero List.getElem?_cons_succ
theorem fin3 {p : List Int → Bool} (h1 : ∀ a : Nat, a < 9 → 1 ≤ a → p [(a : Int)] = true) (h2 : ∀ a : Nat, a < 9 → ∀ b : Nat, b < 9 → 1 ≤ a → 1 ≤ b → a * b ≤ 8 → p [(a : Int), (b : Int)] = true)
    (h3 : ((List.range 9).all fun a => (List.range 9).all fun b => (List.range 9).all fun c => decide (a * (b * c) = 0) || decide (8 < a * (b * c)) || p [(a : Int), (b : Int), (c : Int)]) = true) {o : List Int} (hp : PosO o) (h8 : prodO o ≤ 8) (hl : o.length ≤ 3) : p o = true := by
  have e : ∀ i, i < o.length → ∃ a : Nat, o.getD i 0 = a ∧ 1 ≤ a ∧ a < 9 := fun i hi => ⟨(o.getD i 0).toNat, by have := hp.2 i hi; omega, by have := hp.2 i hi; omega, by have := entry_le hp hi; have := hp.2 i hi; omega⟩
  have hq := hp.1
  match o, hq, hl with
  | [x], _, _ =>
    obtain ⟨a, ea, a1, a9⟩ := e 0 (by simp)
    simp at ea
    rw [ea]
    exact h1 a a9 a1
  | [x, y], _, _ =>
    obtain ⟨a, ea, a1, a9⟩ := e 0 (by simp)
    obtain ⟨b, eb, b1, b9⟩ := e 1 (by simp)
    simp at ea eb
    subst ea; subst eb
    simp only [prodO] at h8
    refine h2 a a9 b b9 a1 b1 ?_
    have : ((a * b : Nat) : Int) ≤ 8 := by rw [Int.natCast_mul]; rw [Int.mul_one] at h8; exact h8
    omega
  | [x, y, z], _, _ =>
    obtain ⟨a, ea, a1, a9⟩ := e 0 (by simp)
    obtain ⟨b, eb, b1, b9⟩ := e 1 (by simp)
    obtain ⟨c, ec, c1, c9⟩ := e 2 (by simp)
    simp at ea eb ec
    subst ea; subst eb; subst ec
    simp only [prodO] at h8
    have k1 := List.all_eq_true.1 h3 a (List.mem_range.2 a9)
    have k2 := List.all_eq_true.1 k1 b (List.mem_range.2 b9)
    have k3 := List.all_eq_true.1 k2 c (List.mem_range.2 c9)
    have hp : a * (b * c) ≠ 0 := by
      have : 0 < a * (b * c) := Nat.mul_pos a1 (Nat.mul_pos b1 c1)
      omega
    have h8' : a * (b * c) ≤ 8 := by
      have : ((a * (b * c) : Nat) : Int) ≤ 8 := by rw [Int.natCast_mul, Int.natCast_mul]; rw [Int.mul_one] at h8; exact h8
      omega
    simpa [hp, Nat.not_lt.2 h8'] using k3
def elH (o t : List Int) : Nat → Int
  | 0 => 0
  | k + 1 => elH o t k * o.getD k 0 + t.getD k 0
def unitT (o : List Int) (i : Nat) : List Int := if 1 < o.getD i 0 then (List.replicate o.length 0).set i 1 else List.replicate o.length 0
def chkU (o : List Int) : Bool := (List.range o.length).all fun i => decide (elH o (unitT o i) o.length = own o i) && (List.range (o.length + 1)).all fun k => decide (0 ≤ elH o (unitT o i) k) && decide (elH o (unitT o i) k ≤ 8)
theorem chkU_ok {o : List Int} (hp : PosO o) (h8 : prodO o ≤ 8) (hl : o.length ≤ 3) : chkU o = true := fin3 (by decide +kernel) (by decide +kernel) (by decide +kernel) hp h8 hl
theorem getU {o : List Int} (hp : PosO o) (h8 : prodO o ≤ 8) (hl : o.length ≤ 3) {i : Nat} (hi : i < o.length) : elH o (unitT o i) o.length = own o i ∧ ∀ k, k ≤ o.length → 0 ≤ elH o (unitT o i) k ∧ elH o (unitT o i) k ≤ 8 := by
  have := List.all_eq_true.1 (chkU_ok hp h8 hl) i (List.mem_range.2 hi)
  simp only [Bool.and_eq_true, decide_eq_true_eq] at this
  refine ⟨this.1, fun k hk => ?_⟩
  have h2 := List.all_eq_true.1 this.2 k (List.mem_range.2 (by omega))
  simpa using h2
theorem unitT_len {o : List Int} {i : Nat} : (unitT o i).length = o.length := by
  unfold unitT
  split <;> simp
theorem l10Element_ok (o t : List Int) (h : PosO o) (h8 : prodO o ≤ 8) (ht : t.length = o.length) (hb : ∀ k, k ≤ o.length → 0 ≤ elH o t k ∧ elH o t k ≤ 8) : PureCall Try.prog 84 [.l1 o, .l1 t] (.int (elH o t o.length)) := by
  refine PureCall.intro (n := 25) (rs := [.tmp 4]) Try.call84 Try.func84 rfl rfl rfl (by simp only [List.length_cons, List.length_nil]; omega) (fun cx hcx => ats_of ?_); simp only [argSlots, Nat.zero_add, Nat.reduceAdd]
  (repeat refine ats_seq ?_); refine ats_go (fix0 hcx) fun K hK => ?_; simp only [go_sem, seval]; (repeat refine And.intro (by first | omega | (intro hq; first | omega | (simp at hq <;> omega) | (simp_all <;> omega))) ?_); refine hK _ ?_; clear hK K
  refine ats_know 0 fun h0 => ?_; simp only [St.get, slotGet, Nat.reduceEqDiff, ↓reduceIte, if_true, fact, facts] at h0
  have hlen := h0.1
  (repeat refine ats_seq ?_); refine ats_go (fix0 hcx) fun K hK => ?_; simp only [go_sem, seval]; (repeat refine And.intro (by first | omega | (intro hq; first | omega | (simp at hq <;> omega) | (simp_all <;> omega))) ?_); refine hK _ ?_; clear hK K
  (repeat refine ats_seq ?_); refine ats_go (fix0 hcx) fun K hK => ?_; simp only [go_sem, seval]; (repeat refine And.intro (by first | omega | (intro hq; first | omega | (simp at hq <;> omega) | (simp_all <;> omega))) ?_); refine hK _ ?_; clear hK K
  (repeat refine ats_seq ?_); refine ats_loop (fun i : Nat => ⟨[(0, .l1 o), (1, .l1 t), (5, .int (elH o t i)), (6, .int i)], []⟩) (fun i => i ≤ o.length) (fun i => o.length - i) 0 (Nat.zero_le _) (by refine And.intro ?_ rfl; simp only [SlotsLe, St.get, slotGet, Nat.reduceEqDiff, ↓reduceIte, true_and, and_true, AV.int.injEq, AV.bool.injEq, AV.l1.injEq, AV.l2.injEq, AV.l3.injEq]; repeat' (first | rfl | with_reducible refine And.intro ?_ ?_ | omega)) (fun i hi => ?_)
  (repeat refine ats_seq ?_); refine ats_go (fix0 hcx) fun K hK => ?_; simp only [go_sem, seval]; (repeat refine And.intro (by first | omega | (intro hq; first | omega | (simp at hq <;> omega) | (simp_all <;> omega))) ?_); refine hK _ ?_; clear hK K
  (repeat refine ats_seq ?_); first | refine ats_ifn (p := _) rfl trivial (fun hc2 => ?_) (fun hc2 => ?_) | refine ats_ifp (p := _) rfl trivial (fun hc2 => ?_) (fun hc2 => ?_) | refine ats_cond rfl trivial (fun hc2 => ?_) (fun hc2 => ?_)
  · have b0 := hb i (by omega)
    have b1 := hb (i + 1) (by omega)
    have h1 := h.2 i (by omega)
    have h2 := entry_le h (show i < o.length by omega)
    have m1 : elH o t i * o.getD i 0 ≤ 8 * 8 := Int.mul_le_mul b0.2 (by omega) (by omega) (by omega)
    have m0 : 0 ≤ elH o t i * o.getD i 0 := Int.mul_nonneg b0.1 (by omega)
    have e1 : elH o t i * o.getD i 0 + t.getD i 0 = elH o t (i + 1) := rfl
    refine ats_skip ?_
    (repeat refine ats_seq ?_); refine ats_block ?_
    (repeat refine ats_seq ?_); refine ats_pick (fix0 hcx) mixed (by kernel_rfl) fun K hK => ?_; simp only [go_sem, seval]
    simp only [e1]
    (repeat refine And.intro (by first | omega | (intro hq; first | omega | (simp at hq <;> omega) | (simp_all <;> omega))) ?_)
    refine hK _ ?_; clear hK K
    (repeat refine ats_seq ?_); refine ats_go (fix0 hcx) fun K hK => ?_; simp only [go_sem, seval]; (repeat refine And.intro (by first | omega | (intro hq; first | omega | (simp at hq <;> omega) | (simp_all <;> omega))) ?_); refine hK _ ?_; clear hK K
    refine ⟨i + 1,  by omega, by omega, .inl ⟨by simp only [SlotsLe, St.get, slotGet, Nat.reduceEqDiff, ↓reduceIte, AV.int.injEq, AV.bool.injEq, AV.l1.injEq, AV.l2.injEq, AV.l3.injEq, true_and, and_true]; omega,  rfl⟩⟩
  · obtain rfl : i = o.length := by omega
    refine ats_exit (lq_x ?_)
    (repeat refine ats_seq ?_); refine ats_go (fix0 hcx) fun K hK => ?_; simp only [go_sem, seval]; (repeat refine And.intro (by first | omega | (intro hq; first | omega | (simp at hq <;> omega) | (simp_all <;> omega))) ?_); refine hK _ ?_; clear hK K
    refine ats_ret (finI rfl ?_)
    rfl
theorem l18Generators_ok (o : List Int) (h : PosO o) (h8 : prodO o ≤ 8) (h3 : o.length ≤ 3) : FreshCall Try.prog 63 [.l1 o] (.l1 (gensL o)) := by
  obtain ⟨f, ef⟩ : ∃ f : Nat → Int, f = fun i => (own o i : Int) := ⟨_, rfl⟩
  have e : gensL o = rowF o.length f := by unfold gensL; rw [ef]
  rw [e]
  refine FreshCall.intro (n := 31) (rs := [.tmp 2]) Try.call63 Try.func63 rfl rfl rfl (by simp only [List.length_cons, List.length_nil]; omega) (fun cx hcx => ats_of ?_); simp only [argSlots, Nat.zero_add, Nat.reduceAdd]
  (repeat refine ats_seq ?_); refine ats_go (fix0 hcx) fun K hK => ?_; simp only [go_sem, seval]; (repeat refine And.intro (by first | omega | (intro hq; first | omega | (simp at hq <;> omega) | (simp_all <;> omega))) ?_); refine hK _ ?_; clear hK K
  (repeat refine ats_seq ?_); refine ats_go (fix0 hcx) fun K hK => ?_; simp only [go_sem, seval]; (repeat refine And.intro (by first | omega | (intro hq; first | omega | (simp at hq <;> omega) | (simp_all <;> omega))) ?_); refine hK _ ?_; clear hK K
  (repeat refine ats_seq ?_); refine ats_go (fix0 hcx) fun K hK => ?_; simp only [go_sem, seval]; (repeat refine And.intro (by first | omega | (intro hq; first | omega | (simp at hq <;> omega) | (simp_all <;> omega))) ?_); refine hK _ ?_; clear hK K
  (repeat refine ats_seq ?_); refine ats_loop (fun i : Nat => ⟨[(0, .l1 o), (3, .ref 0 []), (4, .int i)], [(0, .t1 (rowF i f))]⟩) (fun i => i ≤ o.length) (fun i => o.length - i) 0 (Nat.zero_le _) (by refine And.intro ?_ rfl; simp only [SlotsLe, St.get, slotGet, Nat.reduceEqDiff, ↓reduceIte, true_and, and_true, AV.int.injEq, AV.bool.injEq, AV.l1.injEq, AV.l2.injEq, AV.l3.injEq]; repeat' (first | rfl | with_reducible refine And.intro ?_ ?_ | omega)) (fun i hi => ?_)
  (repeat refine ats_seq ?_); refine ats_go (fix0 hcx) fun K hK => ?_; simp only [go_sem, seval]; (repeat refine And.intro (by first | omega | (intro hq; first | omega | (simp at hq <;> omega) | (simp_all <;> omega))) ?_); refine hK _ ?_; clear hK K
  (repeat refine ats_seq ?_); first | refine ats_ifn (p := _) rfl trivial (fun hc2 => ?_) (fun hc2 => ?_) | refine ats_ifp (p := _) rfl trivial (fun hc2 => ?_) (fun hc2 => ?_) | refine ats_cond rfl trivial (fun hc2 => ?_) (fun hc2 => ?_)
  · have hi : i < o.length := by omega
    have hu := getU h h8 h3 hi
    have hE := l10Element_ok o (unitT o i) h h8 unitT_len hu.2
    have es := rowP_succ (k := i) (f := f)
    have fi : f i = elH o (unitT o i) o.length := by rw [hu.1, ef]
    rw [fi] at es
    have lr : (rowF i f).length = i := rowF_length ..
    refine ats_skip ?_
    (repeat refine ats_seq ?_); refine ats_block ?_
    (repeat refine ats_seq ?_); refine ats_go (fix0 hcx) fun K hK => ?_; simp only [go_sem, seval]; (repeat refine And.intro (by first | omega | (intro hq; first | omega | (simp at hq <;> omega) | (simp_all <;> omega))) ?_); refine hK _ ?_; clear hK K
    (repeat refine ats_seq ?_); refine ats_go (fix0 hcx) fun K hK => ?_; simp only [go_sem, seval]; (repeat refine And.intro (by first | omega | (intro hq; first | omega | (simp at hq <;> omega) | (simp_all <;> omega))) ?_); refine hK _ ?_; clear hK K
    (repeat refine ats_seq ?_); first | refine ats_ifn (p := _) rfl trivial (fun hc3 => ?_) (fun hc3 => ?_) | refine ats_ifp (p := _) rfl trivial (fun hc3 => ?_) (fun hc3 => ?_) | refine ats_cond rfl trivial (fun hc3 => ?_) (fun hc3 => ?_)
    · have eu : unitT o i = (List.replicate o.length 0).set i 1 := by unfold unitT; rw [if_pos hc3]
      simp only [eu] at hE es
      (repeat refine ats_seq ?_); refine ats_go (fix0 hcx) fun K hK => ?_; simp only [go_sem, seval]
      simp only [List.length_replicate]
      (repeat refine And.intro (by first | omega | (intro hq; first | omega | (simp at hq <;> omega) | (simp_all <;> omega))) ?_)
      refine hK _ ?_; clear hK K
      (repeat refine ats_seq ?_); refine ats_go (fix0 hcx) fun K hK => ?_; simp only [go_sem, seval]
      (repeat refine And.intro (by first | omega | (intro hq; first | omega | (simp at hq <;> omega) | (simp_all <;> omega))) ?_)
      first | refine fcall_free rfl rfl (hE) ?_ | refine YR_intro (acall_free rfl rfl (hE)) ?_
      simp only [go_sem, seval]
      (repeat refine And.intro (by first | omega | (intro hq; first | omega | (simp at hq <;> omega) | (simp_all <;> omega))) ?_)
      refine hK _ ?_; clear hK K
      rw [← es]
      (repeat refine ats_seq ?_); refine ats_go (fix0 hcx) fun K hK => ?_; simp only [go_sem, seval]; (repeat refine And.intro (by first | omega | (intro hq; first | omega | (simp at hq <;> omega) | (simp_all <;> omega))) ?_); refine hK _ ?_; clear hK K
      refine ⟨i + 1, by omega, by omega, .inr ⟨[1, 2], by simp only [killL, List.map_cons, List.map_nil, killA, killAs, qOf, rmT, killH, killT, List.filter_cons, List.filter_nil, List.contains_cons, List.contains_nil, SlotsLe, St.get, slotGet, Nat.reduceEqDiff, Nat.reduceBEq, Bool.or_false, Bool.or_true, Bool.false_and, Bool.not_true, Bool.not_false, Bool.false_eq_true, ↓reduceIte, if_true, if_false, AV.int.injEq, AV.bool.injEq, AV.l1.injEq, AV.l2.injEq, AV.l3.injEq, true_and, and_true]; omega, by simp only [killL, List.map_cons, List.map_nil, killA, killAs, qOf, rmT, killH, killT, List.filter_cons, List.filter_nil, List.contains_cons, List.contains_nil, SlotsLe, St.get, slotGet, Nat.reduceEqDiff, Nat.reduceBEq, Bool.or_false, Bool.or_true, Bool.false_and, Bool.not_true, Bool.not_false, Bool.false_eq_true, ↓reduceIte, if_true, if_false, AV.int.injEq, AV.bool.injEq, AV.l1.injEq, AV.l2.injEq, AV.l3.injEq, true_and, and_true]; (try rfl)⟩⟩
    · have eu : unitT o i = List.replicate o.length 0 := by unfold unitT; rw [if_neg hc3]
      simp only [eu] at hE es
      refine ats_skip ?_
      (repeat refine ats_seq ?_); refine ats_go (fix0 hcx) fun K hK => ?_; simp only [go_sem, seval]
      (repeat refine And.intro (by first | omega | (intro hq; first | omega | (simp at hq <;> omega) | (simp_all <;> omega))) ?_)
      first | refine fcall_free rfl rfl (hE) ?_ | refine YR_intro (acall_free rfl rfl (hE)) ?_
      simp only [go_sem, seval]
      (repeat refine And.intro (by first | omega | (intro hq; first | omega | (simp at hq <;> omega) | (simp_all <;> omega))) ?_)
      refine hK _ ?_; clear hK K
      rw [← es]
      (repeat refine ats_seq ?_); refine ats_go (fix0 hcx) fun K hK => ?_; simp only [go_sem, seval]; (repeat refine And.intro (by first | omega | (intro hq; first | omega | (simp at hq <;> omega) | (simp_all <;> omega))) ?_); refine hK _ ?_; clear hK K
      refine ⟨i + 1, by omega, by omega, .inr ⟨[1, 2], by simp only [killL, List.map_cons, List.map_nil, killA, killAs, qOf, rmT, killH, killT, List.filter_cons, List.filter_nil, List.contains_cons, List.contains_nil, SlotsLe, St.get, slotGet, Nat.reduceEqDiff, Nat.reduceBEq, Bool.or_false, Bool.or_true, Bool.false_and, Bool.not_true, Bool.not_false, Bool.false_eq_true, ↓reduceIte, if_true, if_false, AV.int.injEq, AV.bool.injEq, AV.l1.injEq, AV.l2.injEq, AV.l3.injEq, true_and, and_true]; omega, by simp only [killL, List.map_cons, List.map_nil, killA, killAs, qOf, rmT, killH, killT, List.filter_cons, List.filter_nil, List.contains_cons, List.contains_nil, SlotsLe, St.get, slotGet, Nat.reduceEqDiff, Nat.reduceBEq, Bool.or_false, Bool.or_true, Bool.false_and, Bool.not_true, Bool.not_false, Bool.false_eq_true, ↓reduceIte, if_true, if_false, AV.int.injEq, AV.bool.injEq, AV.l1.injEq, AV.l2.injEq, AV.l3.injEq, true_and, and_true]; (try rfl)⟩⟩
  · obtain rfl : i = o.length := by omega
    refine ats_exit (lq_x ?_)
    (repeat refine ats_seq ?_); refine ats_go (fix0 hcx) fun K hK => ?_; simp only [go_sem, seval]; (repeat refine And.intro (by first | omega | (intro hq; first | omega | (simp at hq <;> omega) | (simp_all <;> omega))) ?_); refine hK _ ?_; clear hK K
    exact ats_ret (ownV (is := [0]) rfl ⟨rfl, trivial⟩ rfl (by simp))
theorem l18Many_ok (o : List Int) (M : Nat) (w : List (List (List Int))) (m1 : 1 ≤ M) (m2 : M ≤ 1000) (hl : o.length ≤ 1048576) : PureCall Try.prog 19 [.agg [.l1 o, .int M, .l3 w]] (.bool (manyB o M)) := by
  obtain ⟨pw, epw⟩ : ∃ pw : Nat → Nat, pw = fun j => M ^ j := ⟨_, rfl⟩
  have p0 : pw 0 = 1 := by rw [epw]; rfl
  have ps : ∀ j, pw (j + 1) = pw j * M := fun j => by rw [epw]; exact Nat.pow_succ ..
  have psI : ∀ j, ((pw j : Nat) : Int) * (M : Int) = ((pw (j + 1) : Nat) : Int) := fun j => by rw [ps]; push_cast; rfl
  have pm : ∀ j, pw j ≤ pw (j + 1) := fun j => by rw [ps]; exact Nat.le_mul_of_pos_right _ (by omega)
  have pm2 : ∀ i j, i ≤ j → pw i ≤ pw j := fun i j h => by
    induction j with
    | zero => rw [show i = 0 by omega]; exact Nat.le_refl _
    | succ j ih =>
      by_cases e : i = j + 1
      · rw [e]; exact Nat.le_refl _
      · exact Nat.le_trans (ih (by omega)) (pm j)
  have p4 : ∀ j, pw (j + 1) ≤ pw j * 1000 := fun j => by rw [ps]; exact Nat.mul_le_mul_left _ (by omega)
  have emany : manyB o M = (decide (3 < o.length) || decide (20000 < pw (o.length * o.length))) := by unfold manyB; rw [epw, Int.toNat_natCast]
  rw [emany]
  obtain ⟨r, er⟩ : ∃ r, o.length = r := ⟨_, rfl⟩
  rw [er] at hl ⊢
  refine PureCall.intro (n := 24) (rs := [.tmp 2]) Try.call19 Try.func19 rfl rfl rfl (by simp only [List.length_cons, List.length_nil]; omega) (fun cx hcx => ats_of ?_); simp only [argSlots, Nat.zero_add, Nat.reduceAdd]
  (repeat refine ats_seq ?_); refine ats_go (fix0 hcx) fun K hK => ?_; simp only [go_sem, seval]; (repeat refine And.intro (by first | omega | (intro hq; first | omega | (simp at hq <;> omega) | (simp_all <;> omega))) ?_); refine hK _ ?_; clear hK K
  (repeat refine ats_seq ?_); refine ats_go (fix0 hcx) fun K hK => ?_; simp only [go_sem, seval]
  simp only [er]
  (repeat refine And.intro (by first | omega | (intro hq; first | omega | (simp at hq <;> omega) | (simp_all <;> omega))) ?_)
  refine hK _ ?_; clear hK K
  (repeat refine ats_seq ?_); refine ats_go (fix0 hcx) fun K hK => ?_; simp only [go_sem, seval]; (repeat refine And.intro (by first | omega | (intro hq; first | omega | (simp at hq <;> omega) | (simp_all <;> omega))) ?_); refine hK _ ?_; clear hK K
  (repeat refine ats_seq ?_); first | refine ats_ifn (p := _) rfl trivial (fun hc1 => ?_) (fun hc1 => ?_) | refine ats_ifp (p := _) rfl trivial (fun hc1 => ?_) (fun hc1 => ?_) | refine ats_cond rfl trivial (fun hc1 => ?_) (fun hc1 => ?_)
  · (repeat refine ats_seq ?_); refine ats_go (fix0 hcx) fun K hK => ?_; simp only [go_sem, seval]; (repeat refine And.intro (by first | omega | (intro hq; first | omega | (simp at hq <;> omega) | (simp_all <;> omega))) ?_); refine hK _ ?_; clear hK K
    refine ats_ret (finB rfl ?_)
    (first | omega | (simp <;> omega))
  · have rr : r * r ≤ 9 := by have := Nat.mul_le_mul (show r ≤ 3 by omega) (show r ≤ 3 by omega); omega
    obtain ⟨d, ed⟩ : ∃ d, r * r = d := ⟨_, rfl⟩
    have edI : (r : Int) * (r : Int) = (d : Int) := by rw [← ed]; push_cast; rfl
    rw [ed] at rr ⊢
    refine ats_skip ?_
    (repeat refine ats_seq ?_); refine ats_go (fix0 hcx) fun K hK => ?_; simp only [go_sem, seval]; (repeat refine And.intro (by first | omega | (intro hq; first | omega | (simp at hq <;> omega) | (simp_all <;> omega))) ?_); refine hK _ ?_; clear hK K
    (repeat refine ats_seq ?_); refine ats_loop (fun j : Nat => ⟨[(1, .bptr 0 0), (3, .int r), (4, .int (pw j)), (5, .int j)], [(0, .bx [.l1 o, .int M, .l3 w])]⟩) (fun j => j ≤ d ∧ pw j ≤ 20000) (fun j => d - j) 0 ⟨Nat.zero_le _, by omega⟩ (by
      rw [p0]
      refine And.intro ?_ rfl; simp only [SlotsLe, St.get, slotGet, Nat.reduceEqDiff, ↓reduceIte, AV.int.injEq, AV.bool.injEq, AV.l1.injEq, AV.l2.injEq, AV.l3.injEq, true_and, and_true]
      try first | exact ⟨rfl, rfl⟩ | rfl) (fun j hj => ?_)
    obtain ⟨hj, pj⟩ := hj
    have pj4 := p4 j
    (repeat refine ats_seq ?_); refine ats_go (fix0 hcx) fun K hK => ?_; simp only [go_sem, seval]
    simp only [edI]
    (repeat refine And.intro (by first | omega | (intro hq; first | omega | (simp at hq <;> omega) | (simp_all <;> omega))) ?_)
    refine hK _ ?_; clear hK K
    (repeat refine ats_seq ?_); first | refine ats_ifn (p := _) rfl trivial (fun h1 => ?_) (fun h1 => ?_) | refine ats_ifp (p := _) rfl trivial (fun h1 => ?_) (fun h1 => ?_) | refine ats_cond rfl trivial (fun h1 => ?_) (fun h1 => ?_)
    · have pj1 := pm2 (j + 1) d (by omega)
      refine ats_skip ?_
      (repeat refine ats_seq ?_); refine ats_block ?_
      (repeat refine ats_seq ?_); refine ats_go (fix0 hcx) fun K hK => ?_; simp only [go_sem, seval]
      simp only [psI]
      (repeat refine And.intro (by first | omega | (intro hq; first | omega | (simp at hq <;> omega) | (simp_all <;> omega))) ?_)
      refine hK _ ?_; clear hK K
      (repeat refine ats_seq ?_); refine ats_go (fix0 hcx) fun K hK => ?_; simp only [go_sem, seval]; (repeat refine And.intro (by first | omega | (intro hq; first | omega | (simp at hq <;> omega) | (simp_all <;> omega))) ?_); refine hK _ ?_; clear hK K
      (repeat refine ats_seq ?_); first | refine ats_ifn (p := _) rfl trivial (fun h2 => ?_) (fun h2 => ?_) | refine ats_ifp (p := _) rfl trivial (fun h2 => ?_) (fun h2 => ?_) | refine ats_cond rfl trivial (fun h2 => ?_) (fun h2 => ?_)
      · (repeat refine ats_seq ?_); refine ats_go (fix0 hcx) fun K hK => ?_; simp only [go_sem, seval]; (repeat refine And.intro (by first | omega | (intro hq; first | omega | (simp at hq <;> omega) | (simp_all <;> omega))) ?_); refine hK _ ?_; clear hK K
        refine ats_ret (finB rfl ?_)
        (simp <;> omega)
      · refine ats_skip ?_
        (repeat refine ats_seq ?_); refine ats_go (fix0 hcx) fun K hK => ?_; simp only [go_sem, seval]; (repeat refine And.intro (by first | omega | (intro hq; first | omega | (simp at hq <;> omega) | (simp_all <;> omega))) ?_); refine hK _ ?_; clear hK K
        refine ⟨j + 1,  ⟨by omega, by omega⟩, by omega, .inl ⟨by simp only [SlotsLe, St.get, slotGet, Nat.reduceEqDiff, ↓reduceIte, AV.int.injEq, AV.bool.injEq, AV.l1.injEq, AV.l2.injEq, AV.l3.injEq, true_and, and_true]; omega,  rfl⟩⟩
    · obtain rfl : j = d := by omega
      refine ats_exit (lq_x ?_)
      (repeat refine ats_seq ?_); refine ats_go (fix0 hcx) fun K hK => ?_; simp only [go_sem, seval]; (repeat refine And.intro (by first | omega | (intro hq; first | omega | (simp at hq <;> omega) | (simp_all <;> omega))) ?_); refine hK _ ?_; clear hK K
      refine ats_ret (finB rfl ?_)
      (simp <;> omega)
theorem l18Leading_ok (o : List Int) (m : Int) (w : List (List (List Int))) (c : List (List Int)) (h : PosO o) (h8 : prodO o ≤ 8) (h3 : o.length ≤ 3) (n : Nat) (hc : GridB n m c) (hn : nE o = n) (hck : chk o = true) : FreshCall Try.prog 43 [.agg [.l1 o, .int m, .l3 w], .l2 c] (.l1 (ledL o c)) := by
  have hG := l18Generators_ok o h h8 h3
  have lG : (gensL o).length = o.length := rowF_length ..
  have gG : ∀ k, k < o.length → (gensL o).getD k 0 = (own o k : Int) := fun k hk => rowF_get hk
  obtain ⟨g, eg⟩ : ∃ g, gensL o = g := ⟨_, rfl⟩
  simp only [eg] at hG lG gG
  obtain ⟨f, ef⟩ : ∃ f : Nat → Int, f = fun j => e2 c (own o (j / o.length)) (own o (j % o.length)) := ⟨_, rfl⟩
  have e : ledL o c = rowF (o.length * o.length) f := by unfold ledL; rw [ef]
  have fv : ∀ i k, k < o.length → f (i * o.length + k) = (c.getD (own o i) []).getD (own o k) 0 := fun i k hk => by
    rw [ef]
    show e2 c (own o ((i * o.length + k) / o.length)) (own o ((i * o.length + k) % o.length)) = _
    rw [idx_div hk, idx_mod hk]
  rw [e]
  obtain ⟨r, er⟩ : ∃ r, o.length = r := ⟨_, rfl⟩
  simp only [er] at fv h3 lG ⊢
  have cl := hc.1
  refine FreshCall.intro (n := 42) (rs := [.tmp 4]) Try.call43 Try.func43 rfl rfl rfl (by simp only [List.length_cons, List.length_nil]; omega) (fun cx hcx => ats_of ?_); simp only [argSlots, Nat.zero_add, Nat.reduceAdd]
  (repeat refine ats_seq ?_); refine ats_go (by first | exact fix0 hcx | exact fix1 hcx rfl) fun K hK => ?_; simp only [go_sem, seval]; (repeat refine And.intro (by first | omega | (intro hq; first | omega | (simp at hq <;> omega) | (simp_all <;> omega))) ?_); refine hK _ ?_; clear hK K
  (repeat refine ats_seq ?_); refine ats_go (by first | exact fix0 hcx | exact fix1 hcx rfl) fun K hK => ?_; simp only [go_sem, seval]
  (repeat refine And.intro (by first | omega | (intro hq; first | omega | (simp at hq <;> omega) | (simp_all <;> omega))) ?_)
  first | refine fcall_fresh rfl (hG) ?_ | refine YR_intro (acall_fresh rfl (hG)) ?_
  simp only [go_sem, seval]
  (repeat refine And.intro (by first | omega | (intro hq; first | omega | (simp at hq <;> omega) | (simp_all <;> omega))) ?_)
  refine hK _ ?_; clear hK K
  (repeat refine ats_seq ?_); refine ats_go (by first | exact fix0 hcx | exact fix1 hcx rfl) fun K hK => ?_; simp only [go_sem, seval]; (repeat refine And.intro (by first | omega | (intro hq; first | omega | (simp at hq <;> omega) | (simp_all <;> omega))) ?_); refine hK _ ?_; clear hK K
  (repeat refine ats_seq ?_); refine ats_loop (fun i : Nat => ⟨[(1, .l2 c), (5, .l1 g), (6, .ref 1 []), (7, .int i)], [(0, .bx [.l1 o, .int m, .l3 w]), (1, .t1 (rowF (i * r) f))]⟩) (fun i => i ≤ r) (fun i => r - i) 0 (Nat.zero_le _) (by
    rw [Nat.zero_mul]
    refine And.intro ?_ rfl; simp only [SlotsLe, St.get, slotGet, Nat.reduceEqDiff, ↓reduceIte, AV.int.injEq, AV.bool.injEq, AV.l1.injEq, AV.l2.injEq, AV.l3.injEq, true_and, and_true]
    try rfl) (fun i hi => ?_)
  (repeat refine ats_seq ?_); refine ats_go (by first | exact fix0 hcx | exact fix1 hcx rfl) fun K hK => ?_; simp only [go_sem, seval]; (repeat refine And.intro (by first | omega | (intro hq; first | omega | (simp at hq <;> omega) | (simp_all <;> omega))) ?_); refine hK _ ?_; clear hK K
  (repeat refine ats_seq ?_); first | refine ats_ifn (p := _) rfl trivial (fun hc2 => ?_) (fun hc2 => ?_) | refine ats_ifp (p := _) rfl trivial (fun hc2 => ?_) (fun hc2 => ?_) | refine ats_cond rfl trivial (fun hc2 => ?_) (fun hc2 => ?_)
  · have hi : i < r := by omega
    have oi := (getOwn hck (by rw [er]; exact hi)).1
    rw [hn] at oi
    have ci := hc.row oi
    have gi := gG i (by rw [er]; exact hi)
    refine ats_skip ?_
    (repeat refine ats_seq ?_); refine ats_block ?_
    (repeat refine ats_seq ?_); refine ats_go (by first | exact fix0 hcx | exact fix1 hcx rfl) fun K hK => ?_; simp only [go_sem, seval]; (repeat refine And.intro (by first | omega | (intro hq; first | omega | (simp at hq <;> omega) | (simp_all <;> omega))) ?_); refine hK _ ?_; clear hK K
    (repeat refine ats_seq ?_); refine ats_loop (fun k : Nat => ⟨[(1, .l2 c), (5, .l1 g), (6, .ref 1 []), (7, .int i), (8, .int k)], [(0, .bx [.l1 o, .int m, .l3 w]), (1, .t1 (rowF (i * r + k) f))]⟩) (fun k => k ≤ r) (fun k => r - k) 0 (Nat.zero_le _) (by refine And.intro ?_ rfl; simp only [SlotsLe, St.get, slotGet, Nat.reduceEqDiff, ↓reduceIte, true_and, and_true, AV.int.injEq, AV.bool.injEq, AV.l1.injEq, AV.l2.injEq, AV.l3.injEq]; repeat' (first | rfl | with_reducible refine And.intro ?_ ?_ | omega)) (fun k hk => ?_)
    (repeat refine ats_seq ?_); refine ats_go (by first | exact fix0 hcx | exact fix1 hcx rfl) fun K hK => ?_; simp only [go_sem, seval]; (repeat refine And.intro (by first | omega | (intro hq; first | omega | (simp at hq <;> omega) | (simp_all <;> omega))) ?_); refine hK _ ?_; clear hK K
    (repeat refine ats_seq ?_); first | refine ats_ifn (p := _) rfl trivial (fun hc4 => ?_) (fun hc4 => ?_) | refine ats_ifp (p := _) rfl trivial (fun hc4 => ?_) (fun hc4 => ?_) | refine ats_cond rfl trivial (fun hc4 => ?_) (fun hc4 => ?_)
    · have hkr : k < r := by omega
      have ok := (getOwn hck (by rw [er]; exact hkr)).1
      rw [hn] at ok
      have gk := gG k (by rw [er]; exact hkr)
      have fk := fv i k hkr
      have es := rowP_succ (k := i * r + k) (f := f)
      rw [fk] at es
      have ij := idx_lt hi hkr
      have rr : r * r ≤ 9 := by have := Nat.mul_le_mul h3 h3; omega
      have lr : (rowF (i * r + k) f).length = i * r + k := rowF_length ..
      refine ats_skip ?_
      (repeat refine ats_seq ?_); refine ats_block ?_
      (repeat refine ats_seq ?_)
      refine ats_plan [] (.one 0 (.one 1 (.one 2 (.one 3 (.one 4 (.one 5 (.one 6 (.one 7 (.one 8 (.one 9 (.one 10 (.one 11 (.one 12 (.one 13 (.alt 14 (.alt 15 (.one 16 .fin) .stop) .stop))))))))))))))) ⟨[(1, .l2 c), (5, .l1 g), (6, .ref 1 []), (7, .int i), (8, .int k)], [(0, .bx [.l1 o, .int m, .l3 w]), (1, .t1 (rowF (i * r + k) f ++ [(c.getD (own o i) []).getD (own o k) 0])), (2, .t1 [(c.getD (own o i) []).getD (own o k) 0])]⟩ (fix0 hcx) mixed (by kernel_rfl) (fun K hK => ?_) ?_
      · simp only [go_sem, seval, Option.getD_some, and_true, true_and, and_self, List.contains_cons, List.contains_nil, Bool.or_false, Bool.or_true]
        repeat' (first | exact hK _ (by refine And.intro ?_ rfl; simp only [SlotsLe, St.get, slotGet, Nat.reduceEqDiff, ↓reduceIte, AV.int.injEq, AV.bool.injEq, AV.l1.injEq, AV.l2.injEq, AV.l3.injEq, true_and, and_true])  | with_reducible refine And.intro ?_ ?_ | omega | ((simp only [gi, gk, Int.toNat_natCast])))
      rw [← es]
      (repeat refine ats_seq ?_); refine ats_go (by first | exact fix0 hcx | exact fix1 hcx rfl) fun K hK => ?_; simp only [go_sem, seval]; (repeat refine And.intro (by first | omega | (intro hq; first | omega | (simp at hq <;> omega) | (simp_all <;> omega))) ?_); refine hK _ ?_; clear hK K
      refine ⟨k + 1, by omega, by omega, .inr ⟨[2], by simp only [killL, List.map_cons, List.map_nil, killA, killAs, qOf, rmT, killH, killT, List.filter_cons, List.filter_nil, List.contains_cons, List.contains_nil, SlotsLe, St.get, slotGet, Nat.reduceEqDiff, Nat.reduceBEq, Bool.or_false, Bool.or_true, Bool.false_and, Bool.not_true, Bool.not_false, Bool.false_eq_true, ↓reduceIte, if_true, if_false, AV.int.injEq, AV.bool.injEq, AV.l1.injEq, AV.l2.injEq, AV.l3.injEq, true_and, and_true]; omega, by simp only [killL, List.map_cons, List.map_nil, killA, killAs, qOf, rmT, killH, killT, List.filter_cons, List.filter_nil, List.contains_cons, List.contains_nil, SlotsLe, St.get, slotGet, Nat.reduceEqDiff, Nat.reduceBEq, Bool.or_false, Bool.or_true, Bool.false_and, Bool.not_true, Bool.not_false, Bool.false_eq_true, ↓reduceIte, if_true, if_false, AV.int.injEq, AV.bool.injEq, AV.l1.injEq, AV.l2.injEq, AV.l3.injEq, true_and, and_true]; (try rfl)⟩⟩
    · obtain rfl : k = r := by omega
      refine ats_exit (lq_x ?_)
      (repeat refine ats_seq ?_); refine ats_go (by first | exact fix0 hcx | exact fix1 hcx rfl) fun K hK => ?_; simp only [go_sem, seval]; (repeat refine And.intro (by first | omega | (intro hq; first | omega | (simp at hq <;> omega) | (simp_all <;> omega))) ?_); refine hK _ ?_; clear hK K
      refine ⟨i + 1,  by omega, by omega, .inl ⟨by simp only [SlotsLe, St.get, slotGet, Nat.reduceEqDiff, ↓reduceIte, AV.int.injEq, AV.bool.injEq, AV.l1.injEq, AV.l2.injEq, AV.l3.injEq, true_and, and_true]; omega,  (by rw [Nat.succ_mul])⟩⟩
  · obtain rfl : i = r := by omega
    refine ats_exit (lq_x ?_)
    (repeat refine ats_seq ?_); refine ats_go (by first | exact fix0 hcx | exact fix1 hcx rfl) fun K hK => ?_; simp only [go_sem, seval]; (repeat refine And.intro (by first | omega | (intro hq; first | omega | (simp at hq <;> omega) | (simp_all <;> omega))) ?_); refine hK _ ?_; clear hK K
    exact ats_ret (ownV (is := [1]) rfl ⟨rfl, trivial⟩ rfl (by simp))
end Go.Proofs.Ytaijdhkjemffhaa
