/-
  What fits: the last point of a beginning of an isomorphism of actions, on both sides.
-/
import Derived.Test.YtbddekioaigbhaaGp
set_option linter.unusedSimpArgs false
set_option linter.unusedVariables false
namespace Go.Proofs.Ytbddekioaigbhaa
open Go Go.Aw Go.Pl

/-- The last point of a list fits. -/
def fitsP (k l : Nat) (a b : List (List (List Int))) (p : List Int) : Prop := ∀ i, i < k → ∀ x, x ≤ l → e3 a i x l = e3 b i (p.getD x 0).toNat (p.getD l 0).toNat ∧ e3 a i l x = e3 b i (p.getD l 0).toNat (p.getD x 0).toNat
theorem okA_iff {k : Nat} {a b : List (List (List Int))} {p : List Int} {y : Nat} : OkA k a b p y ↔ hasI p y = false ∧ fitsP k p.length a b (p ++ [(y : Int)]) := by
  have e : (p ++ [(y : Int)]).getD p.length 0 = (y : Int) := getD_snocR
  unfold fitsP
  constructor
  · intro h
    refine ⟨h.no, fun i hi x hx => ?_⟩
    rw [e, Int.toNat_natCast]
    exact h.e i hi x hx
  · rintro ⟨h1, h2⟩
    refine ⟨h1, fun i hi x hx => ?_⟩
    have := h2 i hi x hx
    rw [e, Int.toNat_natCast] at this
    exact this

set_option maxRecDepth 20000 in
set_option maxHeartbeats 8000000 in
theorem l09Fits_ok (k n l : Nat) (a b : List (List (List Int))) (p : List Int) (ha : ∀ i, i < k → MatOk n (a.getD i [])) (hb : ∀ i, i < k → MatOk n (b.getD i [])) (la : a.length = k) (lb : b.length = k) (hp : QOk n p) (hpl : p.length = l + 1) (hln : l < n) (hn16 : n ≤ 16) (hk16 : k ≤ 16) :
    PureCall Try.prog 53 [.agg [.l3 a], .agg [.l3 b], .l1 p] (.bool (bd (fitsP k l a b p))) := by
  have hpq := hp l (by omega)
  refine PureCall.intro (n := 85) (rs := [.tmp 6]) Try.call53 Try.func53 rfl rfl rfl (by simp only [List.length_cons, List.length_nil]; omega) (fun cx hcx => ats_of ?_); simp only [argSlots, Nat.zero_add, Nat.reduceAdd]
  (repeat refine ats_seq ?_); refine ats_go (fix0 hcx) fun K hK => ?_; simp only [go_sem, seval]; (repeat refine And.intro (by first | omega | (intro hq; first | omega | (simp at hq <;> omega) | (simp_all <;> omega))) ?_); refine hK _ ?_; clear hK K
  (repeat refine ats_seq ?_); refine ats_go (fix0 hcx) fun K hK => ?_; simp only [go_sem, seval]
  simp only [hpl, show ((l + 1 : Nat) : Int) - 1 = (l : Int) by omega]
  (repeat refine And.intro (by first | omega | (intro hq; first | omega | (simp at hq <;> omega) | (simp_all <;> omega))) ?_)
  refine hK _ ?_; clear hK K
  (repeat refine ats_seq ?_); refine ats_go (fix0 hcx) fun K hK => ?_; simp only [go_sem, seval]; (repeat refine And.intro (by first | omega | (intro hq; first | omega | (simp at hq <;> omega) | (simp_all <;> omega))) ?_); refine hK _ ?_; clear hK K
  (repeat refine ats_seq ?_); refine ats_loop (fun i : Nat => ⟨[(2, .l1 p), (3, .bptr 0 0), (4, .bptr 1 0), (7, .int l), (8, .int i)], [(0, .bx [.l3 a]), (1, .bx [.l3 b])]⟩) (fun i => i ≤ k ∧ ∀ j, j < i → ∀ x, x ≤ l → e3 a j x l = e3 b j (p.getD x 0).toNat (p.getD l 0).toNat ∧ e3 a j l x = e3 b j (p.getD l 0).toNat (p.getD x 0).toNat) (fun i => k - i) 0 ⟨Nat.zero_le _, fun j hj => absurd hj (Nat.not_lt_zero j)⟩ (by
    refine And.intro ?_ rfl; simp only [SlotsLe, St.get, slotGet, Nat.reduceEqDiff, ↓reduceIte, AV.int.injEq, AV.bool.injEq, AV.l1.injEq, AV.l2.injEq, AV.l3.injEq, true_and, and_true]
    try rfl) (fun i hi => ?_)
  obtain ⟨hi, hgi⟩ := hi
  (repeat refine ats_seq ?_); refine ats_go (fix0 hcx) fun K hK => ?_; simp only [go_sem, seval]
  try simp only [la]
  (repeat refine And.intro (by first | omega | (intro hq; first | omega | (simp at hq <;> omega) | (simp_all <;> omega))) ?_)
  refine hK _ ?_; clear hK K
  (repeat refine ats_seq ?_); first | refine ats_ifn (p := _) rfl trivial (fun h1 => ?_) (fun h1 => ?_) | refine ats_ifp (p := _) rfl trivial (fun h1 => ?_) (fun h1 => ?_) | refine ats_cond rfl trivial (fun h1 => ?_) (fun h1 => ?_)
  · have hai := ha i (by omega)
    have hbi := hb i (by omega)
    have lai := hai.1
    have lbi := hbi.1
    have ral := hai.row hln
    have rbl := hbi.row (show (p.getD l 0).toNat < n by omega)
    refine ats_skip ?_
    (repeat refine ats_seq ?_); refine ats_block ?_
    (repeat refine ats_seq ?_); refine ats_go (fix0 hcx) fun K hK => ?_; simp only [go_sem, seval]; (repeat refine And.intro (by first | omega | (intro hq; first | omega | (simp at hq <;> omega) | (simp_all <;> omega))) ?_); refine hK _ ?_; clear hK K
    
    (repeat refine ats_seq ?_); refine ats_loop (fun x : Nat => ⟨[(2, .l1 p), (3, .bptr 0 0), (4, .bptr 1 0), (7, .int l), (8, .int i), (9, .int x)], [(0, .bx [.l3 a]), (1, .bx [.l3 b])]⟩) (fun x => x ≤ l + 1 ∧ ∀ j, j < x → e3 a i j l = e3 b i (p.getD j 0).toNat (p.getD l 0).toNat ∧ e3 a i l j = e3 b i (p.getD l 0).toNat (p.getD j 0).toNat) (fun x => l + 1 - x) 0 ⟨Nat.zero_le _, fun j hj => absurd hj (Nat.not_lt_zero j)⟩ (by
      refine And.intro ?_ rfl; simp only [SlotsLe, St.get, slotGet, Nat.reduceEqDiff, ↓reduceIte, AV.int.injEq, AV.bool.injEq, AV.l1.injEq, AV.l2.injEq, AV.l3.injEq, true_and, and_true]
      try rfl) (fun x hx => ?_)
    obtain ⟨hx, hgx⟩ := hx
    (repeat refine ats_seq ?_); refine ats_go (fix0 hcx) fun K hK => ?_; simp only [go_sem, seval]; (repeat refine And.intro (by first | omega | (intro hq; first | omega | (simp at hq <;> omega) | (simp_all <;> omega))) ?_); refine hK _ ?_; clear hK K
    (repeat refine ats_seq ?_); first | refine ats_ifn (p := _) rfl trivial (fun h2 => ?_) (fun h2 => ?_) | refine ats_ifp (p := _) rfl trivial (fun h2 => ?_) (fun h2 => ?_) | refine ats_cond rfl trivial (fun h2 => ?_) (fun h2 => ?_)
    · have hpx := hp x (by omega)
      have rax := hai.row (show x < n by omega)
      have rbx := hbi.row (show (p.getD x 0).toNat < n by omega)
      refine ats_skip ?_
      (repeat refine ats_seq ?_); refine ats_block ?_
      (repeat refine ats_seq ?_); refine ats_pick (fix0 hcx) mixed (by kernel_rfl) fun K hK => ?_; simp only [go_sem, seval]
      simp only [la, lb]
      (repeat refine And.intro (by first | omega | (intro hq; first | omega | (simp at hq <;> omega) | (simp_all <;> omega))) ?_)
      refine hK _ ?_; clear hK K
      (repeat refine ats_seq ?_); first | refine ats_ifn (p := _) rfl trivial (fun h3 => ?_) (fun h3 => ?_) | refine ats_ifp (p := _) rfl trivial (fun h3 => ?_) (fun h3 => ?_) | refine ats_cond rfl trivial (fun h3 => ?_) (fun h3 => ?_)
      · have hno : ¬ fitsP k l a b p := fun h => by
          have := h i (by omega) x (by omega)
          unfold e3 at this
          rw [this.1, this.2] at h3
          simp at h3
        rw [bd_false hno]
        (repeat refine ats_seq ?_); refine ats_go (fix0 hcx) fun K hK => ?_; simp only [go_sem, seval]; (repeat refine And.intro (by first | omega | (intro hq; first | omega | (simp at hq <;> omega) | (simp_all <;> omega))) ?_); refine hK _ ?_; clear hK K
        exact ats_ret (finV rfl ⟨rfl, trivial⟩ rfl)
      · simp only [Bool.or_eq_false_iff, Bool.not_eq_false', decide_eq_true_eq] at h3
        refine ats_skip ?_
        (repeat refine ats_seq ?_); refine ats_go (fix0 hcx) fun K hK => ?_; simp only [go_sem, seval]; (repeat refine And.intro (by first | omega | (intro hq; first | omega | (simp at hq <;> omega) | (simp_all <;> omega))) ?_); refine hK _ ?_; clear hK K
        refine ⟨x + 1,  ⟨by omega, fun j hj => by rcases Nat.lt_succ_iff_lt_or_eq.1 hj with h | rfl; exact hgx j h; exact h3⟩, by omega, .inl ⟨by simp only [SlotsLe, St.get, slotGet, Nat.reduceEqDiff, ↓reduceIte, AV.int.injEq, AV.bool.injEq, AV.l1.injEq, AV.l2.injEq, AV.l3.injEq, true_and, and_true]; (try omega),  rfl⟩⟩
    · obtain rfl : x = l + 1 := by omega
      refine ats_exit (lq_x ?_)
      (repeat refine ats_seq ?_); refine ats_go (fix0 hcx) fun K hK => ?_; simp only [go_sem, seval]; (repeat refine And.intro (by first | omega | (intro hq; first | omega | (simp at hq <;> omega) | (simp_all <;> omega))) ?_); refine hK _ ?_; clear hK K
      refine ⟨i + 1,  ⟨by omega, fun j hj => by rcases Nat.lt_succ_iff_lt_or_eq.1 hj with h | rfl; exact hgi j h; exact fun x hx => hgx x (by omega)⟩, by omega, .inl ⟨by simp only [SlotsLe, St.get, slotGet, Nat.reduceEqDiff, ↓reduceIte, AV.int.injEq, AV.bool.injEq, AV.l1.injEq, AV.l2.injEq, AV.l3.injEq, true_and, and_true]; (try omega),  rfl⟩⟩
  · have hyes : fitsP k l a b p := fun i' hi' => hgi i' (by omega)
    rw [bd_true hyes]
    refine ats_exit (lq_x ?_)
    (repeat refine ats_seq ?_); refine ats_go (fix0 hcx) fun K hK => ?_; simp only [go_sem, seval]; (repeat refine And.intro (by first | omega | (intro hq; first | omega | (simp at hq <;> omega) | (simp_all <;> omega))) ?_); refine hK _ ?_; clear hK K
    exact ats_ret (finV rfl ⟨rfl, trivial⟩ rfl)

set_option maxRecDepth 20000 in
set_option maxHeartbeats 8000000 in
theorem pointsAgree_ok (k n l : Nat) (a b : List (List (List Int))) (p : List Int) (ha : ∀ i, i < k → MatOk n (a.getD i [])) (hb : ∀ i, i < k → MatOk n (b.getD i [])) (la : a.length = k) (lb : b.length = k) (hp : QOk n p) (hpl : p.length = l + 1) (hln : l < n) (hn16 : n ≤ 16) (hk16 : k ≤ 16) :
    PureCall Try.prog 25 [.agg [.l3 a], .agg [.l3 b], .l1 p] (.bool (bd (fitsP k l a b p))) := by
  have hpq := hp l (by omega)
  refine PureCall.intro (n := 83) (rs := [.tmp 6]) Try.call25 Try.func25 rfl rfl rfl (by simp only [List.length_cons, List.length_nil]; omega) (fun cx hcx => ats_of ?_); simp only [argSlots, Nat.zero_add, Nat.reduceAdd]
  (repeat refine ats_seq ?_); refine ats_go (fix0 hcx) fun K hK => ?_; simp only [go_sem, seval]; (repeat refine And.intro (by first | omega | (intro hq; first | omega | (simp at hq <;> omega) | (simp_all <;> omega))) ?_); refine hK _ ?_; clear hK K
  (repeat refine ats_seq ?_); refine ats_go (fix0 hcx) fun K hK => ?_; simp only [go_sem, seval]
  simp only [hpl, show ((l + 1 : Nat) : Int) - 1 = (l : Int) by omega]
  (repeat refine And.intro (by first | omega | (intro hq; first | omega | (simp at hq <;> omega) | (simp_all <;> omega))) ?_)
  refine hK _ ?_; clear hK K
  (repeat refine ats_seq ?_); refine ats_go (fix0 hcx) fun K hK => ?_; simp only [go_sem, seval]
  try simp only [la]
  (repeat refine And.intro (by first | omega | (intro hq; first | omega | (simp at hq <;> omega) | (simp_all <;> omega))) ?_)
  refine hK _ ?_; clear hK K
  (repeat refine ats_seq ?_); refine ats_loop (fun i : Nat => ⟨[(2, .l1 p), (3, .bptr 0 0), (4, .bptr 1 0), (7, .int l), (16, .int k), (17, .int i)], [(0, .bx [.l3 a]), (1, .bx [.l3 b])]⟩) (fun i => i ≤ k ∧ ∀ j, j < i → ∀ x, x ≤ l → e3 a j x l = e3 b j (p.getD x 0).toNat (p.getD l 0).toNat ∧ e3 a j l x = e3 b j (p.getD l 0).toNat (p.getD x 0).toNat) (fun i => k - i) 0 ⟨Nat.zero_le _, fun j hj => absurd hj (Nat.not_lt_zero j)⟩ (by
    refine And.intro ?_ rfl; simp only [SlotsLe, St.get, slotGet, Nat.reduceEqDiff, ↓reduceIte, AV.int.injEq, AV.bool.injEq, AV.l1.injEq, AV.l2.injEq, AV.l3.injEq, true_and, and_true]
    try rfl) (fun i hi => ?_)
  obtain ⟨hi, hgi⟩ := hi
  (repeat refine ats_seq ?_); refine ats_go (fix0 hcx) fun K hK => ?_; simp only [go_sem, seval]
  try simp only [la]
  (repeat refine And.intro (by first | omega | (intro hq; first | omega | (simp at hq <;> omega) | (simp_all <;> omega))) ?_)
  refine hK _ ?_; clear hK K
  (repeat refine ats_seq ?_); first | refine ats_ifn (p := _) rfl trivial (fun h1 => ?_) (fun h1 => ?_) | refine ats_ifp (p := _) rfl trivial (fun h1 => ?_) (fun h1 => ?_) | refine ats_cond rfl trivial (fun h1 => ?_) (fun h1 => ?_)
  · have hai := ha i (by omega)
    have hbi := hb i (by omega)
    have lai := hai.1
    have lbi := hbi.1
    have ral := hai.row hln
    have rbl := hbi.row (show (p.getD l 0).toNat < n by omega)
    refine ats_skip ?_
    (repeat refine ats_seq ?_); refine ats_block ?_
    (repeat refine ats_seq ?_); refine ats_go (fix0 hcx) fun K hK => ?_; simp only [go_sem, seval]; (repeat refine And.intro (by first | omega | (intro hq; first | omega | (simp at hq <;> omega) | (simp_all <;> omega))) ?_); refine hK _ ?_; clear hK K
    (repeat refine ats_seq ?_); refine ats_go (fix0 hcx) fun K hK => ?_; simp only [go_sem, seval]
    simp only [hpl]
    (repeat refine And.intro (by first | omega | (intro hq; first | omega | (simp at hq <;> omega) | (simp_all <;> omega))) ?_)
    refine hK _ ?_; clear hK K
    (repeat refine ats_seq ?_); refine ats_loop (fun x : Nat => ⟨[(2, .l1 p), (3, .bptr 0 0), (4, .bptr 1 0), (7, .int l), (8, .int i), (16, .int k), (17, .int i), (20, .l1 p), (21, .int (l + 1 : Nat)), (22, .int x)], [(0, .bx [.l3 a]), (1, .bx [.l3 b])]⟩) (fun x => x ≤ l + 1 ∧ ∀ j, j < x → e3 a i j l = e3 b i (p.getD j 0).toNat (p.getD l 0).toNat ∧ e3 a i l j = e3 b i (p.getD l 0).toNat (p.getD j 0).toNat) (fun x => l + 1 - x) 0 ⟨Nat.zero_le _, fun j hj => absurd hj (Nat.not_lt_zero j)⟩ (by
      refine And.intro ?_ rfl; simp only [SlotsLe, St.get, slotGet, Nat.reduceEqDiff, ↓reduceIte, AV.int.injEq, AV.bool.injEq, AV.l1.injEq, AV.l2.injEq, AV.l3.injEq, true_and, and_true]
      try rfl) (fun x hx => ?_)
    obtain ⟨hx, hgx⟩ := hx
    (repeat refine ats_seq ?_); refine ats_go (fix0 hcx) fun K hK => ?_; simp only [go_sem, seval]; (repeat refine And.intro (by first | omega | (intro hq; first | omega | (simp at hq <;> omega) | (simp_all <;> omega))) ?_); refine hK _ ?_; clear hK K
    (repeat refine ats_seq ?_); first | refine ats_ifn (p := _) rfl trivial (fun h2 => ?_) (fun h2 => ?_) | refine ats_ifp (p := _) rfl trivial (fun h2 => ?_) (fun h2 => ?_) | refine ats_cond rfl trivial (fun h2 => ?_) (fun h2 => ?_)
    · have hpx := hp x (by omega)
      have rax := hai.row (show x < n by omega)
      have rbx := hbi.row (show (p.getD x 0).toNat < n by omega)
      refine ats_skip ?_
      (repeat refine ats_seq ?_); refine ats_block ?_
      (repeat refine ats_seq ?_); refine ats_go (fix0 hcx) fun K hK => ?_; simp only [go_sem, seval]; (repeat refine And.intro (by first | omega | (intro hq; first | omega | (simp at hq <;> omega) | (simp_all <;> omega))) ?_); refine hK _ ?_; clear hK K
      (repeat refine ats_seq ?_); refine ats_pick (fix0 hcx) mixed (by kernel_rfl) fun K hK => ?_; simp only [go_sem, seval]
      simp only [la, lb]
      (repeat refine And.intro (by first | omega | (intro hq; first | omega | (simp at hq <;> omega) | (simp_all <;> omega))) ?_)
      refine hK _ ?_; clear hK K
      (repeat refine ats_seq ?_); first | refine ats_ifn (p := _) rfl trivial (fun h3 => ?_) (fun h3 => ?_) | refine ats_ifp (p := _) rfl trivial (fun h3 => ?_) (fun h3 => ?_) | refine ats_cond rfl trivial (fun h3 => ?_) (fun h3 => ?_)
      · have hno : ¬ fitsP k l a b p := fun h => by
          have := h i (by omega) x (by omega)
          unfold e3 at this
          rw [this.1, this.2] at h3
          simp at h3
        rw [bd_false hno]
        (repeat refine ats_seq ?_); refine ats_go (fix0 hcx) fun K hK => ?_; simp only [go_sem, seval]; (repeat refine And.intro (by first | omega | (intro hq; first | omega | (simp at hq <;> omega) | (simp_all <;> omega))) ?_); refine hK _ ?_; clear hK K
        exact ats_ret (finV rfl ⟨rfl, trivial⟩ rfl)
      · simp only [Bool.or_eq_false_iff, Bool.not_eq_false', decide_eq_true_eq] at h3
        refine ats_skip ?_
        (repeat refine ats_seq ?_); refine ats_go (fix0 hcx) fun K hK => ?_; simp only [go_sem, seval]; (repeat refine And.intro (by first | omega | (intro hq; first | omega | (simp at hq <;> omega) | (simp_all <;> omega))) ?_); refine hK _ ?_; clear hK K
        refine ⟨x + 1,  ⟨by omega, fun j hj => by rcases Nat.lt_succ_iff_lt_or_eq.1 hj with h | rfl; exact hgx j h; exact h3⟩, by omega, .inl ⟨by simp only [SlotsLe, St.get, slotGet, Nat.reduceEqDiff, ↓reduceIte, AV.int.injEq, AV.bool.injEq, AV.l1.injEq, AV.l2.injEq, AV.l3.injEq, true_and, and_true]; (try omega),  rfl⟩⟩
    · obtain rfl : x = l + 1 := by omega
      refine ats_exit (lq_x ?_)
      (repeat refine ats_seq ?_); refine ats_go (fix0 hcx) fun K hK => ?_; simp only [go_sem, seval]; (repeat refine And.intro (by first | omega | (intro hq; first | omega | (simp at hq <;> omega) | (simp_all <;> omega))) ?_); refine hK _ ?_; clear hK K
      refine ⟨i + 1,  ⟨by omega, fun j hj => by rcases Nat.lt_succ_iff_lt_or_eq.1 hj with h | rfl; exact hgi j h; exact fun x hx => hgx x (by omega)⟩, by omega, .inl ⟨by simp only [SlotsLe, St.get, slotGet, Nat.reduceEqDiff, ↓reduceIte, AV.int.injEq, AV.bool.injEq, AV.l1.injEq, AV.l2.injEq, AV.l3.injEq, true_and, and_true]; (try omega),  rfl⟩⟩
  · have hyes : fitsP k l a b p := fun i' hi' => hgi i' (by omega)
    rw [bd_true hyes]
    refine ats_exit (lq_x ?_)
    (repeat refine ats_seq ?_); refine ats_go (fix0 hcx) fun K hK => ?_; simp only [go_sem, seval]; (repeat refine And.intro (by first | omega | (intro hq; first | omega | (simp at hq <;> omega) | (simp_all <;> omega))) ?_); refine hK _ ?_; clear hK K
    exact ats_ret (finV rfl ⟨rfl, trivial⟩ rfl)
end Go.Proofs.Ytbddekioaigbhaa
