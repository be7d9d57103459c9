import Derived.Test.YtcmgjlgmajhekaaYz2
set_option linter.unusedSimpArgs false
set_option linter.unusedVariables false
namespace Go.Proofs.Ytcmgjlgmajhekaa
open Go Go.Aw Go.Pl
attribute [local go_sem] pl_fin pl_stop pl_one pl_alt PK_ap pickO List.getElem?_toArray List.getElem?_cons_zero List.getElem?_cons_succ
theorem bdL_length {o : List Int} {p : Int} {n : Nat} : (bdL o p n).length = (n - 1) * (n - 1) := by
 have h1 : ∀ x, ((List.range x).flatMap fun i => (List.range (n - 1)).map fun j => flF n (cbV o p (unM n (i + 1) (j + 1)))).length = x * (n - 1) := by
  intro x
  induction x with
  | zero => simp
  | succ x ih =>
   rw [List.range_succ, List.flatMap_append, List.length_append, ih, Nat.succ_mul]
   simp
 unfold bdL bdP
 rw [List.length_append, h1]
 simp
theorem sq_one {k : Nat} (h : k * k = 1) : k = 1 := by
 rcases Nat.lt_or_ge k 1 with h1 | h1
 ·have : k = 0 := by omega
  rw [this] at h
  omega
 ·rcases Nat.lt_or_ge k 2 with h2 | h2
  ·omega
  ·have := Nat.mul_le_mul h2 h2
   omega
theorem sq_zero {k : Nat} (h : k * k = 0) : k = 0 := by
 rcases Nat.mul_eq_zero.1 h with h | h <;> exact h
theorem bd_zero {o : List Int} {p : Int} {n : Nat} (hp : PosO o) (hn : (n : Int) = prodO o) (p2 : 2 ≤ p) (h : (bdL o p n).length = 1) : ∀ k, k < n * n * n → e2 (bdL o p n) 0 k = 0 := by
 rw [bdL_length] at h
 have n2 : n = 2 := by have := sq_one h; omega
 subst n2
 have g := hp.grp
 rw [nO hn] at g
 have hP : PairB 2 p (unM 2 1 1) := ⟨unM_B p2, fun x hx => ⟨by rw [unM_e2 (by omega) hx, if_neg (by omega)], by rw [unM_e2 hx (by omega), if_neg (by omega)]⟩⟩
 have hN := cob_norm hp hn hP
 have hl : (cobW o p 2 (unM 2 1 1)).length = 2 := cobW_len
 have a11 : ad o 1 1 = 0 := by
  have h1 := g.ir 1 (by omega)
  have h2 := g.ilt 1 (by omega)
  have h3 := g.zr 1 (by omega)
  rcases Nat.lt_or_ge (ngO o 1) 1 with h4 | h4
  ·have e : ngO o 1 = 0 := by omega
   rw [e, h3] at h1
   omega
  ·have e : ngO o 1 = 1 := by omega
   rw [e] at h1
   exact h1
 have v : ∀ x, x < 2 → ∀ y, y < 2 → ∀ z, z < 2 → cbV o p (unM 2 1 1) x y z = 0 := fun x hx y hy z hz => by
  rw [← cobW_e3 hx hy hz]
  by_cases x0 : x = 0
  ·rw [x0]; exact (hN y (by omega) z (by omega)).1
  ·by_cases y0 : y = 0
   ·rw [y0]; exact (hN x (by omega) z (by omega)).2.1
   ·by_cases z0 : z = 0
    ·rw [z0]; exact (hN x (by omega) y (by omega)).2.2
    ·obtain rfl : x = 1 := by omega
     obtain rfl : y = 1 := by omega
     obtain rfl : z = 1 := by omega
     rw [cobW_e3 hx hy hz]
     unfold cbV cbR
     rw [a11, (hP.2 1 (by omega)).1, (hP.2 1 (by omega)).2, show e2 (unM 2 1 1) 1 1 - 0 + 0 - e2 (unM 2 1 1) 1 1 = 0 by omega, Int.zero_emod]
 intro k hk
 have e : e2 (bdL o p 2) 0 k = (flF 2 (cbV o p (unM 2 1 1))).getD k 0 := rfl
 rw [e]
 unfold flF
 rw [rowF_get hk]
 obtain ⟨h1, h2, h3⟩ := fl_bd hk
 exact v _ h1 _ h2 _ h3
theorem bdm_zero {o : List Int} {p : Int} {w : List (List (List Int))} {n : Nat} (n1 : 1 ≤ n) (hw : NormW w) (hl : w.length = n) (h : (bdL o p n ++ [flF n (e3 w)]).length = 1) : ∀ k, k < n * n * n → e2 (bdL o p n ++ [flF n (e3 w)]) 0 k = 0 := by
 have h2 : (n - 1) * (n - 1) = 0 := by
  rw [List.length_append, bdL_length, List.length_cons, List.length_nil] at h
  omega
 have e1 : n = 1 := by have := sq_zero h2; omega
 subst e1
 intro k hk
 have hk0 : k = 0 := by omega
 subst hk0
 have eb : bdL o p 1 = [] := rfl
 rw [eb]
 show (flF 1 (e3 w)).getD 0 0 = 0
 have := (hw 0 (by omega) 0 (by omega)).1
 unfold flF
 rw [rowF_get (by omega)]
 exact this
noncomputable def icC (o : List Int) (m : Int) (w : List (List (List Int))) : Int := if isCoc o m w = true then (if smB m = true then 0 else 5) else 1
noncomputable def icB (o : List Int) (m : Int) (w : List (List (List Int))) : Bool := isCoc o m w && (smB m && isCob o m w.length w)
theorem ic_facts {o : List Int} {m : Int} {w : List (List (List Int))} (h : isCoc o m w = true) : CocOk o m w := by
 unfold isCoc at h
 exact bd_iff.1 h
set_option maxHeartbeats 4000000 in
theorem specIco_ok (o : List Int) (m : Int) (w : List (List (List Int))) (hl : o.length ≤ 1048576) : PureCall Try.prog 15 [.agg [.l1 o, .int m, .l3 w]] (.tup [.bool (icB o m w), .int (icC o m w)]) := by
 have hI := l17Is_ok o m w
 have hP := l17Prime_ok m
 unfold icB icC
 cases hb : isCoc o m w with
 | false =>
  rw [hb] at hI
  refine PureCall.intro (n := 36) (rs := [.tmp 2, .tmp 3]) Try.call15 Try.func15 rfl rfl rfl (by simp only [List.length_cons, List.length_nil]; omega) (fun cx hcx => ats_of ?_); simp only [argSlots, Nat.zero_add, Nat.reduceAdd]
  refine gB ?_
  (repeat refine ats_seq ?_); refine ats_block ?_
  refine gC fun K hK => ?_
  first | refine fcall_data (hI) rfl ?_ | refine YR_intro (acall_data (hI) rfl) ?_
  simp only [go_sem, seval]
  refine hK _ ?_; clear hK K
  (repeat refine ats_seq ?_); refine ats_yes rfl trivial ?_
  refine gB ?_
  exact ats_ret (fin2 trivial trivial rfl)
 | true =>
  rw [hb] at hI
  cases hs : smB m with
  | false =>
   rw [hs] at hP
   refine PureCall.intro (n := 36) (rs := [.tmp 2, .tmp 3]) Try.call15 Try.func15 rfl rfl rfl (by simp only [List.length_cons, List.length_nil]; omega) (fun cx hcx => ats_of ?_); simp only [argSlots, Nat.zero_add, Nat.reduceAdd]
   refine gB ?_
   (repeat refine ats_seq ?_); refine ats_block ?_
   refine gC fun K hK => ?_
   first | refine fcall_data (hI) rfl ?_ | refine YR_intro (acall_data (hI) rfl) ?_
   simp only [go_sem, seval]
   refine hK _ ?_; clear hK K
   (repeat refine ats_seq ?_); refine ats_no rfl trivial ?_
   refine gC fun K hK => ?_
   first | refine fcall_data (hP) rfl ?_ | refine YR_intro (acall_data (hP) rfl) ?_
   simp only [go_sem, seval]
   refine hK _ ?_; clear hK K
   (repeat refine ats_seq ?_); refine ats_yes rfl trivial ?_
   refine gB ?_
   exact ats_ret (fin2 trivial trivial rfl)
  | true =>
   rw [hs] at hP
   have hc := ic_facts hb
   have sp := smB_iff.1 hs
   have h2 := sp.two
   obtain ⟨hC, hN, _⟩ := hc
   obtain ⟨p1, p2, p3, p4, p5, p6⟩ := hC
   obtain ⟨n, en⟩ : ∃ n, w.length = n := ⟨_, rfl⟩
   rw [en] at p5 p6 ⊢
   have n8 : n ≤ 8 := by omega
   have N8 : n * n * n ≤ 1000 := by
    have h1 : n * n ≤ 8 * 8 := Nat.mul_le_mul n8 n8
    have h2 : n * n * n ≤ 64 * 8 := Nat.mul_le_mul (by omega) n8
    omega
   have hB := l17Bounds_ok o m n p1 p2 p5 h2.1 (by omega) hl
   have hF := l17Flat_ok o m n w p6 n8
   have lB : (bdL o m n).length ≤ 100 := bdP_len n8 (by omega) (by omega)
   have hR1 := l17Rank_ok m (n * n * n) (bdL o m n) sp (bdL_Lst (by omega)) N8 (by omega)
   have hR2 := l17Rank_ok m (n * n * n) (bdL o m n ++ [flF n (e3 w)]) sp (app_Lst (bdL_Lst (by omega)) (flF_Lst fun x hx y hy z hz => by have := p6.bd hx hy hz; omega)) N8 (by rw [List.length_append, List.length_cons, List.length_nil]; omega)
   unfold isCob
   obtain ⟨R1, e1⟩ : ∃ R1, rkA m (n * n * n) (bdL o m n) = R1 := ⟨_, rfl⟩
   obtain ⟨R2, e2⟩ : ∃ R2, rkA m (n * n * n) (bdL o m n ++ [flF n (e3 w)]) = R2 := ⟨_, rfl⟩
   rw [e1] at hR1 ⊢
   rw [e2] at hR2 ⊢
   generalize bdL o m n = B at *
   generalize flF n (e3 w) = F at *
   refine PureCall.intro (n := 36) (rs := [.tmp 2, .tmp 3]) Try.call15 Try.func15 rfl rfl rfl (by simp only [List.length_cons, List.length_nil]; omega) (fun cx hcx => ats_of ?_); simp only [argSlots, Nat.zero_add, Nat.reduceAdd]
   refine gB ?_
   (repeat refine ats_seq ?_); refine ats_block ?_
   refine gC fun K hK => ?_
   first | refine fcall_data (hI) rfl ?_ | refine YR_intro (acall_data (hI) rfl) ?_
   simp only [go_sem, seval]
   refine hK _ ?_; clear hK K
   (repeat refine ats_seq ?_); refine ats_no rfl trivial ?_
   refine gC fun K hK => ?_
   first | refine fcall_data (hP) rfl ?_ | refine YR_intro (acall_data (hP) rfl) ?_
   simp only [go_sem, seval]
   refine hK _ ?_; clear hK K
   (repeat refine ats_seq ?_); refine ats_no rfl trivial ?_
   refine ats_skip ?_
   refine gC fun K hK => ?_
   first | refine fcall_fresh rfl (hB) ?_ | refine YR_intro (acall_fresh rfl (hB)) ?_
   simp only [go_sem, seval]
   refine hK _ ?_; clear hK K
   (repeat refine ats_seq ?_)
   refine ats_planG [] (.one 1 (.alt 0 (.alt 2 (.one 3 (.one 4 (.alt 5 (.alt 6 (.one 7 .fin) .stop) .stop))) (.alt 3 (.alt 2 (.one 4 (.alt 5 (.alt 6 (.one 7 .fin) .stop) .stop)) .stop) .stop)) (.alt 3 (.alt 0 (.alt 2 (.one 4 (.alt 5 (.alt 6 (.one 7 .fin) .stop) .stop)) .stop) .stop) .stop))) ⟨[(1, .bptr 0 0), (4, .l2 B), (5, .ref 1 [])], [(0, .bx [.l1 o, .int m, .l3 w]), (1, .r2 (B ++ [F])), (2, .r2 [F])]⟩ (fix0 hcx) mixed (by kernel_rfl) (fun K hK => ?_) ?_
   ·simp only [go_sem, seval, Option.getD_some, and_true, true_and, and_self, List.contains_cons, List.contains_nil, Bool.or_false, Bool.or_true]
    repeat' (first | (refine hK _ (ghost_can [] ?_ ?_); (focus (simp only [rnLs, rnL, rn, rns, sw, SlotsLe, St.get, slotGet, List.map_cons, List.map_nil, seval, AV.int.injEq, AV.bool.injEq, AV.l1.injEq, AV.l2.injEq, AV.l3.injEq, true_and, and_true]; done)); (focus (simp only [sortH, insH, rnHs, rnH, rnT, rn, rns, sw, List.map_cons, List.map_nil, seval]; done))) | (refine hK _ (ghost_can [(1, 2)] ?_ ?_); (focus (simp only [rnLs, rnL, rn, rns, sw, SlotsLe, St.get, slotGet, List.map_cons, List.map_nil, seval, AV.int.injEq, AV.bool.injEq, AV.l1.injEq, AV.l2.injEq, AV.l3.injEq, true_and, and_true]; done)); (focus (simp only [sortH, insH, rnHs, rnH, rnT, rn, rns, sw, List.map_cons, List.map_nil, seval]; done))) | with_reducible refine And.intro ?_ ?_ | omega | ((first | refine fcall_fresh rfl (hF) ?_ | refine YR_intro (acall_fresh rfl (hF)) ?_); simp only [go_sem, seval, Option.getD_some, and_true, true_and, and_self, List.contains_cons, List.contains_nil, Bool.or_false, Bool.or_true]))
   (repeat refine ats_seq ?_)
   refine ats_plan [] (.one 0 (.one 1 (.one 2 (.one 3 (.one 4 (.one 5 (.one 6 (.one 7 (.one 8 (.one 9 (.one 10 .fin))))))))))) ⟨[(2, .bool (decide ((R1 : Int) = R2))), (3, .int 0)], [(0, .bx [.l1 o, .int m, .l3 w]), (1, .r2 (B ++ [F])), (2, .r2 [F])]⟩ (fix0 hcx) mixed (by kernel_rfl) (fun K hK => ?_) ?_
   ·simp only [go_sem, seval, Option.getD_some, and_true, true_and, and_self, List.contains_cons, List.contains_nil, Bool.or_false, Bool.or_true]
    repeat' (first | exact hK _ (by refine And.intro ?_ rfl; simp only [leS, Nat.reduceEqDiff, ↓reduceIte, true_and, and_true])  | with_reducible refine And.intro ?_ ?_ | omega | ((first | refine fcall_data (hR1) rfl ?_ | refine YR_intro (acall_data (hR1) rfl) ?_); simp only [go_sem, seval, Option.getD_some, and_true, true_and, and_self, List.contains_cons, List.contains_nil, Bool.or_false, Bool.or_true]) | ((first | refine fcall_free rfl rfl (hR2) ?_ | refine YR_intro (acall_free rfl rfl (hR2)) ?_); simp only [go_sem, seval, Option.getD_some, and_true, true_and, and_self, List.contains_cons, List.contains_nil, Bool.or_false, Bool.or_true]))
   exact ats_ret (fin2 trivial trivial (by simp only [Int.ofNat_inj, Int.natCast_inj]; rfl))
set_option maxHeartbeats 4000000 in
theorem implIco_ok (o : List Int) (m : Int) (w : List (List (List Int))) (hl : o.length ≤ 1048576) : PureCall Try.prog 12 [.agg [.l1 o, .int m, .l3 w]] (.tup [.bool (icB o m w), .int (icC o m w)]) := by
 have hI := IsCocycle_ok o m w
 have hP := isSmall_ok m
 unfold icB icC
 cases hb : isCoc o m w with
 | false =>
  rw [hb] at hI
  refine PureCall.intro (n := 29) (rs := [.tmp 2, .tmp 3]) Try.call12 Try.func12 rfl rfl rfl (by simp only [List.length_cons, List.length_nil]; omega) (fun cx hcx => ats_of ?_); simp only [argSlots, Nat.zero_add, Nat.reduceAdd]
  refine gB ?_
  refine gC fun K hK => ?_
  first | refine fcall_data (hI) rfl ?_ | refine YR_intro (acall_data (hI) rfl) ?_
  simp only [go_sem, seval]
  refine hK _ ?_; clear hK K
  (repeat refine ats_seq ?_); refine ats_yes rfl trivial ?_
  refine gB ?_
  exact ats_ret (fin2 trivial trivial rfl)
 | true =>
  rw [hb] at hI
  cases hs : smB m with
  | false =>
   rw [hs] at hP
   refine PureCall.intro (n := 29) (rs := [.tmp 2, .tmp 3]) Try.call12 Try.func12 rfl rfl rfl (by simp only [List.length_cons, List.length_nil]; omega) (fun cx hcx => ats_of ?_); simp only [argSlots, Nat.zero_add, Nat.reduceAdd]
   refine gB ?_
   refine gC fun K hK => ?_
   first | refine fcall_data (hI) rfl ?_ | refine YR_intro (acall_data (hI) rfl) ?_
   simp only [go_sem, seval]
   refine hK _ ?_; clear hK K
   (repeat refine ats_seq ?_); refine ats_no rfl trivial ?_
   refine ats_skip ?_
   refine gB ?_
   refine gC fun K hK => ?_
   first | refine fcall_data (hP) rfl ?_ | refine YR_intro (acall_data (hP) rfl) ?_
   simp only [go_sem, seval]
   refine hK _ ?_; clear hK K
   (repeat refine ats_seq ?_); refine ats_yes rfl trivial ?_
   refine gB ?_
   exact ats_ret (fin2 trivial trivial rfl)
  | true =>
   rw [hs] at hP
   have hc := ic_facts hb
   have sp := smB_iff.1 hs
   have h2 := sp.two
   obtain ⟨hC, hN, _⟩ := hc
   obtain ⟨p1, p2, p3, p4, p5, p6⟩ := hC
   obtain ⟨n, en⟩ : ∃ n, w.length = n := ⟨_, rfl⟩
   rw [en] at p5 p6 ⊢
   have n8 : n ≤ 8 := by omega
   have n1 : 1 ≤ n := by have := prodO_pos p1; omega
   have N8 : n * n * n ≤ 1000 := by
    have h1 : n * n ≤ 8 * 8 := Nat.mul_le_mul n8 n8
    have h2 : n * n * n ≤ 64 * 8 := Nat.mul_le_mul (by omega) n8
    omega
   have N1 : 1 ≤ n * n * n := Nat.mul_pos (Nat.mul_pos n1 n1) n1
   have hB := coboundaries_ok o m n p1 p2 p5 h2.1 (by omega) hl
   have hF := flat_ok o m n w p6 n1 n8
   have lB : (bdL o m n).length ≤ 100 := bdP_len n8 (by omega) (by omega)
   have hL1 := bdL_Lst (o := o) (n := n) (show 1 ≤ m by omega)
   have hL2 := app_Lst hL1 (flF_Lst (n := n) (F := e3 w) fun x hx y hy z hz => by have := p6.bd hx hy hz; omega)
   have hR1 := rankM_ok m (n * n * n) (bdL o m n) sp hL1 N1 N8 (by omega) (bd_zero p1 p5 h2.1)
   have hR2 := rankM_ok m (n * n * n) (bdL o m n ++ [flF n (e3 w)]) sp hL2 N1 N8 (by rw [List.length_append, List.length_cons, List.length_nil]; omega) (bdm_zero n1 hN en)
   rw [← rk_both sp hL1] at hR1
   rw [← rk_both sp hL2] at hR2
   clear hL1 hL2
   unfold isCob
   obtain ⟨R1, e1⟩ : ∃ R1, rkA m (n * n * n) (bdL o m n) = R1 := ⟨_, rfl⟩
   obtain ⟨R2, e2⟩ : ∃ R2, rkA m (n * n * n) (bdL o m n ++ [flF n (e3 w)]) = R2 := ⟨_, rfl⟩
   rw [e1] at hR1 ⊢
   rw [e2] at hR2 ⊢
   generalize bdL o m n = B at *
   generalize flF n (e3 w) = F at *
   refine PureCall.intro (n := 29) (rs := [.tmp 2, .tmp 3]) Try.call12 Try.func12 rfl rfl rfl (by simp only [List.length_cons, List.length_nil]; omega) (fun cx hcx => ats_of ?_); simp only [argSlots, Nat.zero_add, Nat.reduceAdd]
   refine gB ?_
   refine gC fun K hK => ?_
   first | refine fcall_data (hI) rfl ?_ | refine YR_intro (acall_data (hI) rfl) ?_
   simp only [go_sem, seval]
   refine hK _ ?_; clear hK K
   (repeat refine ats_seq ?_); refine ats_no rfl trivial ?_
   refine ats_skip ?_
   refine gB ?_
   refine gC fun K hK => ?_
   first | refine fcall_data (hP) rfl ?_ | refine YR_intro (acall_data (hP) rfl) ?_
   simp only [go_sem, seval]
   refine hK _ ?_; clear hK K
   (repeat refine ats_seq ?_); refine ats_no rfl trivial ?_
   refine ats_skip ?_
   refine gC fun K hK => ?_
   refine fcall_own rfl (hB) rfl ?_; simp only [go_sem, seval]
   refine hK _ ?_; clear hK K
   (repeat refine ats_seq ?_)
   refine ats_plan [5] (.one 0 (.one 1 (.one 2 (.one 4 (.alt 3 (.alt 5 (.alt 6 (.alt 7 (.one 8 (.one 9 (.one 10 (.one 11 (.one 12 .fin))))) (.alt 8 (.alt 7 (.one 9 (.one 10 (.one 11 (.one 12 .fin)))) .stop) .stop)) (.alt 8 (.alt 6 (.alt 7 (.one 9 (.one 10 (.one 11 (.one 12 .fin)))) .stop) .stop) .stop)) (.alt 8 (.alt 5 (.alt 6 (.alt 7 (.one 9 (.one 10 (.one 11 (.one 12 .fin)))) .stop) .stop) .stop) .stop)) (.alt 5 (.alt 3 (.alt 6 (.alt 7 (.one 8 (.one 9 (.one 10 (.one 11 (.one 12 .fin))))) (.alt 8 (.alt 7 (.one 9 (.one 10 (.one 11 (.one 12 .fin)))) .stop) .stop)) (.alt 8 (.alt 6 (.alt 7 (.one 9 (.one 10 (.one 11 (.one 12 .fin)))) .stop) .stop) .stop)) (.alt 6 (.one 3 (.alt 7 (.one 8 (.one 9 (.one 10 (.one 11 (.one 12 .fin))))) (.alt 8 (.alt 7 (.one 9 (.one 10 (.one 11 (.one 12 .fin)))) .stop) .stop))) (.alt 8 (.alt 3 (.alt 6 (.alt 7 (.one 9 (.one 10 (.one 11 (.one 12 .fin)))) .stop) .stop) (.alt 6 (.one 3 (.alt 7 (.one 9 (.one 10 (.one 11 (.one 12 .fin)))) .stop)) .stop)) .stop))) (.alt 8 (.alt 3 (.alt 5 (.alt 6 (.alt 7 (.one 9 (.one 10 (.one 11 (.one 12 .fin)))) .stop) .stop) .stop) (.alt 5 (.alt 3 (.alt 6 (.alt 7 (.one 9 (.one 10 (.one 11 (.one 12 .fin)))) .stop) .stop) (.alt 6 (.one 3 (.alt 7 (.one 9 (.one 10 (.one 11 (.one 12 .fin)))) .stop)) .stop)) .stop)) .stop))))))) ⟨[(2, .bool (decide ((R1 : Int) = R2))), (3, .int 0)], [(1, .t2 (B ++ [F])), (0, .bx [.l1 o, .int m, .l3 w])]⟩ (fix0 hcx) mixed (by kernel_rfl) (fun K hK => ?_) ?_
   ·simp only [go_sem, seval, Option.getD_some, and_true, true_and, and_self, List.contains_cons, List.contains_nil, Bool.or_false, Bool.or_true]
    repeat' (first | exact hK _ (by refine And.intro ?_ rfl; simp only [leS, Nat.reduceEqDiff, ↓reduceIte, true_and, and_true])  | with_reducible refine And.intro ?_ ?_ | omega | ((first | refine fcall_free rfl rfl (hR1) ?_ | refine YR_intro (acall_free rfl rfl (hR1)) ?_); simp only [go_sem, seval, Option.getD_some, and_true, true_and, and_self, List.contains_cons, List.contains_nil, Bool.or_false, Bool.or_true]) | (refine fcall_own rfl (hF) rfl ?_; simp only [go_sem, seval, Option.getD_some, and_true, true_and, and_self, List.contains_cons, List.contains_nil, Bool.or_false, Bool.or_true]) | ((first | refine fcall_free rfl rfl (hR2) ?_ | refine YR_intro (acall_free rfl rfl (hR2)) ?_); simp only [go_sem, seval, Option.getD_some, and_true, true_and, and_self, List.contains_cons, List.contains_nil, Bool.or_false, Bool.or_true]))
   exact ats_ret (fin2 trivial trivial (by simp only [Int.ofNat_inj, Int.natCast_inj]; rfl))
end Go.Proofs.Ytcmgjlgmajhekaa
namespace Go.Proofs.Ytcmgjlgmajhekaa
open Go Go.Aw Go.Pl
set_option maxHeartbeats 4000000 in
theorem specCbo_ok (o : List Int) (m : Int) (q : List (List Int)) (hl : o.length ≤ 1048576) : PureCall Try.prog 7 [.l1 o, .int m, .l2 q] (cbA o m q) := by
 have hO := l06Orders_ok o
 by_cases hp : PosO o
 ·have hpb := bd_true hp
  rw [hpb] at hO
  have hS := l17Size_ok o hp
  by_cases h8 : prodO o ≤ 8
  ·obtain ⟨n, hn⟩ : ∃ n : Nat, (n : Int) = prodO o := ⟨(prodO o).toNat, by have := prodO_pos hp; omega⟩
   have hnn : (prodO o).toNat = n := by omega
   rw [siz8_n h8 hn] at hS
   by_cases hm : 1 ≤ m ∧ m ≤ 1000
   ·have hI := l01In_ok m 1 1000
    rw [decide_eq_true hm.1, decide_eq_true hm.2] at hI
    have hPr := l17Pairing_ok n m q (by omega) hm.1 hm.2
    cases hq : bd (PairB n m q) with
    | true =>
     have hc : cbCode o m q = 0 := by unfold cbCode; rw [if_pos hpb, if_pos h8, hnn, if_pos ⟨hm.1, hm.2, hq⟩]
     rw [hq] at hPr
     have hC := l17Coboundary_ok o m n q hp h8 hn hm.1 hm.2 (bd_iff.1 hq).1 hl
     rw [cbA_yes hc, hnn]
     refine PureCall.intro (n := 35) (rs := [.cell 6 30, .tmp 7]) Try.call7 Try.func7 rfl rfl rfl (by simp only [List.length_cons, List.length_nil]; omega) (fun cx hcx => ats_of ?_); simp only [argSlots, Nat.zero_add, Nat.reduceAdd]
     refine gB ?_
     (repeat refine ats_seq ?_); refine ats_block ?_
     refine gC fun K hK => ?_
     first | refine fcall_data (hO) rfl ?_ | refine YR_intro (acall_data (hO) rfl) ?_
     simp only [go_sem, seval]
     refine hK _ ?_; clear hK K
     (repeat refine ats_seq ?_); refine ats_no rfl trivial ?_
     refine gC fun K hK => ?_
     first | refine fcall_data (hS) rfl ?_ | refine YR_intro (acall_data (hS) rfl) ?_
     simp only [go_sem, seval]
     (repeat refine aI (hb := ?_))
     refine hK _ ?_; clear hK K
     refine gI (fun hh => ?_) fun hh => ?_
     ·omega
     ·refine gC fun K hK => ?_
      first | refine fcall_data (hI) rfl ?_ | refine YR_intro (acall_data (hI) rfl) ?_
      simp only [go_sem, seval]
      first | refine fcall_data (hS) rfl ?_ | refine YR_intro (acall_data (hS) rfl) ?_
      simp only [go_sem, seval]
      first | refine fcall_data (hPr) rfl ?_ | refine YR_intro (acall_data (hPr) rfl) ?_
      simp only [go_sem, seval]
      refine hK _ ?_; clear hK K
      (repeat refine ats_seq ?_); refine ats_no rfl trivial ?_
      refine ats_skip ?_
      refine gC fun K hK => ?_
      first | refine fcall_fresh rfl (hC) ?_ | refine YR_intro (acall_fresh rfl (hC)) ?_
      simp only [go_sem, seval]
      refine hK _ ?_; clear hK K
      exact ats_ret (fin2C (v := .agg [.l1 o, .int m, .l3 (cobW o m n q)]) (by simp only [go_sem, seval]) trivial rfl)
    | false =>
     have hc : cbCode o m q = 2 := by unfold cbCode; rw [if_pos hpb, if_pos h8, hnn, if_neg (fun h => by rw [hq] at h; cases h.2.2)]
     rw [hq] at hPr
     refine pure_le ?_ (cbA_no hc (by decide))
     refine PureCall.intro (n := 35) (rs := [.cell 6 30, .tmp 7]) Try.call7 Try.func7 rfl rfl rfl (by simp only [List.length_cons, List.length_nil]; omega) (fun cx hcx => ats_of ?_); simp only [argSlots, Nat.zero_add, Nat.reduceAdd]
     refine gB ?_
     (repeat refine ats_seq ?_); refine ats_block ?_
     refine gC fun K hK => ?_
     first | refine fcall_data (hO) rfl ?_ | refine YR_intro (acall_data (hO) rfl) ?_
     simp only [go_sem, seval]
     refine hK _ ?_; clear hK K
     (repeat refine ats_seq ?_); refine ats_no rfl trivial ?_
     refine gC fun K hK => ?_
     first | refine fcall_data (hS) rfl ?_ | refine YR_intro (acall_data (hS) rfl) ?_
     simp only [go_sem, seval]
     (repeat refine aI (hb := ?_))
     refine hK _ ?_; clear hK K
     refine gI (fun hh => ?_) fun hh => ?_
     ·omega
     ·refine gC fun K hK => ?_
      first | refine fcall_data (hI) rfl ?_ | refine YR_intro (acall_data (hI) rfl) ?_
      simp only [go_sem, seval]
      first | refine fcall_data (hS) rfl ?_ | refine YR_intro (acall_data (hS) rfl) ?_
      simp only [go_sem, seval]
      first | refine fcall_data (hPr) rfl ?_ | refine YR_intro (acall_data (hPr) rfl) ?_
      simp only [go_sem, seval]
      refine hK _ ?_; clear hK K
      (repeat refine ats_seq ?_); refine ats_yes rfl trivial ?_
      refine gB ?_
      exact ats_ret (fin2C (v := .agg [.nil, .int 0, .nil]) (by simp only [go_sem, seval]) trivial rfl)
   ·have hI := l01In_ok m 1 1000
    have hc : cbCode o m q = 2 := by unfold cbCode; rw [if_pos hpb, if_pos h8, if_neg (fun h => hm ⟨h.1, h.2.1⟩)]
    have hd : (decide (1 ≤ m) && decide (m ≤ 1000)) = false := by
     rw [← Bool.not_eq_true, Bool.and_eq_true, decide_eq_true_eq, decide_eq_true_eq]; exact hm
    rw [hd] at hI
    refine pure_le ?_ (cbA_no hc (by decide))
    refine PureCall.intro (n := 35) (rs := [.cell 6 30, .tmp 7]) Try.call7 Try.func7 rfl rfl rfl (by simp only [List.length_cons, List.length_nil]; omega) (fun cx hcx => ats_of ?_); simp only [argSlots, Nat.zero_add, Nat.reduceAdd]
    refine gB ?_
    (repeat refine ats_seq ?_); refine ats_block ?_
    refine gC fun K hK => ?_
    first | refine fcall_data (hO) rfl ?_ | refine YR_intro (acall_data (hO) rfl) ?_
    simp only [go_sem, seval]
    refine hK _ ?_; clear hK K
    (repeat refine ats_seq ?_); refine ats_no rfl trivial ?_
    refine gC fun K hK => ?_
    first | refine fcall_data (hS) rfl ?_ | refine YR_intro (acall_data (hS) rfl) ?_
    simp only [go_sem, seval]
    (repeat refine aI (hb := ?_))
    refine hK _ ?_; clear hK K
    refine gI (fun hh => ?_) fun hh => ?_
    ·omega
    ·refine gC fun K hK => ?_
     first | refine fcall_data (hI) rfl ?_ | refine YR_intro (acall_data (hI) rfl) ?_
     simp only [go_sem, seval]
     refine YR_intro (v := .int 0) (by first | trivial | (intro h; cases h)) ?_
     simp only [go_sem, seval]
     refine YR_intro (v := .bool false) (by first | trivial | (intro h; cases h)) ?_
     simp only [go_sem, seval]
     refine hK _ ?_; clear hK K
     (repeat refine ats_seq ?_); refine ats_yes rfl trivial ?_
     refine gB ?_
     exact ats_ret (fin2C (v := .agg [.nil, .int 0, .nil]) (by simp only [go_sem, seval]) trivial rfl)
  ·have hc : cbCode o m q = 3 := by unfold cbCode; rw [if_pos hpb, if_neg h8]
   have e9 : siz8 o = 9 := by unfold siz8; rw [if_neg h8]
   rw [e9] at hS
   refine pure_le ?_ (cbA_no hc (by decide))
   refine PureCall.intro (n := 35) (rs := [.cell 6 30, .tmp 7]) Try.call7 Try.func7 rfl rfl rfl (by simp only [List.length_cons, List.length_nil]; omega) (fun cx hcx => ats_of ?_); simp only [argSlots, Nat.zero_add, Nat.reduceAdd]
   refine gB ?_
   (repeat refine ats_seq ?_); refine ats_block ?_
   refine gC fun K hK => ?_
   first | refine fcall_data (hO) rfl ?_ | refine YR_intro (acall_data (hO) rfl) ?_
   simp only [go_sem, seval]
   refine hK _ ?_; clear hK K
   (repeat refine ats_seq ?_); refine ats_no rfl trivial ?_
   refine gC fun K hK => ?_
   first | refine fcall_data (hS) rfl ?_ | refine YR_intro (acall_data (hS) rfl) ?_
   simp only [go_sem, seval]
   refine hK _ ?_; clear hK K
   (repeat refine ats_seq ?_); refine ats_yes rfl trivial ?_
   refine gB ?_
   exact ats_ret (fin2C (v := .agg [.nil, .int 0, .nil]) (by simp only [go_sem, seval]) trivial rfl)
 ·have hpb := bd_false hp
  rw [hpb] at hO
  have hc : cbCode o m q = 1 := by unfold cbCode; rw [if_neg (by rw [hpb]; decide)]
  refine pure_le ?_ (cbA_no hc (by decide))
  refine PureCall.intro (n := 35) (rs := [.cell 6 30, .tmp 7]) Try.call7 Try.func7 rfl rfl rfl (by simp only [List.length_cons, List.length_nil]; omega) (fun cx hcx => ats_of ?_); simp only [argSlots, Nat.zero_add, Nat.reduceAdd]
  refine gB ?_
  (repeat refine ats_seq ?_); refine ats_block ?_
  refine gC fun K hK => ?_
  first | refine fcall_data (hO) rfl ?_ | refine YR_intro (acall_data (hO) rfl) ?_
  simp only [go_sem, seval]
  refine hK _ ?_; clear hK K
  (repeat refine ats_seq ?_); refine ats_yes rfl trivial ?_
  refine gB ?_
  exact ats_ret (fin2C (v := .agg [.nil, .int 0, .nil]) (by simp only [go_sem, seval]) trivial rfl)
theorem ordC_ok (o : List Int) : PureCall Try.prog 55 [.l1 o, .int 8] (.int (if bd (PosO o) = true then (if prodO o ≤ 8 then 0 else 3) else 1)) := by
 have hg := groupSize_ok o
 unfold gsz at hg
 by_cases h : PosO o
 ·have hp := prodO_pos h
  have b : 1 ≤ min17 (prodO o) ∧ min17 (prodO o) ≤ 17 := by unfold min17; split <;> omega
  have hgt : (8 < min17 (prodO o)) ↔ ¬ prodO o ≤ 8 := by unfold min17; split <;> omega
  rw [bd_true h, if_pos rfl] at hg ⊢
  generalize min17 (prodO o) = z at *
  refine PureCall.intro (n := 13) (rs := [.tmp 4]) Try.call55 Try.func55 rfl rfl rfl (by simp only [List.length_cons, List.length_nil]; omega) (fun cx hcx => ats_of ?_); simp only [argSlots, Nat.zero_add, Nat.reduceAdd]
  refine gB ?_
  refine gC fun K hK => ?_
  first | refine fcall_data (hg) rfl ?_ | refine YR_intro (acall_data (hg) rfl) ?_
  simp only [go_sem, seval]
  refine hK _ ?_; clear hK K
  refine gB ?_
  refine gI (fun hc1 => ?_) fun hc1 => ?_
  ·omega
  ·refine ats_skip ?_
   refine gB ?_
   refine gI (fun hc2 => ?_) fun hc2 => ?_
   ·refine gB ?_
    refine ats_ret (finI rfl ?_)
    rw [if_neg (by omega)]
   ·refine ats_skip ?_
    refine gB ?_
    refine ats_ret (finI rfl ?_)
    rw [if_pos (by omega)]
 ·rw [bd_false h] at hg ⊢
  refine PureCall.intro (n := 13) (rs := [.tmp 4]) Try.call55 Try.func55 rfl rfl rfl (by simp only [List.length_cons, List.length_nil]; omega) (fun cx hcx => ats_of ?_); simp only [argSlots, Nat.zero_add, Nat.reduceAdd]
  refine gB ?_
  refine gC fun K hK => ?_
  first | refine fcall_data (hg) rfl ?_ | refine YR_intro (acall_data (hg) rfl) ?_
  simp only [go_sem, seval]
  refine hK _ ?_; clear hK K
  refine gB ?_
  (repeat refine ats_seq ?_); refine ats_yes rfl trivial ?_
  refine gB ?_
  refine ats_ret (finI rfl ?_)
  rfl
theorem gsz_n {o : List Int} {n : Nat} (hp : PosO o) (h8 : prodO o ≤ 8) (hn : (n : Int) = prodO o) : gsz o = n := by
 unfold gsz
 rw [if_pos (bd_true hp)]
 unfold min17
 rw [if_pos (by omega)]
 exact hn.symm
theorem pairingCode_ok (o : List Int) (m : Int) (q : List (List Int)) : PureCall Try.prog 27 [.l1 o, .int m, .l2 q] (.int (cbCode o m q)) := by
 have hO := ordC_ok o
 unfold cbCode
 by_cases hp : PosO o
 ·have hpb := bd_true hp
  rw [hpb, if_pos rfl] at hO ⊢
  have hS := groupSize_ok o
  by_cases h8 : prodO o ≤ 8
  ·obtain ⟨n, hn⟩ : ∃ n : Nat, (n : Int) = prodO o := ⟨(prodO o).toNat, by have := prodO_pos hp; omega⟩
   have hnn : (prodO o).toNat = n := by omega
   rw [gsz_n hp h8 hn] at hS
   rw [if_pos h8] at hO ⊢
   rw [hnn]
   have hI := isModulus_ok m
   by_cases hm : 1 ≤ m ∧ m ≤ 1000
   ·rw [decide_eq_true hm.1, decide_eq_true hm.2] at hI
    have hPr := isPairing_ok n m q (by omega) hm.1 hm.2
    cases hq : bd (PairB n m q) with
    | true =>
     rw [hq] at hPr
     rw [if_pos ⟨hm.1, hm.2, rfl⟩]
     refine PureCall.intro (n := 24) (rs := [.tmp 6]) Try.call27 Try.func27 rfl rfl rfl (by simp only [List.length_cons, List.length_nil]; omega) (fun cx hcx => ats_of ?_); simp only [argSlots, Nat.zero_add, Nat.reduceAdd]
     refine gB ?_
     refine gC fun K hK => ?_
     first | refine fcall_data (hO) rfl ?_ | refine YR_intro (acall_data (hO) rfl) ?_
     simp only [go_sem, seval]
     refine hK _ ?_; clear hK K
     refine gB ?_
     (repeat refine ats_seq ?_); refine ats_no rfl trivial ?_
     refine ats_skip ?_
     refine gC fun K hK => ?_
     first | refine fcall_data (hI) rfl ?_ | refine YR_intro (acall_data (hI) rfl) ?_
     simp only [go_sem, seval]
     first | refine fcall_data (hS) rfl ?_ | refine YR_intro (acall_data (hS) rfl) ?_
     simp only [go_sem, seval]
     first | refine fcall_data (hPr) rfl ?_ | refine YR_intro (acall_data (hPr) rfl) ?_
     simp only [go_sem, seval]
     refine hK _ ?_; clear hK K
     (repeat refine ats_seq ?_); refine ats_no rfl trivial ?_
     refine ats_skip ?_
     refine gB ?_
     refine ats_ret (finI rfl ?_)
     rfl
    | false =>
     rw [hq] at hPr
     rw [if_neg (fun h => by cases h.2.2)]
     refine PureCall.intro (n := 24) (rs := [.tmp 6]) Try.call27 Try.func27 rfl rfl rfl (by simp only [List.length_cons, List.length_nil]; omega) (fun cx hcx => ats_of ?_); simp only [argSlots, Nat.zero_add, Nat.reduceAdd]
     refine gB ?_
     refine gC fun K hK => ?_
     first | refine fcall_data (hO) rfl ?_ | refine YR_intro (acall_data (hO) rfl) ?_
     simp only [go_sem, seval]
     refine hK _ ?_; clear hK K
     refine gB ?_
     (repeat refine ats_seq ?_); refine ats_no rfl trivial ?_
     refine ats_skip ?_
     refine gC fun K hK => ?_
     first | refine fcall_data (hI) rfl ?_ | refine YR_intro (acall_data (hI) rfl) ?_
     simp only [go_sem, seval]
     first | refine fcall_data (hS) rfl ?_ | refine YR_intro (acall_data (hS) rfl) ?_
     simp only [go_sem, seval]
     first | refine fcall_data (hPr) rfl ?_ | refine YR_intro (acall_data (hPr) rfl) ?_
     simp only [go_sem, seval]
     refine hK _ ?_; clear hK K
     (repeat refine ats_seq ?_); refine ats_yes rfl trivial ?_
     refine gB ?_
     refine ats_ret (finI rfl ?_)
     rfl
   ·have hd : (decide (1 ≤ m) && decide (m ≤ 1000)) = false := by
     rw [← Bool.not_eq_true, Bool.and_eq_true, decide_eq_true_eq, decide_eq_true_eq]; exact hm
    rw [hd] at hI
    rw [if_neg (fun h => hm ⟨h.1, h.2.1⟩)]
    refine PureCall.intro (n := 24) (rs := [.tmp 6]) Try.call27 Try.func27 rfl rfl rfl (by simp only [List.length_cons, List.length_nil]; omega) (fun cx hcx => ats_of ?_); simp only [argSlots, Nat.zero_add, Nat.reduceAdd]
    refine gB ?_
    refine gC fun K hK => ?_
    first | refine fcall_data (hO) rfl ?_ | refine YR_intro (acall_data (hO) rfl) ?_
    simp only [go_sem, seval]
    refine hK _ ?_; clear hK K
    refine gB ?_
    (repeat refine ats_seq ?_); refine ats_no rfl trivial ?_
    refine ats_skip ?_
    refine gC fun K hK => ?_
    first | refine fcall_data (hI) rfl ?_ | refine YR_intro (acall_data (hI) rfl) ?_
    simp only [go_sem, seval]
    refine YR_intro (v := .int 0) (by first | trivial | (intro h; cases h)) ?_
    simp only [go_sem, seval]
    refine YR_intro (v := .bool false) (by first | trivial | (intro h; cases h)) ?_
    simp only [go_sem, seval]
    refine hK _ ?_; clear hK K
    (repeat refine ats_seq ?_); refine ats_yes rfl trivial ?_
    refine gB ?_
    refine ats_ret (finI rfl ?_)
    rfl
  ·rw [if_neg h8] at hO ⊢
   refine PureCall.intro (n := 24) (rs := [.tmp 6]) Try.call27 Try.func27 rfl rfl rfl (by simp only [List.length_cons, List.length_nil]; omega) (fun cx hcx => ats_of ?_); simp only [argSlots, Nat.zero_add, Nat.reduceAdd]
   refine gB ?_
   refine gC fun K hK => ?_
   first | refine fcall_data (hO) rfl ?_ | refine YR_intro (acall_data (hO) rfl) ?_
   simp only [go_sem, seval]
   refine hK _ ?_; clear hK K
   refine gB ?_
   (repeat refine ats_seq ?_); refine ats_yes rfl trivial ?_
   refine gB ?_
   refine ats_ret (finI rfl ?_)
   rfl
 ·rw [bd_false hp] at hO ⊢
  refine PureCall.intro (n := 24) (rs := [.tmp 6]) Try.call27 Try.func27 rfl rfl rfl (by simp only [List.length_cons, List.length_nil]; omega) (fun cx hcx => ats_of ?_); simp only [argSlots, Nat.zero_add, Nat.reduceAdd]
  refine gB ?_
  refine gC fun K hK => ?_
  first | refine fcall_data (hO) rfl ?_ | refine YR_intro (acall_data (hO) rfl) ?_
  simp only [go_sem, seval]
  refine hK _ ?_; clear hK K
  refine gB ?_
  (repeat refine ats_seq ?_); refine ats_yes rfl trivial ?_
  refine gB ?_
  refine ats_ret (finI rfl ?_)
  rfl
theorem cbC_zero {o : List Int} {m : Int} {q : List (List Int)} (h : cbCode o m q = 0) : PosO o ∧ prodO o ≤ 8 ∧ 1 ≤ m ∧ m ≤ 1000 ∧ PairB (prodO o).toNat m q := by
 unfold cbCode at h
 split at h
 ·rename_i h1
  split at h
  ·rename_i h2
   split at h
   ·rename_i h3
    exact ⟨bd_iff.1 h1, h2, h3.1, h3.2.1, bd_iff.1 h3.2.2⟩
   ·cases h
  ·cases h
 ·cases h
theorem implCbo_ok (o : List Int) (m : Int) (q : List (List Int)) (hl : o.length ≤ 1048576) : FreshCall Try.prog 6 [.l1 o, .int m, .l2 q] (cbA o m q) := by
 have hC := pairingCode_ok o m q
 by_cases h0 : cbCode o m q = 0
 ·obtain ⟨hp, h8, m1, m2, hq⟩ := cbC_zero h0
  have p1 := prodO_pos hp
  have hB := coboundary_ok o m (prodO o).toNat q hp h8 (by omega) m1 m2 hq.1 hl
  rw [cbA_yes h0]
  rw [h0] at hC
  refine FreshCall.intro (n := 21) (rs := [.cell 6 30, .tmp 7]) Try.call6 Try.func6 rfl rfl rfl (by simp only [List.length_cons, List.length_nil]; omega) (fun cx hcx => ats_of ?_); simp only [argSlots, Nat.zero_add, Nat.reduceAdd]
  refine gB ?_
  refine gC fun K hK => ?_
  first | refine fcall_data (hC) rfl ?_ | refine YR_intro (acall_data (hC) rfl) ?_
  simp only [go_sem, seval]
  refine hK _ ?_; clear hK K
  refine gB ?_
  (repeat refine ats_seq ?_); refine ats_no rfl trivial ?_
  refine ats_skip ?_
  refine gC fun K hK => ?_
  refine fcall_own rfl (hB) rfl ?_; simp only [go_sem, seval]
  refine hK _ ?_; clear hK K
  exact ats_ret (own2C (v := .agg [.ref 1 [], .int m, .ref 2 []]) (by simp only [go_sem, seval]) trivial rfl (by simp))
 ·refine fresh_le ?_ (cbA_no rfl h0)
  generalize cbCode o m q = c at *
  refine FreshCall.intro (n := 21) (rs := [.cell 6 30, .tmp 7]) Try.call6 Try.func6 rfl rfl rfl (by simp only [List.length_cons, List.length_nil]; omega) (fun cx hcx => ats_of ?_); simp only [argSlots, Nat.zero_add, Nat.reduceAdd]
  refine gB ?_
  refine gC fun K hK => ?_
  first | refine fcall_data (hC) rfl ?_ | refine YR_intro (acall_data (hC) rfl) ?_
  simp only [go_sem, seval]
  refine hK _ ?_; clear hK K
  refine gB ?_
  refine gI (fun hh => ?_) fun hh => ?_
  ·refine gB ?_
   exact ats_ret (own2C (v := .agg [.nil, .int 0, .nil]) (by simp only [go_sem, seval]) trivial rfl (by simp))
  ·omega
end Go.Proofs.Ytcmgjlgmajhekaa
namespace Go.Proofs.Ytcmgjlgmajhekaa
open Go Go.Aw Go.Pl
attribute [local go_sem] pl_fin pl_stop pl_one pl_alt PK_ap pickO List.getElem?_toArray List.getElem?_cons_zero List.getElem?_cons_succ
noncomputable def slC (o : List Int) (m : Int) (w : List (List (List Int))) (x : Int) : Int := if isCoc o m w = true then (if 0 ≤ x ∧ x ≤ (w.length : Int) - 1 then 0 else 2) else 1
noncomputable def slM (o : List Int) (m : Int) (w : List (List (List Int))) (x : Int) : List (List Int) := if slC o m w x = 0 then matF w.length w.length (slV m w x.toNat) else []
theorem slA_no {o : List Int} {m : Int} {w : List (List (List Int))} {x c : Int} (h : slC o m w x = c) (hc : c ≠ 0) : AvLe (.tup [.nil, .int c]) (.tup [.l2 (slM o m w x), .int (slC o m w x)]) := by
 unfold slM
 rw [h, if_neg hc]
 exact avLe_tup (avsLe_cons avLe_nil2 (avsLe_rfl _))
theorem slC_zero {o : List Int} {m : Int} {w : List (List (List Int))} {x : Int} (h : slC o m w x = 0) : CocOk o m w ∧ ∃ k : Nat, x = k ∧ k < w.length := by
 unfold slC at h
 split at h
 ·rename_i h1
  split at h
  ·rename_i h2
   exact ⟨ic_facts h1, x.toNat, by omega, by omega⟩
  ·cases h
 ·cases h
theorem isElement_ok (o : List Int) (m : Int) (w : List (List (List Int))) (x : Int) (hl : w.length ≤ 1048576) : PureCall Try.prog 34 [.agg [.l1 o, .int m, .l3 w], .int x] (.bool (decide (0 ≤ x) && decide (x ≤ (w.length : Int) - 1))) := by
 have hw := within_ok x 0 ((w.length : Int) - 1)
 generalize (decide (0 ≤ x) && decide (x ≤ (w.length : Int) - 1)) = b at *
 refine PureCall.intro (n := 11) (rs := [.tmp 4]) Try.call34 Try.func34 rfl rfl rfl (by simp only [List.length_cons, List.length_nil]; omega) (fun cx hcx => ats_of ?_); simp only [argSlots, Nat.zero_add, Nat.reduceAdd]
 refine gB ?_
 refine gC fun K hK => ?_
 (repeat refine aI (hb := ?_))
 first | refine fcall_data (hw) rfl ?_ | refine YR_intro (acall_data (hw) rfl) ?_
 simp only [go_sem, seval]
 refine hK _ ?_; clear hK K
 refine ats_ret (finB rfl ?_)
 rfl
theorem l17Code_ok (o : List Int) (m : Int) (w : List (List (List Int))) (x : Int) (hl : w.length ≤ 1048576) : PureCall Try.prog 52 [.agg [.l1 o, .int m, .l3 w], .int x] (.int (slC o m w x)) := by
 have hI := l17Is_ok o m w
 have hw := l01In_ok x 0 ((w.length : Int) - 1)
 unfold slC
 cases hb : isCoc o m w with
 | false =>
  rw [hb] at hI
  refine PureCall.intro (n := 17) (rs := [.tmp 4]) Try.call52 Try.func52 rfl rfl rfl (by simp only [List.length_cons, List.length_nil]; omega) (fun cx hcx => ats_of ?_); simp only [argSlots, Nat.zero_add, Nat.reduceAdd]
  refine gB ?_
  (repeat refine ats_seq ?_); refine ats_block ?_
  refine gC fun K hK => ?_
  first | refine fcall_data (hI) rfl ?_ | refine YR_intro (acall_data (hI) rfl) ?_
  simp only [go_sem, seval]
  refine hK _ ?_; clear hK K
  (repeat refine ats_seq ?_); refine ats_yes rfl trivial ?_
  refine gB ?_
  refine ats_ret (finI rfl ?_)
  rfl
 | true =>
  rw [hb] at hI
  rw [if_pos rfl]
  by_cases hx : 0 ≤ x ∧ x ≤ (w.length : Int) - 1
  ·rw [decide_eq_true hx.1, decide_eq_true hx.2] at hw
   rw [if_pos hx]
   refine PureCall.intro (n := 17) (rs := [.tmp 4]) Try.call52 Try.func52 rfl rfl rfl (by simp only [List.length_cons, List.length_nil]; omega) (fun cx hcx => ats_of ?_); simp only [argSlots, Nat.zero_add, Nat.reduceAdd]
   refine gB ?_
   (repeat refine ats_seq ?_); refine ats_block ?_
   refine gC fun K hK => ?_
   first | refine fcall_data (hI) rfl ?_ | refine YR_intro (acall_data (hI) rfl) ?_
   simp only [go_sem, seval]
   refine hK _ ?_; clear hK K
   (repeat refine ats_seq ?_); refine ats_no rfl trivial ?_
   refine gC fun K hK => ?_
   (repeat refine aI (hb := ?_))
   first | refine fcall_data (hw) rfl ?_ | refine YR_intro (acall_data (hw) rfl) ?_
   simp only [go_sem, seval]
   refine hK _ ?_; clear hK K
   (repeat refine ats_seq ?_); refine ats_no rfl trivial ?_
   refine ats_skip ?_
   refine gB ?_
   refine ats_ret (finI rfl ?_)
   rfl
  ·have hd : (decide (0 ≤ x) && decide (x ≤ (w.length : Int) - 1)) = false := by
    rw [← Bool.not_eq_true, Bool.and_eq_true, decide_eq_true_eq, decide_eq_true_eq]; exact hx
   rw [hd] at hw
   rw [if_neg hx]
   refine PureCall.intro (n := 17) (rs := [.tmp 4]) Try.call52 Try.func52 rfl rfl rfl (by simp only [List.length_cons, List.length_nil]; omega) (fun cx hcx => ats_of ?_); simp only [argSlots, Nat.zero_add, Nat.reduceAdd]
   refine gB ?_
   (repeat refine ats_seq ?_); refine ats_block ?_
   refine gC fun K hK => ?_
   first | refine fcall_data (hI) rfl ?_ | refine YR_intro (acall_data (hI) rfl) ?_
   simp only [go_sem, seval]
   refine hK _ ?_; clear hK K
   (repeat refine ats_seq ?_); refine ats_no rfl trivial ?_
   refine gC fun K hK => ?_
   (repeat refine aI (hb := ?_))
   first | refine fcall_data (hw) rfl ?_ | refine YR_intro (acall_data (hw) rfl) ?_
   simp only [go_sem, seval]
   refine hK _ ?_; clear hK K
   (repeat refine ats_seq ?_); refine ats_yes rfl trivial ?_
   refine gB ?_
   refine ats_ret (finI rfl ?_)
   rfl
theorem sl_num {m : Int} {n : Nat} {w : List (List (List Int))} (m1 : 1 ≤ m) (h : CubB n m w) {x y z : Nat} (hx : x < n) (hy : y < n) (hz : z < n) : ∃ S : Int, S = e3 w x y z - e3 w y x z + e3 w y z x ∧ -m ≤ S - 1 ∧ S ≤ 2 * m ∧ (S + m).tmod m = slV m w x y z ∧ S % m = slV m w x y z ∧ 0 ≤ slV m w x y z ∧ slV m w x y z < m := by
 have v1 := h.bd hx hy hz
 have v2 := h.bd hy hx hz
 have v3 := h.bd hy hz hx
 refine ⟨_, rfl, by omega, by omega, ?_, rfl, Int.emod_nonneg _ (by omega), Int.emod_lt_of_pos _ (by omega)⟩
 rw [Int.tmod_eq_emod_of_nonneg (by omega), Int.add_emod_right]
 rfl
set_option maxHeartbeats 4000000 in
theorem specSla_ok (o : List Int) (m : Int) (w : List (List (List Int))) (x : Int) (hl : w.length ≤ 1048576) : PureCall Try.prog 18 [.agg [.l1 o, .int m, .l3 w], .int x] (.tup [.l2 (slM o m w x), .int (slC o m w x)]) := by
 have hC := l17Code_ok o m w x hl
 by_cases h0 : slC o m w x = 0
 ·unfold slM
  rw [h0] at hC ⊢
  rw [if_pos rfl]
  obtain ⟨⟨⟨p1, p2, m1, m2, p5, p6⟩, _, _⟩, k, rfl, hk⟩ := slC_zero h0
  obtain ⟨n, en⟩ : ∃ n, w.length = n := ⟨_, rfl⟩
  rw [en] at p5 p6 hk ⊢
  have n8 : n ≤ 8 := by omega
  have lw := en
  have mk := p6.mat hk
  obtain ⟨f, ef⟩ : ∃ f, f = slV m w k := ⟨_, rfl⟩
  rw [Int.toNat_natCast, ← ef]
  refine PureCall.intro (n := 84) (rs := [.tmp 4, .tmp 5]) Try.call18 Try.func18 rfl rfl rfl (by simp only [List.length_cons, List.length_nil]; omega) (fun cx hcx => ats_of ?_); simp only [argSlots, Nat.zero_add, Nat.reduceAdd]
  refine gB ?_
  refine gC fun K hK => ?_
  first | refine fcall_data (hC) rfl ?_ | refine YR_intro (acall_data (hC) rfl) ?_
  simp only [go_sem, seval]
  refine hK _ ?_; clear hK K
  refine gB ?_
  (repeat refine ats_seq ?_); refine ats_no rfl trivial ?_
  refine ats_skip ?_
  refine gB ?_
  refine gB ?_
  (repeat refine ats_seq ?_); refine ats_loop (fun i : Nat => ⟨[(1, .int k), (2, .bptr 0 0), (7, .ref 1 []), (8, .int i)], [(0, .bx [.l1 o, .int m, .l3 w]), (1, .t2 (matF i n f))]⟩) (fun i => i ≤ n) (fun i => n - i) 0 (Nat.zero_le _) (by refine And.intro ?_ rfl; simp only [leS, Nat.reduceEqDiff, ↓reduceIte, true_and, and_true]; repeat' (first | rfl | with_reducible refine And.intro ?_ ?_ | omega)) (fun i hi => ?_)
  (repeat refine ats_seq ?_); refine ats_go (fix0 hcx) fun K hK => ?_; simp only [go_sem, seval, lw]
  (repeat refine aI (hb := ?_))
  refine hK _ ?_; clear hK K
  refine gI (fun hc3 => ?_) fun hc3 => ?_
  ·have hi : i < n := by omega
   have mi := p6.mat hi
   have ri := p6.row hk hi
   have rk := p6.row hi hk
   have st := matP_succ (r := i) (n := n) (f := f)
   refine ats_skip ?_
   (repeat refine ats_seq ?_); refine ats_block ?_
   refine gB ?_
   refine gB ?_
   (repeat refine ats_seq ?_); refine ats_loop (fun j : Nat => ⟨[(1, .int k), (2, .bptr 0 0), (7, .ref 1 []), (8, .int i), (9, .ref 2 []), (10, .int j)], [(0, .bx [.l1 o, .int m, .l3 w]), (1, .t2 (matF i n f)), (2, .t1 (rowF j (f i)))]⟩) (fun j => j ≤ n) (fun j => n - j) 0 (Nat.zero_le _) (by refine And.intro ?_ rfl; simp only [leS, Nat.reduceEqDiff, ↓reduceIte, true_and, and_true]; repeat' (first | rfl | with_reducible refine And.intro ?_ ?_ | omega)) (fun j hj => ?_)
   (repeat refine ats_seq ?_); refine ats_go (fix0 hcx) fun K hK => ?_; simp only [go_sem, seval, lw]
   (repeat refine aI (hb := ?_))
   refine hK _ ?_; clear hK K
   refine gI (fun hc5 => ?_) fun hc5 => ?_
   ·have hj : j < n := by omega
    have rj := p6.row hi hj
    have v1 := p6.bd hk hi hj
    have v2 := p6.bd hi hk hj
    have v3 := p6.bd hi hj hk
    obtain ⟨S, eS, s1, s2, s3, _, s5, s6⟩ := sl_num m1 p6 hk hi hj
    have st2 := rowP_succ (k := j) (f := f i)
    have lr := rowF_length j (f i)
    rw [← ef] at s3 s5 s6
    simp only [e3] at v1 v2 v3 eS
    refine ats_skip ?_
    (repeat refine ats_seq ?_); refine ats_block ?_
    (repeat refine ats_seq ?_); refine ats_pick (fix0 hcx) mixed (by kernel_rfl) fun K hK => ?_; simp only [go_sem, seval]; (repeat refine aI (hb := ?_)); refine hK _ ?_; clear hK K
    rw [← eS]
    refine gC fun K hK => ?_
    simp only [s3]
    try simp (disch := omega) only [tmP, tdP]
    (repeat refine aI (hb := ?_))
    refine hK _ ?_; clear hK K
    rw [← st2]
    refine gB ?_
    refine ⟨j + 1, by omega, by omega, .inr ⟨[3], by simp only [killL, List.map_cons, List.map_nil, killA, killAs, qOf, rmT, killH, killT, List.filter_cons, List.filter_nil, List.contains_cons, List.contains_nil, SlotsLe, St.get, slotGet, Nat.reduceEqDiff, Nat.reduceBEq, Bool.or_false, Bool.or_true, Bool.false_and, Bool.not_true, Bool.not_false, Bool.false_eq_true, ↓reduceIte, if_true, if_false, AV.int.injEq, AV.bool.injEq, AV.l1.injEq, AV.l2.injEq, AV.l3.injEq, true_and, and_true]; omega, by simp only [killL, List.map_cons, List.map_nil, killA, killAs, qOf, rmT, killH, killT, List.filter_cons, List.filter_nil, List.contains_cons, List.contains_nil, SlotsLe, St.get, slotGet, Nat.reduceEqDiff, Nat.reduceBEq, Bool.or_false, Bool.or_true, Bool.false_and, Bool.not_true, Bool.not_false, Bool.false_eq_true, ↓reduceIte, if_true, if_false, AV.int.injEq, AV.bool.injEq, AV.l1.injEq, AV.l2.injEq, AV.l3.injEq, true_and, and_true]; (try rfl)⟩⟩
   ·obtain rfl : j = n := by omega
    have lm := matF_length i j f
    refine ats_exit (lq_x ?_)
    (repeat refine ats_seq ?_); refine ats_go (fix0 hcx) fun K hK => ?_; simp only [go_sem, seval, lm]
    (repeat refine aI (hb := ?_))
    refine hK _ ?_; clear hK K
    rw [← st]
    refine gB ?_
    refine ⟨i + 1,  by omega, by omega, .inl ⟨by simp only [leS, Nat.reduceEqDiff, ↓reduceIte, true_and, and_true]; omega,  rfl⟩⟩
  ·obtain rfl : i = n := by omega
   refine ats_exit (lq_x ?_)
   refine gB ?_
   exact ats_ret (fin2 trivial trivial rfl)
 ·refine pure_le ?_ (slA_no rfl h0)
  generalize slC o m w x = c at *
  refine PureCall.intro (n := 84) (rs := [.tmp 4, .tmp 5]) Try.call18 Try.func18 rfl rfl rfl (by simp only [List.length_cons, List.length_nil]; omega) (fun cx hcx => ats_of ?_); simp only [argSlots, Nat.zero_add, Nat.reduceAdd]
  refine gB ?_
  refine gC fun K hK => ?_
  first | refine fcall_data (hC) rfl ?_ | refine YR_intro (acall_data (hC) rfl) ?_
  simp only [go_sem, seval]
  refine hK _ ?_; clear hK K
  refine gB ?_
  refine gI (fun hh => ?_) fun hh => ?_
  ·refine gB ?_
   exact ats_ret (fin2 trivial trivial rfl)
  ·omega
set_option maxHeartbeats 4000000 in
theorem implSla_ok (o : List Int) (m : Int) (w : List (List (List Int))) (x : Int) (hl : w.length ≤ 1048576) : FreshCall Try.prog 17 [.agg [.l1 o, .int m, .l3 w], .int x] (.tup [.l2 (slM o m w x), .int (slC o m w x)]) := by
 have hI := IsCocycle_ok o m w
 have hE := isElement_ok o m w x hl
 cases hb : isCoc o m w with
 | false =>
  rw [hb] at hI
  have hc : slC o m w x = 1 := by unfold slC; rw [if_neg (by rw [hb]; decide)]
  refine fresh_le ?_ (slA_no hc (by decide))
  refine FreshCall.intro (n := 79) (rs := [.tmp 4, .tmp 5]) Try.call17 Try.func17 rfl rfl rfl (by simp only [List.length_cons, List.length_nil]; omega) (fun cx hcx => ats_of ?_); simp only [argSlots, Nat.zero_add, Nat.reduceAdd]
  refine gB ?_
  refine gC fun K hK => ?_
  first | refine fcall_data (hI) rfl ?_ | refine YR_intro (acall_data (hI) rfl) ?_
  simp only [go_sem, seval]
  refine hK _ ?_; clear hK K
  (repeat refine ats_seq ?_); refine ats_yes rfl trivial ?_
  refine gB ?_
  exact ats_ret (own2 (is := []) trivial trivial rfl (by simp))
 | true =>
  rw [hb] at hI
  by_cases hx : 0 ≤ x ∧ x ≤ (w.length : Int) - 1
  ·rw [decide_eq_true hx.1, decide_eq_true hx.2] at hE
   have h0 : slC o m w x = 0 := by unfold slC; rw [if_pos hb, if_pos hx]
   unfold slM
   rw [h0, if_pos rfl]
   obtain ⟨⟨⟨p1, p2, m1, m2, p5, p6⟩, _, _⟩, k, rfl, hk⟩ := slC_zero h0
   obtain ⟨n, en⟩ : ∃ n, w.length = n := ⟨_, rfl⟩
   rw [en] at p5 p6 hk ⊢
   have n8 : n ≤ 8 := by omega
   have lw := en
   have mk := p6.mat hk
   have hz := zeros_ok n n (by omega) (by omega)
   obtain ⟨f, ef⟩ : ∃ f, f = slV m w k := ⟨_, rfl⟩
   rw [Int.toNat_natCast, ← ef]
   obtain ⟨g, eg⟩ : ∃ g : Nat → Nat → Int, g = fun _ _ => 0 := ⟨_, rfl⟩
   have z0 : List.replicate n (List.replicate n (0 : Int)) = wrM n f g 0 0 := by rw [wrM_zero, eg, zeros_matF]
   rw [z0] at hz
   have l1 := wrM_len (n := n) (f := f) (g := g) (i := 0) (j := 0)
   refine FreshCall.intro (n := 79) (rs := [.tmp 4, .tmp 5]) Try.call17 Try.func17 rfl rfl rfl (by simp only [List.length_cons, List.length_nil]; omega) (fun cx hcx => ats_of ?_); simp only [argSlots, Nat.zero_add, Nat.reduceAdd]
   refine gB ?_
   refine gC fun K hK => ?_
   first | refine fcall_data (hI) rfl ?_ | refine YR_intro (acall_data (hI) rfl) ?_
   simp only [go_sem, seval]
   refine hK _ ?_; clear hK K
   (repeat refine ats_seq ?_); refine ats_no rfl trivial ?_
   refine ats_skip ?_
   refine gC fun K hK => ?_
   first | refine fcall_data (hE) rfl ?_ | refine YR_intro (acall_data (hE) rfl) ?_
   simp only [go_sem, seval]
   refine hK _ ?_; clear hK K
   (repeat refine ats_seq ?_); refine ats_no rfl trivial ?_
   refine ats_skip ?_
   have hz' : FreshCall Try.prog 51 [.int w.length, .int w.length] (.l2 (wrM n f g 0 0)) := by rw [en]; exact hz
   (repeat refine ats_seq ?_)
   refine ats_plan [6] (.one 0 (.one 1 (.one 2 (.one 3 (.one 4 (.one 5 (.alt 6 (.one 7 (.one 8 (.one 9 (.one 10 .fin)))) (.alt 7 (.alt 6 (.one 8 (.one 9 (.one 10 .fin))) (.alt 8 (.alt 6 (.one 9 (.one 10 .fin)) .stop) .stop)) .stop)))))))) ⟨[(1, .int k), (2, .bptr 0 0), (6, .ref 1 []), (7, .l3 w)], [(1, .t2 (wrM n f g 0 0)), (0, .bx [.l1 o, .int m, .l3 w])]⟩ (fix0 hcx) mixed (by kernel_rfl) (fun K hK => ?_) ?_
   ·simp only [go_sem, seval, Option.getD_some, and_true, true_and, and_self, List.contains_cons, List.contains_nil, Bool.or_false, Bool.or_true]
    repeat' (first | exact hK _ (by refine And.intro ?_ rfl; simp only [leS, Nat.reduceEqDiff, ↓reduceIte, true_and, and_true])  | with_reducible refine And.intro ?_ ?_ | omega | (refine fcall_own rfl (hz') rfl ?_; simp only [go_sem, seval, Option.getD_some, and_true, true_and, and_self, List.contains_cons, List.contains_nil, Bool.or_false, Bool.or_true]))
   (repeat refine ats_seq ?_); refine ats_go (fix0 hcx) fun K hK => ?_; simp only [go_sem, seval, l1]
   (repeat refine aI (hb := ?_))
   refine hK _ ?_; clear hK K
   (repeat refine ats_seq ?_); refine ats_loop (fun i : Nat => ⟨[(1, .int k), (2, .bptr 0 0), (6, .ref 1 []), (7, .l3 w), (27, .int n), (28, .int i)], [(1, .t2 (wrM n f g i 0)), (0, .bx [.l1 o, .int m, .l3 w])]⟩) (fun i => i ≤ n) (fun i => n - i) 0 (Nat.zero_le _) (by refine And.intro ?_ rfl; simp only [leS, Nat.reduceEqDiff, ↓reduceIte, true_and, and_true]; repeat' (first | rfl | with_reducible refine And.intro ?_ ?_ | omega)) (fun i hi => ?_)
   refine gB ?_
   refine gI (fun hc4 => ?_) fun hc4 => ?_
   ·have hi : i < n := by omega
    have mi := p6.mat hi
    have ri := p6.row hk hi
    have rk := p6.row hi hk
    have l2 := wrM_len (n := n) (f := f) (g := g) (i := i) (j := 0)
    refine ats_skip ?_
    (repeat refine ats_seq ?_); refine ats_block ?_
    refine gB ?_
    (repeat refine ats_seq ?_); refine ats_go (fix0 hcx) fun K hK => ?_; simp only [go_sem, seval, l2]
    (repeat refine aI (hb := ?_))
    refine hK _ ?_; clear hK K
    (repeat refine ats_seq ?_); refine ats_loop (fun j : Nat => ⟨[(1, .int k), (2, .bptr 0 0), (6, .ref 1 []), (7, .l3 w), (8, .int i), (27, .int n), (28, .int i), (32, .int n), (33, .int j)], [(1, .t2 (wrM n f g i j)), (0, .bx [.l1 o, .int m, .l3 w])]⟩) (fun j => j ≤ n) (fun j => n - j) 0 (Nat.zero_le _) (by refine And.intro ?_ rfl; simp only [leS, Nat.reduceEqDiff, ↓reduceIte, true_and, and_true]; repeat' (first | rfl | with_reducible refine And.intro ?_ ?_ | omega)) (fun j hj => ?_)
    refine gB ?_
    refine gI (fun hc6 => ?_) fun hc6 => ?_
    ·have hj : j < n := by omega
     have rj := p6.row hi hj
     have v1 := p6.bd hk hi hj
     have v2 := p6.bd hi hk hj
     have v3 := p6.bd hi hj hk
     obtain ⟨S, eS, s1, s2, _, s4, s5, s6⟩ := sl_num m1 p6 hk hi hj
     have hR := rest_ok o m w S m1 m2
     have l3 := wrM_len (n := n) (f := f) (g := g) (i := i) (j := j)
     have l4 := wrM_l2 (n := n) (f := f) (g := g) (i := i) (j := j) (x := i) (by omega)
     have sk := wrM_set (n := n) (f := f) (g := g) (i := i) (j := j) (by omega)
     rw [← ef] at s4 s5 s6
     rw [s4] at hR
     simp only [e3] at v1 v2 v3 eS
     rw [eS] at hR
     refine ats_skip ?_
     (repeat refine ats_seq ?_); refine ats_block ?_
     refine gB ?_
     (repeat refine ats_seq ?_); refine ats_pick (fix0 hcx) mixed (by kernel_rfl) fun K hK => ?_; simp only [go_sem, seval, lw, l3, l4]
     (repeat refine aI (hb := ?_))
     first | refine fcall_data (hR) rfl ?_ | refine YR_intro (acall_data (hR) rfl) ?_
     simp only [go_sem, seval]
     simp only [go_sem, seval, l3, l4, sk]
     (repeat refine aI (hb := ?_))
     refine hK _ ?_; clear hK K
     refine gB ?_
     refine ⟨j + 1,  by omega, by omega, .inl ⟨by simp only [leS, Nat.reduceEqDiff, ↓reduceIte, true_and, and_true]; omega,  rfl⟩⟩
    ·obtain rfl : j = n := by omega
     rw [wrM_row]
     refine ats_exit (lq_x ?_)
     refine gB ?_
     refine ⟨i + 1,  by omega, by omega, .inl ⟨by simp only [leS, Nat.reduceEqDiff, ↓reduceIte, true_and, and_true]; omega,  rfl⟩⟩
   ·obtain rfl : i = n := by omega
    rw [wrM_end]
    refine ats_exit (lq_x ?_)
    refine gB ?_
    exact ats_ret (own2 (is := [1]) trivial trivial rfl (by simp))
  ·have hd : (decide (0 ≤ x) && decide (x ≤ (w.length : Int) - 1)) = false := by
    rw [← Bool.not_eq_true, Bool.and_eq_true, decide_eq_true_eq, decide_eq_true_eq]; exact hx
   rw [hd] at hE
   have hc : slC o m w x = 2 := by unfold slC; rw [if_pos hb, if_neg hx]
   refine fresh_le ?_ (slA_no hc (by decide))
   refine FreshCall.intro (n := 79) (rs := [.tmp 4, .tmp 5]) Try.call17 Try.func17 rfl rfl rfl (by simp only [List.length_cons, List.length_nil]; omega) (fun cx hcx => ats_of ?_); simp only [argSlots, Nat.zero_add, Nat.reduceAdd]
   refine gB ?_
   refine gC fun K hK => ?_
   first | refine fcall_data (hI) rfl ?_ | refine YR_intro (acall_data (hI) rfl) ?_
   simp only [go_sem, seval]
   refine hK _ ?_; clear hK K
   (repeat refine ats_seq ?_); refine ats_no rfl trivial ?_
   refine ats_skip ?_
   refine gC fun K hK => ?_
   first | refine fcall_data (hE) rfl ?_ | refine YR_intro (acall_data (hE) rfl) ?_
   simp only [go_sem, seval]
   refine hK _ ?_; clear hK K
   (repeat refine ats_seq ?_); refine ats_yes rfl trivial ?_
   refine gB ?_
   exact ats_ret (own2 (is := []) trivial trivial rfl (by simp))
theorem ivS_bd {o : List Int} {m : Int} {w : List (List (List Int))} {n x : Nat} (hp : PosO o) (hn : (n : Int) = prodO o) (hw : CubB n m w) (hx : x < n) : ∀ r : Nat, 0 ≤ ivS o w x r ∧ ivS o w x r ≤ (m - 1) * r
 | 0 => ⟨Int.le_refl _, by show (0 : Int) ≤ (m - 1) * 0; omega⟩
 | r + 1 => by
  have ih := ivS_bd hp hn hw hx r
  have v := hw.bd hx (kxo_lt hp hn hx r) hx
  show 0 ≤ ivS o w x r + e3 w x (kxo o x r) x ∧ ivS o w x r + e3 w x (kxo o x r) x ≤ (m - 1) * ((r + 1 : Nat) : Int)
  push_cast
  rw [Int.mul_add, Int.mul_one]
  omega
theorem iv_le {o : List Int} {m : Int} {w : List (List (List Int))} {n x : Nat} (hp : PosO o) (hn : (n : Int) = prodO o) (hw : CubB n m w) (hx : x < n) (m1 : 1 ≤ m) (m2 : m ≤ 1000) {r : Nat} (h8 : r ≤ 8) : 0 ≤ ivS o w x r ∧ ivS o w x r ≤ 7992 := by
 have h := ivS_bd hp hn hw hx r
 have := Int.mul_le_mul (show m - 1 ≤ 999 by omega) (show (r : Int) ≤ 8 by omega) (by omega) (by omega)
 omega
set_option maxHeartbeats 4000000 in
theorem specIva_ok (o : List Int) (m : Int) (w : List (List (List Int))) (x r : Nat) (hb : isCoc o m w = true) (hx : x < w.length) (r1 : 1 ≤ r) (r2 : r ≤ w.length) (hr : kxo o x r = 0) (hmin : ∀ k, 1 ≤ k → k < r → kxo o x k ≠ 0) :
  PureCall Try.prog 20 [.agg [.l1 o, .int m, .l3 w], .int x] (.tup [.int (ivS o w x r % m), .int 0]) := by
 have hC := l17Code_ok o m w x (by have := (ic_facts hb).1.n8; omega)
 have h0 : slC o m w x = 0 := by unfold slC; rw [if_pos hb, if_pos (by omega)]
 rw [h0] at hC
 obtain ⟨⟨p1, p2, m1, m2, p5, p6⟩, _, _⟩ := ic_facts hb
 obtain ⟨n, en⟩ : ∃ n, w.length = n := ⟨_, rfl⟩
 rw [en] at p5 p6 hx r2
 have n8 : n ≤ 8 := by omega
 have mx := p6.mat hx
 have r0 := p6.row hx (show 0 < n by omega)
 have v0 := p6.bd hx (show 0 < n by omega) hx
 have g := p1.grp
 rw [nO p5] at g
 have k1 : kxo o x 1 = x := g.zl x hx
 have i1 : ivS o w x 1 = e3 w x 0 x := by show 0 + e3 w x (kxo o x 0) x = _; rw [Int.zero_add]; rfl
 have hb1 := fun t ht => iv_le p1 p5 p6 hx m1 m2 (r := t) ht
 have klt := kxo_lt (x := x) p1 p5 hx
 have is1 : ∀ t, ivS o w x (t + 1) = ivS o w x t + e3 w x (kxo o x t) x := fun t => rfl
 have ks1 : ∀ t, kxo o x (t + 1) = ad o (kxo o x t) x := fun t => rfl
 have et : (ivS o w x r).tmod m = ivS o w x r % m := Int.tmod_eq_emod_of_nonneg (hb1 r (by omega)).1
 have be : 0 ≤ ivS o w x r % m ∧ ivS o w x r % m < m := ⟨Int.emod_nonneg _ (by omega), Int.emod_lt_of_pos _ (by omega)⟩
 simp only [e3] at v0 i1 is1
 refine PureCall.intro (n := 50) (rs := [.tmp 4, .tmp 5]) Try.call20 Try.func20 rfl rfl rfl (by simp only [List.length_cons, List.length_nil]; omega) (fun cx hcx => ats_of ?_); simp only [argSlots, Nat.zero_add, Nat.reduceAdd]
 refine gB ?_
 refine gC fun K hK => ?_
 first | refine fcall_data (hC) rfl ?_ | refine YR_intro (acall_data (hC) rfl) ?_
 simp only [go_sem, seval]
 refine hK _ ?_; clear hK K
 refine gB ?_
 (repeat refine ats_seq ?_); refine ats_no rfl trivial ?_
 refine ats_skip ?_
 refine gB ?_
 refine gB ?_
 rw [← i1]
 (repeat refine ats_seq ?_)
 (repeat refine ats_seq ?_); refine ats_loop (fun t : Nat => ⟨[(1, .int x), (2, .bptr 0 0), (7, .int (ivS o w x t)), (8, .int (kxo o x t))], [(0, .bx [.l1 o, .int m, .l3 w])]⟩) (fun t => 1 ≤ t ∧ t ≤ r) (fun t => r - t) 1 ⟨Nat.le_refl _, r1⟩ (by
  rw [k1]
  refine And.intro ?_ rfl; simp only [leS, Nat.reduceEqDiff, ↓reduceIte, true_and, and_true]
  try rfl) (fun t ht => ?_)
 obtain ⟨t1, tr⟩ := ht
 refine gB ?_
 by_cases htr : t = r
 ·subst htr
  rw [hr] at *
  (repeat refine ats_seq ?_); refine ats_no rfl trivial ?_
  refine ats_exit (lq_x ?_)
  (repeat refine ats_seq ?_); refine ats_go (fix0 hcx) fun K hK => ?_; simp only [go_sem, seval, et]
  (repeat refine aI (hb := ?_))
  refine hK _ ?_; clear hK K
  exact ats_ret (fin2 trivial trivial rfl)
 ·have hk := hmin t t1 (by omega)
  have kl := klt t
  have ist := is1 t
  have kst := ks1 t
  have bt := hb1 t (by omega)
  have bt1 := hb1 (t + 1) (by omega)
  have rx := p6.row hx kl
  have vx := p6.bd hx kl hx
  simp only [e3] at vx
  have hA := l06Add_ok o p1 p2 (kxo o x t) x (by omega) (by omega)
  rw [← kst] at hA
  obtain ⟨q, eq⟩ : ∃ q, kxo o x t = q := ⟨_, rfl⟩
  rw [eq] at hk kl ist hA rx vx ⊢
  refine gI (fun hh => ?_) fun hh => ?_
  ·refine ats_skip ?_
   (repeat refine ats_seq ?_); refine ats_block ?_
   refine gB ?_
   rw [← ist]
   refine gC fun K hK => ?_
   (repeat refine aI (hb := ?_))
   first | refine fcall_data (hA) rfl ?_ | refine YR_intro (acall_data (hA) rfl) ?_
   simp only [go_sem, seval]
   refine hK _ ?_; clear hK K
   refine ⟨t + 1,  ⟨by omega, by omega⟩, by omega, .inl ⟨by simp only [leS, Nat.reduceEqDiff, ↓reduceIte, true_and, and_true]; (try omega),  rfl⟩⟩
  ·omega
set_option maxHeartbeats 4000000 in
theorem implIva_ok (o : List Int) (m : Int) (w : List (List (List Int))) (x r : Nat) (hb : isCoc o m w = true) (hx : x < w.length) (r1 : 1 ≤ r) (r2 : r ≤ w.length) (hr : kxo o x r = 0) (hmin : ∀ k, 1 ≤ k → k < r → kxo o x k ≠ 0) :
  PureCall Try.prog 11 [.agg [.l1 o, .int m, .l3 w], .int x] (.tup [.int (ivS o w x r % m), .int 0]) := by
 have hI := IsCocycle_ok o m w
 rw [hb] at hI
 have hE := isElement_ok o m w x (by have := (ic_facts hb).1.n8; omega)
 rw [decide_eq_true (show (0 : Int) ≤ (x : Int) by omega), decide_eq_true (show (x : Int) ≤ (w.length : Int) - 1 by omega)] at hE
 obtain ⟨⟨p1, p2, m1, m2, p5, p6⟩, _, _⟩ := ic_facts hb
 obtain ⟨n, en⟩ : ∃ n, w.length = n := ⟨_, rfl⟩
 rw [en] at p5 p6 hx r2
 have n8 : n ≤ 8 := by omega
 have mx := p6.mat hx
 have hb1 := fun t ht => iv_le p1 p5 p6 hx m1 m2 (r := t) ht
 have klt := kxo_lt (x := x) p1 p5 hx
 have is1 : ∀ t, ivS o w x (t + 1) = ivS o w x t + e3 w x (kxo o x t) x := fun t => rfl
 have ks1 : ∀ t, kxo o x (t + 1) = ad o (kxo o x t) x := fun t => rfl
 simp only [e3] at is1
 have hRe := rest_ok o m w (ivS o w x r) m1 m2
 refine PureCall.intro (n := 37) (rs := [.tmp 4, .tmp 5]) Try.call11 Try.func11 rfl rfl rfl (by simp only [List.length_cons, List.length_nil]; omega) (fun cx hcx => ats_of ?_); simp only [argSlots, Nat.zero_add, Nat.reduceAdd]
 refine gB ?_
 refine gC fun K hK => ?_
 first | refine fcall_data (hI) rfl ?_ | refine YR_intro (acall_data (hI) rfl) ?_
 simp only [go_sem, seval]
 refine hK _ ?_; clear hK K
 (repeat refine ats_seq ?_); refine ats_no rfl trivial ?_
 refine ats_skip ?_
 refine gC fun K hK => ?_
 first | refine fcall_data (hE) rfl ?_ | refine YR_intro (acall_data (hE) rfl) ?_
 simp only [go_sem, seval]
 refine hK _ ?_; clear hK K
 (repeat refine ats_seq ?_); refine ats_no rfl trivial ?_
 refine ats_skip ?_
 refine gB ?_
 (repeat refine ats_seq ?_)
 (repeat refine ats_seq ?_); refine ats_loop (fun t : Nat => ⟨[(1, .int x), (2, .bptr 0 0), (6, .int (ivS o w x t)), (7, .int (kxo o x t))], [(0, .bx [.l1 o, .int m, .l3 w])]⟩) (fun t => t < r) (fun t => r - t) 0 r1 (by
  refine And.intro ?_ rfl; simp only [leS, Nat.reduceEqDiff, ↓reduceIte, true_and, and_true]
  first | exact ⟨rfl, rfl⟩ | rfl) (fun t ht => ?_)
 have kl := klt t
 have ist := is1 t
 have kst := ks1 t
 have bt := hb1 t (by omega)
 have bt1 := hb1 (t + 1) (by omega)
 have rx := p6.row hx kl
 have vx := p6.bd hx kl hx
 simp only [e3] at vx
 have hA := plus_ok o m w p1 p2 (kxo o x t) x (by omega) (by omega)
 rw [← kst] at hA
 obtain ⟨q, eq⟩ : ∃ q, kxo o x t = q := ⟨_, rfl⟩
 rw [eq] at kl ist hA rx vx ⊢
 (repeat refine ats_seq ?_); refine ats_block ?_
 refine gB ?_
 rw [← ist]
 refine gC fun K hK => ?_
 (repeat refine aI (hb := ?_))
 first | refine fcall_data (hA) rfl ?_ | refine YR_intro (acall_data (hA) rfl) ?_
 simp only [go_sem, seval]
 refine hK _ ?_; clear hK K
 refine gB ?_
 by_cases htr : t + 1 = r
 ·rw [htr, hr] at *
  (repeat refine ats_seq ?_); refine ats_yes rfl trivial ?_
  refine gC fun K hK => ?_
  (repeat refine aI (hb := ?_))
  first | refine fcall_data (hRe) rfl ?_ | refine YR_intro (acall_data (hRe) rfl) ?_
  simp only [go_sem, seval]
  refine hK _ ?_; clear hK K
  exact ats_ret (fin2 trivial trivial rfl)
 ·have hk := hmin (t + 1) (by omega) (by omega)
  refine gI (fun hh => ?_) fun hh => ?_
  ·omega
  ·refine ats_skip ?_
   refine ⟨t + 1,  by omega, by omega, .inl ⟨by simp only [leS, Nat.reduceEqDiff, ↓reduceIte, true_and, and_true]; (try omega),  rfl⟩⟩
end Go.Proofs.Ytcmgjlgmajhekaa
