import Derived.Test.YtaijdhkjemffhaaHx1
import Derived.Test.YtaijdhkjemffhaaPl7
import Derived.Test.YtaijdhkjemffhaaLib7
set_option linter.unusedSimpArgs false
set_option linter.unusedVariables false
namespace Go.Proofs.Ytaijdhkjemffhaa
open Go Go.Aw Go.Pl
attribute [local go_sem] pl_fin pl_stop pl_one pl_alt PK_ap pickO List.getElem?_toArray List.getElem?_cons_zero List.getElem?_cons_succ
def genW (o : List Int) (x : Nat) (y : Nat) : Int := if o.length ≤ y + x then plc1 o y else 0
def tupW (o : List Int) (e x : Nat) (y : Nat) : Int := if o.length ≤ y + x then dgO o e y else 0
theorem repl_rowF (n : Nat) : List.replicate n (0 : Int) = rowF n (fun _ => 0) := by simp [rowF, List.map_const']
theorem genW_zero (o : List Int) : List.replicate o.length (0 : Int) = rowF o.length (genW o 0) := by
  rw [repl_rowF]
  refine rowF_congr fun y hy => ?_
  unfold genW
  rw [if_neg (by omega)]
theorem tupW_zero (o : List Int) (e : Nat) : List.replicate o.length (0 : Int) = rowF o.length (tupW o e 0) := by
  rw [repl_rowF]
  refine rowF_congr fun y hy => ?_
  unfold tupW
  rw [if_neg (by omega)]
theorem genW_step {o : List Int} {x : Nat} (hx : x < o.length) : (rowF o.length (genW o x)).set (o.length - 1 - x) (adP o x) = rowF o.length (genW o (x + 1)) := by
  rw [rowF_set]
  refine rowF_congr fun y hy => ?_
  unfold genW
  by_cases e : y = o.length - 1 - x
  · rw [if_pos e, if_pos (by omega)]
    unfold plc1
    rw [show o.length - 1 - y = x by omega]
  · rw [if_neg e]
    by_cases h : o.length ≤ y + x
    · rw [if_pos h, if_pos (by omega)]
    · rw [if_neg h, if_neg (by omega)]
theorem tupW_step {o : List Int} {e x : Nat} (hx : x < o.length) : (rowF o.length (tupW o e x)).set (o.length - 1 - x) (adX o e x % adQ o x) = rowF o.length (tupW o e (x + 1)) := by
  rw [rowF_set]
  refine rowF_congr fun y hy => ?_
  unfold tupW
  by_cases h1 : y = o.length - 1 - x
  · rw [if_pos h1, if_pos (by omega)]
    unfold dgO
    rw [show o.length - 1 - y = x by omega]
  · rw [if_neg h1]
    by_cases h : o.length ≤ y + x
    · rw [if_pos h, if_pos (by omega)]
    · rw [if_neg h, if_neg (by omega)]
theorem genW_end (o : List Int) : rowF o.length (genW o o.length) = rowF o.length (plc1 o) := rowF_congr fun y hy => if_pos (by omega)
theorem tupW_end (o : List Int) (e : Nat) : rowF o.length (tupW o e o.length) = rowF o.length (dgO o e) := rowF_congr fun y hy => if_pos (by omega)
set_option maxHeartbeats 8000000 in
theorem generators_ok (o : List Int) (h : PosO o) (h8 : prodO o ≤ 8) (hl : o.length ≤ 1048576) : FreshCall Try.prog 75 [.l1 o] (.l1 (rowF o.length (plc1 o))) := by
  have hba := BackwardD_ok o
  refine FreshCall.introD (n := 24) (rs := [.tmp 2]) Try.call75 Try.func75 rfl rfl rfl (by simp only [List.length_cons, List.length_nil]; omega) (fun cx hcx hrd => ?_)
  have hcxA := hcx
  simp only [argSlots, Nat.zero_add, Nat.reduceAdd]
  refine atd_know 0 fun h0 => ?_
  replace h0 : F1 o := h0
  have hlen := h0.1
  refine atd_take [_, _] ⟨[(0, .l1 o), (1, .bptr 0 0), (3, .bptr 2 0), (4, .bptr 3 0)], [(0, .bx [.l1 o]), (1, .t1 (rowF o.length (genW o 0))), (2, .bx [.ref 1 []]), (3, .bx [.int 1])]⟩ (fun cx hf => ?_) ?_
  · replace hcx := hf.trans hcx
    rw [← genW_zero]
    (repeat refine ats_seq ?_); refine ats_go (by first | exact fix0 hcx | exact fixN hcx rfl) fun K hK => ?_; simp only [go_sem, seval]; (repeat refine And.intro (by first | omega | (intro hq; first | omega | (simp at hq <;> omega) | (simp_all <;> omega))) ?_); refine hK _ ?_; clear hK K
    (repeat refine ats_seq ?_); refine ats_go (by first | exact fix0 hcx | exact fixN hcx rfl) fun K hK => ?_; simp only [go_sem, seval]; (repeat refine And.intro (by first | omega | (intro hq; first | omega | (simp at hq <;> omega) | (simp_all <;> omega))) ?_); refine hK _ ?_; clear hK K
    refine ats_nil ?_; refine Or.inl ⟨rfl, ghost_trans (ghost_drop []) (ghost_can [] (by simp only [killL, killA, killAs, qOf, rmT, killH, killT, List.filter_cons, List.filter_nil, List.contains_cons, List.contains_nil, Bool.or_false, Bool.or_true, Bool.false_and, Bool.not_true, Bool.not_false, Bool.false_eq_true, if_true, if_false, rnLs, rnL, rn, rns, sw, SlotsLe, St.get, slotGet, List.map_cons, List.map_nil, seval, AV.int.injEq, AV.bool.injEq, AV.l1.injEq, AV.l2.injEq, AV.l3.injEq, true_and, and_true]) (by simp only [killL, killA, killAs, qOf, rmT, killH, killT, List.filter_cons, List.filter_nil, List.contains_cons, List.contains_nil, Bool.or_false, Bool.or_true, Bool.false_and, Bool.not_true, Bool.not_false, Bool.false_eq_true, if_true, if_false, sortH, insH, rnHs, rnH, rnT, rn, rns, sw, List.map_cons, List.map_nil, seval]))⟩
  · refine atds_of ?_
    (repeat refine atds_seq ?_)
    refine atds_cutG ⟨[(0, .l1 o), (1, .bptr 0 0), (3, .bptr 2 0), (4, .bptr 3 0), (10, .fn 76 [.bptr 4 0])], [(0, .bx [.l1 o]), (1, .t1 (rowF o.length (genW o 0))), (2, .bx [.ref 1 []]), (3, .bx [.int 1]), (4, .bx [.l1 o])]⟩ (fun cx hf => ?_) ?_
    · replace hcx := hf.trans hcx
      (repeat refine ats_seq ?_); refine ats_go (by first | exact fix0 hcx | exact fixN hcx rfl) fun K hK => ?_; simp only [go_sem, seval]
      refine fcall_box (hba) (by simp [Aw.ids]) (by simp [find]) (by simp [closedT, killT, killAs, killA, outQ, Aw.ids]) (by simp [killAs, killA, outQ, Aw.ids]) (by simp [Aw.ids]) ?_; simp only [Aw.ids, List.map_cons, List.map_nil, List.filter_cons, List.filter_nil, List.contains_cons, List.contains_nil, Bool.or_false, Bool.or_true, Bool.not_true, Bool.not_false, Nat.reduceBEq, Bool.false_eq_true, if_true, if_false, List.cons_append, List.nil_append]; simp only [go_sem, seval]
      refine hK _ ?_; clear hK K
      refine ats_nil ?_; refine Or.inl ⟨rfl, ghost_trans (ghost_drop []) (ghost_can [] (by simp only [killL, killA, killAs, qOf, rmT, killH, killT, List.filter_cons, List.filter_nil, List.contains_cons, List.contains_nil, Bool.or_false, Bool.or_true, Bool.false_and, Bool.not_true, Bool.not_false, Bool.false_eq_true, if_true, if_false, rnLs, rnL, rn, rns, sw, SlotsLe, St.get, slotGet, List.map_cons, List.map_nil, seval, AV.int.injEq, AV.bool.injEq, AV.l1.injEq, AV.l2.injEq, AV.l3.injEq, true_and, and_true]) (by simp only [killL, killA, killAs, qOf, rmT, killH, killT, List.filter_cons, List.filter_nil, List.contains_cons, List.contains_nil, Bool.or_false, Bool.or_true, Bool.false_and, Bool.not_true, Bool.not_false, Bool.false_eq_true, if_true, if_false, sortH, insH, rnHs, rnH, rnT, rn, rns, sw, List.map_cons, List.map_nil, seval]))⟩
    refine atds_block ?_
    refine ATD.back (fB := 76) backIt_ok Try.call76 hrd (gs := 10) (p0 := 11) (p1 := 12) o.length (fun k => [(0, .bx [.l1 o]), (1, .t1 (rowF o.length (genW o k))), (2, .bx [.ref 1 []]), (3, .bx [.int (adP o k)]), (4, .bx [.l1 o])]) (fun k => o.getD (o.length - 1 - k) 0) (fun j => [0, 1, 3, 4, 10].contains j) (by unfold maxLen; omega) rfl rfl rfl (by decide) (by decide) (by decide) (capOk rfl) (elOkB rfl rfl (fun x => rfl)) (fun k hkl c2 hf2 => ?_) ?_
    · have hcx := hf2
      have hk : k ≤ o.length := by omega
      have q1 := adQ_pos h hkl
      have q2 : adQ o k ≤ prodO o := entry_le h (by omega)
      have bp := adP_bd h k hk
      have bp1 := adP_bd h (k + 1) (by omega)
      have cp1 : adP o (k + 1) = adP o k * o.getD (o.length - 1 - k) 0 := rfl
      have lr : (rowF o.length (genW o k)).length = o.length := rowF_length ..
      have sx := genW_step hkl
      refine ats_of ?_
      (repeat refine ats_seq ?_); refine ats_go (by first | exact fix0 hcx | exact fixN hcx rfl) fun K hK => ?_; simp only [go_sem, seval]; (repeat refine And.intro (by first | omega | (intro hq; first | omega | (simp at hq <;> omega) | (simp_all <;> omega))) ?_); refine hK _ ?_; clear hK K
      refine ⟨rfl, fun cx hf => ?_⟩
      have hcx := hf
      refine AT.weakG (ats_of ?_)
      (repeat refine ats_seq ?_); refine ats_block ?_
      (repeat refine ats_seq ?_); refine ats_go (by first | exact fix0 hcx | exact fixN hcx rfl) fun K hK => ?_; simp only [go_sem, seval]
      simp only [lr]
      (repeat refine And.intro (by first | omega | (intro hq; first | omega | (simp at hq <;> omega) | (simp_all <;> omega))) ?_)
      refine hK _ ?_; clear hK K
      rw [sx]
      have lr1 : (rowF o.length (genW o (k + 1))).length = o.length := rowF_length ..
      (repeat refine ats_seq ?_); refine ats_pick (by first | exact fix0 hcx | exact fixN hcx rfl) mixed (by kernel_rfl) fun K hK => ?_; simp only [go_sem, seval]
      rw [← cp1]
      (repeat refine And.intro (by first | omega | (intro hq; first | omega | (simp at hq <;> omega) | (simp_all <;> omega))) ?_)
      refine hK _ ?_; clear hK K
      refine ats_nil (bq_n (ats_nil ?_))
      refine ⟨_, ghost_refl, rfl, ?_, rfl⟩
      show SlotsLe _ [(0, .l1 o), (1, .bptr 0 0), (3, .bptr 2 0), (4, .bptr 3 0), (10, .fn 76 [.bptr 4 0])]
      simp only [SlotsLe, St.get, slotGet, Nat.reduceEqDiff, ↓reduceIte, AV.int.injEq, AV.bool.injEq, AV.l1.injEq, AV.l2.injEq, AV.l3.injEq, true_and, and_true]
    · rw [genW_end]
      refine atds_last fun cx hf => ?_
      replace hcx := hf.trans hcxA
      refine ats_of ?_
      (repeat refine ats_seq ?_); refine ats_go (by first | exact fix0 hcx | exact fixN hcx rfl) fun K hK => ?_; simp only [go_sem, seval]; (repeat refine And.intro (by first | omega | (intro hq; first | omega | (simp at hq <;> omega) | (simp_all <;> omega))) ?_); refine hK _ ?_; clear hK K
      exact ats_ret (ownV (is := [1]) rfl ⟨rfl, trivial⟩ rfl (by simp))
set_option maxHeartbeats 8000000 in
theorem tupleOf_ok (o : List Int) (h : PosO o) (h8 : prodO o ≤ 8) (hl : o.length ≤ 1048576) (e : Nat) (he : e ≤ 8) : FreshCall Try.prog 93 [.l1 o, .int e] (.l1 (rowF o.length (dgO o e))) := by
  have hba := BackwardD_ok o
  refine FreshCall.introD (n := 30) (rs := [.tmp 4]) Try.call93 Try.func93 rfl rfl rfl (by simp only [List.length_cons, List.length_nil]; omega) (fun cx hcx hrd => ?_)
  have hcxA := hcx
  simp only [argSlots, Nat.zero_add, Nat.reduceAdd]
  refine atd_know 0 fun h0 => ?_
  replace h0 : F1 o := h0
  have hlen := h0.1
  refine atd_take [_, _] ⟨[(0, .l1 o), (2, .bptr 0 0), (3, .bptr 1 0), (5, .bptr 3 0)], [(0, .bx [.l1 o]), (1, .bx [.int e]), (2, .t1 (rowF o.length (tupW o e 0))), (3, .bx [.ref 2 []])]⟩ (fun cx hf => ?_) ?_
  · replace hcx := hf.trans hcx
    rw [← tupW_zero]
    (repeat refine ats_seq ?_); refine ats_go (by first | exact fix0 hcx | exact fixN hcx rfl) fun K hK => ?_; simp only [go_sem, seval]; (repeat refine And.intro (by first | omega | (intro hq; first | omega | (simp at hq <;> omega) | (simp_all <;> omega))) ?_); refine hK _ ?_; clear hK K
    (repeat refine ats_seq ?_); refine ats_go (by first | exact fix0 hcx | exact fixN hcx rfl) fun K hK => ?_; simp only [go_sem, seval]; (repeat refine And.intro (by first | omega | (intro hq; first | omega | (simp at hq <;> omega) | (simp_all <;> omega))) ?_); refine hK _ ?_; clear hK K
    refine ats_nil ?_; refine Or.inl ⟨rfl, ghost_trans (ghost_drop []) (ghost_can [] (by simp only [killL, killA, killAs, qOf, rmT, killH, killT, List.filter_cons, List.filter_nil, List.contains_cons, List.contains_nil, Bool.or_false, Bool.or_true, Bool.false_and, Bool.not_true, Bool.not_false, Bool.false_eq_true, if_true, if_false, rnLs, rnL, rn, rns, sw, SlotsLe, St.get, slotGet, List.map_cons, List.map_nil, seval, AV.int.injEq, AV.bool.injEq, AV.l1.injEq, AV.l2.injEq, AV.l3.injEq, true_and, and_true]) (by simp only [killL, killA, killAs, qOf, rmT, killH, killT, List.filter_cons, List.filter_nil, List.contains_cons, List.contains_nil, Bool.or_false, Bool.or_true, Bool.false_and, Bool.not_true, Bool.not_false, Bool.false_eq_true, if_true, if_false, sortH, insH, rnHs, rnH, rnT, rn, rns, sw, List.map_cons, List.map_nil, seval]))⟩
  · refine atds_of ?_
    (repeat refine atds_seq ?_)
    refine atds_cutG ⟨[(0, .l1 o), (2, .bptr 0 0), (3, .bptr 1 0), (5, .bptr 3 0), (11, .fn 76 [.bptr 4 0])], [(0, .bx [.l1 o]), (1, .bx [.int e]), (2, .t1 (rowF o.length (tupW o e 0))), (3, .bx [.ref 2 []]), (4, .bx [.l1 o])]⟩ (fun cx hf => ?_) ?_
    · replace hcx := hf.trans hcx
      (repeat refine ats_seq ?_); refine ats_go (by first | exact fix0 hcx | exact fixN hcx rfl) fun K hK => ?_; simp only [go_sem, seval]
      refine fcall_box (hba) (by simp [Aw.ids]) (by simp [find]) (by simp [closedT, killT, killAs, killA, outQ, Aw.ids]) (by simp [killAs, killA, outQ, Aw.ids]) (by simp [Aw.ids]) ?_; simp only [Aw.ids, List.map_cons, List.map_nil, List.filter_cons, List.filter_nil, List.contains_cons, List.contains_nil, Bool.or_false, Bool.or_true, Bool.not_true, Bool.not_false, Nat.reduceBEq, Bool.false_eq_true, if_true, if_false, List.cons_append, List.nil_append]; simp only [go_sem, seval]
      refine hK _ ?_; clear hK K
      refine ats_nil ?_; refine Or.inl ⟨rfl, ghost_trans (ghost_drop []) (ghost_can [] (by simp only [killL, killA, killAs, qOf, rmT, killH, killT, List.filter_cons, List.filter_nil, List.contains_cons, List.contains_nil, Bool.or_false, Bool.or_true, Bool.false_and, Bool.not_true, Bool.not_false, Bool.false_eq_true, if_true, if_false, rnLs, rnL, rn, rns, sw, SlotsLe, St.get, slotGet, List.map_cons, List.map_nil, seval, AV.int.injEq, AV.bool.injEq, AV.l1.injEq, AV.l2.injEq, AV.l3.injEq, true_and, and_true]) (by simp only [killL, killA, killAs, qOf, rmT, killH, killT, List.filter_cons, List.filter_nil, List.contains_cons, List.contains_nil, Bool.or_false, Bool.or_true, Bool.false_and, Bool.not_true, Bool.not_false, Bool.false_eq_true, if_true, if_false, sortH, insH, rnHs, rnH, rnT, rn, rns, sw, List.map_cons, List.map_nil, seval]))⟩
    refine atds_block ?_
    refine ATD.back (fB := 76) backIt_ok Try.call76 hrd (gs := 11) (p0 := 12) (p1 := 13) o.length (fun k => [(0, .bx [.l1 o]), (1, .bx [.int (adX o e k)]), (2, .t1 (rowF o.length (tupW o e k))), (3, .bx [.ref 2 []]), (4, .bx [.l1 o])]) (fun k => o.getD (o.length - 1 - k) 0) (fun j => [0, 2, 3, 5, 11].contains j) (by unfold maxLen; omega) rfl rfl rfl (by decide) (by decide) (by decide) (capOk rfl) (elOkB rfl rfl (fun x => rfl)) (fun k hkl c2 hf2 => ?_) ?_
    · have hcx := hf2
      have eq : o.getD (o.length - 1 - k) 0 = adQ o k := rfl
      rw [eq]
      have hk : k ≤ o.length := by omega
      have q1 := adQ_pos h hkl
      have q2 : adQ o k ≤ prodO o := entry_le h (by omega)
      have bx := adX_bd h (x := e) (by omega) k hk
      have bx1 := adX_bd h (x := e) (by omega) (k + 1) (by omega)
      have r1 := Int.emod_nonneg (adX o e k) (show adQ o k ≠ 0 by omega)
      have r2 := Int.emod_lt_of_pos (adX o e k) (show 0 < adQ o k by omega)
      have t1 : (adX o e k).tmod (adQ o k) = adX o e k % adQ o k := Int.tmod_eq_emod_of_nonneg (by omega)
      have t4 : (adX o e k).tdiv (adQ o k) = adX o e (k + 1) := Int.tdiv_eq_ediv_of_nonneg (by omega)
      have m1 : -9223372036854775808 ≤ (adX o e k).tmod (adQ o k) := by rw [t1]; omega
      have m2 : (adX o e k).tmod (adQ o k) ≤ 9223372036854775807 := by rw [t1]; omega
      have d1 : -9223372036854775808 ≤ (adX o e k).tdiv (adQ o k) := by rw [t4]; omega
      have d2 : (adX o e k).tdiv (adQ o k) ≤ 9223372036854775807 := by rw [t4]; omega
      have lr : (rowF o.length (tupW o e k)).length = o.length := rowF_length ..
      have sx := tupW_step (e := e) hkl
      rw [← t1] at sx
      refine ats_of ?_
      (repeat refine ats_seq ?_); refine ats_go (by first | exact fix0 hcx | exact fixN hcx rfl) fun K hK => ?_; simp only [go_sem, seval]; (repeat refine And.intro (by first | omega | (intro hq; first | omega | (simp at hq <;> omega) | (simp_all <;> omega))) ?_); refine hK _ ?_; clear hK K
      refine ⟨rfl, fun cx hf => ?_⟩
      have hcx := hf
      refine AT.weakG (ats_of ?_)
      (repeat refine ats_seq ?_); refine ats_block ?_
      (repeat refine ats_seq ?_)
      refine ats_plan [] (.one 0 (.one 1 (.one 2 (.one 3 (.one 4 (.one 5 (.one 6 (.one 7 (.one 8 (.alt 9 .fin .stop)))))))))) ⟨[(0, .l1 o), (2, .bptr 0 0), (3, .bptr 1 0), (5, .bptr 3 0), (6, .int (o.length - 1 - k : Nat)), (11, .fn 76 [.bptr 4 0])], [(0, .bx [.l1 o]), (1, .bx [.int (adX o e k)]), (2, .t1 ((rowF o.length (tupW o e k)).set (o.length - 1 - k) ((adX o e k).tmod (adQ o k)))), (3, .bx [.ref 2 []]), (4, .bx [.l1 o])]⟩ (by first | exact fix0 hcx | exact fixN hcx rfl) mixed (by kernel_rfl) (fun K hK => ?_) ?_
      · simp only [go_sem, seval, Option.getD_some, and_true, true_and, and_self, List.contains_cons, List.contains_nil, Bool.or_false, Bool.or_true]
        repeat' (first | exact hK _ (by refine And.intro ?_ rfl; simp only [SlotsLe, St.get, slotGet, Nat.reduceEqDiff, ↓reduceIte, AV.int.injEq, AV.bool.injEq, AV.l1.injEq, AV.l2.injEq, AV.l3.injEq, true_and, and_true])  | with_reducible refine And.intro ?_ ?_ | omega | ((exact m1)) | ((exact m2)) | ((rw [eq]; omega)))
      rw [sx]
      (repeat refine ats_seq ?_)
      refine ats_plan [] (.one 0 (.one 1 (.one 2 (.one 3 (.one 4 (.one 5 (.alt 6 .fin .stop))))))) ⟨[(0, .l1 o), (2, .bptr 0 0), (3, .bptr 1 0), (5, .bptr 3 0), (11, .fn 76 [.bptr 4 0])], [(0, .bx [.l1 o]), (1, .bx [.int ((adX o e k).tdiv (adQ o k))]), (2, .t1 (rowF o.length (tupW o e (k + 1)))), (3, .bx [.ref 2 []]), (4, .bx [.l1 o])]⟩ (by first | exact fix0 hcx | exact fixN hcx rfl) mixed (by kernel_rfl) (fun K hK => ?_) ?_
      · simp only [go_sem, seval, Option.getD_some, and_true, true_and, and_self, List.contains_cons, List.contains_nil, Bool.or_false, Bool.or_true]
        repeat' (first | exact hK _ (by refine And.intro ?_ rfl; simp only [SlotsLe, St.get, slotGet, Nat.reduceEqDiff, ↓reduceIte, AV.int.injEq, AV.bool.injEq, AV.l1.injEq, AV.l2.injEq, AV.l3.injEq, true_and, and_true])  | with_reducible refine And.intro ?_ ?_ | omega | ((exact d1)) | ((exact d2)) | ((rw [eq]; omega)))
      rw [t4]
      refine ats_nil (bq_n (ats_nil ?_))
      refine ⟨_, ghost_refl, rfl, ?_, rfl⟩
      show SlotsLe _ [(0, .l1 o), (2, .bptr 0 0), (3, .bptr 1 0), (5, .bptr 3 0), (11, .fn 76 [.bptr 4 0])]
      simp only [SlotsLe, St.get, slotGet, Nat.reduceEqDiff, ↓reduceIte, AV.int.injEq, AV.bool.injEq, AV.l1.injEq, AV.l2.injEq, AV.l3.injEq, true_and, and_true]
    · rw [tupW_end]
      refine atds_last fun cx hf => ?_
      replace hcx := hf.trans hcxA
      refine ats_of ?_
      (repeat refine ats_seq ?_); refine ats_go (by first | exact fix0 hcx | exact fixN hcx rfl) fun K hK => ?_; simp only [go_sem, seval]; (repeat refine And.intro (by first | omega | (intro hq; first | omega | (simp at hq <;> omega) | (simp_all <;> omega))) ?_); refine hK _ ?_; clear hK K
      exact ats_ret (ownV (is := [2]) rfl ⟨rfl, trivial⟩ rfl (by simp))
end Go.Proofs.Ytaijdhkjemffhaa
