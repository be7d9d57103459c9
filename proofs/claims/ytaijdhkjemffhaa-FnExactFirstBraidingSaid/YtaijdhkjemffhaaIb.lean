import Derived.Test.YtaijdhkjemffhaaIa
set_option linter.unusedSimpArgs false
set_option linter.unusedVariables false
namespace Go.Proofs.Ytaijdhkjemffhaa
open Go Go.Aw Go.Pl
attribute [local go_sem] pl_fin pl_stop pl_one pl_alt PK_ap pickO List.getElem?_toArray List.getElem?_cons_zero List.getElem?_cons_succ
def knV (kn : List Bool) : List AV := kn.map AV.bool
theorem knV_get {kn : List Bool} {i : Nat} (h : i < kn.length) : (knV kn).getD i .junk = .bool (kn.getD i false) := by
  simp [knV, List.getD, h]
theorem knV_set {kn : List Bool} {i : Nat} {b : Bool} : (knV kn).set i (.bool b) = knV (kn.set i b) := by
  simp [knV, List.map_set]
theorem knV_repl {n : Nat} : List.replicate n (AV.bool false) = knV (List.replicate n false) := by simp [knV]
theorem killAs_knV {q : Nat → List Nat → Bool} : ∀ {kn : List Bool}, killAs q (knV kn) = knV kn
  | [] => rfl
  | b :: kn => by
    show killA q (.bool b) :: killAs q (knV kn) = .bool b :: knV kn
    rw [killAs_knV]
    rfl
theorem knV_len {kn : List Bool} : (knV kn).length = kn.length := by simp [knV]
theorem set_self {n : Nat} {A : List (List Int)} (h : Sq n A) {q : Nat} (hq : q < n) : A.set q (A.getD q []) = A := by
  have hq2 : q < A.length := by rw [h.1]; exact hq
  have e3 : A.getD q [] = A[q] := by simp [List.getD, hq2]
  rw [e3]
  exact List.set_getElem_self hq2
theorem l18Mod_ok (n m : Int) (h1 : 1 ≤ m) (h2 : m ≤ 1000) : PureCall Try.prog 64 [.int n, .int m] (.int (n % m)) := by
  have a1 : -m < n.tmod m := by
    have := Int.tmod_lt_of_pos (-n) (show 0 < m by omega)
    rw [Int.neg_tmod] at this
    omega
  have a2 := Int.tmod_lt_of_pos n (show 0 < m by omega)
  have a3 := rest_eq (n := n) h1
  have a4 := Int.emod_nonneg n (show m ≠ 0 by omega)
  have a5 := Int.emod_lt_of_pos n (show 0 < m by omega)
  refine PureCall.intro (n := 12) (rs := [.tmp 4]) Try.call64 Try.func64 rfl rfl rfl (by simp only [List.length_cons, List.length_nil]; omega) (fun cx hcx => ats_of ?_); simp only [argSlots, Nat.zero_add, Nat.reduceAdd]
  (repeat refine ats_seq ?_); refine ats_go (fix0 hcx) fun K hK => ?_; simp only [go_sem, seval]; (repeat refine And.intro (by first | omega | (intro hq; first | omega | (simp at hq <;> omega) | (simp_all <;> omega))) ?_); refine hK _ ?_; clear hK K
  (repeat refine ats_seq ?_); refine ats_go (fix0 hcx) fun K hK => ?_; simp only [go_sem, seval]
  simp only [a3]
  (repeat refine And.intro (by first | omega | (intro hq; first | omega | (simp at hq <;> omega) | (simp_all <;> omega))) ?_)
  refine hK _ ?_; clear hK K
  refine ats_ret (finI rfl ?_)
  rfl
theorem gRow_bd' {o : List Int} {m : Int} {w : List (List (List Int))} (m1 : 1 ≤ m) {L : List Int} {j : Nat} {ρ : List Int} (h : ∀ y, 0 ≤ ρ.getD y 0 ∧ ρ.getD y 0 ≤ m - 1) : ∀ t y, 0 ≤ (gRow o m w L j ρ t).getD y 0 ∧ (gRow o m w L j ρ t).getD y 0 ≤ m - 1
  | 0, y => h y
  | t + 1, y => by
    rw [gRow, getD_set']
    split
    · exact emod_bd m1 _
    · exact gRow_bd' m1 h t y
theorem bd_all {m : Int} {n : Nat} {ρ : List Int} (m1 : 1 ≤ m) (hl : ρ.length = n) (h : ∀ y, y < n → 0 ≤ ρ.getD y 0 ∧ ρ.getD y 0 ≤ m - 1) (y : Nat) : 0 ≤ ρ.getD y 0 ∧ ρ.getD y 0 ≤ m - 1 := by
  by_cases hy : y < n
  · exact h y hy
  · rw [List.getD_eq_getElem?_getD, List.getElem?_eq_none (by omega)]
    show 0 ≤ (0 : Int) ∧ (0 : Int) ≤ m - 1
    omega
theorem matS_gr {o : List Int} {m : Int} {w : List (List (List Int))} (m1 : 1 ≤ m) (hn : nE o = w.length) (hk : chk o = true) {L : List Int} : ∀ j, j ≤ o.length → GridB w.length m (matS o m w L j)
  | 0, _ => gridB_zero m1 _
  | j + 1, h => by
    have ih := matS_gr m1 hn hk (L := L) j (by omega)
    have hg := (getOwn hk (i := j) (by omega)).1
    rw [hn] at hg
    refine gridB_set ih ⟨?_, fun k _ => gRow_bd' m1 (fun y => bd_all m1 (ih.row hg) (fun y hy => ih.bd hg hy) y) _ k⟩
    rw [gRow_len]
    exact ih.row hg
theorem allS_gr {o : List Int} {m : Int} {w : List (List (List Int))} (m1 : 1 ≤ m) {A : List (List Int)} (h : GridB w.length m A) : ∀ t, GridB w.length m (allS o m w A t)
  | 0 => h
  | t + 1 => by
    unfold allS
    split
    · exact allS_gr m1 h t
    · exact gridB_set (allS_gr m1 h t) ⟨rowF_length .., fun k hk => by rw [rowF_get hk]; exact emod_bd m1 _⟩
theorem bAll_zero {o : List Int} {n : Nat} (h : nE o = n) : (List.replicate n (AV.bool false)).set 0 (AV.bool true) = knV (bAll o 0).kn := by
  rw [knV_repl, knV_set, ← h]
  rfl
set_option maxRecDepth 100000 in
set_option maxHeartbeats 16000000 in
theorem bldA {cx : Cx} (hcx : cx.fix = 0) {Q : SQ} (o : List Int) (m : Int) (w : List (List (List Int))) (hc : CocOk o m w) (hck : chk o = true) (h3 : o.length ≤ 3) (L : List Int) (hLl : L.length = o.length * o.length) (hL : ∀ j, j < o.length * o.length → 0 ≤ L.getD j 0 ∧ L.getD j 0 ≤ m - 1) (g : List Int) (eg : gensL o = g) : ATs Try.prog cx 291 [nth 4 Try.f41.body] (fun e s => (e = .normal ∧ Ghost cx 291 s ⟨[(1, .l1 L), (2, .bptr 0 0), (6, .int w.length), (7, .int m), (8, .l1 g), (9, .l3 w), (10, .ref 1 [])], [(0, .bx [.l1 o, .int m, .l3 w]), (1, .t2 (matF w.length w.length fun _ _ => 0))]⟩) ∨ (e ≠ .normal ∧ Q e s)) ⟨[(1, .l1 L), (2, .bptr 0 0), (6, .int w.length), (7, .int m), (8, .l1 g), (9, .l3 w), (10, .ref 1 []), (11, .int 0)], [(0, .bx [.l1 o, .int m, .l3 w]), (1, .t2 [])]⟩ := by
  have hs := hc.1
  have n8 := hs.n8
  have m1 := hs.2.2.1
  have m2 := hs.2.2.2.1
  have hcb := hs.2.2.2.2.2
  have hG := l18Generators_ok o hs.1 hs.2.1 h3
  have lG : (gensL o).length = o.length := rowF_length ..
  have gG : ∀ k, k < o.length → (gensL o).getD k 0 = (own o k : Int) := fun k hk => rowF_get hk
  have en := hs.nE
  have hr := hs.1.1
  have hMod := fun n => l18Mod_ok n m m1 m2
  simp only [eg] at hG lG gG
  have hO := getD' hck
  have loS := hO.lo
  have lfS := hO.lf
  have lsS := hO.ls
  refine ats_code (by simp only [nth, Try.f41, flatC, List.cons_append, List.nil_append, List.getD_cons_zero, List.getD_cons_succ]; exact rfl) ?_
  (repeat refine ats_seq ?_); refine ats_loop (fun i : Nat => ⟨[(1, .l1 L), (2, .bptr 0 0), (6, .int w.length), (7, .int m), (8, .l1 g), (9, .l3 w), (10, .ref 1 []), (11, .int i)], [(0, .bx [.l1 o, .int m, .l3 w]), (1, .t2 (matF i w.length fun _ _ => 0))]⟩) (fun i => i ≤ w.length) (fun i => w.length - i) 0 (Nat.zero_le _) (by refine And.intro ?_ rfl; simp only [SlotsLe, St.get, slotGet, Nat.reduceEqDiff, ↓reduceIte, true_and, and_true, AV.int.injEq, AV.bool.injEq, AV.l1.injEq, AV.l2.injEq, AV.l3.injEq]; repeat' (first | rfl | with_reducible refine And.intro ?_ ?_ | omega)) (fun i hi => ?_)
  (repeat refine ats_seq ?_); refine ats_go (fix0 hcx) fun K hK => ?_; simp only [go_sem, seval]; (repeat refine And.intro (by first | omega | (intro hq; first | omega | (simp at hq <;> omega) | (simp_all <;> omega))) ?_); refine hK _ ?_; clear hK K
  (repeat refine ats_seq ?_); first | refine ats_ifn (p := _) rfl trivial (fun hl => ?_) (fun hl => ?_) | refine ats_ifp (p := _) rfl trivial (fun hl => ?_) (fun hl => ?_) | refine ats_cond rfl trivial (fun hl => ?_) (fun hl => ?_)
  · have lm : (matF i w.length fun _ _ => (0 : Int)).length = i := matF_length ..
    refine ats_skip ?_
    (repeat refine ats_seq ?_); refine ats_block ?_
    (repeat refine ats_seq ?_); refine ats_go (fix0 hcx) fun K hK => ?_; simp only [go_sem, seval]; (repeat refine And.intro (by first | omega | (intro hq; first | omega | (simp at hq <;> omega) | (simp_all <;> omega))) ?_); refine hK _ ?_; clear hK K
    (repeat refine ats_seq ?_); refine ats_go (fix0 hcx) fun K hK => ?_; simp only [go_sem, seval]; (repeat refine And.intro (by first | omega | (intro hq; first | omega | (simp at hq <;> omega) | (simp_all <;> omega))) ?_); refine hK _ ?_; clear hK K
    refine ⟨i + 1,  by omega, by omega, .inl ⟨by simp only [SlotsLe, St.get, slotGet, Nat.reduceEqDiff, ↓reduceIte, AV.int.injEq, AV.bool.injEq, AV.l1.injEq, AV.l2.injEq, AV.l3.injEq, true_and, and_true]; omega,  (by rw [matP_succ, ← repl_rowF])⟩⟩
  · obtain rfl : i = w.length := by omega
    refine ats_exit (lq_x ?_)
    refine ats_nil ?_; refine Or.inl ⟨rfl, ghost_trans (ghost_drop []) (ghost_can [] (by simp only [killL, killA, killAs, qOf, rmT, killH, killT, List.filter_cons, List.filter_nil, List.contains_cons, List.contains_nil, Bool.or_false, Bool.or_true, Bool.false_and, Bool.not_true, Bool.not_false, Bool.false_eq_true, if_true, if_false, rnLs, rnL, rn, rns, sw, SlotsLe, St.get, slotGet, List.map_cons, List.map_nil, seval, AV.int.injEq, AV.bool.injEq, AV.l1.injEq, AV.l2.injEq, AV.l3.injEq, true_and, and_true]) (by simp only [killL, killA, killAs, qOf, rmT, killH, killT, List.filter_cons, List.filter_nil, List.contains_cons, List.contains_nil, Bool.or_false, Bool.or_true, Bool.false_and, Bool.not_true, Bool.not_false, Bool.false_eq_true, if_true, if_false, sortH, insH, rnHs, rnH, rnT, rn, rns, sw, List.map_cons, List.map_nil, seval]))⟩
set_option maxRecDepth 100000 in
set_option maxHeartbeats 16000000 in
theorem bldB {cx : Cx} (hcx : cx.fix = 0) {Q : SQ} (o : List Int) (m : Int) (w : List (List (List Int))) (hc : CocOk o m w) (hck : chk o = true) (h3 : o.length ≤ 3) (L : List Int) (hLl : L.length = o.length * o.length) (hL : ∀ j, j < o.length * o.length → 0 ≤ L.getD j 0 ∧ L.getD j 0 ≤ m - 1) (g : List Int) (eg : gensL o = g) : ATs Try.prog cx 291 [nth 10 Try.f41.body] (fun e s => (e = .normal ∧ Ghost cx 291 s ⟨[(1, .l1 L), (2, .bptr 0 0), (6, .int w.length), (7, .int m), (8, .l1 g), (9, .l3 w), (10, .ref 1 []), (13, .ref 3 []), (14, .ref 4 []), (15, .ref 5 [])], [(0, .bx [.l1 o, .int m, .l3 w]), (1, .t2 (matF w.length w.length fun _ _ => 0)), (3, .t1 (odL o)), (4, .t1 (fmL o)), (5, .t1 (stL o))]⟩) ∨ (e ≠ .normal ∧ Q e s)) ⟨[(1, .l1 L), (2, .bptr 0 0), (6, .int w.length), (7, .int m), (8, .l1 g), (9, .l3 w), (10, .ref 1 []), (12, .ref 2 []), (13, .ref 3 []), (14, .ref 4 []), (15, .ref 5 []), (16, .int 0)], [(0, .bx [.l1 o, .int m, .l3 w]), (1, .t2 (matF w.length w.length fun _ _ => 0)), (2, .lv (knV (bAll o 0).kn)), (3, .t1 (bAll o 0).od), (4, .t1 (bAll o 0).fm), (5, .t1 (bAll o 0).st)]⟩ := by
  have hs := hc.1
  have n8 := hs.n8
  have m1 := hs.2.2.1
  have m2 := hs.2.2.2.1
  have hcb := hs.2.2.2.2.2
  have hG := l18Generators_ok o hs.1 hs.2.1 h3
  have lG : (gensL o).length = o.length := rowF_length ..
  have gG : ∀ k, k < o.length → (gensL o).getD k 0 = (own o k : Int) := fun k hk => rowF_get hk
  have en := hs.nE
  have hr := hs.1.1
  have hMod := fun n => l18Mod_ok n m m1 m2
  simp only [eg] at hG lG gG
  have hO := getD' hck
  have loS := hO.lo
  have lfS := hO.lf
  have lsS := hO.ls
  refine ats_code (by simp only [nth, Try.f41, flatC, List.cons_append, List.nil_append, List.getD_cons_zero, List.getD_cons_succ]; exact rfl) ?_
  have hC : ∀ i, i < w.length → ∀ k, k ≤ o.length → BfOk o i (bRow o i (bAll o i) k) := fun i hi k hk => getC hck (by omega) hk
  (repeat refine ats_seq ?_); refine ats_loop (fun i : Nat => ⟨[(1, .l1 L), (2, .bptr 0 0), (6, .int w.length), (7, .int m), (8, .l1 g), (9, .l3 w), (10, .ref 1 []), (12, .ref 2 []), (13, .ref 3 []), (14, .ref 4 []), (15, .ref 5 []), (16, .int i)], [(0, .bx [.l1 o, .int m, .l3 w]), (1, .t2 (matF w.length w.length fun _ _ => 0)), (2, .lv (knV (bAll o i).kn)), (3, .t1 (bAll o i).od), (4, .t1 (bAll o i).fm), (5, .t1 (bAll o i).st)]⟩) (fun i => i ≤ w.length) (fun i => w.length - i) 0 (Nat.zero_le _) (by
    refine And.intro ?_ rfl; simp only [SlotsLe, St.get, slotGet, Nat.reduceEqDiff, ↓reduceIte, AV.int.injEq, AV.bool.injEq, AV.l1.injEq, AV.l2.injEq, AV.l3.injEq, true_and, and_true]
    try rfl) (fun i hi => ?_)
  by_cases hlt : i < w.length
  · have b0 := hC i hlt 0 (Nat.zero_le _)
    have l0 := b0.lt
    have lu := b0.od
    have e0 : bRow o i (bAll o i) 0 = bAll o i := rfl
    rw [e0] at l0 lu
    (repeat refine ats_seq ?_); refine ats_go (by first | exact fix0 hcx | exact fix1 hcx rfl) fun K hK => ?_; simp only [go_sem, seval]; (repeat refine And.intro (by first | omega | (intro hq; first | omega | (simp at hq <;> omega) | (simp_all <;> omega))) ?_); refine hK _ ?_; clear hK K
    (repeat refine ats_seq ?_); first | refine ats_ifn (p := _) rfl trivial (fun hl => ?_) (fun hl => ?_) | refine ats_ifp (p := _) rfl trivial (fun hl => ?_) (fun hl => ?_) | refine ats_cond rfl trivial (fun hl => ?_) (fun hl => ?_)
    · refine ats_skip ?_
      (repeat refine ats_seq ?_); refine ats_block ?_
      (repeat refine ats_seq ?_); refine ats_go (by first | exact fix0 hcx | exact fix1 hcx rfl) fun K hK => ?_; simp only [go_sem, seval]; (repeat refine And.intro (by first | omega | (intro hq; first | omega | (simp at hq <;> omega) | (simp_all <;> omega))) ?_); refine hK _ ?_; clear hK K
      (repeat refine ats_seq ?_); refine ats_loop (fun k : Nat => ⟨[(1, .l1 L), (2, .bptr 0 0), (6, .int w.length), (7, .int m), (8, .l1 g), (9, .l3 w), (10, .ref 1 []), (12, .ref 2 []), (13, .ref 3 []), (14, .ref 4 []), (15, .ref 5 []), (16, .int i), (17, .int k)], [(0, .bx [.l1 o, .int m, .l3 w]), (1, .t2 (matF w.length w.length fun _ _ => 0)), (2, .lv (knV (bRow o i (bAll o i) k).kn)), (3, .t1 (bRow o i (bAll o i) k).od), (4, .t1 (bRow o i (bAll o i) k).fm), (5, .t1 (bRow o i (bAll o i) k).st)]⟩) (fun k => k ≤ o.length) (fun k => o.length - k) 0 (Nat.zero_le _) (by
        refine And.intro ?_ rfl; simp only [SlotsLe, St.get, slotGet, Nat.reduceEqDiff, ↓reduceIte, AV.int.injEq, AV.bool.injEq, AV.l1.injEq, AV.l2.injEq, AV.l3.injEq, true_and, and_true]
        try rfl) (fun k hk => ?_)
      have bk := hC i hlt k hk
      obtain ⟨s, es⟩ : ∃ s, bRow o i (bAll o i) k = s := ⟨_, rfl⟩
      have ess : bRow o i (bAll o i) (k + 1) = bStep o i k (bRow o i (bAll o i) k) := rfl
      rw [es] at ess bk ⊢
      have q1 := bk.kn
      have q2 := bk.od
      have q3 := bk.lt
      have q4 := bk.fm
      have q5 := bk.st
      have q6 := bk.el i q3
      (repeat refine ats_seq ?_); refine ats_go (by first | exact fix0 hcx | exact fix1 hcx rfl) fun K hK => ?_; simp only [go_sem, seval]; (repeat refine And.intro (by first | omega | (intro hq; first | omega | (simp at hq <;> omega) | (simp_all <;> omega))) ?_); refine hK _ ?_; clear hK K
      (repeat refine ats_seq ?_); first | refine ats_ifn (p := _) rfl trivial (fun hlk => ?_) (fun hlk => ?_) | refine ats_ifp (p := _) rfl trivial (fun hlk => ?_) (fun hlk => ?_) | refine ats_cond rfl trivial (fun hlk => ?_) (fun hlk => ?_)
      · have hk2 : k < o.length := by omega
        have gk := gG k hk2
        obtain ⟨x, ex⟩ : ∃ x : Nat, s.od.getD i 0 = x := ⟨(s.od.getD i 0).toNat, by omega⟩
        have hgk := (getOwn hck hk2).1
        have hA := l06Add_ok o hs.1 hs.2.1 x (own o k) (by omega) (by omega)
        have hq := hs.ad x (own o k)
        obtain ⟨q, eq⟩ : ∃ q, ad o x (own o k) = q := ⟨_, rfl⟩
        have ebs : bStep o i k s = if s.kn.getD q false = true then s else ⟨s.kn.set q true, s.od ++ [(q : Int)], s.fm ++ [(x : Int)], s.st ++ [(k : Int)]⟩ := by
          unfold bStep
          rw [ex, Int.toNat_natCast, eq]
        rw [eq] at hA hq
        have kg := knV_get (kn := s.kn) (i := q) (by omega)
        have kl := knV_len (kn := s.kn)
        have od2 : (s.od ++ [(q : Int)]).getD i 0 = (x : Int) := by
          rw [← ex, List.getD_eq_getElem?_getD, List.getElem?_append_left q3, ← List.getD_eq_getElem?_getD]
        refine ats_skip ?_
        (repeat refine ats_seq ?_); refine ats_block ?_
        (repeat refine ats_seq ?_); refine ats_pick (fix0 hcx) mixed (by kernel_rfl) fun K hK => ?_; simp only [go_sem, seval]
        simp only [ex, gk]
        (repeat refine And.intro (by first | omega | (intro hq; first | omega | (simp at hq <;> omega) | (simp_all <;> omega))) ?_)
        first | refine fcall_data (hA) rfl ?_ | refine YR_intro (acall_data (hA) rfl) ?_
        simp only [go_sem, seval]
        (repeat refine And.intro (by first | omega | (intro hq; first | omega | (simp at hq <;> omega) | (simp_all <;> omega))) ?_)
        refine hK _ ?_; clear hK K
        (repeat refine ats_seq ?_); refine ats_go (by first | exact fix0 hcx | exact fix1 hcx rfl) fun K hK => ?_; simp only [go_sem, seval]
        simp only [kl, kg]
        simp only [go_sem, seval]
        (repeat refine And.intro (by first | omega | (intro hq; first | omega | (simp at hq <;> omega) | (simp_all <;> omega))) ?_)
        refine YR_intro (v := .bool (!s.kn.getD q false)) (by first | rfl | exact ⟨trivial, rfl⟩ | simp [AUn]) ?_
        simp only [go_sem, seval]
        (repeat refine And.intro (by first | omega | (intro hq; first | omega | (simp at hq <;> omega) | (simp_all <;> omega))) ?_)
        refine hK _ ?_; clear hK K
        cases hb : s.kn.getD q false with
        | true =>
          rw [hb, if_pos rfl] at ebs
          (repeat refine ats_seq ?_); refine ats_no rfl trivial ?_
          refine ats_skip ?_
          (repeat refine ats_seq ?_); refine ats_go (by first | exact fix0 hcx | exact fix1 hcx rfl) fun K hK => ?_; simp only [go_sem, seval]; (repeat refine And.intro (by first | omega | (intro hq; first | omega | (simp at hq <;> omega) | (simp_all <;> omega))) ?_); refine hK _ ?_; clear hK K
          refine ⟨k + 1,  by omega, by omega, .inl ⟨by simp only [SlotsLe, St.get, slotGet, Nat.reduceEqDiff, ↓reduceIte, AV.int.injEq, AV.bool.injEq, AV.l1.injEq, AV.l2.injEq, AV.l3.injEq, true_and, and_true]; omega,  (by rw [ess, ebs])⟩⟩
        | false =>
          rw [hb, if_neg (by decide)] at ebs
          have ks := knV_set (kn := s.kn) (i := q) (b := true)
          (repeat refine ats_seq ?_); refine ats_yes rfl trivial ?_
          (repeat refine ats_seq ?_); refine ats_go (by first | exact fix0 hcx | exact fix1 hcx rfl) fun K hK => ?_; simp only [go_sem, seval]
          simp only [kl]
          (repeat refine And.intro (by first | omega | (intro hq; first | omega | (simp at hq <;> omega) | (simp_all <;> omega))) ?_)
          refine hK _ ?_; clear hK K
          rw [ks]
          (repeat refine ats_seq ?_); refine ats_go (by first | exact fix0 hcx | exact fix1 hcx rfl) fun K hK => ?_; simp only [go_sem, seval]; (repeat refine And.intro (by first | omega | (intro hq; first | omega | (simp at hq <;> omega) | (simp_all <;> omega))) ?_); refine hK _ ?_; clear hK K
          (repeat refine ats_seq ?_); refine ats_go (by first | exact fix0 hcx | exact fix1 hcx rfl) fun K hK => ?_; simp only [go_sem, seval]
          simp only [od2, List.length_append, List.length_cons, List.length_nil]
          (repeat refine And.intro (by first | omega | (intro hq; first | omega | (simp at hq <;> omega) | (simp_all <;> omega))) ?_)
          refine hK _ ?_; clear hK K
          (repeat refine ats_seq ?_); refine ats_go (by first | exact fix0 hcx | exact fix1 hcx rfl) fun K hK => ?_; simp only [go_sem, seval]; (repeat refine And.intro (by first | omega | (intro hq; first | omega | (simp at hq <;> omega) | (simp_all <;> omega))) ?_); refine hK _ ?_; clear hK K
          (repeat refine ats_seq ?_); refine ats_go (by first | exact fix0 hcx | exact fix1 hcx rfl) fun K hK => ?_; simp only [go_sem, seval]; (repeat refine And.intro (by first | omega | (intro hq; first | omega | (simp at hq <;> omega) | (simp_all <;> omega))) ?_); refine hK _ ?_; clear hK K
          refine ⟨k + 1, by omega, by omega, .inr ⟨[6, 7, 8], by simp only [killL, List.map_cons, List.map_nil, killA, killAs, qOf, rmT, killH, killT, List.filter_cons, List.filter_nil, List.contains_cons, List.contains_nil, SlotsLe, St.get, slotGet, Nat.reduceEqDiff, Nat.reduceBEq, Bool.or_false, Bool.or_true, Bool.false_and, Bool.not_true, Bool.not_false, Bool.false_eq_true, ↓reduceIte, if_true, if_false, AV.int.injEq, AV.bool.injEq, AV.l1.injEq, AV.l2.injEq, AV.l3.injEq, true_and, and_true]; omega, by simp only [killL, List.map_cons, List.map_nil, killA, killAs, qOf, rmT, killH, killT, List.filter_cons, List.filter_nil, List.contains_cons, List.contains_nil, SlotsLe, St.get, slotGet, Nat.reduceEqDiff, Nat.reduceBEq, Bool.or_false, Bool.or_true, Bool.false_and, Bool.not_true, Bool.not_false, Bool.false_eq_true, ↓reduceIte, if_true, if_false, AV.int.injEq, AV.bool.injEq, AV.l1.injEq, AV.l2.injEq, AV.l3.injEq, true_and, and_true]; (rw [ess, ebs]; simp only [killAs_knV])⟩⟩
      · obtain rfl : k = o.length := by omega
        refine ats_exit (lq_x ?_)
        rw [← es]
        (repeat refine ats_seq ?_); refine ats_go (by first | exact fix0 hcx | exact fix1 hcx rfl) fun K hK => ?_; simp only [go_sem, seval]; (repeat refine And.intro (by first | omega | (intro hq; first | omega | (simp at hq <;> omega) | (simp_all <;> omega))) ?_); refine hK _ ?_; clear hK K
        refine ⟨i + 1,  by omega, by omega, .inl ⟨by simp only [SlotsLe, St.get, slotGet, Nat.reduceEqDiff, ↓reduceIte, AV.int.injEq, AV.bool.injEq, AV.l1.injEq, AV.l2.injEq, AV.l3.injEq, true_and, and_true]; omega,  rfl⟩⟩
    · omega
  · obtain rfl : i = w.length := by omega
    have e1 : bAll o w.length = bAll o (nE o) := by rw [en]
    have e2 : (bAll o w.length).od = odL o := by rw [e1]; rfl
    have e3 : (bAll o w.length).fm = fmL o := by rw [e1]; rfl
    have e4 : (bAll o w.length).st = stL o := by rw [e1]; rfl
    have l1 := hO.lo
    rw [e2, e3, e4]
    (repeat refine ats_seq ?_); refine ats_go (by first | exact fix0 hcx | exact fix1 hcx rfl) fun K hK => ?_; simp only [go_sem, seval]
    simp only [l1]
    (repeat refine And.intro (by first | omega | (intro hq; first | omega | (simp at hq <;> omega) | (simp_all <;> omega))) ?_)
    refine hK _ ?_; clear hK K
    (repeat refine ats_seq ?_); first | refine ats_ifn (p := _) rfl trivial (fun hl => ?_) (fun hl => ?_) | refine ats_ifp (p := _) rfl trivial (fun hl => ?_) (fun hl => ?_) | refine ats_cond rfl trivial (fun hl => ?_) (fun hl => ?_)
    · omega
    · refine ats_exit ?_
      refine lq_x ?_
      refine ats_nil ?_; refine Or.inl ⟨rfl, ghost_trans (ghost_drop [2]) (ghost_can [] (by simp only [killL, killA, killAs, qOf, rmT, killH, killT, List.filter_cons, List.filter_nil, List.contains_cons, List.contains_nil, Bool.or_false, Bool.or_true, Bool.false_and, Bool.not_true, Bool.not_false, Bool.false_eq_true, if_true, if_false, rnLs, rnL, rn, rns, sw, SlotsLe, St.get, slotGet, List.map_cons, List.map_nil, seval, AV.int.injEq, AV.bool.injEq, AV.l1.injEq, AV.l2.injEq, AV.l3.injEq, true_and, and_true]) (by simp only [killL, killA, killAs, qOf, rmT, killH, killT, List.filter_cons, List.filter_nil, List.contains_cons, List.contains_nil, Bool.or_false, Bool.or_true, Bool.false_and, Bool.not_true, Bool.not_false, Bool.false_eq_true, if_true, if_false, sortH, insH, rnHs, rnH, rnT, rn, rns, sw, List.map_cons, List.map_nil, seval]))⟩
set_option maxRecDepth 100000 in
set_option maxHeartbeats 16000000 in
theorem bldC {cx : Cx} (hcx : cx.fix = 0) {Q : SQ} (o : List Int) (m : Int) (w : List (List (List Int))) (hc : CocOk o m w) (hck : chk o = true) (h3 : o.length ≤ 3) (L : List Int) (hLl : L.length = o.length * o.length) (hL : ∀ j, j < o.length * o.length → 0 ≤ L.getD j 0 ∧ L.getD j 0 ≤ m - 1) (g : List Int) (eg : gensL o = g) : ATs Try.prog cx 291 [nth 12 Try.f41.body] (fun e s => (e = .normal ∧ Ghost cx 291 s ⟨[(1, .l1 L), (2, .bptr 0 0), (6, .int w.length), (7, .int m), (8, .l1 g), (9, .l3 w), (10, .ref 1 []), (13, .ref 3 []), (14, .ref 4 []), (15, .ref 5 [])], [(0, .bx [.l1 o, .int m, .l3 w]), (1, .t2 (matS o m w L o.length)), (3, .t1 (odL o)), (4, .t1 (fmL o)), (5, .t1 (stL o))]⟩) ∨ (e ≠ .normal ∧ Q e s)) ⟨[(1, .l1 L), (2, .bptr 0 0), (6, .int w.length), (7, .int m), (8, .l1 g), (9, .l3 w), (10, .ref 1 []), (13, .ref 3 []), (14, .ref 4 []), (15, .ref 5 []), (19, .int 0)], [(0, .bx [.l1 o, .int m, .l3 w]), (1, .t2 (matF w.length w.length fun _ _ => 0)), (3, .t1 (odL o)), (4, .t1 (fmL o)), (5, .t1 (stL o))]⟩ := by
  have hs := hc.1
  have n8 := hs.n8
  have m1 := hs.2.2.1
  have m2 := hs.2.2.2.1
  have hcb := hs.2.2.2.2.2
  have hG := l18Generators_ok o hs.1 hs.2.1 h3
  have lG : (gensL o).length = o.length := rowF_length ..
  have gG : ∀ k, k < o.length → (gensL o).getD k 0 = (own o k : Int) := fun k hk => rowF_get hk
  have en := hs.nE
  have hr := hs.1.1
  have hMod := fun n => l18Mod_ok n m m1 m2
  simp only [eg] at hG lG gG
  have hO := getD' hck
  have loS := hO.lo
  have lfS := hO.lf
  have lsS := hO.ls
  refine ats_code (by simp only [nth, Try.f41, flatC, List.cons_append, List.nil_append, List.getD_cons_zero, List.getD_cons_succ]; exact rfl) ?_
  (repeat refine ats_seq ?_); refine ats_loop (fun j : Nat => ⟨[(1, .l1 L), (2, .bptr 0 0), (6, .int w.length), (7, .int m), (8, .l1 g), (9, .l3 w), (10, .ref 1 []), (13, .ref 3 []), (14, .ref 4 []), (15, .ref 5 []), (19, .int j)], [(0, .bx [.l1 o, .int m, .l3 w]), (1, .t2 (matS o m w L j)), (3, .t1 (odL o)), (4, .t1 (fmL o)), (5, .t1 (stL o))]⟩) (fun j => j ≤ o.length) (fun j => o.length - j) 0 (Nat.zero_le _) (by
    refine And.intro ?_ rfl; simp only [SlotsLe, St.get, slotGet, Nat.reduceEqDiff, ↓reduceIte, AV.int.injEq, AV.bool.injEq, AV.l1.injEq, AV.l2.injEq, AV.l3.injEq, true_and, and_true]
    try rfl) (fun j hj => ?_)
  (repeat refine ats_seq ?_); refine ats_go (by first | exact fix0 hcx | exact fix1 hcx rfl) fun K hK => ?_; simp only [go_sem, seval]; (repeat refine And.intro (by first | omega | (intro hq; first | omega | (simp at hq <;> omega) | (simp_all <;> omega))) ?_); refine hK _ ?_; clear hK K
  (repeat refine ats_seq ?_); first | refine ats_ifn (p := _) rfl trivial (fun hl => ?_) (fun hl => ?_) | refine ats_ifp (p := _) rfl trivial (fun hl => ?_) (fun hl => ?_) | refine ats_cond rfl trivial (fun hl => ?_) (fun hl => ?_)
  · have hjr : j < o.length := by omega
    have gj := gG j hjr
    have sq := matS_sq (m := m) (w := w) en hck (L := L) j (by omega)
    have hgj := (getOwn hck hjr).1
    rw [en] at hgj
    have lM := sq.1
    obtain ⟨ρ, eρ⟩ : ∃ ρ, (matS o m w L j).getD (own o j) [] = ρ := ⟨_, rfl⟩
    have lρ : ρ.length = w.length := by rw [← eρ]; exact sq.2 _ hgj
    have bρ : ∀ y, y < w.length → 0 ≤ ρ.getD y 0 ∧ ρ.getD y 0 ≤ m - 1 := fun y hy => by rw [← eρ]; exact (matS_gr m1 en hck j (by omega)).bd hgj hy
    obtain ⟨x, ex⟩ : ∃ x, own o j = x := ⟨_, rfl⟩
    obtain ⟨A, eA⟩ : ∃ A : Nat → List (List Int), A = fun t => (matS o m w L j).set x (gRow o m w L j ρ t) := ⟨_, rfl⟩
    have A0 : matS o m w L j = A 0 := by
      rw [eA]
      show _ = (matS o m w L j).set x ρ
      rw [← eρ, ex]
      rw [ex] at hgj
      exact (set_self sq hgj).symm
    have Ae : A (w.length - 1) = matS o m w L (j + 1) := by rw [eA, ← ex, ← eρ]; rfl
    rw [ex] at gj hgj
    have lA : ∀ t, (A t).length = w.length := fun t => by rw [eA]; show (List.set _ _ _).length = _; rw [List.length_set, lM]
    have gA : ∀ t, (A t).getD x [] = gRow o m w L j ρ t := fun t => by rw [eA]; show (List.set _ _ _).getD _ _ = _; rw [getD_set', if_pos ⟨rfl, by rw [lM]; exact hgj⟩]
    have lR : ∀ t, (gRow o m w L j ρ t).length = w.length := fun t => by rw [gRow_len, lρ]
    have sA : ∀ t v, (A t).set x v = (matS o m w L j).set x v := fun t v => by rw [eA]; show (List.set (List.set _ _ _) _ _) = _; rw [List.set_set]
    refine ats_skip ?_
    (repeat refine ats_seq ?_); refine ats_block ?_
    (repeat refine ats_seq ?_); refine ats_go (by first | exact fix0 hcx | exact fix1 hcx rfl) fun K hK => ?_; simp only [go_sem, seval]
    simp only [gj]
    (repeat refine And.intro (by first | omega | (intro hq; first | omega | (simp at hq <;> omega) | (simp_all <;> omega))) ?_)
    refine hK _ ?_; clear hK K
    rw [A0]
    (repeat refine ats_seq ?_); refine ats_go (by first | exact fix0 hcx | exact fix1 hcx rfl) fun K hK => ?_; simp only [go_sem, seval]
    simp only [lA]
    (repeat refine And.intro (by first | omega | (intro hq; first | omega | (simp at hq <;> omega) | (simp_all <;> omega))) ?_)
    refine hK _ ?_; clear hK K
    (repeat refine ats_seq ?_); refine ats_go (by first | exact fix0 hcx | exact fix1 hcx rfl) fun K hK => ?_; simp only [go_sem, seval]; (repeat refine And.intro (by first | omega | (intro hq; first | omega | (simp at hq <;> omega) | (simp_all <;> omega))) ?_); refine hK _ ?_; clear hK K
    (repeat refine ats_seq ?_); refine ats_loop (fun t : Nat => ⟨[(1, .l1 L), (2, .bptr 0 0), (6, .int w.length), (7, .int m), (8, .l1 g), (9, .l3 w), (10, .ref 1 []), (13, .ref 3 []), (14, .ref 4 []), (15, .ref 5 []), (19, .int j), (20, .int x), (21, .ref 1 [x]), (22, .int ((t + 1 : Nat) : Int))], [(0, .bx [.l1 o, .int m, .l3 w]), (1, .t2 (A t)), (3, .t1 (odL o)), (4, .t1 (fmL o)), (5, .t1 (stL o))]⟩) (fun t => t + 1 ≤ w.length) (fun t => w.length - t) 0 (by omega) (by
      refine And.intro ?_ rfl; simp only [SlotsLe, St.get, slotGet, Nat.reduceEqDiff, ↓reduceIte, AV.int.injEq, AV.bool.injEq, AV.l1.injEq, AV.l2.injEq, AV.l3.injEq, true_and, and_true]
      try rfl) (fun t ht => ?_)
    (repeat refine ats_seq ?_); refine ats_go (by first | exact fix0 hcx | exact fix1 hcx rfl) fun K hK => ?_; simp only [go_sem, seval]
    simp only [loS, en]
    (repeat refine And.intro (by first | omega | (intro hq; first | omega | (simp at hq <;> omega) | (simp_all <;> omega))) ?_)
    refine hK _ ?_; clear hK K
    (repeat refine ats_seq ?_); first | refine ats_ifn (p := _) rfl trivial (fun hlt => ?_) (fun hlt => ?_) | refine ats_ifp (p := _) rfl trivial (fun hlt => ?_) (fun hlt => ?_) | refine ats_cond rfl trivial (fun hlt => ?_) (fun hlt => ?_)
    · have htn : t + 1 < nE o := by omega
      obtain ⟨f1, f2⟩ := hO.fN htn
      obtain ⟨s1, s2⟩ := hO.sN htn
      obtain ⟨o1, o2⟩ := hO.od htn
      have gs := gG _ s2
      have hgs := (getOwn hck s2).1
      have ij := idx_lt hjr s2
      have bL := hL _ ij
      have sAt := sA t
      have gAt := gA t
      have hv : gRow o m w L j ρ (t + 1) = (gRow o m w L j ρ t).set (odN o (t + 1)) (gV o m w L j (gRow o m w L j ρ t) (t + 1)) := rfl
      have eV : gV o m w L j (gRow o m w L j ρ t) (t + 1) = (L.getD (j * o.length + stN o (t + 1)) 0 + e3 w (fmN o (t + 1)) (own o j) (own o (stN o (t + 1))) + (gRow o m w L j ρ t).getD (fmN o (t + 1)) 0 - e3 w (fmN o (t + 1)) (own o (stN o (t + 1))) (own o j) - e3 w (own o j) (fmN o (t + 1)) (own o (stN o (t + 1)))) % m := rfl
      have bR := gRow_bd' (o := o) (w := w) m1 (L := L) (j := j) (bd_all m1 lρ bρ) t (fmN o (t + 1))
      have eA1 : (A t).set x ((gRow o m w L j ρ t).set (odN o (t + 1)) (gV o m w L j (gRow o m w L j ρ t) (t + 1))) = A (t + 1) := by
        rw [sAt, ← hv, eA]
      have ep : ((j : Nat) : Int) * ((o.length : Nat) : Int) + ((stN o (t + 1) : Nat) : Int) = ((j * o.length + stN o (t + 1) : Nat) : Int) := by push_cast; rfl
      have rr : o.length * o.length ≤ 9 := by have := Nat.mul_le_mul h3 h3; omega
      have jr : ((j : Nat) : Int) * ((o.length : Nat) : Int) ≤ 9 := by
        have := Nat.mul_le_mul (show j ≤ 3 by omega) h3
        have e : ((j * o.length : Nat) : Int) ≤ 9 := by omega
        rw [Int.natCast_mul] at e
        exact e
      have jr0 : 0 ≤ ((j : Nat) : Int) * ((o.length : Nat) : Int) := Int.mul_nonneg (by omega) (by omega)
      rw [ex] at eV
      obtain ⟨f, ef⟩ : ∃ f, fmN o (t + 1) = f := ⟨_, rfl⟩
      obtain ⟨s, es⟩ : ∃ s, stN o (t + 1) = s := ⟨_, rfl⟩
      obtain ⟨q, eq⟩ : ∃ q, odN o (t + 1) = q := ⟨_, rfl⟩
      simp only [ef, es, eq] at f1 f2 s1 s2 o1 o2 gs hgs ij bL eV bR eA1 ep
      obtain ⟨h, eh⟩ : ∃ h, own o s = h := ⟨_, rfl⟩
      obtain ⟨R, eR⟩ : ∃ R, gRow o m w L j ρ t = R := ⟨_, rfl⟩
      obtain ⟨p, epp⟩ : ∃ p, j * o.length + s = p := ⟨_, rfl⟩
      have lRt := lR t
      simp only [eh, eR, epp] at gs hgs bL eV bR eA1 ep ij gAt lRt
      rw [en] at f2 o2 hgs
      have l0 := hcb.1
      have l1 := hcb.mat f2
      have l2 := hcb.mat hgj
      have r1 := hcb.row f2 hgj
      have r2 := hcb.row f2 hgs
      have r3 := hcb.row hgj f2
      have v1 := hcb.bd f2 hgj hgs
      have v2 := hcb.bd f2 hgs hgj
      have v3 := hcb.bd hgj f2 hgs
      have mb : m - 1 ≤ 999 := by omega
      replace v1 := And.intro v1.1 (Int.le_trans v1.2 mb)
      replace v2 := And.intro v2.1 (Int.le_trans v2.2 mb)
      replace v3 := And.intro v3.1 (Int.le_trans v3.2 mb)
      replace bL := And.intro bL.1 (Int.le_trans bL.2 mb)
      replace bR := And.intro bR.1 (Int.le_trans bR.2 mb)
      obtain ⟨v, ev⟩ : ∃ v, gV o m w L j R (t + 1) = v := ⟨_, rfl⟩
      rw [ev] at eA1
      have hMv := hMod (L.getD p 0 + e3 w f x h + R.getD f 0 - e3 w f h x - e3 w x f h)
      have bV := emod_bd m1 (L.getD p 0 + e3 w f x h + R.getD f 0 - e3 w f h x - e3 w x f h)
      rw [← eV, ev] at hMv bV
      replace bV := And.intro bV.1 (Int.le_trans bV.2 mb)
      simp only [e3] at v1 v2 v3 hMv
      have lAt := lA t
      obtain ⟨B, eB⟩ : ∃ B, A t = B := ⟨_, rfl⟩
      have tl : t + 1 < w.length := by omega
      simp only [eB] at gAt lAt eA1 ⊢
      have eo : g.length = o.length := lG
      have oo1 := loS
      have oo2 := lfS
      have oo3 := lsS
      rw [en] at oo1 oo2 oo3
      clear hO sA lR hv eV gA lA Ae A0 eA hMod gG hG hcb hs hc hL sq
      refine ats_skip ?_
      (repeat refine ats_seq ?_); refine ats_block ?_
      (repeat refine ats_seq ?_); refine ats_pick (fix0 hcx) mixed (by kernel_rfl) fun K hK => ?_; simp only [go_sem, seval]
      simp only [← f1, ← s1, Int.toNat_natCast, gs]
      (repeat refine And.intro (by first | omega | (intro hq; first | omega | (simp at hq <;> omega) | (simp_all <;> omega))) ?_)
      refine hK _ ?_; clear hK K
      (repeat refine ats_seq ?_); refine ats_go (by first | exact fix0 hcx | exact fix1 hcx rfl) fun K hK => ?_; simp only [go_sem, seval]
      simp only [eo, ← s1, ep, Int.toNat_natCast]
      (repeat refine And.intro (by first | omega | (intro hq; first | omega | (simp at hq <;> omega) | (simp_all <;> omega))) ?_)
      refine hK _ ?_; clear hK K
      (repeat refine ats_seq ?_)
      refine ats_plan [] (.one 0 (.one 1 (.one 2 (.one 3 (.one 4 (.one 5 (.one 6 (.one 7 (.one 8 (.one 9 (.one 10 (.one 11 (.one 12 (.one 13 (.one 14 (.one 15 (.one 16 (.one 17 (.one 18 (.one 19 (.one 20 (.one 21 (.one 22 (.one 23 (.one 24 (.one 25 (.one 26 (.one 27 (.one 28 (.one 29 (.one 30 (.one 31 (.one 32 (.one 33 (.one 34 (.one 35 (.one 36 (.one 37 (.one 38 (.one 39 (.one 40 (.one 41 (.one 42 (.one 43 (.one 44 (.one 45 (.one 46 (.alt 47 .fin .stop)))))))))))))))))))))))))))))))))))))))))))))))) ⟨[(1, .l1 L), (2, .bptr 0 0), (6, .int w.length), (7, .int m), (8, .l1 g), (9, .l3 w), (10, .ref 1 []), (13, .ref 3 []), (14, .ref 4 []), (15, .ref 5 []), (19, .int j), (20, .int x), (21, .ref 1 [x]), (22, .int ((t + 1 : Nat) : Int))], [(0, .bx [.l1 o, .int m, .l3 w]), (1, .t2 (B.set x (R.set q v))), (3, .t1 (odL o)), (4, .t1 (fmL o)), (5, .t1 (stL o))]⟩ (fix0 hcx) mixed (by kernel_rfl) (fun K hK => ?_) ?_
      · simp only [go_sem, seval, Option.getD_some, and_true, true_and, and_self, List.contains_cons, List.contains_nil, Bool.or_false, Bool.or_true]
        repeat' (first | exact hK _ (by refine And.intro ?_ rfl; simp only [SlotsLe, St.get, slotGet, Nat.reduceEqDiff, ↓reduceIte, AV.int.injEq, AV.bool.injEq, AV.l1.injEq, AV.l2.injEq, AV.l3.injEq, true_and, and_true])  | with_reducible refine And.intro ?_ ?_ | omega | ((simp only [← o1, gAt, lRt, Int.toNat_natCast])) | ((first | refine fcall_data (hMv) rfl ?_ | refine YR_intro (acall_data (hMv) rfl) ?_); simp only [go_sem, seval, Option.getD_some, and_true, true_and, and_self, List.contains_cons, List.contains_nil, Bool.or_false, Bool.or_true]))
      rw [eA1]
      (repeat refine ats_seq ?_); refine ats_go (by first | exact fix0 hcx | exact fix1 hcx rfl) fun K hK => ?_; simp only [go_sem, seval]; (repeat refine And.intro (by first | omega | (intro hq; first | omega | (simp at hq <;> omega) | (simp_all <;> omega))) ?_); refine hK _ ?_; clear hK K
      refine ⟨t + 1,  by omega, by omega, .inl ⟨by simp only [SlotsLe, St.get, slotGet, Nat.reduceEqDiff, ↓reduceIte, AV.int.injEq, AV.bool.injEq, AV.l1.injEq, AV.l2.injEq, AV.l3.injEq, true_and, and_true]; (try omega),  rfl⟩⟩
    · obtain ⟨n, hn⟩ : ∃ n, w.length = n := ⟨_, rfl⟩
      obtain rfl : t = n - 1 := by omega
      refine ats_exit (lq_x ?_)
      rw [hn] at Ae
      rw [Ae]
      (repeat refine ats_seq ?_); refine ats_go (by first | exact fix0 hcx | exact fix1 hcx rfl) fun K hK => ?_; simp only [go_sem, seval]; (repeat refine And.intro (by first | omega | (intro hq; first | omega | (simp at hq <;> omega) | (simp_all <;> omega))) ?_); refine hK _ ?_; clear hK K
      refine ⟨j + 1,  by omega, by omega, .inl ⟨by simp only [SlotsLe, St.get, slotGet, Nat.reduceEqDiff, ↓reduceIte, AV.int.injEq, AV.bool.injEq, AV.l1.injEq, AV.l2.injEq, AV.l3.injEq, true_and, and_true]; omega,  rfl⟩⟩
  · obtain rfl : j = o.length := by omega
    refine ats_exit (lq_x ?_)
    refine ats_nil ?_; refine Or.inl ⟨rfl, ghost_trans (ghost_drop []) (ghost_can [] (by simp only [killL, killA, killAs, qOf, rmT, killH, killT, List.filter_cons, List.filter_nil, List.contains_cons, List.contains_nil, Bool.or_false, Bool.or_true, Bool.false_and, Bool.not_true, Bool.not_false, Bool.false_eq_true, if_true, if_false, rnLs, rnL, rn, rns, sw, SlotsLe, St.get, slotGet, List.map_cons, List.map_nil, seval, AV.int.injEq, AV.bool.injEq, AV.l1.injEq, AV.l2.injEq, AV.l3.injEq, true_and, and_true]) (by simp only [killL, killA, killAs, qOf, rmT, killH, killT, List.filter_cons, List.filter_nil, List.contains_cons, List.contains_nil, Bool.or_false, Bool.or_true, Bool.false_and, Bool.not_true, Bool.not_false, Bool.false_eq_true, if_true, if_false, sortH, insH, rnHs, rnH, rnT, rn, rns, sw, List.map_cons, List.map_nil, seval]))⟩
end Go.Proofs.Ytaijdhkjemffhaa
