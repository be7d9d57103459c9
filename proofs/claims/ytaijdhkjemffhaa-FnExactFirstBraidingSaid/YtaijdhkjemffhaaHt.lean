import Derived.Test.YtaijdhkjemffhaaHs
import Derived.Test.YtaijdhkjemffhaaPl7
import Derived.Test.YtaijdhkjemffhaaHj
import Derived.Test.YtaijdhkjemffhaaHn
set_option linter.unusedSimpArgs false
set_option linter.unusedVariables false
namespace Go.Proofs.Ytaijdhkjemffhaa
open Go Go.Aw Go.Pl
attribute [local go_sem] pl_fin pl_stop pl_one pl_alt PK_ap pickO List.getElem?_toArray List.getElem?_cons_zero List.getElem?_cons_succ
theorem own_int {o : List Int} (h : PosO o) {i : Nat} (hi : i < o.length) : ((own o i : Nat) : Int) = if o.getD i 0 = 1 then 0 else plc1 o i := by
  have := (adP_bd h (o.length - 1 - i) (by omega)).1
  unfold own plc1
  split
  · rfl
  · omega
theorem ownGenerators_ok (o : List Int) (h : PosO o) (h8 : prodO o ≤ 8) (hl : o.length ≤ 1048576) : FreshCall Try.prog 49 [.l1 o] (.l1 (gensL o)) := by
  have hG := generators_ok o h h8 hl
  obtain ⟨G, eG⟩ : ∃ G, rowF o.length (plc1 o) = G := ⟨_, rfl⟩
  have lG : G.length = o.length := by rw [← eG]; exact rowF_length ..
  have gG : ∀ i, i < o.length → G.getD i 0 = plc1 o i := fun i hi => by rw [← eG]; exact rowF_get hi
  rw [eG] at hG
  obtain ⟨f, ef⟩ : ∃ f : Nat → Int, f = fun i => (own o i : Int) := ⟨_, rfl⟩
  have fv : ∀ i, i < o.length → f i = if o.getD i 0 = 1 then 0 else plc1 o i := fun i hi => by rw [ef]; exact own_int h hi
  have e : gensL o = rowF o.length f := by unfold gensL; rw [ef]
  rw [e]
  refine FreshCall.intro (n := 26) (rs := [.tmp 2]) Try.call49 Try.func49 rfl rfl rfl (by simp only [List.length_cons, List.length_nil]; omega) (fun cx hcx => ats_of ?_); simp only [argSlots, Nat.zero_add, Nat.reduceAdd]
  (repeat refine ats_seq ?_); refine ats_go (by first | exact fix0 hcx | exact fixN hcx rfl) fun K hK => ?_; simp only [go_sem, seval]; (repeat refine And.intro (by first | omega | (intro hq; first | omega | (simp at hq <;> omega) | (simp_all <;> omega))) ?_); refine hK _ ?_; clear hK K
  (repeat refine ats_seq ?_); refine ats_go (by first | exact fix0 hcx | exact fixN hcx rfl) fun K hK => ?_; simp only [go_sem, seval]; (repeat refine And.intro (by first | omega | (intro hq; first | omega | (simp at hq <;> omega) | (simp_all <;> omega))) ?_); refine hK _ ?_; clear hK K
  (repeat refine ats_seq ?_); refine ats_go (by first | exact fix0 hcx | exact fixN hcx rfl) fun K hK => ?_; simp only [go_sem, seval]
  first | refine fcall_fresh rfl (hG) ?_ | refine YR_intro (acall_fresh rfl (hG)) ?_
  simp only [go_sem, seval]
  (repeat refine And.intro (by first | omega | (intro hq; first | omega | (simp at hq <;> omega) | (simp_all <;> omega))) ?_)
  refine hK _ ?_; clear hK K
  (repeat refine ats_seq ?_); refine ats_loop (fun i : Nat => ⟨[(0, .l1 o), (3, .ref 0 []), (8, .l1 G), (9, .int o.length), (10, .int i)], [(0, .t1 (rowF i f))]⟩) (fun i => i ≤ o.length) (fun i => o.length - i) 0 (Nat.zero_le _) (by refine And.intro ?_ rfl; simp only [SlotsLe, St.get, slotGet, Nat.reduceEqDiff, ↓reduceIte, true_and, and_true, AV.int.injEq, AV.bool.injEq, AV.l1.injEq, AV.l2.injEq, AV.l3.injEq]; repeat' (first | rfl | with_reducible refine And.intro ?_ ?_ | omega)) (fun i hi => ?_)
  have lr : (rowF i f).length = i := rowF_length ..
  have es := rowP_succ (k := i) (f := f)
  (repeat refine ats_seq ?_); refine ats_go (by first | exact fix0 hcx | exact fixN hcx rfl) fun K hK => ?_; simp only [go_sem, seval]; (repeat refine And.intro (by first | omega | (intro hq; first | omega | (simp at hq <;> omega) | (simp_all <;> omega))) ?_); refine hK _ ?_; clear hK K
  (repeat refine ats_seq ?_); first | refine ats_ifn (p := _) rfl trivial (fun hc2 => ?_) (fun hc2 => ?_) | refine ats_ifp (p := _) rfl trivial (fun hc2 => ?_) (fun hc2 => ?_) | refine ats_cond rfl trivial (fun hc2 => ?_) (fun hc2 => ?_)
  · have gi := gG i (by omega)
    have fi := fv i (by omega)
    refine ats_skip ?_
    (repeat refine ats_seq ?_); refine ats_block ?_
    (repeat refine ats_seq ?_); refine ats_go (by first | exact fix0 hcx | exact fixN hcx rfl) fun K hK => ?_; simp only [go_sem, seval]
    simp only [gi]
    (repeat refine And.intro (by first | omega | (intro hq; first | omega | (simp at hq <;> omega) | (simp_all <;> omega))) ?_)
    refine hK _ ?_; clear hK K
    (repeat refine ats_seq ?_); refine ats_go (by first | exact fix0 hcx | exact fixN hcx rfl) fun K hK => ?_; simp only [go_sem, seval]; (repeat refine And.intro (by first | omega | (intro hq; first | omega | (simp at hq <;> omega) | (simp_all <;> omega))) ?_); refine hK _ ?_; clear hK K
    (repeat refine ats_seq ?_); first | refine ats_ifn (p := _) rfl trivial (fun hc3 => ?_) (fun hc3 => ?_) | refine ats_ifp (p := _) rfl trivial (fun hc3 => ?_) (fun hc3 => ?_) | refine ats_cond rfl trivial (fun hc3 => ?_) (fun hc3 => ?_)
    · rw [if_pos hc3] at fi
      (repeat refine ats_seq ?_); refine ats_go (by first | exact fix0 hcx | exact fixN hcx rfl) fun K hK => ?_; simp only [go_sem, seval]; (repeat refine And.intro (by first | omega | (intro hq; first | omega | (simp at hq <;> omega) | (simp_all <;> omega))) ?_); refine hK _ ?_; clear hK K
      (repeat refine ats_seq ?_); refine ats_go (by first | exact fix0 hcx | exact fixN hcx rfl) fun K hK => ?_; simp only [go_sem, seval]; (repeat refine And.intro (by first | omega | (intro hq; first | omega | (simp at hq <;> omega) | (simp_all <;> omega))) ?_); refine hK _ ?_; clear hK K
      (repeat refine ats_seq ?_); refine ats_go (by first | exact fix0 hcx | exact fixN hcx rfl) fun K hK => ?_; simp only [go_sem, seval]; (repeat refine And.intro (by first | omega | (intro hq; first | omega | (simp at hq <;> omega) | (simp_all <;> omega))) ?_); refine hK _ ?_; clear hK K
      refine ⟨i + 1, by omega, by omega, .inr ⟨[1], by simp only [killL, List.map_cons, List.map_nil, killA, killAs, qOf, rmT, killH, killT, List.filter_cons, List.filter_nil, List.contains_cons, List.contains_nil, SlotsLe, St.get, slotGet, Nat.reduceEqDiff, Nat.reduceBEq, Bool.or_false, Bool.or_true, Bool.false_and, Bool.not_true, Bool.not_false, Bool.false_eq_true, ↓reduceIte, if_true, if_false, AV.int.injEq, AV.bool.injEq, AV.l1.injEq, AV.l2.injEq, AV.l3.injEq, true_and, and_true]; omega, by simp only [killL, List.map_cons, List.map_nil, killA, killAs, qOf, rmT, killH, killT, List.filter_cons, List.filter_nil, List.contains_cons, List.contains_nil, SlotsLe, St.get, slotGet, Nat.reduceEqDiff, Nat.reduceBEq, Bool.or_false, Bool.or_true, Bool.false_and, Bool.not_true, Bool.not_false, Bool.false_eq_true, ↓reduceIte, if_true, if_false, AV.int.injEq, AV.bool.injEq, AV.l1.injEq, AV.l2.injEq, AV.l3.injEq, true_and, and_true]; rw [es, fi]⟩⟩
    · rw [if_neg hc3] at fi
      refine ats_skip ?_
      (repeat refine ats_seq ?_); refine ats_go (by first | exact fix0 hcx | exact fixN hcx rfl) fun K hK => ?_; simp only [go_sem, seval]; (repeat refine And.intro (by first | omega | (intro hq; first | omega | (simp at hq <;> omega) | (simp_all <;> omega))) ?_); refine hK _ ?_; clear hK K
      (repeat refine ats_seq ?_); refine ats_go (by first | exact fix0 hcx | exact fixN hcx rfl) fun K hK => ?_; simp only [go_sem, seval]; (repeat refine And.intro (by first | omega | (intro hq; first | omega | (simp at hq <;> omega) | (simp_all <;> omega))) ?_); refine hK _ ?_; clear hK K
      refine ⟨i + 1, by omega, by omega, .inr ⟨[1], by simp only [killL, List.map_cons, List.map_nil, killA, killAs, qOf, rmT, killH, killT, List.filter_cons, List.filter_nil, List.contains_cons, List.contains_nil, SlotsLe, St.get, slotGet, Nat.reduceEqDiff, Nat.reduceBEq, Bool.or_false, Bool.or_true, Bool.false_and, Bool.not_true, Bool.not_false, Bool.false_eq_true, ↓reduceIte, if_true, if_false, AV.int.injEq, AV.bool.injEq, AV.l1.injEq, AV.l2.injEq, AV.l3.injEq, true_and, and_true]; omega, by simp only [killL, List.map_cons, List.map_nil, killA, killAs, qOf, rmT, killH, killT, List.filter_cons, List.filter_nil, List.contains_cons, List.contains_nil, SlotsLe, St.get, slotGet, Nat.reduceEqDiff, Nat.reduceBEq, Bool.or_false, Bool.or_true, Bool.false_and, Bool.not_true, Bool.not_false, Bool.false_eq_true, ↓reduceIte, if_true, if_false, AV.int.injEq, AV.bool.injEq, AV.l1.injEq, AV.l2.injEq, AV.l3.injEq, true_and, and_true]; rw [es, fi]⟩⟩
  · obtain rfl : i = o.length := by omega
    refine ats_exit (lq_x ?_)
    (repeat refine ats_seq ?_); refine ats_go (by first | exact fix0 hcx | exact fixN hcx rfl) fun K hK => ?_; simp only [go_sem, seval]; (repeat refine And.intro (by first | omega | (intro hq; first | omega | (simp at hq <;> omega) | (simp_all <;> omega))) ?_); refine hK _ ?_; clear hK K
    exact ats_ret (ownV (is := [0]) rfl ⟨rfl, trivial⟩ rfl (by simp))
def TA (o : List Int) (m : Int) (w : List (List (List Int))) (L : List Int) (i : Nat) (ρ : List Int) : List (Nat × Tree) := [(0, .bx [.l1 o, .int m, .l3 w]), (1, .bx [.l1 L]), (4, .bx [.l3 w]), (7, .bx [.int o.length]), (8, .bx [.int i]), (9, .bx [.int (own o i)]), (10, .t1 ρ), (11, .bx [.ref 10 []])]
set_option maxRecDepth 100000 in
set_option maxHeartbeats 8000000 in
theorem vis1_ok (o : List Int) (m : Int) (w : List (List (List Int))) (L : List Int) (hs : CocS o m w) (h3 : o.length ≤ 3) (hLl : L.length = o.length * o.length) (hL : ∀ j, j < o.length * o.length → 0 ≤ L.getD j 0 ∧ L.getD j 0 ≤ m - 1)
    (i : Nat) (hi : i < o.length) (hg : own o i < w.length) (ρ : List Int) (hρ : ρ.length = w.length) (hb : ∀ y, 0 ≤ ρ.getD y 0 ∧ ρ.getD y 0 ≤ m - 1) (x h k : Nat) (hx : x < w.length) (hh : h < w.length) (hk : k < o.length) :
    OwnCall Try.prog 79 [.int x, .int h, .int k, .bptr 0 0, .bptr 11 0, .bptr 1 0, .bptr 8 0, .bptr 7 0, .bptr 4 0, .bptr 9 0] (TA o m w L i ρ) (TA o m w L i (ρ.set (ad o x h) (cl1 o m w L i ρ x h k))) (.tup []) [0, 11, 1, 8, 7, 4, 9] := by
  have n8 := hs.n8
  have m1 := hs.2.2.1
  have m2 := hs.2.2.2.1
  have hc := hs.2.2.2.2.2
  have hP := plus_ok o m w hs.1 hs.2.1 x h (by omega) (by omega)
  have hR := rest_ok o m w
  have ha := hs.ad x h
  obtain ⟨q, eq⟩ : ∃ q, ad o x h = q := ⟨_, rfl⟩
  obtain ⟨g, eg⟩ : ∃ g, own o i = g := ⟨_, rfl⟩
  obtain ⟨r, er⟩ : ∃ r, o.length = r := ⟨_, rfl⟩
  have ij := idx_lt (r := r) (i := i) (k := k) (by omega) (by omega)
  have ir : i * r ≤ 2 * 3 := Nat.mul_le_mul (by omega) (by omega)
  obtain ⟨p, ep⟩ : ∃ p, i * r + k = p := ⟨_, rfl⟩
  have epI : (i : Int) * (r : Int) + (k : Int) = (p : Int) := by rw [← ep]; push_cast; rfl
  have b0 := hb x
  have bL := hL p (by rw [er, ← ep]; exact ij)
  unfold cl1 TA
  rw [eg] at hg
  rw [er] at hLl
  simp only [eq, eg, er, ep] at hP ha ⊢
  rw [ep] at ij
  have l0 := hc.1
  have l1 := hc.mat hx
  have l2 := hc.mat hg
  have r1 := hc.row hx hg
  have r2 := hc.row hx hh
  have r3 := hc.row hg hx
  have v1 := hc.bd hx hg hh
  have v2 := hc.bd hx hh hg
  have v3 := hc.bd hg hx hh
  have w0 := ρ.length
  have rr : r * r ≤ 9 := by have := Nat.mul_le_mul (show r ≤ 3 by omega) (show r ≤ 3 by omega); omega
  obtain ⟨V, eV⟩ : ∃ V, ρ.getD x 0 + L.getD p 0 + e3 w x g h - e3 w x h g - e3 w g x h = V := ⟨_, rfl⟩
  replace hR := hR V m1 m2
  have bV1 := Int.emod_nonneg V (show m ≠ 0 by omega)
  have bV2 := Int.emod_lt_of_pos V (show 0 < m by omega)
  rw [eV]
  simp only [e3] at v1 v2 v3 eV
  obtain ⟨U, eU⟩ : ∃ U, V % m = U := ⟨_, rfl⟩
  rw [eU] at bV1 bV2 hR ⊢
  rw [← eV] at hR
  refine OwnCall.intro (n := 67) (rs := []) 10 [3, 4, 5, 6, 7, 8, 9] (X := [0, 11, 1, 8, 7, 4, 9]) Try.call79 Try.func79 rfl rfl rfl (by simp only [List.length_cons, List.length_nil]; omega) (by simp [Aw.ids, rootsA, rootsAs, argSlots, slotGet]) (fun cx hcx => AT.weakG (ats_of ?_)); simp only [argSlots, Nat.zero_add, Nat.reduceAdd]
  (repeat refine ats_seq ?_)
  refine ats_plan [] (.one 0 (.one 1 (.one 2 (.one 3 (.one 4 (.one 5 (.one 6 (.one 7 (.one 8 (.one 9 (.one 10 (.one 11 (.one 12 (.one 13 (.one 14 (.one 15 (.one 16 (.one 17 (.one 18 (.one 19 (.one 20 (.one 21 (.one 22 (.one 23 (.one 24 (.one 25 (.one 26 (.one 27 (.one 28 (.one 29 (.one 30 (.one 31 (.one 32 (.one 33 (.one 34 (.one 35 (.one 36 (.one 37 (.one 38 (.one 39 (.one 40 (.one 41 (.one 42 (.one 43 (.one 44 (.one 45 (.one 46 (.one 47 (.one 48 (.one 49 (.one 50 (.one 51 (.one 52 (.one 53 (.alt 54 .fin .stop))))))))))))))))))))))))))))))))))))))))))))))))))))))) ⟨[(3, .bptr 0 0), (4, .bptr 11 0), (5, .bptr 1 0), (6, .bptr 8 0), (7, .bptr 7 0), (8, .bptr 4 0), (9, .bptr 9 0)], [(0, .bx [.l1 o, .int m, .l3 w]), (1, .bx [.l1 L]), (4, .bx [.l3 w]), (7, .bx [.int r]), (8, .bx [.int i]), (9, .bx [.int g]), (10, .t1 (ρ.set q U)), (11, .bx [.ref 10 []])]⟩ (by first | exact fix0 hcx | exact fixN hcx rfl) mixed (by kernel_rfl) (fun K hK => ?_) ?_
  · simp only [go_sem, seval, Option.getD_some, and_true, true_and, and_self, List.contains_cons, List.contains_nil, Bool.or_false, Bool.or_true]
    repeat' (first | exact hK _ (by refine And.intro ?_ rfl; simp only [SlotsLe, St.get, slotGet, Nat.reduceEqDiff, ↓reduceIte, AV.int.injEq, AV.bool.injEq, AV.l1.injEq, AV.l2.injEq, AV.l3.injEq, true_and, and_true])  | with_reducible refine And.intro ?_ ?_ | omega | ((first | refine fcall_free rfl rfl (hP) ?_ | refine YR_intro (acall_free rfl rfl (hP)) ?_); simp only [go_sem, seval, Option.getD_some, and_true, true_and, and_self, List.contains_cons, List.contains_nil, Bool.or_false, Bool.or_true]) | ((first | refine fcall_free rfl rfl (hR) ?_ | refine YR_intro (acall_free rfl rfl (hR)) ?_); simp only [go_sem, seval, Option.getD_some, and_true, true_and, and_self, List.contains_cons, List.contains_nil, Bool.or_false, Bool.or_true]) | ((simp only [epI, Int.toNat_natCast])))
  refine id ⟨⟨[(3, .bptr 0 0), (4, .bptr 11 0), (5, .bptr 1 0), (6, .bptr 8 0), (7, .bptr 7 0), (8, .bptr 4 0), (9, .bptr 9 0)], [(0, .bx [.l1 o, .int m, .l3 w]), (1, .bx [.l1 L]), (4, .bx [.l3 w]), (7, .bx [.int r]), (8, .bx [.int i]), (9, .bx [.int g]), (10, .t1 (ρ.set q U)), (11, .bx [.ref 10 []])]⟩, ghost_trans (ghost_drop []) (ghost_can [] (by simp only [killL, killA, killAs, qOf, rmT, killH, killT, List.filter_cons, List.filter_nil, List.contains_cons, List.contains_nil, Bool.or_false, Bool.or_true, Bool.false_and, Bool.not_true, Bool.not_false, Bool.false_eq_true, if_true, if_false, rnLs, rnL, rn, rns, sw, SlotsLe, St.get, slotGet, List.map_cons, List.map_nil, seval, AV.int.injEq, AV.bool.injEq, AV.l1.injEq, AV.l2.injEq, AV.l3.injEq, true_and, and_true]) (by simp only [killL, killA, killAs, qOf, rmT, killH, killT, List.filter_cons, List.filter_nil, List.contains_cons, List.contains_nil, Bool.or_false, Bool.or_true, Bool.false_and, Bool.not_true, Bool.not_false, Bool.false_eq_true, if_true, if_false, sortH, insH, rnHs, rnH, rnT, rn, rns, sw, List.map_cons, List.map_nil, seval])), .inl rfl, (by first | rfl | exact ⟨trivial, rfl⟩ | (simp only [resL, resA, go_sem, seval]; done)), (by simp [St.get, slotGet, argSlots]), rfl⟩
end Go.Proofs.Ytaijdhkjemffhaa
