/-
  Marks of the points of two actions, in the reference.
-/
import Derived.Test.YtbddekioaigbhaaGr
set_option linter.unusedSimpArgs false
set_option linter.unusedVariables false
namespace Go.Proofs.Ytbddekioaigbhaa
open Go Go.Aw Go.Pl
attribute [local go_sem] pl_fin pl_stop pl_one pl_alt PK_ap pickO List.getElem?_toArray List.getElem?_cons_zero List.getElem?_cons_succ

def mkA (r : Option (List Int × List Int)) : AV := match r with
  | none => .nil
  | some (f, g) => .l2 [f, g]
/-- The rows of a list of own rows. -/
def lvRows (H : List (Nat × Tree)) (R : List Nat) : List AV → Option (List (List Int))
  | [] => some []
  | v :: vs => match v, lvRows H R vs with
    | .ref i [], some r => if R.contains i then (match find H i with
      | some (.t1 xs) => some (xs :: r)
      | _ => none) else none
    | _, _ => none
theorem lvRows_ok {cx : Cx} {H : List (Nat × Tree)} {w : World} {ι : Nat → Value} {F : Nat → List Nat} (ho : Owns cx H w ι F) {R : List Nat} : ∀ (vs : List AV) (us : List Value) (rows : List (List Int)), lvRows H R vs = some rows → reps (mem cx w H ι F) vs us →
    All2 (L1 w (imm cx w (killH (qOf R []) (rmT R H)) F)) rows us
  | [], us, rows, h, hr => by
    simp only [lvRows, Option.some.injEq] at h
    subst h
    simp only [reps] at hr
    subst hr
    trivial
  | v :: vs, us, rows, h, hr => by
    simp only [reps] at hr
    obtain ⟨u, us', rfl, h1, h2⟩ := hr
    simp only [lvRows] at h
    split at h
    · rename_i i r hrec
      split at h
      · rename_i hc
        split at h
        · rename_i xs hf
          cases h
          refine ⟨?_, lvRows_ok ho vs us' r hrec h2⟩
          have hi : i ∈ R := by simpa using hc
          simp only [rep, mem, pathV, Option.some.injEq] at h1
          have ht := ho.trees _ (find_mem hf)
          simp only [treeRep, mem] at ht
          rw [h1.2] at ht
          exact ht.l1 ((frz_imm ho).2 i _ hi hf)
        · cases h
      · cases h
    · cases h
theorem ghost_lv {cx : Cx} {n : Nat} {H : List (Nat × Tree)} (R : List Nat) {s : List (Nat × AV)} {k j : Nat} {vs : List AV} {rows : List (List Int)} (hk : slotGet s k = .ref j []) (hj : j ∈ R) (hf : find H j = some (.lv vs)) (hr : lvRows H R vs = some rows) :
    Ghost cx n ⟨s, H⟩ ⟨(k, .l2 rows) :: s.map fun p => (p.1, frzV H R p.2), killH (qOf R []) (rmT R H)⟩ := by
  intro tmps w ⟨hsz, ι, F, ho, hreps⟩
  obtain ⟨k1, k2⟩ := ho.drop R
  refine ⟨hsz, ι, F, k1, fun i => ?_⟩
  by_cases e : k = i
  · subst e
    show rep _ (slotGet ((k, .l2 rows) :: _) k) _
    simp only [slotGet, if_true]
    have h1 := hreps k
    have h1' : rep (mem cx w H ι F) (slotGet s k) (tmps.getD k undef) := h1
    rw [hk] at h1'
    simp only [rep, mem, pathV, Option.some.injEq] at h1'
    have ht := ho.trees _ (find_mem hf)
    simp only [treeRep] at ht
    have h2 : ι j = tmps.getD k undef := h1'.2
    rw [h2] at ht
    obtain ⟨us, t1, t2⟩ := ht
    simp only [rep]
    exact L2.le (fun b hb => ⟨hb, rfl⟩) ⟨us, t1.slC ((frz_imm ho).2 j _ hj hf), lvRows_ok ho vs us rows hr t2⟩
  · show rep _ (slotGet ((k, .l2 rows) :: _) i) _
    simp only [slotGet, if_neg e]
    rw [slotGet_mapV]
    exact frzV_rep ho _ _ (hreps i)
def i1a (n x : Nat) : List Int := rowF n fun z => if z < x then (z : Int) + 1 else 0
def i2a (n : Nat) (p : List Int) (x : Nat) : List Int := rowF n (i2F p x)
theorem i1a_succ {n x : Nat} (h : x < n) : (i1a n x).set x ((x : Int) + 1) = i1a n (x + 1) := by
  unfold i1a
  rw [rowF_set]
  refine rowF_congr fun y _ => ?_
  by_cases e : y = x
  · subst e; rw [if_pos rfl, if_pos (by omega)]
  · rw [if_neg e]
    by_cases c : y < x
    · rw [if_pos c, if_pos (by omega)]
    · rw [if_neg c, if_neg (by omega)]
theorem i2a_succ {n x : Nat} {p : List Int} (hq : 0 ≤ p.getD x 0) : (i2a n p x).set (p.getD x 0).toNat ((x : Int) + 1) = i2a n p (x + 1) := by
  unfold i2a
  rw [rowF_set]
  refine rowF_congr fun y _ => ?_
  rw [i2F]
  by_cases e : y = (p.getD x 0).toNat
  · rw [if_pos e, if_pos (by omega)]
  · rw [if_neg e, if_neg (by omega)]

theorem cntA_row {ks : List (List Int)} {mA mB : List Int → Nat → List Int} {f g : List Int} {y K c1 c2 : Nat} (e1 : colI ks (mA f y) = c1) (e2 : colI ks (mB g y) = c2) (h1 : c1 < K) (h2 : c2 < K) :
    ((rowF K (cntA ks mA mB f g y)).set c1 ((rowF K (cntA ks mA mB f g y)).getD c1 0 + 1)).set c2 (((rowF K (cntA ks mA mB f g y)).set c1 ((rowF K (cntA ks mA mB f g y)).getD c1 0 + 1)).getD c2 0 - 1) = rowF K (cntA ks mA mB f g (y + 1)) := by
  rw [rowF_get h1, rowF_set, rowF_get h2, rowF_set]
  refine rowF_congr fun z _ => ?_
  rw [cntA_succ, e1, e2]
  by_cases c : z = c2
  · subst c
    rw [if_pos rfl, if_pos rfl]
    by_cases d : z = c1
    · subst d; rw [if_pos rfl, if_pos rfl]
    · rw [if_neg d, if_neg d]; omega
  · rw [if_neg c, if_neg c]
    by_cases d : z = c1
    · subst d; rw [if_pos rfl, if_pos rfl]; omega
    · rw [if_neg d, if_neg d]; omega
theorem getD_last {xs : List Int} {v : Int} {y : Nat} (h : xs.length = y) : (xs ++ [v]).getD y 0 = v := by
  subst h
  rw [List.getD_eq_getElem?_getD, List.getElem?_append_right (Nat.le_refl _)]
  simp

set_option maxRecDepth 20000 in
set_option maxHeartbeats 16000000 in
theorem l09Marks_ok (k n : Nat) (a b : List (List (List Int))) (p : List Int) (ha : ∀ i, i < k → MatOk n (a.getD i [])) (la : a.length = k) (hb : ∀ i, i < k → MatOk n (b.getD i [])) (lb : b.length = k) (hk : 0 < k) (hk16 : k ≤ 16) (en : (a.getD 0 []).length = n) (en' : (b.getD 0 []).length = n) (h1n : 1 ≤ n) (hn16 : n ≤ 16) (hp : QOk n p) (hpl : p.length ≤ n) :
    PureCall Try.prog 50 [.agg [.l3 a], .agg [.l3 b], .l1 p] (mkA (refG n (lookM k n a) (lookM k n b) (2 * n + 2) 0 (i1 n p) (i2 n p))) := by
  have hsz := l09Size_ok a (by omega)
  rw [en] at hsz
  have hA : ∀ f x, SL (2 + k + n * (2 * k + 1)) (lookM k n a f x) := fun f x => lookM_SL k n
  have hB : ∀ f x, SL (2 + k + n * (2 * k + 1)) (lookM k n b f x) := fun f x => lookM_SL k n
  obtain ⟨R, hR⟩ : ∃ R, refG n (lookM k n a) (lookM k n b) (2 * n + 2) 0 (i1 n p) (i2 n p) = R := ⟨_, rfl⟩
  have hi0 := i_ok (n := n) (p := p) hn16 hpl
  rw [hR]
  refine PureCall.intro (n := 148) (rs := [.tmp 6]) Try.call50 Try.func50 rfl rfl rfl (by simp only [List.length_cons, List.length_nil]; omega) (fun cx hcx => ats_of ?_); simp only [argSlots, Nat.zero_add, Nat.reduceAdd]
  (repeat refine ats_seq ?_); refine ats_go (fix0 hcx) fun K hK => ?_; simp only [go_sem, seval]; (repeat refine And.intro (by first | omega | (intro hq; first | omega | (simp at hq <;> omega) | (simp_all <;> omega))) ?_); refine hK _ ?_; clear hK K
  (repeat refine ats_seq ?_); refine ats_go (fix0 hcx) fun K hK => ?_; simp only [go_sem, seval]
  first | refine fcall_data (hsz) rfl ?_ | refine YR_intro (acall_data (hsz) rfl) ?_
  simp only [go_sem, seval]
  (repeat refine And.intro (by first | omega | (intro hq; first | omega | (simp at hq <;> omega) | (simp_all <;> omega))) ?_)
  refine hK _ ?_; clear hK K
  (repeat refine ats_seq ?_)
  refine ats_planG [] (.one 0 (.one 2 (.alt 1 (.alt 3 (.alt 4 (.one 5 .fin) .stop) .stop) (.alt 3 (.alt 1 (.alt 4 (.one 5 .fin) .stop) .stop) .stop)))) ⟨[(2, .l1 p), (3, .bptr 0 0), (4, .bptr 1 0), (7, .int n), (8, .ref 4 [])], [(0, .bx [.l3 a]), (1, .bx [.l3 b]), (2, .t1 (List.replicate n 0)), (3, .t1 (List.replicate n 0)), (4, .lv [.ref 2 [], .ref 3 []])]⟩ (fix0 hcx) mixed (by kernel_rfl) (fun K hK => ?_) ?_
  · simp only [go_sem, seval, Option.getD_some, and_true, true_and, and_self, List.contains_cons, List.contains_nil, Bool.or_false, Bool.or_true]
    repeat' (first | (refine hK _ (ghost_can [] ?_ ?_); (focus (simp only [rnLs, rnL, rn, rns, sw, SlotsLe, St.get, slotGet, List.map_cons, List.map_nil, seval, AV.int.injEq, AV.bool.injEq, AV.l1.injEq, AV.l2.injEq, AV.l3.injEq, true_and, and_true]; done)); (focus (simp only [sortH, insH, rnHs, rnH, rnT, rn, rns, sw, List.map_cons, List.map_nil, seval]; done))) | (refine hK _ (ghost_can [(2, 3)] ?_ ?_); (focus (simp only [rnLs, rnL, rn, rns, sw, SlotsLe, St.get, slotGet, List.map_cons, List.map_nil, seval, AV.int.injEq, AV.bool.injEq, AV.l1.injEq, AV.l2.injEq, AV.l3.injEq, true_and, and_true]; done)); (focus (simp only [sortH, insH, rnHs, rnH, rnT, rn, rns, sw, List.map_cons, List.map_nil, seval]; done))) | omega | refine And.intro ?_ ?_)
  have e0 : List.replicate n (0 : Int) = i1a n 0 := by
    have e : List.replicate n (0 : Int) = rowF n (fun _ => 0) := by simp [rowF, List.map_const']
    rw [e]
    rfl
  have e1 : List.replicate n (0 : Int) = i2a n p 0 := by
    have e : List.replicate n (0 : Int) = rowF n (fun _ => 0) := by simp [rowF, List.map_const']
    rw [e]
    rfl
  (repeat refine ats_seq ?_); refine ats_go (fix0 hcx) fun K hK => ?_; simp only [go_sem, seval]; (repeat refine And.intro (by first | omega | (intro hq; first | omega | (simp at hq <;> omega) | (simp_all <;> omega))) ?_); refine hK _ ?_; clear hK K
  (repeat refine ats_seq ?_); refine ats_loop (fun x : Nat => ⟨[(2, .l1 p), (3, .bptr 0 0), (4, .bptr 1 0), (7, .int n), (8, .ref 4 []), (9, .int x)], [(0, .bx [.l3 a]), (1, .bx [.l3 b]), (2, .t1 (i1a n x)), (3, .t1 (i2a n p x)), (4, .lv [.ref 2 [], .ref 3 []])]⟩) (fun x => x ≤ p.length) (fun x => p.length - x) 0 (Nat.zero_le _) (by
    rw [← e0, ← e1]
    refine And.intro ?_ rfl; simp only [SlotsLe, St.get, slotGet, Nat.reduceEqDiff, ↓reduceIte, AV.int.injEq, AV.bool.injEq, AV.l1.injEq, AV.l2.injEq, AV.l3.injEq, true_and, and_true]
    try rfl) (fun x hx => ?_)
  have l1 : (i1a n x).length = n := rowF_length ..
  have l2 : (i2a n p x).length = n := rowF_length ..
  (repeat refine ats_seq ?_); refine ats_go (fix0 hcx) fun K hK => ?_; simp only [go_sem, seval]; (repeat refine And.intro (by first | omega | (intro hq; first | omega | (simp at hq <;> omega) | (simp_all <;> omega))) ?_); refine hK _ ?_; clear hK K
  (repeat refine ats_seq ?_); first | refine ats_ifn (p := _) rfl trivial (fun h1 => ?_) (fun h1 => ?_) | refine ats_ifp (p := _) rfl trivial (fun h1 => ?_) (fun h1 => ?_) | refine ats_cond rfl trivial (fun h1 => ?_) (fun h1 => ?_)
  · have hpx := hp x (by omega)
    have s1 := i1a_succ (n := n) (x := x) (by omega)
    have s2 := i2a_succ (n := n) (x := x) (p := p) hpx.1
    refine ats_skip ?_
    (repeat refine ats_seq ?_); refine ats_block ?_
    (repeat refine ats_seq ?_)
    refine ats_plan [] (.one 0 (.one 1 (.one 2 (.one 3 (.one 4 (.one 5 (.one 6 (.one 7 .fin)))))))) ⟨[(2, .l1 p), (3, .bptr 0 0), (4, .bptr 1 0), (7, .int n), (8, .ref 4 []), (9, .int x), (10, .ref 2 []), (11, .ref 3 [])], [(0, .bx [.l3 a]), (1, .bx [.l3 b]), (2, .t1 (i1a n x)), (3, .t1 (i2a n p x)), (4, .lv [.ref 2 [], .ref 3 []])]⟩ (fix0 hcx) mixed (by kernel_rfl) (fun K hK => ?_) ?_
    · simp only [go_sem, seval, Option.getD_some, and_true, true_and, and_self, List.contains_cons, List.contains_nil, Bool.or_false, Bool.or_true]
      repeat' (first | exact hK _ (by refine And.intro ?_ rfl; simp only [SlotsLe, St.get, slotGet, Nat.reduceEqDiff, ↓reduceIte, AV.int.injEq, AV.bool.injEq, AV.l1.injEq, AV.l2.injEq, AV.l3.injEq, true_and, and_true])  | omega | refine And.intro ?_ ?_)
    (repeat refine ats_seq ?_); refine ats_go (fix0 hcx) fun K hK => ?_; simp only [go_sem, seval]; (repeat refine And.intro (by first | omega | (intro hq; first | omega | (simp at hq <;> omega) | (simp_all <;> omega))) ?_); refine hK _ ?_; clear hK K
    (repeat refine ats_seq ?_); refine ats_go (fix0 hcx) fun K hK => ?_; simp only [go_sem, seval]; (repeat refine And.intro (by first | omega | (intro hq; first | omega | (simp at hq <;> omega) | (simp_all <;> omega))) ?_); refine hK _ ?_; clear hK K
    (repeat refine ats_seq ?_); refine ats_go (fix0 hcx) fun K hK => ?_; simp only [go_sem, seval]; (repeat refine And.intro (by first | omega | (intro hq; first | omega | (simp at hq <;> omega) | (simp_all <;> omega))) ?_); refine hK _ ?_; clear hK K
    refine ⟨x + 1,  by omega, by omega, .inl ⟨by simp only [SlotsLe, St.get, slotGet, Nat.reduceEqDiff, ↓reduceIte, AV.int.injEq, AV.bool.injEq, AV.l1.injEq, AV.l2.injEq, AV.l3.injEq, true_and, and_true]; (try omega),  by rw [s1, s2]⟩⟩
  · obtain rfl : x = p.length := by omega
    have ei1 : i1a n p.length = i1 n p := rfl
    have ei2 : i2a n p p.length = i2 n p := rfl
    rw [ei1, ei2]
    refine ats_exit (lq_x ?_)
    (repeat refine ats_seq ?_); refine AT.ghost (st' := ⟨[(3, .bptr 0 0), (4, .bptr 1 0), (7, .int n), (8, .ref 4 [])], [(0, .bx [.l3 a]), (1, .bx [.l3 b]), (2, .t1 (i1 n p)), (3, .t1 (i2 n p)), (4, .lv [.ref 2 [], .ref 3 []])]⟩) (ghost_can [] (by simp only [rnLs, rnL, rn, rns, sw, SlotsLe, St.get, slotGet, List.map_cons, List.map_nil, seval, AV.int.injEq, AV.bool.injEq, AV.l1.injEq, AV.l2.injEq, AV.l3.injEq, true_and, and_true]) (by simp only [sortH, insH, rnHs, rnH, rnT, rn, rns, sw, List.map_cons, List.map_nil, seval])) ?_
    refine AT.ghost (ghost_lv [2, 3, 4] (k := 8) (j := 4) (vs := [.ref 2 [], .ref 3 []]) (rows := [i1 n p, i2 n p]) rfl (by decide) rfl rfl) ?_
    simp only [frzV, find, killA, killAs, qOf, rmT, killH, killT, List.map_cons, List.map_nil, List.filter_cons, List.filter_nil, List.contains_cons, List.contains_nil, Bool.or_false, Bool.or_true, Bool.false_and, Bool.not_true, Bool.not_false, Bool.false_eq_true, if_true, if_false, seval]
    (repeat refine ats_seq ?_); refine ats_go (fix0 hcx) fun K hK => ?_; simp only [go_sem, seval]; (repeat refine And.intro (by first | omega | (intro hq; first | omega | (simp at hq <;> omega) | (simp_all <;> omega))) ?_); refine hK _ ?_; clear hK K
    (repeat refine ats_seq ?_); refine ats_loop (fun q : Nat × List Int × List Int => ⟨[(3, .bptr 0 0), (4, .bptr 1 0), (7, .int n), (8, .l2 [q.2.1, q.2.2]), (12, .int q.1)], [(0, .bx [.l3 a]), (1, .bx [.l3 b])]⟩) (fun q => q.1 ≤ 2 * n ∧ ColOk n q.2.1 ∧ ColOk n q.2.2 ∧ UsedP n q.2.1 q.2.2 q.1 ∧ ∃ fu, 2 * n + 2 - q.1 ≤ fu ∧ refG n (lookM k n a) (lookM k n b) fu q.1 q.2.1 q.2.2 = R) (fun q => 2 * n + 1 - q.1) (0, i1 n p, i2 n p) ⟨Nat.zero_le _, hi0.1, hi0.2, fun c hc => absurd hc (Nat.not_lt_zero c), 2 * n + 2, Nat.le_refl _, hR⟩ (by
      refine And.intro ?_ rfl; simp only [SlotsLe, St.get, slotGet, Nat.reduceEqDiff, ↓reduceIte, AV.int.injEq, AV.bool.injEq, AV.l1.injEq, AV.l2.injEq, AV.l3.injEq, true_and, and_true]
      try rfl) (fun q hq => ?_)
    obtain ⟨number, f, g⟩ := q
    simp only at hq ⊢
    obtain ⟨hnum, hf, hg, hu, fu, hfu, hr⟩ := hq
    have hla := l09Look_ok k n a f ha la hk hk16 en hn16 hf.1
    have hlb := l09Look_ok k n b g hb lb hk hk16 en' hn16 hg.1
    obtain ⟨one, eone⟩ : ∃ one, (List.range n).map (lookM k n a f) = one := ⟨_, rfl⟩
    obtain ⟨two, etwo⟩ : ∃ two, (List.range n).map (lookM k n b g) = two := ⟨_, rfl⟩
    rw [eone] at hla
    rw [etwo] at hlb
    have l1 : one.length = n := by rw [← eone]; simp
    have l2 : two.length = n := by rw [← etwo]; simp
    have g1 : ∀ x, x < n → one.getD x [] = lookM k n a f x := fun x hx => by rw [← eone]; simp [List.getD, hx]
    have g2 : ∀ x, x < n → two.getD x [] = lookM k n b g x := fun x hx => by rw [← etwo]; simp [List.getD, hx]
    (repeat refine ats_seq ?_); refine ats_block ?_
    (repeat refine ats_seq ?_)
    refine ats_plan [4, 9] (.one 0 (.one 1 (.one 2 (.one 3 (.alt 4 (.one 5 (.one 6 (.one 7 (.one 8 (.alt 9 (.one 10 (.one 11 .fin)) .stop))))) (.alt 5 (.alt 4 (.one 6 (.one 7 (.one 8 (.alt 9 (.one 10 (.one 11 .fin)) .stop)))) (.alt 6 (.alt 4 (.one 7 (.one 8 (.alt 9 (.one 10 (.one 11 .fin)) .stop))) (.alt 7 (.alt 4 (.one 8 (.alt 9 (.one 10 (.one 11 .fin)) .stop)) (.alt 8 (.alt 4 (.alt 9 (.one 10 (.one 11 .fin)) .stop) .stop) .stop)) .stop)) .stop)) (.alt 6 (.alt 4 (.one 5 (.one 7 (.one 8 (.alt 9 (.one 10 (.one 11 .fin)) .stop)))) (.alt 5 (.alt 4 (.one 7 (.one 8 (.alt 9 (.one 10 (.one 11 .fin)) .stop))) (.alt 7 (.alt 4 (.one 8 (.alt 9 (.one 10 (.one 11 .fin)) .stop)) (.alt 8 (.alt 4 (.alt 9 (.one 10 (.one 11 .fin)) .stop) .stop) .stop)) .stop)) (.alt 7 (.alt 4 (.one 5 (.one 8 (.alt 9 (.one 10 (.one 11 .fin)) .stop))) (.alt 5 (.alt 4 (.one 8 (.alt 9 (.one 10 (.one 11 .fin)) .stop)) (.alt 8 (.alt 4 (.alt 9 (.one 10 (.one 11 .fin)) .stop) .stop) .stop)) (.alt 8 (.alt 4 (.one 5 (.alt 9 (.one 10 (.one 11 .fin)) .stop)) (.alt 5 (.alt 4 (.alt 9 (.one 10 (.one 11 .fin)) .stop) .stop) .stop)) .stop))) .stop))) .stop))))))) ⟨[(3, .bptr 0 0), (4, .bptr 1 0), (7, .int n), (8, .l2 [f, g]), (12, .int number), (13, .l2 one), (14, .l2 two)], [(0, .bx [.l3 a]), (1, .bx [.l3 b])]⟩ (fix0 hcx) mixed (by kernel_rfl) (fun K hK => ?_) ?_
    · simp only [go_sem, seval, Option.getD_some, and_true, true_and, and_self, List.contains_cons, List.contains_nil, Bool.or_false, Bool.or_true]
      repeat' (first | exact hK _ (by refine And.intro ?_ rfl; simp only [SlotsLe, St.get, slotGet, Nat.reduceEqDiff, ↓reduceIte, AV.int.injEq, AV.bool.injEq, AV.l1.injEq, AV.l2.injEq, AV.l3.injEq, true_and, and_true])  | omega | refine And.intro ?_ ?_ | ((first | refine fcall_fresh rfl (hla) ?_ | refine YR_intro (acall_fresh rfl (hla)) ?_); simp only [go_sem, seval, Option.getD_some, and_true, true_and, and_self, List.contains_cons, List.contains_nil, Bool.or_false, Bool.or_true]) | ((first | refine fcall_fresh rfl (hlb) ?_ | refine YR_intro (acall_fresh rfl (hlb)) ?_); simp only [go_sem, seval, Option.getD_some, and_true, true_and, and_self, List.contains_cons, List.contains_nil, Bool.or_false, Bool.or_true]))
    (repeat refine ats_seq ?_); refine ats_go (fix0 hcx) fun K hK => ?_; simp only [go_sem, seval]; (repeat refine And.intro (by first | omega | (intro hq; first | omega | (simp at hq <;> omega) | (simp_all <;> omega))) ?_); refine hK _ ?_; clear hK K
    (repeat refine ats_seq ?_); refine AT.ghost (ghost_frz [2]) ?_; simp only [frzV, find, killA, killAs, qOf, rmT, killH, killT, List.map_cons, List.map_nil, List.filter_cons, List.filter_nil, List.contains_cons, List.contains_nil, Bool.or_false, Bool.or_true, Bool.false_and, Bool.not_true, Bool.not_false, Bool.false_eq_true, if_true, if_false, seval]
    (repeat refine ats_seq ?_); refine ats_go (fix0 hcx) fun K hK => ?_; simp only [go_sem, seval]; (repeat refine And.intro (by first | omega | (intro hq; first | omega | (simp at hq <;> omega) | (simp_all <;> omega))) ?_); refine hK _ ?_; clear hK K
    (repeat refine ats_seq ?_); refine ats_loop (fun x : Nat => ⟨[(3, .bptr 0 0), (4, .bptr 1 0), (7, .int n), (8, .l2 [f, g]), (12, .int number), (13, .l2 one), (14, .l2 two), (15, .l2 (kindsI (lookM k n a) (lookM k n b) f g x)), (16, .int x)], [(0, .bx [.l3 a]), (1, .bx [.l3 b])]⟩) (fun x => x ≤ n) (fun x => n - x) 0 (Nat.zero_le _) (by
      refine And.intro ?_ rfl; simp only [SlotsLe, St.get, slotGet, Nat.reduceEqDiff, ↓reduceIte, AV.int.injEq, AV.bool.injEq, AV.l1.injEq, AV.l2.injEq, AV.l3.injEq, true_and, and_true]
      first | exact ⟨rfl, rfl⟩ | rfl) (fun x hx => ?_)
    obtain ⟨k1, k2, k3, k4⟩ := kindsI_go (f := f) (g := g) hA hB x
    (repeat refine ats_seq ?_); refine ats_go (fix0 hcx) fun K hK => ?_; simp only [go_sem, seval]; (repeat refine And.intro (by first | omega | (intro hq; first | omega | (simp at hq <;> omega) | (simp_all <;> omega))) ?_); refine hK _ ?_; clear hK K
    (repeat refine ats_seq ?_); first | refine ats_ifn (p := _) rfl trivial (fun h1 => ?_) (fun h1 => ?_) | refine ats_ifp (p := _) rfl trivial (fun h1 => ?_) (fun h1 => ?_) | refine ats_cond rfl trivial (fun h1 => ?_) (fun h1 => ?_)
    · have hS1 : SL (2 + k + n * (2 * k + 1)) (one.getD x []) := by rw [g1 x (by omega)]; exact hA f x
      have hS2 : SL (2 + k + n * (2 * k + 1)) (two.getD x []) := by rw [g2 x (by omega)]; exact hB g x
      have hp1 := l09Put_ok _ (kindsI (lookM k n a) (lookM k n b) f g x) (one.getD x []) k3 hS1 (by omega)
      have lk1 := insK_len (m := one.getD x []) (ks := kindsI (lookM k n a) (lookM k n b) f g x)
      have hp2 := l09Put_ok _ (insK (kindsI (lookM k n a) (lookM k n b) f g x) (one.getD x [])) (two.getD x []) (fun m hm => by
        rcases insK_mem.1 hm with e | e
        · rw [e]; exact hS1
        · exact k3 m e) hS2 (by omega)
      have eks : insK (insK (kindsI (lookM k n a) (lookM k n b) f g x) (one.getD x [])) (two.getD x []) = kindsI (lookM k n a) (lookM k n b) f g (x + 1) := by rw [g1 x (by omega), g2 x (by omega)]; rfl
      refine ats_skip ?_
      (repeat refine ats_seq ?_); refine ats_block ?_
      (repeat refine ats_seq ?_)
      refine ats_plan [] (.one 0 (.one 1 (.one 2 (.one 3 (.one 4 (.one 5 (.one 6 (.one 7 (.one 8 (.one 9 (.one 10 (.one 11 .fin)))))))))))) ⟨[(3, .bptr 0 0), (4, .bptr 1 0), (7, .int n), (8, .l2 [f, g]), (12, .int number), (13, .l2 one), (14, .l2 two), (15, .l2 (insK (insK (kindsI (lookM k n a) (lookM k n b) f g x) (one.getD x [])) (two.getD x []))), (16, .int x)], [(0, .bx [.l3 a]), (1, .bx [.l3 b])]⟩ (fix0 hcx) mixed (by kernel_rfl) (fun K hK => ?_) ?_
      · simp only [go_sem, seval, Option.getD_some, and_true, true_and, and_self, List.contains_cons, List.contains_nil, Bool.or_false, Bool.or_true]
        repeat' (first | exact hK _ (by refine And.intro ?_ rfl; simp only [SlotsLe, St.get, slotGet, Nat.reduceEqDiff, ↓reduceIte, AV.int.injEq, AV.bool.injEq, AV.l1.injEq, AV.l2.injEq, AV.l3.injEq, true_and, and_true])  | omega | refine And.intro ?_ ?_ | ((first | refine fcall_data (hp1) rfl ?_ | refine YR_intro (acall_data (hp1) rfl) ?_); simp only [go_sem, seval, Option.getD_some, and_true, true_and, and_self, List.contains_cons, List.contains_nil, Bool.or_false, Bool.or_true]) | ((first | refine fcall_data (hp2) rfl ?_ | refine YR_intro (acall_data (hp2) rfl) ?_); simp only [go_sem, seval, Option.getD_some, and_true, true_and, and_self, List.contains_cons, List.contains_nil, Bool.or_false, Bool.or_true]))
      rw [eks]
      (repeat refine ats_seq ?_); refine ats_go (fix0 hcx) fun K hK => ?_; simp only [go_sem, seval]; (repeat refine And.intro (by first | omega | (intro hq; first | omega | (simp at hq <;> omega) | (simp_all <;> omega))) ?_); refine hK _ ?_; clear hK K
      refine ⟨x + 1,  by omega, by omega, .inl ⟨by simp only [SlotsLe, St.get, slotGet, Nat.reduceEqDiff, ↓reduceIte, AV.int.injEq, AV.bool.injEq, AV.l1.injEq, AV.l2.injEq, AV.l3.injEq, true_and, and_true]; (try omega),  rfl⟩⟩
    · obtain rfl : x = n := by omega
      have hst := stepG_eq (n := x) (f := f) (g := g) hA hB
      obtain ⟨ks, eks⟩ : ∃ ks, kindsI (lookM k x a) (lookM k x b) f g x = ks := ⟨_, rfl⟩
      rw [eks] at k1 k2 k3 k4 hst ⊢
      obtain ⟨fu, rfl⟩ : ∃ c, fu = c + 1 := ⟨fu - 1, by omega⟩
      rw [refG] at hr
      have hk32 : ks.length ≤ 32 := by omega
      have e0 : List.replicate ks.length (0 : Int) = rowF ks.length (cntA ks (lookM k x a) (lookM k x b) f g 0) := by
        have e : List.replicate ks.length (0 : Int) = rowF ks.length (fun _ => 0) := by simp [rowF, List.map_const']
        rw [e]
        exact rowF_congr fun c _ => cntA_zero.symm
      refine ats_exit (lq_x ?_)
      (repeat refine ats_seq ?_)
      refine ats_planG [] (.one 2 (.one 3 (.alt 0 (.one 5 (.alt 1 (.one 6 (.alt 4 (.one 7 .fin) .stop)) (.alt 4 (.alt 1 (.one 6 (.one 7 .fin)) .stop) .stop))) (.alt 1 (.alt 0 (.one 5 (.one 6 (.alt 4 (.one 7 .fin) .stop))) (.alt 4 (.alt 0 (.one 5 (.one 6 (.one 7 .fin))) .stop) .stop)) (.alt 4 (.alt 0 (.one 5 (.alt 1 (.one 6 (.one 7 .fin)) .stop)) (.alt 1 (.alt 0 (.one 5 (.one 6 (.one 7 .fin))) .stop) .stop)) .stop))))) ⟨[(3, .bptr 0 0), (4, .bptr 1 0), (7, .int x), (8, .l2 [f, g]), (12, .int number), (13, .l2 one), (14, .l2 two), (15, .l2 ks), (17, .ref 2 []), (18, .ref 3 []), (19, .ref 4 [])], [(0, .bx [.l3 a]), (1, .bx [.l3 b]), (2, .t1 []), (3, .t1 []), (4, .t1 (List.replicate ks.length 0))]⟩ (fix0 hcx) mixed (by kernel_rfl) (fun K hK => ?_) ?_
      · simp only [go_sem, seval, Option.getD_some, and_true, true_and, and_self, List.contains_cons, List.contains_nil, Bool.or_false, Bool.or_true]
        repeat' (first | (refine hK _ (ghost_can [] ?_ ?_); (focus (simp only [rnLs, rnL, rn, rns, sw, SlotsLe, St.get, slotGet, List.map_cons, List.map_nil, seval, AV.int.injEq, AV.bool.injEq, AV.l1.injEq, AV.l2.injEq, AV.l3.injEq, true_and, and_true]; done)); (focus (simp only [sortH, insH, rnHs, rnH, rnT, rn, rns, sw, List.map_cons, List.map_nil, seval]; done))) | (refine hK _ (ghost_can [(3, 4)] ?_ ?_); (focus (simp only [rnLs, rnL, rn, rns, sw, SlotsLe, St.get, slotGet, List.map_cons, List.map_nil, seval, AV.int.injEq, AV.bool.injEq, AV.l1.injEq, AV.l2.injEq, AV.l3.injEq, true_and, and_true]; done)); (focus (simp only [sortH, insH, rnHs, rnH, rnT, rn, rns, sw, List.map_cons, List.map_nil, seval]; done))) | (refine hK _ (ghost_can [(2, 3)] ?_ ?_); (focus (simp only [rnLs, rnL, rn, rns, sw, SlotsLe, St.get, slotGet, List.map_cons, List.map_nil, seval, AV.int.injEq, AV.bool.injEq, AV.l1.injEq, AV.l2.injEq, AV.l3.injEq, true_and, and_true]; done)); (focus (simp only [sortH, insH, rnHs, rnH, rnT, rn, rns, sw, List.map_cons, List.map_nil, seval]; done))) | (refine hK _ (ghost_can [(2, 4), (3, 4)] ?_ ?_); (focus (simp only [rnLs, rnL, rn, rns, sw, SlotsLe, St.get, slotGet, List.map_cons, List.map_nil, seval, AV.int.injEq, AV.bool.injEq, AV.l1.injEq, AV.l2.injEq, AV.l3.injEq, true_and, and_true]; done)); (focus (simp only [sortH, insH, rnHs, rnH, rnT, rn, rns, sw, List.map_cons, List.map_nil, seval]; done))) | (refine hK _ (ghost_can [(2, 3), (3, 4)] ?_ ?_); (focus (simp only [rnLs, rnL, rn, rns, sw, SlotsLe, St.get, slotGet, List.map_cons, List.map_nil, seval, AV.int.injEq, AV.bool.injEq, AV.l1.injEq, AV.l2.injEq, AV.l3.injEq, true_and, and_true]; done)); (focus (simp only [sortH, insH, rnHs, rnH, rnT, rn, rns, sw, List.map_cons, List.map_nil, seval]; done))) | (refine hK _ (ghost_can [(2, 4)] ?_ ?_); (focus (simp only [rnLs, rnL, rn, rns, sw, SlotsLe, St.get, slotGet, List.map_cons, List.map_nil, seval, AV.int.injEq, AV.bool.injEq, AV.l1.injEq, AV.l2.injEq, AV.l3.injEq, true_and, and_true]; done)); (focus (simp only [sortH, insH, rnHs, rnH, rnT, rn, rns, sw, List.map_cons, List.map_nil, seval]; done))) | omega | refine And.intro ?_ ?_)
      rw [e0]
      (repeat refine ats_seq ?_); refine ats_go (fix0 hcx) fun K hK => ?_; simp only [go_sem, seval]; (repeat refine And.intro (by first | omega | (intro hq; first | omega | (simp at hq <;> omega) | (simp_all <;> omega))) ?_); refine hK _ ?_; clear hK K
      (repeat refine ats_seq ?_); refine ats_loop (fun y : Nat => ⟨[(3, .bptr 0 0), (4, .bptr 1 0), (7, .int x), (8, .l2 [f, g]), (12, .int number), (13, .l2 one), (14, .l2 two), (15, .l2 ks), (17, .ref 2 []), (18, .ref 3 []), (19, .ref 4 []), (20, .int y)], [(0, .bx [.l3 a]), (1, .bx [.l3 b]), (2, .t1 (colA ks (lookM k x a) f y)), (3, .t1 (colA ks (lookM k x b) g y)), (4, .t1 (rowF ks.length (cntA ks (lookM k x a) (lookM k x b) f g y)))]⟩) (fun y => y ≤ x) (fun y => x - y) 0 (Nat.zero_le _) (by
        refine And.intro ?_ rfl; simp only [SlotsLe, St.get, slotGet, Nat.reduceEqDiff, ↓reduceIte, AV.int.injEq, AV.bool.injEq, AV.l1.injEq, AV.l2.injEq, AV.l3.injEq, true_and, and_true]
        first | done | rfl) (fun y hy => ?_)
      have c1 := colA_len (mA := lookM k x a) (f := f) (ks := ks) (x := y)
      have c2 := colA_len (mA := lookM k x b) (f := g) (ks := ks) (x := y)
      have lr : (rowF ks.length (cntA ks (lookM k x a) (lookM k x b) f g y)).length = ks.length := rowF_length ..
      (repeat refine ats_seq ?_); refine ats_go (fix0 hcx) fun K hK => ?_; simp only [go_sem, seval]; (repeat refine And.intro (by first | omega | (intro hq; first | omega | (simp at hq <;> omega) | (simp_all <;> omega))) ?_); refine hK _ ?_; clear hK K
      (repeat refine ats_seq ?_); first | refine ats_ifn (p := _) rfl trivial (fun h2 => ?_) (fun h2 => ?_) | refine ats_ifp (p := _) rfl trivial (fun h2 => ?_) (fun h2 => ?_) | refine ats_cond rfl trivial (fun h2 => ?_) (fun h2 => ?_)
      · have m1 : one.getD y [] ∈ ks := (k1 _).2 ⟨y, by omega, .inl (g1 y (by omega))⟩
        have m2 : two.getD y [] ∈ ks := (k1 _).2 ⟨y, by omega, .inr (g2 y (by omega))⟩
        have hq1 := l09Place_ok ks (one.getD y []) m1 (by omega)
        have hq2 := l09Place_ok ks (two.getD y []) m2 (by omega)
        have d1 := (colI_spec m1).1
        have d2 := (colI_spec m2).1
        have s1 := colA_succ (mA := lookM k x a) (f := f) (ks := ks) (x := y)
        have s2 := colA_succ (mA := lookM k x b) (f := g) (ks := ks) (x := y)
        rw [← g1 y (by omega)] at s1
        rw [← g2 y (by omega)] at s2
        have hrow := cntA_row (ks := ks) (mA := lookM k x a) (mB := lookM k x b) (f := f) (g := g) (y := y) (K := ks.length) (by rw [← g1 y (by omega)]) (by rw [← g2 y (by omega)]) d1 d2
        obtain ⟨v1, e1⟩ : ∃ v1, colI ks (one.getD y []) = v1 := ⟨_, rfl⟩
        obtain ⟨v2, e2⟩ : ∃ v2, colI ks (two.getD y []) = v2 := ⟨_, rfl⟩
        rw [e1] at hq1 d1 s1 hrow
        rw [e2] at hq2 d2 s2 hrow
        have b1 := cntA_bd (ks := ks) (mA := lookM k x a) (mB := lookM k x b) (f := f) (g := g) (x := y) (c := v1)
        have b2 := cntA_bd (ks := ks) (mA := lookM k x a) (mB := lookM k x b) (f := f) (g := g) (x := y) (c := v2)
        have r1 : (rowF ks.length (cntA ks (lookM k x a) (lookM k x b) f g y)).getD v1 0 = cntA ks (lookM k x a) (lookM k x b) f g y v1 := rowF_get d1
        rw [← r1] at b1
        have q1 : (colA ks (lookM k x a) f y ++ [(v1 : Int)]).getD y 0 = (v1 : Int) := getD_last c1
        have q2 : (colA ks (lookM k x b) g y ++ [(v2 : Int)]).getD y 0 = (v2 : Int) := getD_last c2
        have t1 : (colA ks (lookM k x a) f y ++ [(v1 : Int)]).length = y + 1 := by rw [List.length_append, c1]; rfl
        have t2 : (colA ks (lookM k x b) g y ++ [(v2 : Int)]).length = y + 1 := by rw [List.length_append, c2]; rfl
        have lr2 : ((rowF ks.length (cntA ks (lookM k x a) (lookM k x b) f g y)).set v1 ((rowF ks.length (cntA ks (lookM k x a) (lookM k x b) f g y)).getD v1 0 + 1)).length = ks.length := by rw [List.length_set, lr]
        have b3 : -100 ≤ ((rowF ks.length (cntA ks (lookM k x a) (lookM k x b) f g y)).set v1 ((rowF ks.length (cntA ks (lookM k x a) (lookM k x b) f g y)).getD v1 0 + 1)).getD v2 0 ∧ ((rowF ks.length (cntA ks (lookM k x a) (lookM k x b) f g y)).set v1 ((rowF ks.length (cntA ks (lookM k x a) (lookM k x b) f g y)).getD v1 0 + 1)).getD v2 0 ≤ 100 := by
          rw [r1, rowF_set, rowF_get d2]
          rw [r1] at b1
          split <;> omega
        refine ats_skip ?_
        (repeat refine ats_seq ?_); refine ats_block ?_
        (repeat refine ats_seq ?_); refine ats_go (fix0 hcx) fun K hK => ?_; simp only [go_sem, seval]
        (repeat refine And.intro (by first | omega | (intro hq; first | omega | (simp at hq <;> omega) | (simp_all <;> omega))) ?_)
        first | refine fcall_data (hq1) rfl ?_ | refine YR_intro (acall_data (hq1) rfl) ?_
        simp only [go_sem, seval]
        (repeat refine And.intro (by first | omega | (intro hq; first | omega | (simp at hq <;> omega) | (simp_all <;> omega))) ?_)
        refine hK _ ?_; clear hK K
        (repeat refine ats_seq ?_); refine ats_go (fix0 hcx) fun K hK => ?_; simp only [go_sem, seval]
        (repeat refine And.intro (by first | omega | (intro hq; first | omega | (simp at hq <;> omega) | (simp_all <;> omega))) ?_)
        first | refine fcall_data (hq2) rfl ?_ | refine YR_intro (acall_data (hq2) rfl) ?_
        simp only [go_sem, seval]
        (repeat refine And.intro (by first | omega | (intro hq; first | omega | (simp at hq <;> omega) | (simp_all <;> omega))) ?_)
        refine hK _ ?_; clear hK K
        (repeat refine ats_seq ?_); refine ats_go (fix0 hcx) fun K hK => ?_; simp only [go_sem, seval]
        try simp only [q1, Int.toNat_natCast]
        (repeat refine And.intro (by first | omega | (intro hq; first | omega | (simp at hq <;> omega) | (simp_all <;> omega))) ?_)
        refine hK _ ?_; clear hK K
        try simp only [q1, Int.toNat_natCast]
        (repeat refine ats_seq ?_); refine ats_go (fix0 hcx) fun K hK => ?_; simp only [go_sem, seval]
        try simp only [q2, Int.toNat_natCast]
        (repeat refine And.intro (by first | omega | (intro hq; first | omega | (simp at hq <;> omega) | (simp_all <;> omega))) ?_)
        refine hK _ ?_; clear hK K
        try simp only [q2, Int.toNat_natCast]
        rw [hrow, ← s1, ← s2]
        (repeat refine ats_seq ?_); refine ats_go (fix0 hcx) fun K hK => ?_; simp only [go_sem, seval]; (repeat refine And.intro (by first | omega | (intro hq; first | omega | (simp at hq <;> omega) | (simp_all <;> omega))) ?_); refine hK _ ?_; clear hK K
        refine ⟨y + 1, by omega, by omega, .inr ⟨[5, 6], by simp only [killL, List.map_cons, List.map_nil, killA, killAs, qOf, rmT, killH, killT, List.filter_cons, List.filter_nil, List.contains_cons, List.contains_nil, SlotsLe, St.get, slotGet, Nat.reduceEqDiff, Nat.reduceBEq, Bool.or_false, Bool.or_true, Bool.false_and, Bool.not_true, Bool.not_false, Bool.false_eq_true, ↓reduceIte, if_true, if_false, AV.int.injEq, AV.bool.injEq, AV.l1.injEq, AV.l2.injEq, AV.l3.injEq, true_and, and_true]; (try omega), by simp only [killL, List.map_cons, List.map_nil, killA, killAs, qOf, rmT, killH, killT, List.filter_cons, List.filter_nil, List.contains_cons, List.contains_nil, SlotsLe, St.get, slotGet, Nat.reduceEqDiff, Nat.reduceBEq, Bool.or_false, Bool.or_true, Bool.false_and, Bool.not_true, Bool.not_false, Bool.false_eq_true, ↓reduceIte, if_true, if_false, AV.int.injEq, AV.bool.injEq, AV.l1.injEq, AV.l2.injEq, AV.l3.injEq, true_and, and_true]; (try rfl)⟩⟩
      · obtain rfl : y = x := by omega
        refine ats_exit (lq_x ?_)
        (repeat refine ats_seq ?_); refine ats_go (fix0 hcx) fun K hK => ?_; simp only [go_sem, seval]; (repeat refine And.intro (by first | omega | (intro hq; first | omega | (simp at hq <;> omega) | (simp_all <;> omega))) ?_); refine hK _ ?_; clear hK K
        (repeat refine ats_seq ?_); refine ats_loop (fun c : Nat => ⟨[(3, .bptr 0 0), (4, .bptr 1 0), (7, .int y), (8, .l2 [f, g]), (12, .int number), (13, .l2 one), (14, .l2 two), (15, .l2 ks), (17, .ref 2 []), (18, .ref 3 []), (19, .ref 4 []), (21, .int c)], [(0, .bx [.l3 a]), (1, .bx [.l3 b]), (2, .t1 (colA ks (lookM k y a) f y)), (3, .t1 (colA ks (lookM k y b) g y)), (4, .t1 (rowF ks.length (cntA ks (lookM k y a) (lookM k y b) f g y)))]⟩) (fun c => c ≤ ks.length ∧ ∀ j, j < c → cntA ks (lookM k y a) (lookM k y b) f g y j = 0) (fun c => ks.length - c) 0 ⟨Nat.zero_le _, fun j hj => absurd hj (Nat.not_lt_zero j)⟩ (by
          refine And.intro ?_ rfl; simp only [SlotsLe, St.get, slotGet, Nat.reduceEqDiff, ↓reduceIte, AV.int.injEq, AV.bool.injEq, AV.l1.injEq, AV.l2.injEq, AV.l3.injEq, true_and, and_true]
          try rfl) (fun c hc => ?_)
        obtain ⟨hc, hz⟩ := hc
        (repeat refine ats_seq ?_); refine ats_go (fix0 hcx) fun K hK => ?_; simp only [go_sem, seval]
        simp only [lr]
        (repeat refine And.intro (by first | omega | (intro hq; first | omega | (simp at hq <;> omega) | (simp_all <;> omega))) ?_)
        refine hK _ ?_; clear hK K
        (repeat refine ats_seq ?_); first | refine ats_ifn (p := _) rfl trivial (fun h5 => ?_) (fun h5 => ?_) | refine ats_ifp (p := _) rfl trivial (fun h5 => ?_) (fun h5 => ?_) | refine ats_cond rfl trivial (fun h5 => ?_) (fun h5 => ?_)
        · have hgc : (rowF ks.length (cntA ks (lookM k y a) (lookM k y b) f g y)).getD c 0 = cntA ks (lookM k y a) (lookM k y b) f g y c := rowF_get (by omega)
          refine ats_skip ?_
          (repeat refine ats_seq ?_); refine ats_block ?_
          (repeat refine ats_seq ?_); refine ats_go (fix0 hcx) fun K hK => ?_; simp only [go_sem, seval]; (repeat refine And.intro (by first | omega | (intro hq; first | omega | (simp at hq <;> omega) | (simp_all <;> omega))) ?_); refine hK _ ?_; clear hK K
          (repeat refine ats_seq ?_); first | refine ats_ifn (p := _) rfl trivial (fun h6 => ?_) (fun h6 => ?_) | refine ats_ifp (p := _) rfl trivial (fun h6 => ?_) (fun h6 => ?_) | refine ats_cond rfl trivial (fun h6 => ?_) (fun h6 => ?_)
          · rw [if_neg (fun h => by
              rw [List.all_eq_true] at h
              have := of_decide_eq_true (h c (List.mem_range.2 (by omega)))
              rw [hgc] at h6
              exact h6 this)] at hst
            rw [hst] at hr
            simp only at hr
            subst hr
            (repeat refine ats_seq ?_); refine ats_go (fix0 hcx) fun K hK => ?_; simp only [go_sem, seval]; (repeat refine And.intro (by first | omega | (intro hq; first | omega | (simp at hq <;> omega) | (simp_all <;> omega))) ?_); refine hK _ ?_; clear hK K
            exact ats_ret (finV rfl ⟨rfl, trivial⟩ rfl)
          · rw [hgc] at h6
            refine ats_skip ?_
            (repeat refine ats_seq ?_); refine ats_go (fix0 hcx) fun K hK => ?_; simp only [go_sem, seval]; (repeat refine And.intro (by first | omega | (intro hq; first | omega | (simp at hq <;> omega) | (simp_all <;> omega))) ?_); refine hK _ ?_; clear hK K
            refine ⟨c + 1,  ⟨by omega, fun j hj => by rcases Nat.lt_succ_iff_lt_or_eq.1 hj with h | rfl; exact hz j h; exact h6⟩, by omega, .inl ⟨by simp only [SlotsLe, St.get, slotGet, Nat.reduceEqDiff, ↓reduceIte, AV.int.injEq, AV.bool.injEq, AV.l1.injEq, AV.l2.injEq, AV.l3.injEq, true_and, and_true]; (try omega),  rfl⟩⟩
        · rw [if_pos (by
            rw [List.all_eq_true]
            intro j hj
            exact decide_eq_true (hz j (by have := List.mem_range.1 hj; omega)))] at hst
          obtain ⟨g1', g2', g3', g4'⟩ := stepG_some hA hB hst hn16
          have hgr := stepG_grow hA hB (fun f x => rfl) (fun f x => rfl) hst hu
          rw [hst] at hr
          simp only at hr
          refine ats_exit (lq_x ?_)
          (repeat refine ats_seq ?_); refine AT.ghost (ghost_frz [2, 3]) ?_; simp only [frzV, find, killA, killAs, qOf, rmT, killH, killT, List.map_cons, List.map_nil, List.filter_cons, List.filter_nil, List.contains_cons, List.contains_nil, Bool.or_false, Bool.or_true, Bool.false_and, Bool.not_true, Bool.not_false, Bool.false_eq_true, if_true, if_false, seval]
          (repeat refine ats_seq ?_); refine ats_go (fix0 hcx) fun K hK => ?_; simp only [go_sem, seval]; (repeat refine And.intro (by first | omega | (intro hq; first | omega | (simp at hq <;> omega) | (simp_all <;> omega))) ?_); refine hK _ ?_; clear hK K
          (repeat refine ats_seq ?_); refine AT.ghost (ghost_frz [5]) ?_; simp only [frzV, find, killA, killAs, qOf, rmT, killH, killT, List.map_cons, List.map_nil, List.filter_cons, List.filter_nil, List.contains_cons, List.contains_nil, Bool.or_false, Bool.or_true, Bool.false_and, Bool.not_true, Bool.not_false, Bool.false_eq_true, if_true, if_false, seval]
          (repeat refine ats_seq ?_); refine ats_go (fix0 hcx) fun K hK => ?_; simp only [go_sem, seval]; (repeat refine And.intro (by first | omega | (intro hq; first | omega | (simp at hq <;> omega) | (simp_all <;> omega))) ?_); refine hK _ ?_; clear hK K
          (repeat refine ats_seq ?_); first | refine ats_ifn (p := _) rfl trivial (fun h6 => ?_) (fun h6 => ?_) | refine ats_ifp (p := _) rfl trivial (fun h6 => ?_) (fun h6 => ?_) | refine ats_cond rfl trivial (fun h6 => ?_) (fun h6 => ?_)
          · rw [if_pos (by omega)] at hr
            subst hr
            (repeat refine ats_seq ?_); refine ats_go (fix0 hcx) fun K hK => ?_; simp only [go_sem, seval]; (repeat refine And.intro (by first | omega | (intro hq; first | omega | (simp at hq <;> omega) | (simp_all <;> omega))) ?_); refine hK _ ?_; clear hK K
            exact ats_ret (finV rfl ⟨rfl, trivial⟩ rfl)
          · rw [if_neg (by omega)] at hr
            refine ats_skip ?_
            (repeat refine ats_seq ?_); refine ats_go (fix0 hcx) fun K hK => ?_; simp only [go_sem, seval]; (repeat refine And.intro (by first | omega | (intro hq; first | omega | (simp at hq <;> omega) | (simp_all <;> omega))) ?_); refine hK _ ?_; clear hK K
            refine ⟨(ks.length, colA ks (lookM k y a) f y, colA ks (lookM k y b) g y), ⟨by simp only; omega, g1', g2', g3', fu, by simp only; omega, hr⟩, (by simp only; omega), .inr ⟨[4], by simp only [killL, List.map_cons, List.map_nil, killA, killAs, qOf, rmT, killH, killT, List.filter_cons, List.filter_nil, List.contains_cons, List.contains_nil, SlotsLe, St.get, slotGet, Nat.reduceEqDiff, Nat.reduceBEq, Bool.or_false, Bool.or_true, Bool.false_and, Bool.not_true, Bool.not_false, Bool.false_eq_true, ↓reduceIte, if_true, if_false, AV.int.injEq, AV.bool.injEq, AV.l1.injEq, AV.l2.injEq, AV.l3.injEq, true_and, and_true]; (try rfl), by simp only [killL, List.map_cons, List.map_nil, killA, killAs, qOf, rmT, killH, killT, List.filter_cons, List.filter_nil, List.contains_cons, List.contains_nil, SlotsLe, St.get, slotGet, Nat.reduceEqDiff, Nat.reduceBEq, Bool.or_false, Bool.or_true, Bool.false_and, Bool.not_true, Bool.not_false, Bool.false_eq_true, ↓reduceIte, if_true, if_false, AV.int.injEq, AV.bool.injEq, AV.l1.injEq, AV.l2.injEq, AV.l3.injEq, true_and, and_true]; (try rfl)⟩⟩
end Go.Proofs.Ytbddekioaigbhaa
