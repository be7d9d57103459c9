import Derived.Test.YtmjcbgpbhlheoaaDoorJz1
import Derived.Test.YtmjcbgpbhlheoaaDoorDz2
import Derived.Test.YtmjcbgpbhlheoaaDoorLib7
set_option linter.unusedSimpArgs false
set_option linter.unusedVariables false
namespace Go.Proofs.YtmjcbgpbhlheoaaDoor
open Go Go.Aw Go.Pl
attribute [local go_sem] pl_fin pl_stop pl_one pl_alt PK_ap pickO List.getElem?_toArray List.getElem?_cons_zero List.getElem?_cons_succ
def dPL : Nat → Nat → List Int → Src → List Int × Src
 | 0, _, o, s => (o, s)
 | k + 1, i, o, s => dPL k (i + 1) (o.take (1 + (nx s i).1).toNat ++ (i : Int) :: o.drop (1 + (nx s i).1).toNat) (nx s i).2
def PmB (n : Nat) (o : List Int) : Prop := o.length = n ∧ ∀ x ∈ o, 0 ≤ x ∧ x < n
theorem PmB.q {n : Nat} {o : List Int} (h : PmB n o) {i : Nat} (hi : i < n) : 0 ≤ o.getD i 0 ∧ o.getD i 0 < n := by
 have hl : i < o.length := by rw [h.1]; exact hi
 exact h.2 _ (by rw [List.getD_eq_getElem?_getD, List.getElem?_eq_getElem hl]; exact List.getElem_mem hl)
theorem dPL_fact : ∀ (k i : Nat) (o : List Int) (s : Src), s.Ok → PmB i o → 1 ≤ i → (dPL k i o s).2.Ok ∧ PmB (i + k) (dPL k i o s).1
 | 0, i, o, s, hs, ho, _ => ⟨hs, ho⟩
 | k + 1, i, o, s, hs, ho, hi => by
  have b := nx_bd s (n := (i : Int)) (by omega)
  have h := dPL_fact k (i + 1) (o.take (1 + (nx s i).1).toNat ++ (i : Int) :: o.drop (1 + (nx s i).1).toNat) (nx s i).2 (nx_ok hs _) ⟨by
   have := ho.1
   rw [List.length_append, List.length_take, List.length_cons, List.length_drop]; omega, fun x hx => by
   rcases List.mem_append.1 hx with h | h
   ·have := ho.2 x (List.mem_of_mem_take h); omega
   ·rcases List.mem_cons.1 h with h | h
    ·omega
    ·have := ho.2 x (List.mem_of_mem_drop h); omega⟩ (by omega)
  have e : i + (k + 1) = i + 1 + k := by omega
  rw [e]
  exact h
theorem l03DrawOrder_ok (s : Src) (hs : s.Ok) (n : Nat) (h1 : 1 ≤ n) (h2 : n ≤ 16) : OwnCall Tryd.prog 65 [.bptr 0 0, .int n] (TS s)
  [(0, .bx [.lv (bsV (dPL (n - 1) 1 [0] s).2.code), .int (dPL (n - 1) 1 [0] s).2.pos, .ik .u64 (dPL (n - 1) 1 [0] s).2.h]), (1, .t1 (dPL (n - 1) 1 [0] s).1)] (.ref 1 []) [0] := by
 obtain ⟨R, eR⟩ : ∃ R, dPL (n - 1) 1 [0] s = R := ⟨_, rfl⟩
 rw [eR]
 unfold TS
 refine OwnCall.intro (n := 33) (rs := [.tmp 4]) 2 [0, 1] (X := [0]) Tryd.call65 Tryd.func65 rfl rfl rfl (by simp only [List.length_cons, List.length_nil]; omega) (by simp [Aw.ids, rootsA, rootsAs, argSlots, slotGet]) (fun cx hcx => AT.weakG (ats_of ?_)); simp only [argSlots, Nat.zero_add, Nat.reduceAdd]
 refine gBN ?_
 refine gBN ?_
 refine gBN ?_
 (repeat refine ats_seq ?_); refine ats_loop (fun x : Nat × List Int × Src => ⟨[(0, .bptr 0 0), (1, .int n), (5, .ref 1 []), (6, .int ((n - x.1 : Nat) : Int))], [(0, .bx [.lv (bsV x.2.2.code), .int x.2.2.pos, .ik .u64 x.2.2.h]), (1, .t1 x.2.1)]⟩) (fun x => x.2.2.Ok ∧ x.1 < n ∧ x.2.1.length = n - x.1 ∧ dPL x.1 (n - x.1) x.2.1 x.2.2 = R) (fun x => x.1) (n - 1, [0], s) ⟨hs, by dsimp only; omega, by simp; omega, by rw [← eR]; congr 1; omega⟩ (by
  refine And.intro ?_ rfl; simp only [leS, Nat.reduceEqDiff, ↓reduceIte, true_and, and_true]
  omega) (fun x hx => ?_)
 obtain ⟨k, o, s1⟩ := x
 dsimp only at hx ⊢
 obtain ⟨ok, hk, hl, eD⟩ := hx
 refine gBN ?_
 refine gI (fun hc => ?_) fun hc => ?_
 ·obtain ⟨k, rfl⟩ : ∃ j, k = j + 1 := ⟨k - 1, by omega⟩
  have hN := l01Next_ok s1 ok (n - (k + 1) : Nat) (by omega)
  have b1 := nx_bd s1 (n := (n - (k + 1) : Nat)) (by omega)
  have ok1 := nx_ok ok (n - (k + 1) : Nat)
  unfold dPL at eD
  generalize nx s1 (n - (k + 1) : Nat) = r at *
  unfold TS at hN
  obtain ⟨a, ea⟩ : ∃ a, (1 + r.1).toNat = a := ⟨_, rfl⟩
  have ld : (o.drop a).length = o.length - a := List.length_drop
  have lt : (o.take a).length = a := by rw [List.length_take]; omega
  rw [ea] at eD
  refine ats_skip ?_
  (repeat refine ats_seq ?_); refine ats_block ?_
  refine gCN fun K hK => ?_
  (repeat refine aI (hb := ?_))
  refine fcall_bx (hN) (k := ?_); simp only [Aw.ids, go_sem, seval]
  (repeat refine aI (hb := ?_))
  refine hK _ ?_; clear hK K
  refine gCN fun K hK => ?_
  rw [List.take_of_length_le (Nat.le_refl _), ea]
  (repeat refine aI (hb := ?_))
  refine hK _ ?_; clear hK K
  refine gCN fun K hK => ?_
  rw [ea]
  (repeat refine aI (hb := ?_))
  refine hK _ ?_; clear hK K
  have eD' : dPL k (n - (k + 1) + 1) (o.take a ++ ((n - (k + 1) : Nat) : Int) :: o.drop a) r.2 = R := eD
  have en : n - (k + 1) + 1 = n - k := by omega
  rw [en] at eD'
  (repeat refine ats_seq ?_); refine AT.ghost (st' := ⟨[(0, .bptr 0 0), (1, .int n), (5, .ref 1 []), (6, .int ((n - (k + 1) : Nat) : Int))], [(0, .bx [.lv (bsV r.2.code), .int r.2.pos, .ik .u64 r.2.h]), (1, .t1 (o.take a ++ ((n - (k + 1) : Nat) : Int) :: o.drop a))]⟩) (ghost_to [1, 2] [(3, 1)]) ?_
  refine gBN ?_
  refine ⟨(k, o.take a ++ ((n - (k + 1) : Nat) : Int) :: o.drop a, r.2),  ⟨ok1, by dsimp only; omega, by dsimp only; rw [List.length_append, List.length_cons, lt, ld]; omega, eD'⟩, by omega, .inl ⟨by simp only [leS, Nat.reduceEqDiff, ↓reduceIte, true_and, and_true]; omega,  rfl⟩⟩
 ·refine ats_exit (lq_x ?_)
  refine gBN ?_
  obtain rfl : k = 0 := by omega
  have eD' : (o, s1) = R := eD
  subst eD'
  refine ats_ret ⟨⟨[(0, .bptr 0 0), (1, .int n), (4, .ref 1 [])], [(0, .bx [.lv (bsV s1.code), .int s1.pos, .ik .u64 s1.h]), (1, .t1 o)]⟩, ghost_to [] [], .inr rfl, (by first | rfl | exact ⟨trivial, rfl⟩ | (simp only [resL, resA, go_sem, seval]; done)), (by simp [St.get, slotGet, argSlots]), rfl⟩
theorem take_getD {α : Type} {xs : List α} {d : α} {k : Nat} (h : k < xs.length) : xs.take (k + 1) = xs.take k ++ [xs.getD k d] := by
 rw [← List.take_append_getElem h, List.getD_eq_getElem?_getD, List.getElem?_eq_getElem h]
 rfl
theorem l01Own2w_ok (n : Nat) (h16 : n ≤ 16) (m : List (List Int)) (lm : m.length = n) (hm : ∀ j, j < n → (m.getD j []).length = n) : FreshCall Tryd.prog 83 [.l2 m] (.l2 m) := by
 refine FreshCall.intro (n := 21) (rs := [.tmp 2]) Tryd.call83 Tryd.func83 rfl rfl rfl (by simp only [List.length_cons, List.length_nil]; omega) (fun cx hcx => ats_of ?_); simp only [argSlots, Nat.zero_add, Nat.reduceAdd]
 refine gAN ?_
 refine gAN ?_
 refine gAN ?_
 (repeat refine ats_seq ?_); refine ats_loop (fun i : Nat => ⟨[(0, .l2 m), (3, .ref 0 []), (4, .int i)], [(0, .t2 (m.take i))]⟩) (fun i => i ≤ n) (fun i => n - i) 0 (Nat.zero_le _) (by refine And.intro ?_ rfl; simp only [leS, Nat.reduceEqDiff, ↓reduceIte, true_and, and_true]; repeat' (first | rfl | with_reducible refine And.intro ?_ ?_ | omega)) (fun i hi => ?_)
 have lt : (m.take i).length = i := by rw [List.length_take]; omega
 refine gBN ?_
 refine gI (fun h2 => ?_) fun h2 => ?_
 ·have ri := hm i (show i < n by omega)
  have ho := l01Own_ok (m.getD i []) (by omega)
  have st := take_getD (xs := m) (d := []) (k := i) (by omega)
  refine ats_skip ?_
  (repeat refine ats_seq ?_); refine ats_block ?_
  refine gCN fun K hK => ?_
  (repeat refine aI (hb := ?_))
  refine fcall_own rfl (ho) rfl ?_; simp only [go_sem, seval]
  (repeat refine aI (hb := ?_))
  refine hK _ ?_; clear hK K
  refine gBN ?_
  refine ⟨i + 1,  by omega, by omega, .inl ⟨by simp only [leS, Nat.reduceEqDiff, ↓reduceIte, true_and, and_true]; omega,  by rw [st]⟩⟩
 ·obtain rfl : i = n := by omega
  rw [List.take_of_length_le (by omega)]
  refine ats_exit (lq_x ?_)
  refine gBN ?_
  exact ats_ret (ownV (is := [0]) rfl ⟨rfl, trivial⟩ rfl (by simp))
theorem l03Ownw_ok (n : Nat) (h16 : n ≤ 16) (g : Gf) : FreshCall Tryd.prog 76 [.l3 (cubF n g)] (.l3 (cubF n g)) := by
 have l0 := cubF_length n g
 have l1 : ∀ i, i < n → ((cubF n g).getD i []).length = n := fun i hi => cubF_mat hi
 have l2 : ∀ i, i < n → ∀ j, j < n → (((cubF n g).getD i []).getD j []).length = n := fun i hi j hj => cubF_row hi hj
 obtain ⟨t, et⟩ : ∃ t, cubF n g = t := ⟨_, rfl⟩
 rw [et] at l0 l1 l2 ⊢
 refine FreshCall.intro (n := 21) (rs := [.tmp 2]) Tryd.call76 Tryd.func76 rfl rfl rfl (by simp only [List.length_cons, List.length_nil]; omega) (fun cx hcx => ats_of ?_); simp only [argSlots, Nat.zero_add, Nat.reduceAdd]
 refine gAN ?_
 refine gAN ?_
 refine gAN ?_
 (repeat refine ats_seq ?_); refine ats_loop (fun i : Nat => ⟨[(0, .l3 t), (3, .ref 0 []), (4, .int i)], [(0, .t3 (t.take i))]⟩) (fun i => i ≤ n) (fun i => n - i) 0 (Nat.zero_le _) (by refine And.intro ?_ rfl; simp only [leS, Nat.reduceEqDiff, ↓reduceIte, true_and, and_true]; repeat' (first | rfl | with_reducible refine And.intro ?_ ?_ | omega)) (fun i hi => ?_)
 have lt : (t.take i).length = i := by rw [List.length_take]; omega
 refine gBN ?_
 refine gI (fun h2 => ?_) fun h2 => ?_
 ·have ho := l01Own2w_ok n h16 (t.getD i []) (l1 i (by omega)) (l2 i (by omega))
  have st := take_getD (xs := t) (d := []) (k := i) (by omega)
  refine ats_skip ?_
  (repeat refine ats_seq ?_); refine ats_block ?_
  refine gCN fun K hK => ?_
  (repeat refine aI (hb := ?_))
  refine fcall_own rfl (ho) rfl ?_; simp only [go_sem, seval]
  (repeat refine aI (hb := ?_))
  refine hK _ ?_; clear hK K
  refine gBN ?_
  refine ⟨i + 1,  by omega, by omega, .inl ⟨by simp only [leS, Nat.reduceEqDiff, ↓reduceIte, true_and, and_true]; omega,  by rw [st]⟩⟩
 ·obtain rfl : i = n := by omega
  rw [List.take_of_length_le (by omega)]
  refine ats_exit (lq_x ?_)
  refine gBN ?_
  exact ats_ret (ownV (is := [0]) rfl ⟨rfl, trivial⟩ rfl (by simp))
def imK (p : List Int) (g : Gf) (i j c : Nat) (G : Gf) : Gf := it (fun k G => updG G (p.getD i 0).toNat (p.getD j 0).toNat (p.getD k 0).toNat (g i j k)) c G
def imJ (p : List Int) (g : Gf) (n i c : Nat) (G : Gf) : Gf := it (fun j G => imK p g i j n G) c G
def imI (p : List Int) (g : Gf) (n c : Nat) (G : Gf) : Gf := it (fun i G => imJ p g n i n G) c G
theorem imI_bd {b : Int} {p : List Int} {g : Gf} {n c : Nat} (h : BdG b g) : BdG b (imI p g n c g) :=
 h.iter1 fun i _ _ h1 => h1.iter1 fun j _ _ h2 => h2.iter1 fun k _ _ h3 => h3.upd _ _ _ (h i j k).1 (h i j k).2
set_option maxHeartbeats 8000000 in
theorem l03Imagew_ok (n : Nat) (h16 : n ≤ 16) (g : Gf) {b : Int} (hg : BdG b g) (hb : b ≤ 1048576) (p : List Int) (hp : PmB n p) : FreshCall Tryd.prog 64 [.l3 (cubF n g), .l1 p] (.l3 (cubF n (imI p g n n g))) := by
 have he := l03Ownw_ok n h16 g
 have l0 := cubF_length n g
 have l1 : ∀ i, i < n → ((cubF n g).getD i []).length = n := fun i hi => cubF_mat hi
 have l2 : ∀ i, i < n → ∀ j, j < n → (((cubF n g).getD i []).getD j []).length = n := fun i hi j hj => cubF_row hi hj
 have l3 : ∀ i, i < n → ∀ j, j < n → ∀ k, k < n → (((cubF n g).getD i []).getD j []).getD k 0 = g i j k := fun i hi j hj k hk => cubF_e3 hi hj hk
 obtain ⟨t, et⟩ : ∃ t, cubF n g = t := ⟨_, rfl⟩
 rw [et] at he l0 l1 l2 l3 ⊢
 have he2 : FreshCall Tryd.prog 76 [.l3 t] (.l3 (cubF n (imI p g n 0 g))) := by
  have e : cubF n (imI p g n 0 g) = t := et
  rw [e]; exact he
 have lp := hp.1
 refine FreshCall.intro (n := 58) (rs := [.tmp 4]) Tryd.call64 Tryd.func64 rfl rfl rfl (by simp only [List.length_cons, List.length_nil]; omega) (fun cx hcx => ats_of ?_); simp only [argSlots, Nat.zero_add, Nat.reduceAdd]
 refine gAN ?_
 refine gCN fun K hK => ?_
 refine fcall_own rfl (he2) rfl ?_; simp only [go_sem, seval]
 (repeat refine aI (hb := ?_))
 refine hK _ ?_; clear hK K
 refine gBN ?_
 (repeat refine ats_seq ?_); refine ats_loop (fun i : Nat => ⟨[(0, .l3 t), (1, .l1 p), (5, .ref 0 []), (6, .int i)], [(0, .t3 (cubF n (imI p g n i g)))]⟩) (fun i => i ≤ n) (fun i => n - i) 0 (Nat.zero_le _) (by refine And.intro ?_ rfl; simp only [leS, Nat.reduceEqDiff, ↓reduceIte, true_and, and_true]; repeat' (first | rfl | with_reducible refine And.intro ?_ ?_ | omega)) (fun i hi => ?_)
 refine gBN ?_
 refine gI (fun h2 => ?_) fun h2 => ?_
 ·have hi := hp.q (show i < n by omega)
  have mi := l1 i (by omega)
  refine ats_skip ?_
  (repeat refine ats_seq ?_); refine ats_block ?_
  refine gBN ?_
  (repeat refine ats_seq ?_); refine ats_loop (fun j : Nat => ⟨[(0, .l3 t), (1, .l1 p), (5, .ref 0 []), (6, .int i), (7, .int j)], [(0, .t3 (cubF n (imJ p g n i j (imI p g n i g))))]⟩) (fun j => j ≤ n) (fun j => n - j) 0 (Nat.zero_le _) (by refine And.intro ?_ rfl; simp only [leS, Nat.reduceEqDiff, ↓reduceIte, true_and, and_true]; repeat' (first | rfl | with_reducible refine And.intro ?_ ?_ | omega)) (fun j hj => ?_)
  refine gBN ?_
  refine gI (fun h3 => ?_) fun h3 => ?_
  ·have hj := hp.q (show j < n by omega)
   have rj := l2 i (by omega) j (by omega)
   refine ats_skip ?_
   (repeat refine ats_seq ?_); refine ats_block ?_
   refine gBN ?_
   (repeat refine ats_seq ?_); refine ats_loop (fun k : Nat => ⟨[(0, .l3 t), (1, .l1 p), (5, .ref 0 []), (6, .int i), (7, .int j), (8, .int k)], [(0, .t3 (cubF n (imK p g i j k (imJ p g n i j (imI p g n i g)))))]⟩) (fun k => k ≤ n) (fun k => n - k) 0 (Nat.zero_le _) (by refine And.intro ?_ rfl; simp only [leS, Nat.reduceEqDiff, ↓reduceIte, true_and, and_true]; repeat' (first | rfl | with_reducible refine And.intro ?_ ?_ | omega)) (fun k hk => ?_)
   obtain ⟨G, eG⟩ : ∃ G, imK p g i j k (imJ p g n i j (imI p g n i g)) = G := ⟨_, rfl⟩
   rw [eG]
   have k0 := cubF_length n G
   have k1 := cubF_mat (f := G) (n := n) (i := (p.getD i 0).toNat) (by omega)
   have k2 := cubF_row (f := G) (n := n) (i := (p.getD i 0).toNat) (j := (p.getD j 0).toNat) (by omega) (by omega)
   refine gBN ?_
   refine gI (fun h4 => ?_) fun h4 => ?_
   ·have hk := hp.q (show k < n by omega)
    have sk := cubF_upd (n := n) (g := G) (i := (p.getD i 0).toNat) (j := (p.getD j 0).toNat) (k := (p.getD k 0).toNat) (v := g i j k) (by omega) (by omega)
    have ev := l3 i (by omega) j (by omega) k (by omega)
    have bv := hg i j k
    rw [← ev] at bv sk
    have eN : cubF n (updG G (p.getD i 0).toNat (p.getD j 0).toNat (p.getD k 0).toNat (((t.getD i []).getD j []).getD k 0)) = cubF n (imK p g i j (k + 1) (imJ p g n i j (imI p g n i g))) := by rw [ev, ← eG]; rfl
    clear l1 l2 l3 ev hg
    refine ats_skip ?_
    (repeat refine ats_seq ?_); refine ats_block ?_
    (repeat refine ats_seq ?_)
    refine ats_plan [] (.one 0 (.one 1 (.one 2 (.one 3 (.one 4 (.one 5 (.one 6 (.one 7 (.one 8 (.one 9 (.one 10 (.one 11 (.one 12 (.one 13 (.one 14 (.one 15 (.one 16 (.one 17 (.one 18 (.one 19 (.one 20 (.one 21 (.one 22 (.one 23 (.one 24 (.one 25 (.one 26 (.one 27 (.alt 28 .fin .stop))))))))))))))))))))))))))))) ⟨[(0, .l3 t), (1, .l1 p), (5, .ref 0 []), (6, .int i), (7, .int j), (8, .int k)], [(0, .t3 ((cubF n G).set (p.getD i 0).toNat (((cubF n G).getD (p.getD i 0).toNat []).set (p.getD j 0).toNat ((((cubF n G).getD (p.getD i 0).toNat []).getD (p.getD j 0).toNat []).set (p.getD k 0).toNat (((t.getD i []).getD j []).getD k 0)))))]⟩ (by first | exact fix0 hcx | exact fixN hcx rfl) mixed (by kernel_rfl) (fun K hK => ?_) ?_
    ·simp only [go_sem, seval, Option.getD_some, and_true, true_and, and_self, List.contains_cons, List.contains_nil, Bool.or_false, Bool.or_true]
     repeat' (first | exact hK _ (by refine And.intro ?_ rfl; simp only [leS, Nat.reduceEqDiff, ↓reduceIte, true_and, and_true])  | with_reducible refine And.intro ?_ ?_ | omega)
    rw [sk, eN]
    refine gBN ?_
    refine ⟨k + 1,  by omega, by omega, .inl ⟨by simp only [leS, Nat.reduceEqDiff, ↓reduceIte, true_and, and_true]; omega,  rfl⟩⟩
   ·obtain rfl : k = n := by omega
    rw [← eG]
    refine ats_exit (lq_x ?_)
    refine gBN ?_
    refine ⟨j + 1,  by omega, by omega, .inl ⟨by simp only [leS, Nat.reduceEqDiff, ↓reduceIte, true_and, and_true]; omega,  rfl⟩⟩
  ·obtain rfl : j = n := by omega
   refine ats_exit (lq_x ?_)
   refine gBN ?_
   refine ⟨i + 1,  by omega, by omega, .inl ⟨by simp only [leS, Nat.reduceEqDiff, ↓reduceIte, true_and, and_true]; omega,  rfl⟩⟩
 ·obtain rfl : i = n := by omega
  refine ats_exit (lq_x ?_)
  refine gBN ?_
  exact ats_ret (ownV (is := [0]) rfl ⟨rfl, trivial⟩ rfl (by simp))
end Go.Proofs.YtmjcbgpbhlheoaaDoor
namespace Go.Proofs.YtmjcbgpbhlheoaaDoor
open Go Go.Aw Go.Pl
def DrwC (P : Program) (f : FuncId) (s : Src) (most : Int) (n : Nat) (g : Gf) (s' : Src) : Prop :=
 OwnCall P f [.bptr 0 0, .int most] (TS s) [(0, .bx [.lv (bsV s'.code), .int s'.pos, .ik .u64 s'.h]), (1, .t3 (cubF n g)), (2, .bx [.ref 1 []])] (.agg [.ref 1 []]) [0]
theorem pow5_le {n : Nat} (h : n ≤ 10) : (n : Int) ^ 5 ≤ 1048576 := by
 have : n ^ 5 ≤ 10 ^ 5 := Nat.pow_le_pow_left h 5
 have e : ((n ^ 5 : Nat) : Int) = (n : Int) ^ 5 := by push_cast; rfl
 omega
set_option maxRecDepth 100000 in
set_option maxHeartbeats 4000000 in
theorem l03Draw_ok (s : Src) (hs : s.Ok) (most : Nat) (h1 : 1 ≤ most) (h2 : most ≤ 10) : ∃ (n : Nat) (g : Gf) (s' : Src), 1 ≤ n ∧ n ≤ most ∧ BdG 1048576 g ∧ s'.Ok ∧ DrwC Tryd.prog 51 s most n g s' := by
 obtain ⟨⟨t, s1⟩, d, ⟨j, _, mj⟩, hA⟩ := l06Draw_any s hs most h1 h2
 have ok1 := mj.ok hs
 obtain ⟨d1, d2, g, eg, bg⟩ := d
 dsimp only at d1 d2 eg bg ok1 hA
 clear mj
 obtain ⟨n, en⟩ : ∃ n, t.length = n := ⟨_, rfl⟩
 rw [en] at d1 d2 eg bg
 have bg := bg.mono (pow5_le (by omega : n ≤ 10))
 subst eg
 clear en
 have hN := l01Next_ok s1 ok1 2 (by omega)
 have b2 := nx_bd s1 (n := 2) (by omega)
 have ok2 := nx_ok ok1 2
 have l0 := cubF_length n g
 obtain ⟨q, eq⟩ : ∃ q, nx s1 2 = q := ⟨_, rfl⟩
 rw [eq] at hN b2 ok2
 have hO := l03DrawOrder_ok q.2 ok2 n d1 (by omega)
 have fO := dPL_fact (n - 1) 1 [0] q.2 ok2 ⟨rfl, fun x hx => by simp at hx; omega⟩ (by omega)
 rw [show 1 + (n - 1) = n by omega] at fO
 have hI := l03Imagew_ok n (by omega) g bg (Int.le_refl _) _ fO.2
 have bI := imI_bd (p := (dPL (n - 1) 1 [0] q.2).1) (n := n) (c := n) bg
 have okO := fO.1
 generalize dPL (n - 1) 1 [0] q.2 = r at hO hI bI okO
 clear fO
 unfold DrwC
 unfold TS at hN hA hO ⊢
 by_cases hn : (n : Int) > 1
 ·have hn' : (1 : Int) < n := hn
  by_cases hq : q.1 = 0
  ·refine ⟨n, _, r.2, d1, d2, bI, okO, ?_⟩
   clear bI okO
   refine OwnCall.intro (n := 26) (rs := [.cell 4 27]) 2 [0, 1] (X := [0]) Tryd.call51 Tryd.func51 rfl rfl rfl (by simp only [List.length_cons, List.length_nil]; omega) (by simp [Aw.ids, rootsA, rootsAs, argSlots, slotGet]) (fun cx hcx => AT.weakG (ats_of ?_)); simp only [argSlots, Nat.zero_add, Nat.reduceAdd]
   refine gBN ?_
   (repeat refine ats_seq ?_); refine AT.ghost (st' := ⟨[(0, .bptr 0 0), (1, .int most), (4, .bptr 7 0)], [(0, .bx [.lv (bsV s.code), .int s.pos, .ik .u64 s.h]), (7, .bx [.nil])]⟩) (ghost_to [] [(1, 7)]) ?_
   refine gCN fun K hK => ?_
   refine fcall_bx (hA) (k := ?_); simp only [Aw.ids, go_sem, seval]
   refine hK _ ?_; clear hK K
   (repeat refine ats_seq ?_); refine AT.ghost (st' := ⟨[(0, .bptr 0 0), (1, .int most), (4, .bptr 7 0), (5, .ref 5 [])], [(0, .bx [.lv (bsV s1.code), .int s1.pos, .ik .u64 s1.h]), (5, .t3 (cubF n g)), (7, .bx [.nil])]⟩) (ghost_to [] [(1, 5)]) ?_
   refine gCN fun K hK => ?_
   simp only [l0]
   (repeat refine aI (hb := ?_))
   refine hK _ ?_; clear hK K
   (repeat refine ats_seq ?_); refine ats_goU (by first | exact fix0 hcx | exact fix1 hcx rfl | exact fixN hcx rfl) fun K hK => ?_; simp only [go_sem, seval, u_nil, u_cons, UK_ap, ung_eq, gOk_none, gOk_some, List.getElem?_toArray, List.getElem?_cons_zero, List.getElem?_cons_succ, true_and, and_true]
   simp only [hn', decide_true, true_and]
   refine fcall_bx (hN) (k := ?_); simp only [Aw.ids, go_sem, seval]
   simp only [go_sem, seval, u_nil, u_cons, UK_ap, ung_eq, gOk_none, gOk_some, List.getElem?_toArray, List.getElem?_cons_zero, List.getElem?_cons_succ, true_and, and_true]
   refine hK _ ?_; clear hK K
   refine gI (fun hz => ?_) fun hz => ?_
   rotate_left
   ·exact absurd hq hz
   refine gCN fun K hK => ?_
   refine fcall_bx (hO) (k := ?_); simp only [Aw.ids, go_sem, seval]
   refine fcall_own rfl (hI) rfl ?_; simp only [go_sem, seval]
   refine hK _ ?_; clear hK K
   refine gCN fun K hK => ?_
   refine hK _ ?_; clear hK K
   refine ats_ret ⟨⟨[(0, .bptr 0 0), (1, .int most), (4, .bptr 2 0)], [(0, .bx [.lv (bsV r.2.code), .int r.2.pos, .ik .u64 r.2.h]), (1, .t3 (cubF n (imI r.1 g n n g))), (2, .bx [.ref 1 []])]⟩, ghost_to [5, 1] [(1, 8), (7, 2)], .inr rfl, (by first | rfl | exact ⟨trivial, rfl⟩ | (simp only [resL, resA, go_sem, seval]; done)), (by simp [St.get, slotGet, argSlots]), rfl⟩
  ·refine ⟨n, g, q.2, d1, d2, bg, ok2, ?_⟩
   refine OwnCall.intro (n := 26) (rs := [.cell 4 27]) 2 [0, 1] (X := [0]) Tryd.call51 Tryd.func51 rfl rfl rfl (by simp only [List.length_cons, List.length_nil]; omega) (by simp [Aw.ids, rootsA, rootsAs, argSlots, slotGet]) (fun cx hcx => AT.weakG (ats_of ?_)); simp only [argSlots, Nat.zero_add, Nat.reduceAdd]
   refine gBN ?_
   (repeat refine ats_seq ?_); refine AT.ghost (st' := ⟨[(0, .bptr 0 0), (1, .int most), (4, .bptr 7 0)], [(0, .bx [.lv (bsV s.code), .int s.pos, .ik .u64 s.h]), (7, .bx [.nil])]⟩) (ghost_to [] [(1, 7)]) ?_
   refine gCN fun K hK => ?_
   refine fcall_bx (hA) (k := ?_); simp only [Aw.ids, go_sem, seval]
   refine hK _ ?_; clear hK K
   (repeat refine ats_seq ?_); refine AT.ghost (st' := ⟨[(0, .bptr 0 0), (1, .int most), (4, .bptr 7 0), (5, .ref 5 [])], [(0, .bx [.lv (bsV s1.code), .int s1.pos, .ik .u64 s1.h]), (5, .t3 (cubF n g)), (7, .bx [.nil])]⟩) (ghost_to [] [(1, 5)]) ?_
   refine gCN fun K hK => ?_
   simp only [l0]
   (repeat refine aI (hb := ?_))
   refine hK _ ?_; clear hK K
   (repeat refine ats_seq ?_); refine ats_goU (by first | exact fix0 hcx | exact fix1 hcx rfl | exact fixN hcx rfl) fun K hK => ?_; simp only [go_sem, seval, u_nil, u_cons, UK_ap, ung_eq, gOk_none, gOk_some, List.getElem?_toArray, List.getElem?_cons_zero, List.getElem?_cons_succ, true_and, and_true]
   simp only [hn', decide_true, true_and]
   refine fcall_bx (hN) (k := ?_); simp only [Aw.ids, go_sem, seval]
   simp only [go_sem, seval, u_nil, u_cons, UK_ap, ung_eq, gOk_none, gOk_some, List.getElem?_toArray, List.getElem?_cons_zero, List.getElem?_cons_succ, true_and, and_true]
   refine hK _ ?_; clear hK K
   refine gI (fun hz => ?_) fun hz => ?_
   ·exact absurd hz hq
   refine ats_skip ?_
   refine gCN fun K hK => ?_
   refine hK _ ?_; clear hK K
   refine ats_ret ⟨⟨[(0, .bptr 0 0), (1, .int most), (4, .bptr 2 0)], [(0, .bx [.lv (bsV q.2.code), .int q.2.pos, .ik .u64 q.2.h]), (1, .t3 (cubF n g)), (2, .bx [.ref 1 []])]⟩, ghost_to [] [(5, 1), (7, 2)], .inr rfl, (by first | rfl | exact ⟨trivial, rfl⟩ | (simp only [resL, resA, go_sem, seval]; done)), (by simp [St.get, slotGet, argSlots]), rfl⟩
 ·have hn' : ¬ (1 : Int) < n := hn
  refine ⟨n, g, s1, d1, d2, bg, ok1, ?_⟩
  refine OwnCall.intro (n := 26) (rs := [.cell 4 27]) 2 [0, 1] (X := [0]) Tryd.call51 Tryd.func51 rfl rfl rfl (by simp only [List.length_cons, List.length_nil]; omega) (by simp [Aw.ids, rootsA, rootsAs, argSlots, slotGet]) (fun cx hcx => AT.weakG (ats_of ?_)); simp only [argSlots, Nat.zero_add, Nat.reduceAdd]
  refine gBN ?_
  (repeat refine ats_seq ?_); refine AT.ghost (st' := ⟨[(0, .bptr 0 0), (1, .int most), (4, .bptr 7 0)], [(0, .bx [.lv (bsV s.code), .int s.pos, .ik .u64 s.h]), (7, .bx [.nil])]⟩) (ghost_to [] [(1, 7)]) ?_
  refine gCN fun K hK => ?_
  refine fcall_bx (hA) (k := ?_); simp only [Aw.ids, go_sem, seval]
  refine hK _ ?_; clear hK K
  (repeat refine ats_seq ?_); refine AT.ghost (st' := ⟨[(0, .bptr 0 0), (1, .int most), (4, .bptr 7 0), (5, .ref 5 [])], [(0, .bx [.lv (bsV s1.code), .int s1.pos, .ik .u64 s1.h]), (5, .t3 (cubF n g)), (7, .bx [.nil])]⟩) (ghost_to [] [(1, 5)]) ?_
  refine gCN fun K hK => ?_
  simp only [l0]
  (repeat refine aI (hb := ?_))
  refine hK _ ?_; clear hK K
  refine gCN fun K hK => ?_
  simp only [hn', decide_false]
  simp only [go_sem, seval]
  refine YR_intro (v := .int 0) (by first | trivial | (intro h; cases h)) ?_
  simp only [go_sem, seval]
  refine hK _ ?_; clear hK K
  (repeat refine ats_seq ?_); refine ats_no rfl trivial ?_
  refine ats_skip ?_
  refine gCN fun K hK => ?_
  refine hK _ ?_; clear hK K
  refine ats_ret ⟨⟨[(0, .bptr 0 0), (1, .int most), (4, .bptr 2 0)], [(0, .bx [.lv (bsV s1.code), .int s1.pos, .ik .u64 s1.h]), (1, .t3 (cubF n g)), (2, .bx [.ref 1 []])]⟩, ghost_to [] [(5, 1), (7, 2)], .inr rfl, (by first | rfl | exact ⟨trivial, rfl⟩ | (simp only [resL, resA, go_sem, seval]; done)), (by simp [St.get, slotGet, argSlots]), rfl⟩
end Go.Proofs.YtmjcbgpbhlheoaaDoor
namespace Go.Proofs.YtmjcbgpbhlheoaaDoor
open Go Go.Aw Go.Pl
attribute [local go_sem] pickO List.getElem?_toArray List.getElem?_cons_zero List.getElem?_cons_succ Option.getD_some and_true true_and and_self
def srcB (s : Src) : Tree := .bx [.lv (bsV s.code), .int s.pos, .ik .u64 s.h]
theorem killT_srcB {q : Nat → List Nat → Bool} {s : Src} : killT q (srcB s) = srcB s := by
 unfold srcB
 simp [killT, killAs, killA, killAs_bsV]
theorem rnT_srcB {f : Nat → Nat} {s : Src} : rnT f (srcB s) = srcB s := by
 unfold srcB
 simp [rnT, rns, rn, rns_bsV]
theorem frzT_srcB {H : List (Nat × Tree)} {R : List Nat} {s : Src} : frzT H R (srcB s) = srcB s := by
 unfold srcB
 simp [frzT, frzW, frzV, killA, killAs_bsV]
attribute [go_sem] killT_srcB rnT_srcB frzT_srcB
attribute [simp] killT_srcB rnT_srcB
theorem fcall_src {P : Program} {H : List (Nat × Tree)} {f : FuncId} {args : List AV} {s s' : Src} {r : AV} {K : AV → List Nat → List Nat → List (Nat × Tree) → Prop} (h : OwnCall P f args [(0, srcB s)] [(0, srcB s')] r [0]) (hm : find H 0 = some (srcB s)) (ha : killAs (outQ [(0, srcB s)]) args = args)
  (k : K r [] [0] ((0, srcB s') :: killH (qOf [] [0]) (rmT [0] H))) : FCall P H f args K :=
 fcall_box h (by simp [Aw.ids]) (fun p hp => by simp only [List.mem_singleton] at hp; subst hp; exact hm) (fun p hp => by simp only [List.mem_singleton] at hp; subst hp; exact killT_srcB) ha (by simp [Aw.ids]) k
theorem next_ok (s : Src) (hs : s.Ok) (n : Int) (hn : n ≤ 1099511627776) : OwnCall Tryd.prog 18 [.bptr 0 0, .int n] [(0, srcB s)] [(0, srcB (nx s n).2)] (.int (nx s n).1) [0] := l01Next_ok s hs n hn
theorem from_ok (c : List Int) (hl : c.length ≤ 1048576) (hb : ∀ i, i < c.length → 0 ≤ c.getD i 0 ∧ c.getD i 0 ≤ 255) : OwnCall Tryd.prog 19 [.lv (bsV c)] [] [(0, srcB (frS c))] (.bptr 0 0) [] := l01From_ok c hl hb
theorem draw_ok (s : Src) (hs : s.Ok) (most : Nat) (h1 : 1 ≤ most) (h2 : most ≤ 10) : ∃ (n : Nat) (g : Gf) (s' : Src), 1 ≤ n ∧ n ≤ most ∧ BdG 1048576 g ∧ s'.Ok ∧
  OwnCall Tryd.prog 51 [.bptr 0 0, .int most] [(0, srcB s)] [(0, srcB s'), (1, .t3 (cubF n g)), (2, .bx [.ref 1 []])] (.agg [.ref 1 []]) [0] := l03Draw_ok s hs most h1 h2
theorem pick9_ok (s : Src) (hs : s.Ok) (xs : List Int) (h1 : 1 ≤ xs.length) (h2 : xs.length ≤ 1048576) : OwnCall Tryd.prog 52 [.bptr 0 0, .ref 9 []]
  [(0, srcB s), (9, .t1 xs)] [(0, srcB (nx s xs.length).2), (9, .t1 xs)] (.int (xs.getD (nx s xs.length).1.toNat 0)) [0, 9] := by
 have hN := next_ok s hs xs.length (by omega)
 have hb := nx_bd s (n := xs.length) (by omega)
 obtain ⟨r, er⟩ : ∃ r, nx s xs.length = r := ⟨_, rfl⟩
 rw [er] at hN hb ⊢
 refine OwnCall.intro (n := 12) (rs := [.tmp 4]) 2 [0, 1] (X := [0, 9]) Tryd.call52 Tryd.func52 rfl rfl rfl (by simp only [List.length_cons, List.length_nil]; omega) (by simp [Aw.ids, rootsA, rootsAs, argSlots, slotGet]) (fun cx hcx => AT.weakG (ats_of ?_)); simp only [argSlots, Nat.zero_add, Nat.reduceAdd]
 refine gBN ?_
 refine gCN fun K hK => ?_
 (repeat refine aI (hb := ?_))
 refine fcall_bx (hN) (k := ?_); simp only [Aw.ids, go_sem, seval]
 (repeat refine aI (hb := ?_))
 refine hK _ ?_; clear hK K
 refine ats_ret ⟨⟨[(0, .bptr 0 0), (1, .ref 9 []), (4, .int (xs.getD r.1.toNat 0))], [(0, srcB r.2), (9, .t1 xs)]⟩, ghost_to [] [], .inr rfl, (by first | rfl | exact ⟨trivial, rfl⟩ | (simp only [resL, resA, go_sem, seval]; done)), (by simp [St.get, slotGet, argSlots]), rfl⟩
def AnyF (P : Program) (f : FuncId) (s : Src) (most : Int) (T : Tree) (v : AV) (s' : Src) : Prop :=
 OwnCall P f [.bptr 0 0, .int most] [(0, srcB s)] [(0, srcB s'), (1, T), (2, .bx [v])] (.agg [v]) [0]
def AnyC (P : Program) (f : FuncId) (s : Src) (most : Int) (t : Cu) (s' : Src) : Prop :=
 OwnCall P f [.bptr 0 0, .int most] [(0, srcB s)] [(0, srcB s'), (2, .bx [.l3 t])] (.agg [.l3 t]) [0]
set_option maxRecDepth 100000 in
set_option maxHeartbeats 4000000 in
theorem l03DrawAny_own (s : Src) (hs : s.Ok) (most : Nat) (h1 : 1 ≤ most) (h2 : most ≤ 10) : ∃ (n : Nat) (g : Gf) (s' : Src), 1 ≤ n ∧ n ≤ most ∧ s'.Ok ∧
  (AnyF Tryd.prog 30 s most (.t3 (cubF n g)) (.ref 1 []) s' ∨ AnyF Tryd.prog 30 s most (.t3 (cubF n g)) (.sub 1 [] 1 n) s' ∨
   ∃ σ : List Nat, σ.length = n ∧ (∀ k ∈ σ, k < n) ∧ AnyF Tryd.prog 30 s most (.a3 (cubF n g) σ) (.ref 1 []) s') := by
 obtain ⟨n, g, s1, d1, d2, bg, ok1, hD⟩ := draw_ok s hs most h1 h2
 have l0 := cubF_length n g
 have lm : ∀ i, i < n → ((cubF n g).getD i []).length = n := fun i hi => cubF_mat hi
 have lr : ∀ i, i < n → ∀ j, j < n → (((cubF n g).getD i []).getD j []).length = n := fun i hi j hj => cubF_row hi hj
 have hN := next_ok s1 ok1 20 (by omega)
 have b2 := nx_bd s1 (n := 20) (by omega)
 have ok2 := nx_ok ok1 20
 generalize nx s1 20 = q at *
 have hA := next_ok q.2 ok2 n (by omega)
 have bA := nx_bd q.2 (n := n) (by omega)
 have okA := nx_ok ok2 n
 generalize nx q.2 n = a at *
 have hB := next_ok a.2 okA n (by omega)
 have bB := nx_bd a.2 (n := n) (by omega)
 have okB := nx_ok okA n
 generalize nx a.2 n = b at *
 have hC := next_ok b.2 okB n (by omega)
 have bC := nx_bd b.2 (n := n) (by omega)
 have okC := nx_ok okB n
 generalize nx b.2 n = c at *
 have hP := pick9_ok c.2 okC [0, 1, 2, -1, 1001] (by decide) (by decide)
 have okP := nx_ok okC (([0, 1, 2, -1, 1001] : List Int).length : Nat)
 obtain ⟨v, ev⟩ : ∃ v, ([0, 1, 2, -1, 1001] : List Int).getD (nx c.2 (([0, 1, 2, -1, 1001] : List Int).length : Nat)).1.toNat 0 = v := ⟨_, rfl⟩
 rw [ev] at hP
 generalize nx c.2 (([0, 1, 2, -1, 1001] : List Int).length : Nat) = p at *
 unfold AnyF
 clear ev
 by_cases q0 : q.1 = 0
 ·refine ⟨n, updG g a.1.toNat b.1.toNat c.1.toNat v, p.2, d1, d2, okP, .inl ?_⟩
  have sk := cubF_upd (n := n) (g := g) (i := a.1.toNat) (j := b.1.toNat) (k := c.1.toNat) (v := v) (by omega) (by omega)
  have m1 := lm a.1.toNat (by omega)
  have m2 := lr a.1.toNat (by omega) b.1.toNat (by omega)
  clear lm lr
  obtain ⟨t, et⟩ : ∃ t, cubF n g = t := ⟨_, rfl⟩
  rw [et] at l0 m1 m2 sk hD
  refine OwnCall.introR (n := 60) (rs := [.cell 4 27]) 2 [0, 1] (X := [0]) Tryd.call30 Tryd.func30 rfl rfl rfl (by simp only [List.length_cons, List.length_nil]; omega) (by simp [Aw.ids, rootsA, rootsAs, argSlots, slotGet]) (fun cx hcx hrd => AT.weakG (ats_of ?_)); simp only [argSlots, Nat.zero_add, Nat.reduceAdd]
  refine gBN ?_
  (repeat refine ats_seq ?_); refine AT.ghost (st' := ⟨[(0, .bptr 0 0), (1, .int most), (4, .bptr 7 0)], [(0, srcB s), (7, .bx [.nil])]⟩) (ghost_to [] [(1, 7)]) ?_
  refine gCN fun K hK => ?_
  refine fcall_bx (hD) (k := ?_); simp only [Aw.ids, go_sem, seval]
  refine hK _ ?_; clear hK K
  (repeat refine ats_seq ?_); refine AT.ghost (st' := ⟨[(0, .bptr 0 0), (1, .int most), (4, .bptr 7 0), (5, .bptr 8 0)], [(0, srcB s1), (1, .t3 t), (7, .bx [.nil]), (8, .bx [.ref 1 []])]⟩) (ghost_to [2] []) ?_
  refine gCN fun K hK => ?_
  simp only [l0]
  (repeat refine aI (hb := ?_))
  refine hK _ ?_; clear hK K
  refine gCN fun K hK => ?_
  refine fcall_bx (hN) (k := ?_); simp only [Aw.ids, go_sem, seval]
  (repeat refine aI (hb := ?_))
  refine hK _ ?_; clear hK K
  (repeat refine ats_seq ?_)
  (repeat refine ats_seq ?_); refine ats_block ?_
  refine gBN ?_
  refine gI (fun hz => ?_) fun hz => ?_
  rotate_left
  ·exact absurd q0 hz
  (repeat refine ats_seq ?_)
  obtain ⟨z0, ez0⟩ : ∃ z : St, z = ⟨[(0, .bptr 0 0), (1, .int most), (4, .bptr 7 0), (5, .bptr 8 0), (6, .int n), (20, .bptr 0 0), (21, .int n), (25, .bptr 0 0), (26, .int n), (30, .bptr 0 0), (31, .int n), (33, .bptr 0 0)], [(0, srcB q.2), (1, .t3 t), (7, .bx [.nil]), (8, .bx [.ref 1 []])]⟩ := ⟨_, rfl⟩
  obtain ⟨z1, ez1⟩ : ∃ z : St, z = ⟨[(0, .bptr 0 0), (1, .int most), (4, .bptr 7 0), (5, .bptr 8 0), (6, .int n), (18, .bptr 8 0), (20, .bptr 0 0), (21, .int n), (25, .bptr 0 0), (26, .int n), (30, .bptr 0 0), (31, .int n), (33, .bptr 0 0)], [(0, srcB q.2), (1, .t3 t), (7, .bx [.nil]), (8, .bx [.ref 1 []])]⟩ := ⟨_, rfl⟩
  obtain ⟨z2, ez2⟩ : ∃ z : St, z = ⟨[(0, .bptr 0 0), (1, .int most), (4, .bptr 7 0), (5, .bptr 8 0), (6, .int n), (22, .int a.1), (25, .bptr 0 0), (26, .int n), (30, .bptr 0 0), (31, .int n), (33, .bptr 0 0)], [(0, srcB a.2), (1, .t3 t), (7, .bx [.nil]), (8, .bx [.ref 1 []])]⟩ := ⟨_, rfl⟩
  obtain ⟨z3, ez3⟩ : ∃ z : St, z = ⟨[(0, .bptr 0 0), (1, .int most), (4, .bptr 7 0), (5, .bptr 8 0), (6, .int n), (20, .bptr 0 0), (21, .int n), (25, .bptr 0 0), (26, .int n), (30, .bptr 0 0), (31, .int n), (33, .bptr 0 0), (34, .ref 9 [])], [(0, srcB q.2), (1, .t3 t), (7, .bx [.nil]), (8, .bx [.ref 1 []]), (9, .t1 [0, 1, 2, -1, 1001])]⟩ := ⟨_, rfl⟩
  obtain ⟨z4, ez4⟩ : ∃ z : St, z = ⟨[(0, .bptr 0 0), (1, .int most), (4, .bptr 7 0), (5, .bptr 8 0), (6, .int n), (19, .ref 1 []), (20, .bptr 0 0), (21, .int n), (25, .bptr 0 0), (26, .int n), (30, .bptr 0 0), (31, .int n), (33, .bptr 0 0)], [(0, srcB q.2), (1, .t3 t), (7, .bx [.nil]), (8, .bx [.ref 1 []])]⟩ := ⟨_, rfl⟩
  obtain ⟨z5, ez5⟩ : ∃ z : St, z = ⟨[(0, .bptr 0 0), (1, .int most), (4, .bptr 7 0), (5, .bptr 8 0), (6, .int n), (18, .bptr 8 0), (22, .int a.1), (25, .bptr 0 0), (26, .int n), (30, .bptr 0 0), (31, .int n), (33, .bptr 0 0)], [(0, srcB a.2), (1, .t3 t), (7, .bx [.nil]), (8, .bx [.ref 1 []])]⟩ := ⟨_, rfl⟩
  obtain ⟨z6, ez6⟩ : ∃ z : St, z = ⟨[(0, .bptr 0 0), (1, .int most), (4, .bptr 7 0), (5, .bptr 8 0), (6, .int n), (18, .bptr 8 0), (20, .bptr 0 0), (21, .int n), (25, .bptr 0 0), (26, .int n), (30, .bptr 0 0), (31, .int n), (33, .bptr 0 0), (34, .ref 9 [])], [(0, srcB q.2), (1, .t3 t), (7, .bx [.nil]), (8, .bx [.ref 1 []]), (9, .t1 [0, 1, 2, -1, 1001])]⟩ := ⟨_, rfl⟩
  obtain ⟨z7, ez7⟩ : ∃ z : St, z = ⟨[(0, .bptr 0 0), (1, .int most), (4, .bptr 7 0), (5, .bptr 8 0), (6, .int n), (22, .int a.1), (27, .int b.1), (30, .bptr 0 0), (31, .int n), (33, .bptr 0 0)], [(0, srcB b.2), (1, .t3 t), (7, .bx [.nil]), (8, .bx [.ref 1 []])]⟩ := ⟨_, rfl⟩
  obtain ⟨z8, ez8⟩ : ∃ z : St, z = ⟨[(0, .bptr 0 0), (1, .int most), (4, .bptr 7 0), (5, .bptr 8 0), (6, .int n), (22, .int a.1), (25, .bptr 0 0), (26, .int n), (30, .bptr 0 0), (31, .int n), (33, .bptr 0 0), (34, .ref 9 [])], [(0, srcB a.2), (1, .t3 t), (7, .bx [.nil]), (8, .bx [.ref 1 []]), (9, .t1 [0, 1, 2, -1, 1001])]⟩ := ⟨_, rfl⟩
  obtain ⟨z9, ez9⟩ : ∃ z : St, z = ⟨[(0, .bptr 0 0), (1, .int most), (4, .bptr 7 0), (5, .bptr 8 0), (6, .int n), (19, .ref 1 []), (22, .int a.1), (25, .bptr 0 0), (26, .int n), (30, .bptr 0 0), (31, .int n), (33, .bptr 0 0)], [(0, srcB a.2), (1, .t3 t), (7, .bx [.nil]), (8, .bx [.ref 1 []])]⟩ := ⟨_, rfl⟩
  obtain ⟨z10, ez10⟩ : ∃ z : St, z = ⟨[(0, .bptr 0 0), (1, .int most), (4, .bptr 7 0), (5, .bptr 8 0), (6, .int n), (19, .ref 1 []), (20, .bptr 0 0), (21, .int n), (25, .bptr 0 0), (26, .int n), (30, .bptr 0 0), (31, .int n), (33, .bptr 0 0), (34, .ref 9 [])], [(0, srcB q.2), (1, .t3 t), (7, .bx [.nil]), (8, .bx [.ref 1 []]), (9, .t1 [0, 1, 2, -1, 1001])]⟩ := ⟨_, rfl⟩
  obtain ⟨z11, ez11⟩ : ∃ z : St, z = ⟨[(0, .bptr 0 0), (1, .int most), (4, .bptr 7 0), (5, .bptr 8 0), (6, .int n), (18, .bptr 8 0), (22, .int a.1), (27, .int b.1), (30, .bptr 0 0), (31, .int n), (33, .bptr 0 0)], [(0, srcB b.2), (1, .t3 t), (7, .bx [.nil]), (8, .bx [.ref 1 []])]⟩ := ⟨_, rfl⟩
  obtain ⟨z12, ez12⟩ : ∃ z : St, z = ⟨[(0, .bptr 0 0), (1, .int most), (4, .bptr 7 0), (5, .bptr 8 0), (6, .int n), (18, .bptr 8 0), (22, .int a.1), (25, .bptr 0 0), (26, .int n), (30, .bptr 0 0), (31, .int n), (33, .bptr 0 0), (34, .ref 9 [])], [(0, srcB a.2), (1, .t3 t), (7, .bx [.nil]), (8, .bx [.ref 1 []]), (9, .t1 [0, 1, 2, -1, 1001])]⟩ := ⟨_, rfl⟩
  obtain ⟨z13, ez13⟩ : ∃ z : St, z = ⟨[(0, .bptr 0 0), (1, .int most), (4, .bptr 7 0), (5, .bptr 8 0), (6, .int n), (22, .int a.1), (27, .int b.1), (32, .int c.1), (33, .bptr 0 0)], [(0, srcB c.2), (1, .t3 t), (7, .bx [.nil]), (8, .bx [.ref 1 []])]⟩ := ⟨_, rfl⟩
  obtain ⟨z14, ez14⟩ : ∃ z : St, z = ⟨[(0, .bptr 0 0), (1, .int most), (4, .bptr 7 0), (5, .bptr 8 0), (6, .int n), (22, .int a.1), (27, .int b.1), (30, .bptr 0 0), (31, .int n), (33, .bptr 0 0), (34, .ref 9 [])], [(0, srcB b.2), (1, .t3 t), (7, .bx [.nil]), (8, .bx [.ref 1 []]), (9, .t1 [0, 1, 2, -1, 1001])]⟩ := ⟨_, rfl⟩
  obtain ⟨z15, ez15⟩ : ∃ z : St, z = ⟨[(0, .bptr 0 0), (1, .int most), (4, .bptr 7 0), (5, .bptr 8 0), (6, .int n), (23, .eref 1 [] a.1.toNat), (25, .bptr 0 0), (26, .int n), (30, .bptr 0 0), (31, .int n), (33, .bptr 0 0)], [(0, srcB a.2), (1, .t3 t), (7, .bx [.nil]), (8, .bx [.ref 1 []])]⟩ := ⟨_, rfl⟩
  obtain ⟨z16, ez16⟩ : ∃ z : St, z = ⟨[(0, .bptr 0 0), (1, .int most), (4, .bptr 7 0), (5, .bptr 8 0), (6, .int n), (19, .ref 1 []), (22, .int a.1), (27, .int b.1), (30, .bptr 0 0), (31, .int n), (33, .bptr 0 0)], [(0, srcB b.2), (1, .t3 t), (7, .bx [.nil]), (8, .bx [.ref 1 []])]⟩ := ⟨_, rfl⟩
  obtain ⟨z17, ez17⟩ : ∃ z : St, z = ⟨[(0, .bptr 0 0), (1, .int most), (4, .bptr 7 0), (5, .bptr 8 0), (6, .int n), (19, .ref 1 []), (22, .int a.1), (25, .bptr 0 0), (26, .int n), (30, .bptr 0 0), (31, .int n), (33, .bptr 0 0), (34, .ref 9 [])], [(0, srcB a.2), (1, .t3 t), (7, .bx [.nil]), (8, .bx [.ref 1 []]), (9, .t1 [0, 1, 2, -1, 1001])]⟩ := ⟨_, rfl⟩
  obtain ⟨z18, ez18⟩ : ∃ z : St, z = ⟨[(0, .bptr 0 0), (1, .int most), (4, .bptr 7 0), (5, .bptr 8 0), (6, .int n), (18, .bptr 8 0), (22, .int a.1), (27, .int b.1), (32, .int c.1), (33, .bptr 0 0)], [(0, srcB c.2), (1, .t3 t), (7, .bx [.nil]), (8, .bx [.ref 1 []])]⟩ := ⟨_, rfl⟩
  obtain ⟨z19, ez19⟩ : ∃ z : St, z = ⟨[(0, .bptr 0 0), (1, .int most), (4, .bptr 7 0), (5, .bptr 8 0), (6, .int n), (18, .bptr 8 0), (22, .int a.1), (27, .int b.1), (30, .bptr 0 0), (31, .int n), (33, .bptr 0 0), (34, .ref 9 [])], [(0, srcB b.2), (1, .t3 t), (7, .bx [.nil]), (8, .bx [.ref 1 []]), (9, .t1 [0, 1, 2, -1, 1001])]⟩ := ⟨_, rfl⟩
  obtain ⟨z20, ez20⟩ : ∃ z : St, z = ⟨[(0, .bptr 0 0), (1, .int most), (4, .bptr 7 0), (5, .bptr 8 0), (6, .int n), (22, .int a.1), (27, .int b.1), (32, .int c.1), (33, .bptr 0 0), (34, .ref 9 [])], [(0, srcB c.2), (1, .t3 t), (7, .bx [.nil]), (8, .bx [.ref 1 []]), (9, .t1 [0, 1, 2, -1, 1001])]⟩ := ⟨_, rfl⟩
  obtain ⟨z21, ez21⟩ : ∃ z : St, z = ⟨[(0, .bptr 0 0), (1, .int most), (4, .bptr 7 0), (5, .bptr 8 0), (6, .int n), (24, .ref 1 [a.1.toNat]), (25, .bptr 0 0), (26, .int n), (30, .bptr 0 0), (31, .int n), (33, .bptr 0 0)], [(0, srcB a.2), (1, .t3 t), (7, .bx [.nil]), (8, .bx [.ref 1 []])]⟩ := ⟨_, rfl⟩
  obtain ⟨z22, ez22⟩ : ∃ z : St, z = ⟨[(0, .bptr 0 0), (1, .int most), (4, .bptr 7 0), (5, .bptr 8 0), (6, .int n), (23, .eref 1 [] a.1.toNat), (27, .int b.1), (30, .bptr 0 0), (31, .int n), (33, .bptr 0 0)], [(0, srcB b.2), (1, .t3 t), (7, .bx [.nil]), (8, .bx [.ref 1 []])]⟩ := ⟨_, rfl⟩
  obtain ⟨z23, ez23⟩ : ∃ z : St, z = ⟨[(0, .bptr 0 0), (1, .int most), (4, .bptr 7 0), (5, .bptr 8 0), (6, .int n), (23, .eref 1 [] a.1.toNat), (25, .bptr 0 0), (26, .int n), (30, .bptr 0 0), (31, .int n), (33, .bptr 0 0), (34, .ref 9 [])], [(0, srcB a.2), (1, .t3 t), (7, .bx [.nil]), (8, .bx [.ref 1 []]), (9, .t1 [0, 1, 2, -1, 1001])]⟩ := ⟨_, rfl⟩
  obtain ⟨z24, ez24⟩ : ∃ z : St, z = ⟨[(0, .bptr 0 0), (1, .int most), (4, .bptr 7 0), (5, .bptr 8 0), (6, .int n), (19, .ref 1 []), (22, .int a.1), (27, .int b.1), (32, .int c.1), (33, .bptr 0 0)], [(0, srcB c.2), (1, .t3 t), (7, .bx [.nil]), (8, .bx [.ref 1 []])]⟩ := ⟨_, rfl⟩
  obtain ⟨z25, ez25⟩ : ∃ z : St, z = ⟨[(0, .bptr 0 0), (1, .int most), (4, .bptr 7 0), (5, .bptr 8 0), (6, .int n), (19, .ref 1 []), (22, .int a.1), (27, .int b.1), (30, .bptr 0 0), (31, .int n), (33, .bptr 0 0), (34, .ref 9 [])], [(0, srcB b.2), (1, .t3 t), (7, .bx [.nil]), (8, .bx [.ref 1 []]), (9, .t1 [0, 1, 2, -1, 1001])]⟩ := ⟨_, rfl⟩
  obtain ⟨z26, ez26⟩ : ∃ z : St, z = ⟨[(0, .bptr 0 0), (1, .int most), (4, .bptr 7 0), (5, .bptr 8 0), (6, .int n), (18, .bptr 8 0), (22, .int a.1), (27, .int b.1), (32, .int c.1), (33, .bptr 0 0), (34, .ref 9 [])], [(0, srcB c.2), (1, .t3 t), (7, .bx [.nil]), (8, .bx [.ref 1 []]), (9, .t1 [0, 1, 2, -1, 1001])]⟩ := ⟨_, rfl⟩
  obtain ⟨z27, ez27⟩ : ∃ z : St, z = ⟨[(0, .bptr 0 0), (1, .int most), (4, .bptr 7 0), (5, .bptr 8 0), (6, .int n), (22, .int a.1), (27, .int b.1), (32, .int c.1), (35, .int v)], [(0, srcB p.2), (1, .t3 t), (7, .bx [.nil]), (8, .bx [.ref 1 []]), (9, .t1 [0, 1, 2, -1, 1001])]⟩ := ⟨_, rfl⟩
  obtain ⟨z28, ez28⟩ : ∃ z : St, z = ⟨[(0, .bptr 0 0), (1, .int most), (4, .bptr 7 0), (5, .bptr 8 0), (6, .int n), (24, .ref 1 [a.1.toNat]), (27, .int b.1), (30, .bptr 0 0), (31, .int n), (33, .bptr 0 0)], [(0, srcB b.2), (1, .t3 t), (7, .bx [.nil]), (8, .bx [.ref 1 []])]⟩ := ⟨_, rfl⟩
  obtain ⟨z29, ez29⟩ : ∃ z : St, z = ⟨[(0, .bptr 0 0), (1, .int most), (4, .bptr 7 0), (5, .bptr 8 0), (6, .int n), (24, .ref 1 [a.1.toNat]), (25, .bptr 0 0), (26, .int n), (30, .bptr 0 0), (31, .int n), (33, .bptr 0 0), (34, .ref 9 [])], [(0, srcB a.2), (1, .t3 t), (7, .bx [.nil]), (8, .bx [.ref 1 []]), (9, .t1 [0, 1, 2, -1, 1001])]⟩ := ⟨_, rfl⟩
  obtain ⟨z30, ez30⟩ : ∃ z : St, z = ⟨[(0, .bptr 0 0), (1, .int most), (4, .bptr 7 0), (5, .bptr 8 0), (6, .int n), (23, .eref 1 [] a.1.toNat), (27, .int b.1), (32, .int c.1), (33, .bptr 0 0)], [(0, srcB c.2), (1, .t3 t), (7, .bx [.nil]), (8, .bx [.ref 1 []])]⟩ := ⟨_, rfl⟩
  obtain ⟨z31, ez31⟩ : ∃ z : St, z = ⟨[(0, .bptr 0 0), (1, .int most), (4, .bptr 7 0), (5, .bptr 8 0), (6, .int n), (23, .eref 1 [] a.1.toNat), (27, .int b.1), (30, .bptr 0 0), (31, .int n), (33, .bptr 0 0), (34, .ref 9 [])], [(0, srcB b.2), (1, .t3 t), (7, .bx [.nil]), (8, .bx [.ref 1 []]), (9, .t1 [0, 1, 2, -1, 1001])]⟩ := ⟨_, rfl⟩
  obtain ⟨z32, ez32⟩ : ∃ z : St, z = ⟨[(0, .bptr 0 0), (1, .int most), (4, .bptr 7 0), (5, .bptr 8 0), (6, .int n), (19, .ref 1 []), (22, .int a.1), (27, .int b.1), (32, .int c.1), (33, .bptr 0 0), (34, .ref 9 [])], [(0, srcB c.2), (1, .t3 t), (7, .bx [.nil]), (8, .bx [.ref 1 []]), (9, .t1 [0, 1, 2, -1, 1001])]⟩ := ⟨_, rfl⟩
  obtain ⟨z33, ez33⟩ : ∃ z : St, z = ⟨[(0, .bptr 0 0), (1, .int most), (4, .bptr 7 0), (5, .bptr 8 0), (6, .int n), (18, .bptr 8 0), (22, .int a.1), (27, .int b.1), (32, .int c.1), (35, .int v)], [(0, srcB p.2), (1, .t3 t), (7, .bx [.nil]), (8, .bx [.ref 1 []]), (9, .t1 [0, 1, 2, -1, 1001])]⟩ := ⟨_, rfl⟩
  obtain ⟨z34, ez34⟩ : ∃ z : St, z = ⟨[(0, .bptr 0 0), (1, .int most), (4, .bptr 7 0), (5, .bptr 8 0), (6, .int n), (28, .eref 1 [a.1.toNat] b.1.toNat), (30, .bptr 0 0), (31, .int n), (33, .bptr 0 0)], [(0, srcB b.2), (1, .t3 t), (7, .bx [.nil]), (8, .bx [.ref 1 []])]⟩ := ⟨_, rfl⟩
  obtain ⟨z35, ez35⟩ : ∃ z : St, z = ⟨[(0, .bptr 0 0), (1, .int most), (4, .bptr 7 0), (5, .bptr 8 0), (6, .int n), (24, .ref 1 [a.1.toNat]), (27, .int b.1), (32, .int c.1), (33, .bptr 0 0)], [(0, srcB c.2), (1, .t3 t), (7, .bx [.nil]), (8, .bx [.ref 1 []])]⟩ := ⟨_, rfl⟩
  obtain ⟨z36, ez36⟩ : ∃ z : St, z = ⟨[(0, .bptr 0 0), (1, .int most), (4, .bptr 7 0), (5, .bptr 8 0), (6, .int n), (24, .ref 1 [a.1.toNat]), (27, .int b.1), (30, .bptr 0 0), (31, .int n), (33, .bptr 0 0), (34, .ref 9 [])], [(0, srcB b.2), (1, .t3 t), (7, .bx [.nil]), (8, .bx [.ref 1 []]), (9, .t1 [0, 1, 2, -1, 1001])]⟩ := ⟨_, rfl⟩
  obtain ⟨z37, ez37⟩ : ∃ z : St, z = ⟨[(0, .bptr 0 0), (1, .int most), (4, .bptr 7 0), (5, .bptr 8 0), (6, .int n), (23, .eref 1 [] a.1.toNat), (27, .int b.1), (32, .int c.1), (33, .bptr 0 0), (34, .ref 9 [])], [(0, srcB c.2), (1, .t3 t), (7, .bx [.nil]), (8, .bx [.ref 1 []]), (9, .t1 [0, 1, 2, -1, 1001])]⟩ := ⟨_, rfl⟩
  obtain ⟨z38, ez38⟩ : ∃ z : St, z = ⟨[(0, .bptr 0 0), (1, .int most), (4, .bptr 7 0), (5, .bptr 8 0), (6, .int n), (19, .ref 1 []), (22, .int a.1), (27, .int b.1), (32, .int c.1), (35, .int v)], [(0, srcB p.2), (1, .t3 t), (7, .bx [.nil]), (8, .bx [.ref 1 []]), (9, .t1 [0, 1, 2, -1, 1001])]⟩ := ⟨_, rfl⟩
  obtain ⟨z39, ez39⟩ : ∃ z : St, z = ⟨[(0, .bptr 0 0), (1, .int most), (4, .bptr 7 0), (5, .bptr 8 0), (6, .int n), (29, .ref 1 [a.1.toNat, b.1.toNat]), (30, .bptr 0 0), (31, .int n), (33, .bptr 0 0)], [(0, srcB b.2), (1, .t3 t), (7, .bx [.nil]), (8, .bx [.ref 1 []])]⟩ := ⟨_, rfl⟩
  obtain ⟨z40, ez40⟩ : ∃ z : St, z = ⟨[(0, .bptr 0 0), (1, .int most), (4, .bptr 7 0), (5, .bptr 8 0), (6, .int n), (28, .eref 1 [a.1.toNat] b.1.toNat), (32, .int c.1), (33, .bptr 0 0)], [(0, srcB c.2), (1, .t3 t), (7, .bx [.nil]), (8, .bx [.ref 1 []])]⟩ := ⟨_, rfl⟩
  obtain ⟨z41, ez41⟩ : ∃ z : St, z = ⟨[(0, .bptr 0 0), (1, .int most), (4, .bptr 7 0), (5, .bptr 8 0), (6, .int n), (28, .eref 1 [a.1.toNat] b.1.toNat), (30, .bptr 0 0), (31, .int n), (33, .bptr 0 0), (34, .ref 9 [])], [(0, srcB b.2), (1, .t3 t), (7, .bx [.nil]), (8, .bx [.ref 1 []]), (9, .t1 [0, 1, 2, -1, 1001])]⟩ := ⟨_, rfl⟩
  obtain ⟨z42, ez42⟩ : ∃ z : St, z = ⟨[(0, .bptr 0 0), (1, .int most), (4, .bptr 7 0), (5, .bptr 8 0), (6, .int n), (24, .ref 1 [a.1.toNat]), (27, .int b.1), (32, .int c.1), (33, .bptr 0 0), (34, .ref 9 [])], [(0, srcB c.2), (1, .t3 t), (7, .bx [.nil]), (8, .bx [.ref 1 []]), (9, .t1 [0, 1, 2, -1, 1001])]⟩ := ⟨_, rfl⟩
  obtain ⟨z43, ez43⟩ : ∃ z : St, z = ⟨[(0, .bptr 0 0), (1, .int most), (4, .bptr 7 0), (5, .bptr 8 0), (6, .int n), (23, .eref 1 [] a.1.toNat), (27, .int b.1), (32, .int c.1), (35, .int v)], [(0, srcB p.2), (1, .t3 t), (7, .bx [.nil]), (8, .bx [.ref 1 []]), (9, .t1 [0, 1, 2, -1, 1001])]⟩ := ⟨_, rfl⟩
  obtain ⟨z44, ez44⟩ : ∃ z : St, z = ⟨[(0, .bptr 0 0), (1, .int most), (4, .bptr 7 0), (5, .bptr 8 0), (6, .int n), (29, .ref 1 [a.1.toNat, b.1.toNat]), (32, .int c.1), (33, .bptr 0 0)], [(0, srcB c.2), (1, .t3 t), (7, .bx [.nil]), (8, .bx [.ref 1 []])]⟩ := ⟨_, rfl⟩
  obtain ⟨z45, ez45⟩ : ∃ z : St, z = ⟨[(0, .bptr 0 0), (1, .int most), (4, .bptr 7 0), (5, .bptr 8 0), (6, .int n), (29, .ref 1 [a.1.toNat, b.1.toNat]), (30, .bptr 0 0), (31, .int n), (33, .bptr 0 0), (34, .ref 9 [])], [(0, srcB b.2), (1, .t3 t), (7, .bx [.nil]), (8, .bx [.ref 1 []]), (9, .t1 [0, 1, 2, -1, 1001])]⟩ := ⟨_, rfl⟩
  obtain ⟨z46, ez46⟩ : ∃ z : St, z = ⟨[(0, .bptr 0 0), (1, .int most), (4, .bptr 7 0), (5, .bptr 8 0), (6, .int n), (28, .eref 1 [a.1.toNat] b.1.toNat), (32, .int c.1), (33, .bptr 0 0), (34, .ref 9 [])], [(0, srcB c.2), (1, .t3 t), (7, .bx [.nil]), (8, .bx [.ref 1 []]), (9, .t1 [0, 1, 2, -1, 1001])]⟩ := ⟨_, rfl⟩
  obtain ⟨z47, ez47⟩ : ∃ z : St, z = ⟨[(0, .bptr 0 0), (1, .int most), (4, .bptr 7 0), (5, .bptr 8 0), (6, .int n), (24, .ref 1 [a.1.toNat]), (27, .int b.1), (32, .int c.1), (35, .int v)], [(0, srcB p.2), (1, .t3 t), (7, .bx [.nil]), (8, .bx [.ref 1 []]), (9, .t1 [0, 1, 2, -1, 1001])]⟩ := ⟨_, rfl⟩
  obtain ⟨z48, ez48⟩ : ∃ z : St, z = ⟨[(0, .bptr 0 0), (1, .int most), (4, .bptr 7 0), (5, .bptr 8 0), (6, .int n), (29, .ref 1 [a.1.toNat, b.1.toNat]), (32, .int c.1), (33, .bptr 0 0), (34, .ref 9 [])], [(0, srcB c.2), (1, .t3 t), (7, .bx [.nil]), (8, .bx [.ref 1 []]), (9, .t1 [0, 1, 2, -1, 1001])]⟩ := ⟨_, rfl⟩
  obtain ⟨z49, ez49⟩ : ∃ z : St, z = ⟨[(0, .bptr 0 0), (1, .int most), (4, .bptr 7 0), (5, .bptr 8 0), (6, .int n), (28, .eref 1 [a.1.toNat] b.1.toNat), (32, .int c.1), (35, .int v)], [(0, srcB p.2), (1, .t3 t), (7, .bx [.nil]), (8, .bx [.ref 1 []]), (9, .t1 [0, 1, 2, -1, 1001])]⟩ := ⟨_, rfl⟩
  obtain ⟨z50, ez50⟩ : ∃ z : St, z = ⟨[(0, .bptr 0 0), (1, .int most), (4, .bptr 7 0), (5, .bptr 8 0), (6, .int n), (29, .ref 1 [a.1.toNat, b.1.toNat]), (32, .int c.1), (35, .int v)], [(0, srcB p.2), (1, .t3 t), (7, .bx [.nil]), (8, .bx [.ref 1 []]), (9, .t1 [0, 1, 2, -1, 1001])]⟩ := ⟨_, rfl⟩
  obtain ⟨z51, ez51⟩ : ∃ z : St, z = ⟨[(0, .bptr 0 0), (1, .int most), (4, .bptr 7 0), (5, .bptr 8 0), (6, .int n), (35, .int v), (36, .eref 1 [a.1.toNat, b.1.toNat] c.1.toNat)], [(0, srcB p.2), (1, .t3 t), (7, .bx [.nil]), (8, .bx [.ref 1 []]), (9, .t1 [0, 1, 2, -1, 1001])]⟩ := ⟨_, rfl⟩
  obtain ⟨z52, ez52⟩ : ∃ z : St, z = ⟨[(0, .bptr 0 0), (1, .int most), (4, .bptr 7 0), (5, .bptr 8 0), (6, .int n)], [(0, srcB p.2), (1, .t3 (t.set a.1.toNat ((t.getD a.1.toNat []).set b.1.toNat (((t.getD a.1.toNat []).getD b.1.toNat []).set c.1.toNat v)))), (7, .bx [.nil]), (8, .bx [.ref 1 []]), (9, .t1 [0, 1, 2, -1, 1001])]⟩ := ⟨_, rfl⟩
  refine ats_table [4, 9, 14, 17] [2, 3, 7, 8, 12, 13, 15] [[2, 3, 7, 8, 12, 13, 15], [0, 2, 3, 7, 8, 12, 13, 15], [2, 3, 4, 7, 8, 12, 13, 15], [2, 3, 7, 8, 12, 13, 15, 16], [0, 1, 2, 3, 7, 8, 12, 13, 15], [0, 2, 3, 4, 7, 8, 12, 13, 15], [0, 2, 3, 7, 8, 12, 13, 15, 16], [2, 3, 4, 7, 8, 9, 12, 13, 15], [2, 3, 4, 7, 8, 12, 13, 15, 16], [0, 1, 2, 3, 4, 7, 8, 12, 13, 15], [0, 1, 2, 3, 7, 8, 12, 13, 15, 16], [0, 2, 3, 4, 7, 8, 9, 12, 13, 15], [0, 2, 3, 4, 7, 8, 12, 13, 15, 16], [2, 3, 4, 7, 8, 9, 12, 13, 14, 15], [2, 3, 4, 7, 8, 9, 12, 13, 15, 16], [0, 1, 2, 3, 4, 5, 7, 8, 12, 13, 15], [0, 1, 2, 3, 4, 7, 8, 9, 12, 13, 15], [0, 1, 2, 3, 4, 7, 8, 12, 13, 15, 16], [0, 2, 3, 4, 7, 8, 9, 12, 13, 14, 15], [0, 2, 3, 4, 7, 8, 9, 12, 13, 15, 16], [2, 3, 4, 7, 8, 9, 12, 13, 14, 15, 16], [0, 1, 2, 3, 4, 5, 6, 7, 8, 12, 13, 15], [0, 1, 2, 3, 4, 5, 7, 8, 9, 12, 13, 15], [0, 1, 2, 3, 4, 5, 7, 8, 12, 13, 15, 16], [0, 1, 2, 3, 4, 7, 8, 9, 12, 13, 14, 15], [0, 1, 2, 3, 4, 7, 8, 9, 12, 13, 15, 16], [0, 2, 3, 4, 7, 8, 9, 12, 13, 14, 15, 16], [2, 3, 4, 7, 8, 9, 12, 13, 14, 15, 16, 17], [0, 1, 2, 3, 4, 5, 6, 7, 8, 9, 12, 13, 15], [0, 1, 2, 3, 4, 5, 6, 7, 8, 12, 13, 15, 16], [0, 1, 2, 3, 4, 5, 7, 8, 9, 12, 13, 14, 15], [0, 1, 2, 3, 4, 5, 7, 8, 9, 12, 13, 15, 16], [0, 1, 2, 3, 4, 7, 8, 9, 12, 13, 14, 15, 16], [0, 2, 3, 4, 7, 8, 9, 12, 13, 14, 15, 16, 17], [0, 1, 2, 3, 4, 5, 6, 7, 8, 9, 10, 12, 13, 15], [0, 1, 2, 3, 4, 5, 6, 7, 8, 9, 12, 13, 14, 15], [0, 1, 2, 3, 4, 5, 6, 7, 8, 9, 12, 13, 15, 16], [0, 1, 2, 3, 4, 5, 7, 8, 9, 12, 13, 14, 15, 16], [0, 1, 2, 3, 4, 7, 8, 9, 12, 13, 14, 15, 16, 17], [0, 1, 2, 3, 4, 5, 6, 7, 8, 9, 10, 11, 12, 13, 15], [0, 1, 2, 3, 4, 5, 6, 7, 8, 9, 10, 12, 13, 14, 15], [0, 1, 2, 3, 4, 5, 6, 7, 8, 9, 10, 12, 13, 15, 16], [0, 1, 2, 3, 4, 5, 6, 7, 8, 9, 12, 13, 14, 15, 16], [0, 1, 2, 3, 4, 5, 7, 8, 9, 12, 13, 14, 15, 16, 17], [0, 1, 2, 3, 4, 5, 6, 7, 8, 9, 10, 11, 12, 13, 14, 15], [0, 1, 2, 3, 4, 5, 6, 7, 8, 9, 10, 11, 12, 13, 15, 16], [0, 1, 2, 3, 4, 5, 6, 7, 8, 9, 10, 12, 13, 14, 15, 16], [0, 1, 2, 3, 4, 5, 6, 7, 8, 9, 12, 13, 14, 15, 16, 17], [0, 1, 2, 3, 4, 5, 6, 7, 8, 9, 10, 11, 12, 13, 14, 15, 16], [0, 1, 2, 3, 4, 5, 6, 7, 8, 9, 10, 12, 13, 14, 15, 16, 17], [0, 1, 2, 3, 4, 5, 6, 7, 8, 9, 10, 11, 12, 13, 14, 15, 16, 17], [0, 1, 2, 3, 4, 5, 6, 7, 8, 9, 10, 11, 12, 13, 14, 15, 16, 17, 18], [0, 1, 2, 3, 4, 5, 6, 7, 8, 9, 10, 11, 12, 13, 14, 15, 16, 17, 18, 19]] [(0, 0, 1), (0, 4, 2), (0, 16, 3), (1, 1, 4), (1, 4, 5), (1, 16, 6), (2, 0, 5), (2, 9, 7), (2, 16, 8), (3, 0, 6), (3, 4, 8), (4, 4, 9), (4, 16, 10), (5, 1, 9), (5, 9, 11), (5, 16, 12), (6, 1, 10), (6, 4, 12), (7, 0, 11), (7, 14, 13), (7, 16, 14), (8, 0, 12), (8, 9, 14), (9, 5, 15), (9, 9, 16), (9, 16, 17), (10, 4, 17), (11, 1, 16), (11, 14, 18), (11, 16, 19), (12, 1, 17), (12, 9, 19), (13, 0, 18), (13, 16, 20), (14, 0, 19), (14, 14, 20), (15, 6, 21), (15, 9, 22), (15, 16, 23), (16, 5, 22), (16, 14, 24), (16, 16, 25), (17, 5, 23), (17, 9, 25), (18, 1, 24), (18, 16, 26), (19, 1, 25), (19, 14, 26), (20, 0, 26), (20, 17, 27), (21, 9, 28), (21, 16, 29), (22, 6, 28), (22, 14, 30), (22, 16, 31), (23, 6, 29), (23, 9, 31), (24, 5, 30), (24, 16, 32), (25, 5, 31), (25, 14, 32), (26, 1, 32), (26, 17, 33), (27, 0, 33), (28, 10, 34), (28, 14, 35), (28, 16, 36), (29, 9, 36), (30, 6, 35), (30, 16, 37), (31, 6, 36), (31, 14, 37), (32, 5, 37), (32, 17, 38), (33, 1, 38), (34, 11, 39), (34, 14, 40), (34, 16, 41), (35, 10, 40), (35, 16, 42), (36, 10, 41), (36, 14, 42), (37, 6, 42), (37, 17, 43), (38, 5, 43), (39, 14, 44), (39, 16, 45), (40, 11, 44), (40, 16, 46), (41, 11, 45), (41, 14, 46), (42, 10, 46), (42, 17, 47), (43, 6, 47), (44, 16, 48), (45, 14, 48), (46, 11, 48), (46, 17, 49), (47, 10, 49), (48, 17, 50), (49, 11, 50), (50, 18, 51), (51, 19, 52)] [z0, z1, z2, z3, z4, z5, z6, z7, z8, z9, z10, z11, z12, z13, z14, z15, z16, z17, z18, z19, z20, z21, z22, z23, z24, z25, z26, z27, z28, z29, z30, z31, z32, z33, z34, z35, z36, z37, z38, z39, z40, z41, z42, z43, z44, z45, z46, z47, z48, z49, z50, z51, z52] hrd (by first | exact fix0 hcx | exact fix1 hcx rfl | exact fixN hcx rfl) mixed (by kernel_rfl) ?_ ?_ ?_
  ·show mvTRun _ _ _ _ _ _ (fun s => Ghost _ _ s z0)
   rw [ez0]; simp only [go_sem, seval]; exact gD12
  ·refine ⟨?_, ?_, ?_, ?_, ?_, ?_, ?_, ?_, ?_, ?_, ?_, ?_, ?_, ?_, ?_, ?_, ?_, ?_, ?_, ?_, ?_, ?_, ?_, ?_, ?_, ?_, ?_, ?_, ?_, ?_, ?_, ?_, ?_, ?_, ?_, ?_, ?_, ?_, ?_, ?_, ?_, ?_, ?_, ?_, ?_, ?_, ?_, ?_, ?_, ?_, ?_, ?_, ?_, ?_, ?_, ?_, ?_, ?_, ?_, ?_, ?_, ?_, ?_, ?_, ?_, ?_, ?_, ?_, ?_, ?_, ?_, ?_, ?_, ?_, ?_, ?_, ?_, ?_, ?_, ?_, ?_, ?_, ?_, ?_, ?_, ?_, ?_, ?_, ?_, ?_, ?_, ?_, ?_, ?_, ?_, ?_, ?_, ?_, ?_, ?_, ?_, ?_, ?_, trivial⟩
   ·show gRun _ _ _ _ _ z0 (fun st' => Ghost _ _ st' z1)
    rw [ez0, ez1]; simp only [go_sem, seval]; exact dt_can ⟨rfl, rfl, rfl, rfl, rfl, rfl, rfl, rfl, rfl, rfl, rfl, rfl, rfl, trivial⟩ rfl
   ·show gRun _ _ _ _ _ z0 (fun st' => Ghost _ _ st' z2)
    rw [ez0, ez2]; simp only [go_sem, seval]; refine fcall_src (hA) rfl rfl ?_; simp only [go_sem, seval]; exact dt_can ⟨rfl, rfl, rfl, rfl, rfl, rfl, rfl, rfl, rfl, rfl, rfl, trivial⟩ rfl
   ·show gRun _ _ _ _ _ z0 (fun st' => Ghost _ _ st' z3)
    rw [ez0, ez3]; simp only [go_sem, seval]; exact gD13
   ·show gRun _ _ _ _ _ z1 (fun st' => Ghost _ _ st' z4)
    rw [ez1, ez4]; simp only [go_sem, seval]; exact gD13
   ·show gRun _ _ _ _ _ z1 (fun st' => Ghost _ _ st' z5)
    rw [ez1, ez5]; simp only [go_sem, seval]; refine fcall_src (hA) rfl rfl ?_; simp only [go_sem, seval]; exact dt_can ⟨rfl, rfl, rfl, rfl, rfl, rfl, rfl, rfl, rfl, rfl, rfl, rfl, trivial⟩ rfl
   ·show gRun _ _ _ _ _ z1 (fun st' => Ghost _ _ st' z6)
    rw [ez1, ez6]; simp only [go_sem, seval]; exact gD14
   ·show gRun _ _ _ _ _ z2 (fun st' => Ghost _ _ st' z5)
    rw [ez2, ez5]; simp only [go_sem, seval]; exact dt_can ⟨rfl, rfl, rfl, rfl, rfl, rfl, rfl, rfl, rfl, rfl, rfl, rfl, trivial⟩ rfl
   ·show gRun _ _ _ _ _ z2 (fun st' => Ghost _ _ st' z7)
    rw [ez2, ez7]; simp only [go_sem, seval]; refine fcall_src (hB) rfl rfl ?_; simp only [go_sem, seval]; exact dt_can ⟨rfl, rfl, rfl, rfl, rfl, rfl, rfl, rfl, rfl, rfl, trivial⟩ rfl
   ·show gRun _ _ _ _ _ z2 (fun st' => Ghost _ _ st' z8)
    rw [ez2, ez8]; simp only [go_sem, seval]; exact gD12
   ·show gRun _ _ _ _ _ z3 (fun st' => Ghost _ _ st' z6)
    rw [ez3, ez6]; simp only [go_sem, seval]; exact dt_can ⟨rfl, rfl, rfl, rfl, rfl, rfl, rfl, rfl, rfl, rfl, rfl, rfl, rfl, rfl, trivial⟩ rfl
   ·show gRun _ _ _ _ _ z3 (fun st' => Ghost _ _ st' z8)
    rw [ez3, ez8]; simp only [go_sem, seval]; refine fcall_src (hA) rfl rfl ?_; simp only [go_sem, seval]; exact dt_can ⟨rfl, rfl, rfl, rfl, rfl, rfl, rfl, rfl, rfl, rfl, rfl, rfl, trivial⟩ rfl
   ·show gRun _ _ _ _ _ z4 (fun st' => Ghost _ _ st' z9)
    rw [ez4, ez9]; simp only [go_sem, seval]; refine fcall_src (hA) rfl rfl ?_; simp only [go_sem, seval]; exact dt_can ⟨rfl, rfl, rfl, rfl, rfl, rfl, rfl, rfl, rfl, rfl, rfl, rfl, trivial⟩ rfl
   ·show gRun _ _ _ _ _ z4 (fun st' => Ghost _ _ st' z10)
    rw [ez4, ez10]; simp only [go_sem, seval]; exact gD14
   ·show gRun _ _ _ _ _ z5 (fun st' => Ghost _ _ st' z9)
    rw [ez5, ez9]; simp only [go_sem, seval]; exact gD12
   ·show gRun _ _ _ _ _ z5 (fun st' => Ghost _ _ st' z11)
    rw [ez5, ez11]; simp only [go_sem, seval]; refine fcall_src (hB) rfl rfl ?_; simp only [go_sem, seval]; exact dt_can ⟨rfl, rfl, rfl, rfl, rfl, rfl, rfl, rfl, rfl, rfl, rfl, trivial⟩ rfl
   ·show gRun _ _ _ _ _ z5 (fun st' => Ghost _ _ st' z12)
    rw [ez5, ez12]; simp only [go_sem, seval]; exact gD13
   ·show gRun _ _ _ _ _ z6 (fun st' => Ghost _ _ st' z10)
    rw [ez6, ez10]; simp only [go_sem, seval]; exact gD14
   ·show gRun _ _ _ _ _ z6 (fun st' => Ghost _ _ st' z12)
    rw [ez6, ez12]; simp only [go_sem, seval]; refine fcall_src (hA) rfl rfl ?_; simp only [go_sem, seval]; exact dt_can ⟨rfl, rfl, rfl, rfl, rfl, rfl, rfl, rfl, rfl, rfl, rfl, rfl, rfl, trivial⟩ rfl
   ·show gRun _ _ _ _ _ z7 (fun st' => Ghost _ _ st' z11)
    rw [ez7, ez11]; simp only [go_sem, seval]; exact dt_can ⟨rfl, rfl, rfl, rfl, rfl, rfl, rfl, rfl, rfl, rfl, rfl, trivial⟩ rfl
   ·show gRun _ _ _ _ _ z7 (fun st' => Ghost _ _ st' z13)
    rw [ez7, ez13]; simp only [go_sem, seval]; refine fcall_src (hC) rfl rfl ?_; simp only [go_sem, seval]; exact dt_can ⟨rfl, rfl, rfl, rfl, rfl, rfl, rfl, rfl, rfl, trivial⟩ rfl
   ·show gRun _ _ _ _ _ z7 (fun st' => Ghost _ _ st' z14)
    rw [ez7, ez14]; simp only [go_sem, seval]; exact gD11
   ·show gRun _ _ _ _ _ z8 (fun st' => Ghost _ _ st' z12)
    rw [ez8, ez12]; simp only [go_sem, seval]; exact dt_can ⟨rfl, rfl, rfl, rfl, rfl, rfl, rfl, rfl, rfl, rfl, rfl, rfl, rfl, trivial⟩ rfl
   ·show gRun _ _ _ _ _ z8 (fun st' => Ghost _ _ st' z14)
    rw [ez8, ez14]; simp only [go_sem, seval]; refine fcall_src (hB) rfl rfl ?_; simp only [go_sem, seval]; exact dt_can ⟨rfl, rfl, rfl, rfl, rfl, rfl, rfl, rfl, rfl, rfl, rfl, trivial⟩ rfl
   ·show gRun _ _ _ _ _ z9 (fun st' => Ghost _ _ st' z15)
    rw [ez9, ez15]; simp only [go_sem, seval]; exact gD11
   ·show gRun _ _ _ _ _ z9 (fun st' => Ghost _ _ st' z16)
    rw [ez9, ez16]; simp only [go_sem, seval]; refine fcall_src (hB) rfl rfl ?_; simp only [go_sem, seval]; exact dt_can ⟨rfl, rfl, rfl, rfl, rfl, rfl, rfl, rfl, rfl, rfl, rfl, trivial⟩ rfl
   ·show gRun _ _ _ _ _ z9 (fun st' => Ghost _ _ st' z17)
    rw [ez9, ez17]; simp only [go_sem, seval]; exact gD13
   ·show gRun _ _ _ _ _ z10 (fun st' => Ghost _ _ st' z17)
    rw [ez10, ez17]; simp only [go_sem, seval]; refine fcall_src (hA) rfl rfl ?_; simp only [go_sem, seval]; exact dt_can ⟨rfl, rfl, rfl, rfl, rfl, rfl, rfl, rfl, rfl, rfl, rfl, rfl, rfl, trivial⟩ rfl
   ·show gRun _ _ _ _ _ z11 (fun st' => Ghost _ _ st' z16)
    rw [ez11, ez16]; simp only [go_sem, seval]; exact gD11
   ·show gRun _ _ _ _ _ z11 (fun st' => Ghost _ _ st' z18)
    rw [ez11, ez18]; simp only [go_sem, seval]; refine fcall_src (hC) rfl rfl ?_; simp only [go_sem, seval]; exact dt_can ⟨rfl, rfl, rfl, rfl, rfl, rfl, rfl, rfl, rfl, rfl, trivial⟩ rfl
   ·show gRun _ _ _ _ _ z11 (fun st' => Ghost _ _ st' z19)
    rw [ez11, ez19]; simp only [go_sem, seval]; exact gD12
   ·show gRun _ _ _ _ _ z12 (fun st' => Ghost _ _ st' z17)
    rw [ez12, ez17]; simp only [go_sem, seval]; exact gD13
   ·show gRun _ _ _ _ _ z12 (fun st' => Ghost _ _ st' z19)
    rw [ez12, ez19]; simp only [go_sem, seval]; refine fcall_src (hB) rfl rfl ?_; simp only [go_sem, seval]; exact dt_can ⟨rfl, rfl, rfl, rfl, rfl, rfl, rfl, rfl, rfl, rfl, rfl, rfl, trivial⟩ rfl
   ·show gRun _ _ _ _ _ z13 (fun st' => Ghost _ _ st' z18)
    rw [ez13, ez18]; simp only [go_sem, seval]; exact dt_can ⟨rfl, rfl, rfl, rfl, rfl, rfl, rfl, rfl, rfl, rfl, trivial⟩ rfl
   ·show gRun _ _ _ _ _ z13 (fun st' => Ghost _ _ st' z20)
    rw [ez13, ez20]; simp only [go_sem, seval]; exact gD10
   ·show gRun _ _ _ _ _ z14 (fun st' => Ghost _ _ st' z19)
    rw [ez14, ez19]; simp only [go_sem, seval]; exact dt_can ⟨rfl, rfl, rfl, rfl, rfl, rfl, rfl, rfl, rfl, rfl, rfl, rfl, trivial⟩ rfl
   ·show gRun _ _ _ _ _ z14 (fun st' => Ghost _ _ st' z20)
    rw [ez14, ez20]; simp only [go_sem, seval]; refine fcall_src (hC) rfl rfl ?_; simp only [go_sem, seval]; exact dt_can ⟨rfl, rfl, rfl, rfl, rfl, rfl, rfl, rfl, rfl, rfl, trivial⟩ rfl
   ·show gRun _ _ _ _ _ z15 (fun st' => Ghost _ _ st' z21)
    rw [ez15, ez21]; simp only [go_sem, seval]; exact gD11
   ·show gRun _ _ _ _ _ z15 (fun st' => Ghost _ _ st' z22)
    rw [ez15, ez22]; simp only [go_sem, seval]; refine fcall_src (hB) rfl rfl ?_; simp only [go_sem, seval]; exact dt_can ⟨rfl, rfl, rfl, rfl, rfl, rfl, rfl, rfl, rfl, rfl, trivial⟩ rfl
   ·show gRun _ _ _ _ _ z15 (fun st' => Ghost _ _ st' z23)
    rw [ez15, ez23]; simp only [go_sem, seval]; exact gD12
   ·show gRun _ _ _ _ _ z16 (fun st' => Ghost _ _ st' z22)
    rw [ez16, ez22]; simp only [go_sem, seval]; exact gD10
   ·show gRun _ _ _ _ _ z16 (fun st' => Ghost _ _ st' z24)
    rw [ez16, ez24]; simp only [go_sem, seval]; refine fcall_src (hC) rfl rfl ?_; simp only [go_sem, seval]; exact dt_can ⟨rfl, rfl, rfl, rfl, rfl, rfl, rfl, rfl, rfl, rfl, trivial⟩ rfl
   ·show gRun _ _ _ _ _ z16 (fun st' => Ghost _ _ st' z25)
    rw [ez16, ez25]; simp only [go_sem, seval]; exact gD12
   ·show gRun _ _ _ _ _ z17 (fun st' => Ghost _ _ st' z23)
    rw [ez17, ez23]; simp only [go_sem, seval]; exact gD12
   ·show gRun _ _ _ _ _ z17 (fun st' => Ghost _ _ st' z25)
    rw [ez17, ez25]; simp only [go_sem, seval]; refine fcall_src (hB) rfl rfl ?_; simp only [go_sem, seval]; exact dt_can ⟨rfl, rfl, rfl, rfl, rfl, rfl, rfl, rfl, rfl, rfl, rfl, rfl, trivial⟩ rfl
   ·show gRun _ _ _ _ _ z18 (fun st' => Ghost _ _ st' z24)
    rw [ez18, ez24]; simp only [go_sem, seval]; exact gD10
   ·show gRun _ _ _ _ _ z18 (fun st' => Ghost _ _ st' z26)
    rw [ez18, ez26]; simp only [go_sem, seval]; exact gD11
   ·show gRun _ _ _ _ _ z19 (fun st' => Ghost _ _ st' z25)
    rw [ez19, ez25]; simp only [go_sem, seval]; exact gD12
   ·show gRun _ _ _ _ _ z19 (fun st' => Ghost _ _ st' z26)
    rw [ez19, ez26]; simp only [go_sem, seval]; refine fcall_src (hC) rfl rfl ?_; simp only [go_sem, seval]; exact dt_can ⟨rfl, rfl, rfl, rfl, rfl, rfl, rfl, rfl, rfl, rfl, rfl, trivial⟩ rfl
   ·show gRun _ _ _ _ _ z20 (fun st' => Ghost _ _ st' z26)
    rw [ez20, ez26]; simp only [go_sem, seval]; exact dt_can ⟨rfl, rfl, rfl, rfl, rfl, rfl, rfl, rfl, rfl, rfl, rfl, trivial⟩ rfl
   ·show gRun _ _ _ _ _ z20 (fun st' => Ghost _ _ st' z27)
    rw [ez20, ez27]; simp only [go_sem, seval]; repeat' (first | exact dt_can ⟨rfl, rfl, rfl, rfl, rfl, rfl, rfl, rfl, rfl, trivial⟩ rfl | with_reducible refine And.intro ?_ ?_ | omega | (refine fcall_box (hP) (by simp [Aw.ids]) (by simp [find]) (by simp [closedT, killT_e, killAs, killA, outQ, Aw.ids]) (by simp [killAs, killA, outQ, Aw.ids]) (by simp [Aw.ids]) ?_; simp only [Aw.ids, List.map_cons, List.map_nil, List.filter_cons, List.filter_nil, List.contains_cons, List.contains_nil, Bool.or_false, Bool.or_true, Bool.not_true, Bool.not_false, Nat.reduceBEq, Bool.false_eq_true, if_true, if_false, List.cons_append, List.nil_append]; simp only [go_sem, seval]))
   ·show gRun _ _ _ _ _ z21 (fun st' => Ghost _ _ st' z28)
    rw [ez21, ez28]; simp only [go_sem, seval]; refine fcall_src (hB) rfl rfl ?_; simp only [go_sem, seval]; exact dt_can ⟨rfl, rfl, rfl, rfl, rfl, rfl, rfl, rfl, rfl, rfl, trivial⟩ rfl
   ·show gRun _ _ _ _ _ z21 (fun st' => Ghost _ _ st' z29)
    rw [ez21, ez29]; simp only [go_sem, seval]; exact gD12
   ·show gRun _ _ _ _ _ z22 (fun st' => Ghost _ _ st' z28)
    rw [ez22, ez28]; simp only [go_sem, seval]; exact gD10
   ·show gRun _ _ _ _ _ z22 (fun st' => Ghost _ _ st' z30)
    rw [ez22, ez30]; simp only [go_sem, seval]; refine fcall_src (hC) rfl rfl ?_; simp only [go_sem, seval]; exact dt_can ⟨rfl, rfl, rfl, rfl, rfl, rfl, rfl, rfl, rfl, trivial⟩ rfl
   ·show gRun _ _ _ _ _ z22 (fun st' => Ghost _ _ st' z31)
    rw [ez22, ez31]; simp only [go_sem, seval]; exact gD11
   ·show gRun _ _ _ _ _ z23 (fun st' => Ghost _ _ st' z29)
    rw [ez23, ez29]; simp only [go_sem, seval]; exact gD12
   ·show gRun _ _ _ _ _ z23 (fun st' => Ghost _ _ st' z31)
    rw [ez23, ez31]; simp only [go_sem, seval]; refine fcall_src (hB) rfl rfl ?_; simp only [go_sem, seval]; exact dt_can ⟨rfl, rfl, rfl, rfl, rfl, rfl, rfl, rfl, rfl, rfl, rfl, trivial⟩ rfl
   ·show gRun _ _ _ _ _ z24 (fun st' => Ghost _ _ st' z30)
    rw [ez24, ez30]; simp only [go_sem, seval]; exact gD9
   ·show gRun _ _ _ _ _ z24 (fun st' => Ghost _ _ st' z32)
    rw [ez24, ez32]; simp only [go_sem, seval]; exact gD11
   ·show gRun _ _ _ _ _ z25 (fun st' => Ghost _ _ st' z31)
    rw [ez25, ez31]; simp only [go_sem, seval]; exact gD11
   ·show gRun _ _ _ _ _ z25 (fun st' => Ghost _ _ st' z32)
    rw [ez25, ez32]; simp only [go_sem, seval]; refine fcall_src (hC) rfl rfl ?_; simp only [go_sem, seval]; exact dt_can ⟨rfl, rfl, rfl, rfl, rfl, rfl, rfl, rfl, rfl, rfl, rfl, trivial⟩ rfl
   ·show gRun _ _ _ _ _ z26 (fun st' => Ghost _ _ st' z32)
    rw [ez26, ez32]; simp only [go_sem, seval]; exact gD11
   ·show gRun _ _ _ _ _ z26 (fun st' => Ghost _ _ st' z33)
    rw [ez26, ez33]; simp only [go_sem, seval]; repeat' (first | exact dt_can ⟨rfl, rfl, rfl, rfl, rfl, rfl, rfl, rfl, rfl, rfl, trivial⟩ rfl | with_reducible refine And.intro ?_ ?_ | omega | (refine fcall_box (hP) (by simp [Aw.ids]) (by simp [find]) (by simp [closedT, killT_e, killAs, killA, outQ, Aw.ids]) (by simp [killAs, killA, outQ, Aw.ids]) (by simp [Aw.ids]) ?_; simp only [Aw.ids, List.map_cons, List.map_nil, List.filter_cons, List.filter_nil, List.contains_cons, List.contains_nil, Bool.or_false, Bool.or_true, Bool.not_true, Bool.not_false, Nat.reduceBEq, Bool.false_eq_true, if_true, if_false, List.cons_append, List.nil_append]; simp only [go_sem, seval]))
   ·show gRun _ _ _ _ _ z27 (fun st' => Ghost _ _ st' z33)
    rw [ez27, ez33]; simp only [go_sem, seval]; exact dt_can ⟨rfl, rfl, rfl, rfl, rfl, rfl, rfl, rfl, rfl, rfl, trivial⟩ rfl
   ·show gRun _ _ _ _ _ z28 (fun st' => Ghost _ _ st' z34)
    rw [ez28, ez34]; simp only [go_sem, seval]; exact gD9
   ·show gRun _ _ _ _ _ z28 (fun st' => Ghost _ _ st' z35)
    rw [ez28, ez35]; simp only [go_sem, seval]; refine fcall_src (hC) rfl rfl ?_; simp only [go_sem, seval]; exact dt_can ⟨rfl, rfl, rfl, rfl, rfl, rfl, rfl, rfl, rfl, trivial⟩ rfl
   ·show gRun _ _ _ _ _ z28 (fun st' => Ghost _ _ st' z36)
    rw [ez28, ez36]; simp only [go_sem, seval]; exact gD11
   ·show gRun _ _ _ _ _ z29 (fun st' => Ghost _ _ st' z36)
    rw [ez29, ez36]; simp only [go_sem, seval]; refine fcall_src (hB) rfl rfl ?_; simp only [go_sem, seval]; exact dt_can ⟨rfl, rfl, rfl, rfl, rfl, rfl, rfl, rfl, rfl, rfl, rfl, trivial⟩ rfl
   ·show gRun _ _ _ _ _ z30 (fun st' => Ghost _ _ st' z35)
    rw [ez30, ez35]; simp only [go_sem, seval]; exact gD9
   ·show gRun _ _ _ _ _ z30 (fun st' => Ghost _ _ st' z37)
    rw [ez30, ez37]; simp only [go_sem, seval]; exact gD10
   ·show gRun _ _ _ _ _ z31 (fun st' => Ghost _ _ st' z36)
    rw [ez31, ez36]; simp only [go_sem, seval]; exact gD11
   ·show gRun _ _ _ _ _ z31 (fun st' => Ghost _ _ st' z37)
    rw [ez31, ez37]; simp only [go_sem, seval]; refine fcall_src (hC) rfl rfl ?_; simp only [go_sem, seval]; exact dt_can ⟨rfl, rfl, rfl, rfl, rfl, rfl, rfl, rfl, rfl, rfl, trivial⟩ rfl
   ·show gRun _ _ _ _ _ z32 (fun st' => Ghost _ _ st' z37)
    rw [ez32, ez37]; simp only [go_sem, seval]; exact gD10
   ·show gRun _ _ _ _ _ z32 (fun st' => Ghost _ _ st' z38)
    rw [ez32, ez38]; simp only [go_sem, seval]; repeat' (first | exact dt_can ⟨rfl, rfl, rfl, rfl, rfl, rfl, rfl, rfl, rfl, rfl, trivial⟩ rfl | with_reducible refine And.intro ?_ ?_ | omega | (refine fcall_box (hP) (by simp [Aw.ids]) (by simp [find]) (by simp [closedT, killT_e, killAs, killA, outQ, Aw.ids]) (by simp [killAs, killA, outQ, Aw.ids]) (by simp [Aw.ids]) ?_; simp only [Aw.ids, List.map_cons, List.map_nil, List.filter_cons, List.filter_nil, List.contains_cons, List.contains_nil, Bool.or_false, Bool.or_true, Bool.not_true, Bool.not_false, Nat.reduceBEq, Bool.false_eq_true, if_true, if_false, List.cons_append, List.nil_append]; simp only [go_sem, seval]))
   ·show gRun _ _ _ _ _ z33 (fun st' => Ghost _ _ st' z38)
    rw [ez33, ez38]; simp only [go_sem, seval]; exact gD10
   ·show gRun _ _ _ _ _ z34 (fun st' => Ghost _ _ st' z39)
    rw [ez34, ez39]; simp only [go_sem, seval]; exact gD9
   ·show gRun _ _ _ _ _ z34 (fun st' => Ghost _ _ st' z40)
    rw [ez34, ez40]; simp only [go_sem, seval]; refine fcall_src (hC) rfl rfl ?_; simp only [go_sem, seval]; exact dt_can ⟨rfl, rfl, rfl, rfl, rfl, rfl, rfl, rfl, trivial⟩ rfl
   ·show gRun _ _ _ _ _ z34 (fun st' => Ghost _ _ st' z41)
    rw [ez34, ez41]; simp only [go_sem, seval]; exact gD10
   ·show gRun _ _ _ _ _ z35 (fun st' => Ghost _ _ st' z40)
    rw [ez35, ez40]; simp only [go_sem, seval]; exact gD8
   ·show gRun _ _ _ _ _ z35 (fun st' => Ghost _ _ st' z42)
    rw [ez35, ez42]; simp only [go_sem, seval]; exact gD10
   ·show gRun _ _ _ _ _ z36 (fun st' => Ghost _ _ st' z41)
    rw [ez36, ez41]; simp only [go_sem, seval]; exact gD10
   ·show gRun _ _ _ _ _ z36 (fun st' => Ghost _ _ st' z42)
    rw [ez36, ez42]; simp only [go_sem, seval]; refine fcall_src (hC) rfl rfl ?_; simp only [go_sem, seval]; exact dt_can ⟨rfl, rfl, rfl, rfl, rfl, rfl, rfl, rfl, rfl, rfl, trivial⟩ rfl
   ·show gRun _ _ _ _ _ z37 (fun st' => Ghost _ _ st' z42)
    rw [ez37, ez42]; simp only [go_sem, seval]; exact gD10
   ·show gRun _ _ _ _ _ z37 (fun st' => Ghost _ _ st' z43)
    rw [ez37, ez43]; simp only [go_sem, seval]; repeat' (first | exact dt_can ⟨rfl, rfl, rfl, rfl, rfl, rfl, rfl, rfl, rfl, trivial⟩ rfl | with_reducible refine And.intro ?_ ?_ | omega | (refine fcall_box (hP) (by simp [Aw.ids]) (by simp [find]) (by simp [closedT, killT_e, killAs, killA, outQ, Aw.ids]) (by simp [killAs, killA, outQ, Aw.ids]) (by simp [Aw.ids]) ?_; simp only [Aw.ids, List.map_cons, List.map_nil, List.filter_cons, List.filter_nil, List.contains_cons, List.contains_nil, Bool.or_false, Bool.or_true, Bool.not_true, Bool.not_false, Nat.reduceBEq, Bool.false_eq_true, if_true, if_false, List.cons_append, List.nil_append]; simp only [go_sem, seval]))
   ·show gRun _ _ _ _ _ z38 (fun st' => Ghost _ _ st' z43)
    rw [ez38, ez43]; simp only [go_sem, seval]; exact gD9
   ·show gRun _ _ _ _ _ z39 (fun st' => Ghost _ _ st' z44)
    rw [ez39, ez44]; simp only [go_sem, seval]; refine fcall_src (hC) rfl rfl ?_; simp only [go_sem, seval]; exact dt_can ⟨rfl, rfl, rfl, rfl, rfl, rfl, rfl, rfl, trivial⟩ rfl
   ·show gRun _ _ _ _ _ z39 (fun st' => Ghost _ _ st' z45)
    rw [ez39, ez45]; simp only [go_sem, seval]; exact gD10
   ·show gRun _ _ _ _ _ z40 (fun st' => Ghost _ _ st' z44)
    rw [ez40, ez44]; simp only [go_sem, seval]; exact gD8
   ·show gRun _ _ _ _ _ z40 (fun st' => Ghost _ _ st' z46)
    rw [ez40, ez46]; simp only [go_sem, seval]; exact gD9
   ·show gRun _ _ _ _ _ z41 (fun st' => Ghost _ _ st' z45)
    rw [ez41, ez45]; simp only [go_sem, seval]; exact gD10
   ·show gRun _ _ _ _ _ z41 (fun st' => Ghost _ _ st' z46)
    rw [ez41, ez46]; simp only [go_sem, seval]; refine fcall_src (hC) rfl rfl ?_; simp only [go_sem, seval]; exact dt_can ⟨rfl, rfl, rfl, rfl, rfl, rfl, rfl, rfl, rfl, trivial⟩ rfl
   ·show gRun _ _ _ _ _ z42 (fun st' => Ghost _ _ st' z46)
    rw [ez42, ez46]; simp only [go_sem, seval]; exact gD9
   ·show gRun _ _ _ _ _ z42 (fun st' => Ghost _ _ st' z47)
    rw [ez42, ez47]; simp only [go_sem, seval]; repeat' (first | exact dt_can ⟨rfl, rfl, rfl, rfl, rfl, rfl, rfl, rfl, rfl, trivial⟩ rfl | with_reducible refine And.intro ?_ ?_ | omega | (refine fcall_box (hP) (by simp [Aw.ids]) (by simp [find]) (by simp [closedT, killT_e, killAs, killA, outQ, Aw.ids]) (by simp [killAs, killA, outQ, Aw.ids]) (by simp [Aw.ids]) ?_; simp only [Aw.ids, List.map_cons, List.map_nil, List.filter_cons, List.filter_nil, List.contains_cons, List.contains_nil, Bool.or_false, Bool.or_true, Bool.not_true, Bool.not_false, Nat.reduceBEq, Bool.false_eq_true, if_true, if_false, List.cons_append, List.nil_append]; simp only [go_sem, seval]))
   ·show gRun _ _ _ _ _ z43 (fun st' => Ghost _ _ st' z47)
    rw [ez43, ez47]; simp only [go_sem, seval]; exact gD9
   ·show gRun _ _ _ _ _ z44 (fun st' => Ghost _ _ st' z48)
    rw [ez44, ez48]; simp only [go_sem, seval]; exact gD9
   ·show gRun _ _ _ _ _ z45 (fun st' => Ghost _ _ st' z48)
    rw [ez45, ez48]; simp only [go_sem, seval]; refine fcall_src (hC) rfl rfl ?_; simp only [go_sem, seval]; exact dt_can ⟨rfl, rfl, rfl, rfl, rfl, rfl, rfl, rfl, rfl, trivial⟩ rfl
   ·show gRun _ _ _ _ _ z46 (fun st' => Ghost _ _ st' z48)
    rw [ez46, ez48]; simp only [go_sem, seval]; exact gD9
   ·show gRun _ _ _ _ _ z46 (fun st' => Ghost _ _ st' z49)
    rw [ez46, ez49]; simp only [go_sem, seval]; repeat' (first | exact dt_can ⟨rfl, rfl, rfl, rfl, rfl, rfl, rfl, rfl, trivial⟩ rfl | with_reducible refine And.intro ?_ ?_ | omega | (refine fcall_box (hP) (by simp [Aw.ids]) (by simp [find]) (by simp [closedT, killT_e, killAs, killA, outQ, Aw.ids]) (by simp [killAs, killA, outQ, Aw.ids]) (by simp [Aw.ids]) ?_; simp only [Aw.ids, List.map_cons, List.map_nil, List.filter_cons, List.filter_nil, List.contains_cons, List.contains_nil, Bool.or_false, Bool.or_true, Bool.not_true, Bool.not_false, Nat.reduceBEq, Bool.false_eq_true, if_true, if_false, List.cons_append, List.nil_append]; simp only [go_sem, seval]))
   ·show gRun _ _ _ _ _ z47 (fun st' => Ghost _ _ st' z49)
    rw [ez47, ez49]; simp only [go_sem, seval]; exact gD8
   ·show gRun _ _ _ _ _ z48 (fun st' => Ghost _ _ st' z50)
    rw [ez48, ez50]; simp only [go_sem, seval]; repeat' (first | exact dt_can ⟨rfl, rfl, rfl, rfl, rfl, rfl, rfl, rfl, trivial⟩ rfl | with_reducible refine And.intro ?_ ?_ | omega | (refine fcall_box (hP) (by simp [Aw.ids]) (by simp [find]) (by simp [closedT, killT_e, killAs, killA, outQ, Aw.ids]) (by simp [killAs, killA, outQ, Aw.ids]) (by simp [Aw.ids]) ?_; simp only [Aw.ids, List.map_cons, List.map_nil, List.filter_cons, List.filter_nil, List.contains_cons, List.contains_nil, Bool.or_false, Bool.or_true, Bool.not_true, Bool.not_false, Nat.reduceBEq, Bool.false_eq_true, if_true, if_false, List.cons_append, List.nil_append]; simp only [go_sem, seval]))
   ·show gRun _ _ _ _ _ z49 (fun st' => Ghost _ _ st' z50)
    rw [ez49, ez50]; simp only [go_sem, seval]; exact gD8
   ·show gRun _ _ _ _ _ z50 (fun st' => Ghost _ _ st' z51)
    rw [ez50, ez51]; simp only [go_sem, seval]; exact gD7
   ·show gRun _ _ _ _ _ z51 (fun st' => Ghost _ _ st' z52)
    rw [ez51, ez52]; simp only [go_sem, seval]; exact gD5
  show ATs _ _ _ _ _ z52
  rw [ez52]
  clear ez0 ez1 ez2 ez3 ez4 ez5 ez6 ez7 ez8 ez9 ez10 ez11 ez12 ez13 ez14 ez15 ez16 ez17 ez18 ez19 ez20 ez21 ez22 ez23 ez24 ez25 ez26 ez27 ez28 ez29 ez30 ez31 ez32 ez33 ez34 ez35 ez36 ez37 ez38 ez39 ez40 ez41 ez42 ez43 ez44 ez45 ez46 ez47 ez48 ez49 ez50 ez51 ez52 z0 z1 z2 z3 z4 z5 z6 z7 z8 z9 z10 z11 z12 z13 z14 z15 z16 z17 z18 z19 z20 z21 z22 z23 z24 z25 z26 z27 z28 z29 z30 z31 z32 z33 z34 z35 z36 z37 z38 z39 z40 z41 z42 z43 z44 z45 z46 z47 z48 z49 z50 z51 z52
  rw [sk]
  refine ats_nil (bq_n ?_)
  refine gBN ?_
  refine ats_ret ⟨⟨[(0, .bptr 0 0), (1, .int most), (4, .bptr 2 0)], [(0, srcB p.2), (1, .t3 (cubF n (updG g a.1.toNat b.1.toNat c.1.toNat v))), (2, .bx [.ref 1 []])]⟩, ghost_to [8, 9] [(2, 7)], .inr rfl, (by first | rfl | exact ⟨trivial, rfl⟩ | (simp only [resL, resA, go_sem, seval]; done)), (by simp [St.get, slotGet, argSlots]), rfl⟩
 by_cases q1 : q.1 = 1
 ·refine ⟨n, g, q.2, d1, d2, ok2, .inr (.inl ?_)⟩
  clear lm lr
  obtain ⟨t, et⟩ : ∃ t, cubF n g = t := ⟨_, rfl⟩
  rw [et] at l0 hD ⊢
  have c0 : ¬ (1 : Int) = 0 := by decide
  refine OwnCall.introR (n := 60) (rs := [.cell 4 27]) 2 [0, 1] (X := [0]) Tryd.call30 Tryd.func30 rfl rfl rfl (by simp only [List.length_cons, List.length_nil]; omega) (by simp [Aw.ids, rootsA, rootsAs, argSlots, slotGet]) (fun cx hcx hrd => AT.weakG (ats_of ?_)); simp only [argSlots, Nat.zero_add, Nat.reduceAdd]
  refine gBN ?_
  (repeat refine ats_seq ?_); refine AT.ghost (st' := ⟨[(0, .bptr 0 0), (1, .int most), (4, .bptr 7 0)], [(0, srcB s), (7, .bx [.nil])]⟩) (ghost_to [] [(1, 7)]) ?_
  refine gCN fun K hK => ?_
  refine fcall_bx (hD) (k := ?_); simp only [Aw.ids, go_sem, seval]
  refine hK _ ?_; clear hK K
  (repeat refine ats_seq ?_); refine AT.ghost (st' := ⟨[(0, .bptr 0 0), (1, .int most), (4, .bptr 7 0), (5, .bptr 8 0)], [(0, srcB s1), (1, .t3 t), (7, .bx [.nil]), (8, .bx [.ref 1 []])]⟩) (ghost_to [2] []) ?_
  refine gCN fun K hK => ?_
  simp only [l0]
  (repeat refine aI (hb := ?_))
  refine hK _ ?_; clear hK K
  refine gCN fun K hK => ?_
  refine fcall_bx (hN) (k := ?_); simp only [Aw.ids, go_sem, seval]
  (repeat refine aI (hb := ?_))
  refine hK _ ?_; clear hK K
  (repeat refine ats_seq ?_)
  (repeat refine ats_seq ?_); refine ats_block ?_
  refine gBN ?_
  refine gI (fun hz => ?_) fun hz => ?_
  ·exact absurd hz q0
  refine gBN ?_
  refine gI (fun hz1 => ?_) fun hz1 => ?_
  rotate_left
  ·exact absurd q1 hz1
  refine gCN fun K hK => ?_
  simp only [l0]
  (repeat refine aI (hb := ?_))
  refine hK _ ?_; clear hK K
  refine ats_nil (bq_n ?_)
  refine gBN ?_
  refine ats_ret ⟨⟨[(0, .bptr 0 0), (1, .int most), (4, .bptr 2 0)], [(0, srcB q.2), (1, .t3 t), (2, .bx [.sub 1 [] 1 n])]⟩, ghost_to [8] [(2, 7)], .inr rfl, (by first | rfl | exact ⟨trivial, rfl⟩ | (simp only [resL, resA, go_sem, seval]; done)), (by simp [St.get, slotGet, argSlots]), rfl⟩
 by_cases q2 : q.1 = 2
 ·refine ⟨n, g, b.2, d1, d2, okB, .inr (.inr ⟨(List.range n).set a.1.toNat ((List.range n).getD b.1.toNat 0), by simp, fun k hk => ?_, ?_⟩)⟩
  ·rcases List.mem_or_eq_of_mem_set hk with h | h
   ·exact List.mem_range.1 h
   ·rw [h]
    exact List.mem_range.1 (getD_mem (by rw [List.length_range]; omega))
  clear lm lr
  obtain ⟨t, et⟩ : ∃ t, cubF n g = t := ⟨_, rfl⟩
  rw [et] at l0 hD ⊢
  refine OwnCall.introR (n := 60) (rs := [.cell 4 27]) 2 [0, 1] (X := [0]) Tryd.call30 Tryd.func30 rfl rfl rfl (by simp only [List.length_cons, List.length_nil]; omega) (by simp [Aw.ids, rootsA, rootsAs, argSlots, slotGet]) (fun cx hcx hrd => AT.weakG (ats_of ?_)); simp only [argSlots, Nat.zero_add, Nat.reduceAdd]
  refine gBN ?_
  (repeat refine ats_seq ?_); refine AT.ghost (st' := ⟨[(0, .bptr 0 0), (1, .int most), (4, .bptr 7 0)], [(0, srcB s), (7, .bx [.nil])]⟩) (ghost_to [] [(1, 7)]) ?_
  refine gCN fun K hK => ?_
  refine fcall_bx (hD) (k := ?_); simp only [Aw.ids, go_sem, seval]
  refine hK _ ?_; clear hK K
  (repeat refine ats_seq ?_); refine AT.ghost (st' := ⟨[(0, .bptr 0 0), (1, .int most), (4, .bptr 7 0), (5, .bptr 8 0)], [(0, srcB s1), (1, .t3 t), (7, .bx [.nil]), (8, .bx [.ref 1 []])]⟩) (ghost_to [2] []) ?_
  refine gCN fun K hK => ?_
  simp only [l0]
  (repeat refine aI (hb := ?_))
  refine hK _ ?_; clear hK K
  refine gCN fun K hK => ?_
  refine fcall_bx (hN) (k := ?_); simp only [Aw.ids, go_sem, seval]
  (repeat refine aI (hb := ?_))
  refine hK _ ?_; clear hK K
  (repeat refine ats_seq ?_)
  (repeat refine ats_seq ?_); refine ats_block ?_
  refine gBN ?_
  refine gI (fun hz => ?_) fun hz => ?_
  ·exact absurd hz q0
  refine gBN ?_
  refine gI (fun hz1 => ?_) fun hz1 => ?_
  ·exact absurd hz1 q1
  refine gBN ?_
  refine gI (fun hz2 => ?_) fun hz2 => ?_
  rotate_left
  ·exact absurd q2 hz2
  refine gCN fun K hK => ?_
  refine fcall_bx (hA) (k := ?_); simp only [Aw.ids, go_sem, seval]
  (repeat refine aI (hb := ?_))
  refine hK _ ?_; clear hK K
  (repeat refine ats_seq ?_); refine AT.ghost (ghost_a3 1 rfl) ?_; simp only [putT, Nat.reduceEqDiff, if_true, if_false, ↓reduceIte]
  rw [l0]
  have lσ : (List.range n).length = n := List.length_range
  generalize List.range n = σ at *
  (repeat refine ats_seq ?_)
  obtain ⟨z0, ez0⟩ : ∃ z : St, z = ⟨[(0, .bptr 0 0), (1, .int most), (4, .bptr 7 0), (5, .bptr 8 0), (50, .int a.1), (53, .bptr 0 0), (54, .int n)], [(0, srcB a.2), (1, .a3 t σ), (7, .bx [.nil]), (8, .bx [.ref 1 []])]⟩ := ⟨_, rfl⟩
  obtain ⟨z1, ez1⟩ : ∃ z : St, z = ⟨[(0, .bptr 0 0), (1, .int most), (4, .bptr 7 0), (5, .bptr 8 0), (48, .bptr 8 0), (50, .int a.1), (53, .bptr 0 0), (54, .int n)], [(0, srcB a.2), (1, .a3 t σ), (7, .bx [.nil]), (8, .bx [.ref 1 []])]⟩ := ⟨_, rfl⟩
  obtain ⟨z2, ez2⟩ : ∃ z : St, z = ⟨[(0, .bptr 0 0), (1, .int most), (4, .bptr 7 0), (5, .bptr 8 0), (50, .int a.1), (51, .bptr 8 0), (53, .bptr 0 0), (54, .int n)], [(0, srcB a.2), (1, .a3 t σ), (7, .bx [.nil]), (8, .bx [.ref 1 []])]⟩ := ⟨_, rfl⟩
  obtain ⟨z3, ez3⟩ : ∃ z : St, z = ⟨[(0, .bptr 0 0), (1, .int most), (4, .bptr 7 0), (5, .bptr 8 0), (50, .int a.1), (55, .int b.1)], [(0, srcB b.2), (1, .a3 t σ), (7, .bx [.nil]), (8, .bx [.ref 1 []])]⟩ := ⟨_, rfl⟩
  obtain ⟨z4, ez4⟩ : ∃ z : St, z = ⟨[(0, .bptr 0 0), (1, .int most), (4, .bptr 7 0), (5, .bptr 8 0), (49, .ref 1 []), (50, .int a.1), (53, .bptr 0 0), (54, .int n)], [(0, srcB a.2), (1, .a3 t σ), (7, .bx [.nil]), (8, .bx [.ref 1 []])]⟩ := ⟨_, rfl⟩
  obtain ⟨z5, ez5⟩ : ∃ z : St, z = ⟨[(0, .bptr 0 0), (1, .int most), (4, .bptr 7 0), (5, .bptr 8 0), (48, .bptr 8 0), (50, .int a.1), (51, .bptr 8 0), (53, .bptr 0 0), (54, .int n)], [(0, srcB a.2), (1, .a3 t σ), (7, .bx [.nil]), (8, .bx [.ref 1 []])]⟩ := ⟨_, rfl⟩
  obtain ⟨z6, ez6⟩ : ∃ z : St, z = ⟨[(0, .bptr 0 0), (1, .int most), (4, .bptr 7 0), (5, .bptr 8 0), (48, .bptr 8 0), (50, .int a.1), (55, .int b.1)], [(0, srcB b.2), (1, .a3 t σ), (7, .bx [.nil]), (8, .bx [.ref 1 []])]⟩ := ⟨_, rfl⟩
  obtain ⟨z7, ez7⟩ : ∃ z : St, z = ⟨[(0, .bptr 0 0), (1, .int most), (4, .bptr 7 0), (5, .bptr 8 0), (50, .int a.1), (52, .ref 1 []), (53, .bptr 0 0), (54, .int n)], [(0, srcB a.2), (1, .a3 t σ), (7, .bx [.nil]), (8, .bx [.ref 1 []])]⟩ := ⟨_, rfl⟩
  obtain ⟨z8, ez8⟩ : ∃ z : St, z = ⟨[(0, .bptr 0 0), (1, .int most), (4, .bptr 7 0), (5, .bptr 8 0), (50, .int a.1), (51, .bptr 8 0), (55, .int b.1)], [(0, srcB b.2), (1, .a3 t σ), (7, .bx [.nil]), (8, .bx [.ref 1 []])]⟩ := ⟨_, rfl⟩
  obtain ⟨z9, ez9⟩ : ∃ z : St, z = ⟨[(0, .bptr 0 0), (1, .int most), (4, .bptr 7 0), (5, .bptr 8 0), (49, .ref 1 []), (50, .int a.1), (51, .bptr 8 0), (53, .bptr 0 0), (54, .int n)], [(0, srcB a.2), (1, .a3 t σ), (7, .bx [.nil]), (8, .bx [.ref 1 []])]⟩ := ⟨_, rfl⟩
  obtain ⟨z10, ez10⟩ : ∃ z : St, z = ⟨[(0, .bptr 0 0), (1, .int most), (4, .bptr 7 0), (5, .bptr 8 0), (49, .ref 1 []), (50, .int a.1), (55, .int b.1)], [(0, srcB b.2), (1, .a3 t σ), (7, .bx [.nil]), (8, .bx [.ref 1 []])]⟩ := ⟨_, rfl⟩
  obtain ⟨z11, ez11⟩ : ∃ z : St, z = ⟨[(0, .bptr 0 0), (1, .int most), (4, .bptr 7 0), (5, .bptr 8 0), (48, .bptr 8 0), (50, .int a.1), (52, .ref 1 []), (53, .bptr 0 0), (54, .int n)], [(0, srcB a.2), (1, .a3 t σ), (7, .bx [.nil]), (8, .bx [.ref 1 []])]⟩ := ⟨_, rfl⟩
  obtain ⟨z12, ez12⟩ : ∃ z : St, z = ⟨[(0, .bptr 0 0), (1, .int most), (4, .bptr 7 0), (5, .bptr 8 0), (48, .bptr 8 0), (50, .int a.1), (51, .bptr 8 0), (55, .int b.1)], [(0, srcB b.2), (1, .a3 t σ), (7, .bx [.nil]), (8, .bx [.ref 1 []])]⟩ := ⟨_, rfl⟩
  obtain ⟨z13, ez13⟩ : ∃ z : St, z = ⟨[(0, .bptr 0 0), (1, .int most), (4, .bptr 7 0), (5, .bptr 8 0), (50, .int a.1), (52, .ref 1 []), (55, .int b.1)], [(0, srcB b.2), (1, .a3 t σ), (7, .bx [.nil]), (8, .bx [.ref 1 []])]⟩ := ⟨_, rfl⟩
  obtain ⟨z14, ez14⟩ : ∃ z : St, z = ⟨[(0, .bptr 0 0), (1, .int most), (4, .bptr 7 0), (5, .bptr 8 0), (49, .ref 1 []), (50, .int a.1), (52, .ref 1 []), (53, .bptr 0 0), (54, .int n)], [(0, srcB a.2), (1, .a3 t σ), (7, .bx [.nil]), (8, .bx [.ref 1 []])]⟩ := ⟨_, rfl⟩
  obtain ⟨z15, ez15⟩ : ∃ z : St, z = ⟨[(0, .bptr 0 0), (1, .int most), (4, .bptr 7 0), (5, .bptr 8 0), (49, .ref 1 []), (50, .int a.1), (51, .bptr 8 0), (55, .int b.1)], [(0, srcB b.2), (1, .a3 t σ), (7, .bx [.nil]), (8, .bx [.ref 1 []])]⟩ := ⟨_, rfl⟩
  obtain ⟨z16, ez16⟩ : ∃ z : St, z = ⟨[(0, .bptr 0 0), (1, .int most), (4, .bptr 7 0), (5, .bptr 8 0), (48, .bptr 8 0), (50, .int a.1), (52, .ref 1 []), (55, .int b.1)], [(0, srcB b.2), (1, .a3 t σ), (7, .bx [.nil]), (8, .bx [.ref 1 []])]⟩ := ⟨_, rfl⟩
  obtain ⟨z17, ez17⟩ : ∃ z : St, z = ⟨[(0, .bptr 0 0), (1, .int most), (4, .bptr 7 0), (5, .bptr 8 0), (50, .int a.1), (56, .eref 1 [] b.1.toNat)], [(0, srcB b.2), (1, .a3 t σ), (7, .bx [.nil]), (8, .bx [.ref 1 []])]⟩ := ⟨_, rfl⟩
  obtain ⟨z18, ez18⟩ : ∃ z : St, z = ⟨[(0, .bptr 0 0), (1, .int most), (4, .bptr 7 0), (5, .bptr 8 0), (49, .ref 1 []), (50, .int a.1), (52, .ref 1 []), (55, .int b.1)], [(0, srcB b.2), (1, .a3 t σ), (7, .bx [.nil]), (8, .bx [.ref 1 []])]⟩ := ⟨_, rfl⟩
  obtain ⟨z19, ez19⟩ : ∃ z : St, z = ⟨[(0, .bptr 0 0), (1, .int most), (4, .bptr 7 0), (5, .bptr 8 0), (48, .bptr 8 0), (50, .int a.1), (56, .eref 1 [] b.1.toNat)], [(0, srcB b.2), (1, .a3 t σ), (7, .bx [.nil]), (8, .bx [.ref 1 []])]⟩ := ⟨_, rfl⟩
  obtain ⟨z20, ez20⟩ : ∃ z : St, z = ⟨[(0, .bptr 0 0), (1, .int most), (4, .bptr 7 0), (5, .bptr 8 0), (50, .int a.1), (57, .ref 1 [b.1.toNat])], [(0, srcB b.2), (1, .a3 t σ), (7, .bx [.nil]), (8, .bx [.ref 1 []])]⟩ := ⟨_, rfl⟩
  obtain ⟨z21, ez21⟩ : ∃ z : St, z = ⟨[(0, .bptr 0 0), (1, .int most), (4, .bptr 7 0), (5, .bptr 8 0), (49, .ref 1 []), (50, .int a.1), (56, .eref 1 [] b.1.toNat)], [(0, srcB b.2), (1, .a3 t σ), (7, .bx [.nil]), (8, .bx [.ref 1 []])]⟩ := ⟨_, rfl⟩
  obtain ⟨z22, ez22⟩ : ∃ z : St, z = ⟨[(0, .bptr 0 0), (1, .int most), (4, .bptr 7 0), (5, .bptr 8 0), (48, .bptr 8 0), (50, .int a.1), (57, .ref 1 [b.1.toNat])], [(0, srcB b.2), (1, .a3 t σ), (7, .bx [.nil]), (8, .bx [.ref 1 []])]⟩ := ⟨_, rfl⟩
  obtain ⟨z23, ez23⟩ : ∃ z : St, z = ⟨[(0, .bptr 0 0), (1, .int most), (4, .bptr 7 0), (5, .bptr 8 0), (49, .ref 1 []), (50, .int a.1), (57, .ref 1 [b.1.toNat])], [(0, srcB b.2), (1, .a3 t σ), (7, .bx [.nil]), (8, .bx [.ref 1 []])]⟩ := ⟨_, rfl⟩
  obtain ⟨z24, ez24⟩ : ∃ z : St, z = ⟨[(0, .bptr 0 0), (1, .int most), (4, .bptr 7 0), (5, .bptr 8 0), (57, .ref 1 [b.1.toNat]), (58, .eref 1 [] a.1.toNat)], [(0, srcB b.2), (1, .a3 t σ), (7, .bx [.nil]), (8, .bx [.ref 1 []])]⟩ := ⟨_, rfl⟩
  obtain ⟨z25, ez25⟩ : ∃ z : St, z = ⟨[(0, .bptr 0 0), (1, .int most), (4, .bptr 7 0), (5, .bptr 8 0)], [(0, srcB b.2), (1, .a3 t (σ.set a.1.toNat (σ.getD b.1.toNat 0))), (7, .bx [.nil]), (8, .bx [.ref 1 []])]⟩ := ⟨_, rfl⟩
  refine ats_table [7] [2, 5, 6] [[2, 5, 6], [0, 2, 5, 6], [2, 3, 5, 6], [2, 5, 6, 7], [0, 1, 2, 5, 6], [0, 2, 3, 5, 6], [0, 2, 5, 6, 7], [2, 3, 4, 5, 6], [2, 3, 5, 6, 7], [0, 1, 2, 3, 5, 6], [0, 1, 2, 5, 6, 7], [0, 2, 3, 4, 5, 6], [0, 2, 3, 5, 6, 7], [2, 3, 4, 5, 6, 7], [0, 1, 2, 3, 4, 5, 6], [0, 1, 2, 3, 5, 6, 7], [0, 2, 3, 4, 5, 6, 7], [2, 3, 4, 5, 6, 7, 8], [0, 1, 2, 3, 4, 5, 6, 7], [0, 2, 3, 4, 5, 6, 7, 8], [2, 3, 4, 5, 6, 7, 8, 9], [0, 1, 2, 3, 4, 5, 6, 7, 8], [0, 2, 3, 4, 5, 6, 7, 8, 9], [0, 1, 2, 3, 4, 5, 6, 7, 8, 9], [0, 1, 2, 3, 4, 5, 6, 7, 8, 9, 10], [0, 1, 2, 3, 4, 5, 6, 7, 8, 9, 10, 11]] [(0, 0, 1), (0, 3, 2), (0, 7, 3), (1, 1, 4), (1, 3, 5), (1, 7, 6), (2, 0, 5), (2, 4, 7), (2, 7, 8), (3, 0, 6), (3, 3, 8), (4, 3, 9), (4, 7, 10), (5, 1, 9), (5, 4, 11), (5, 7, 12), (6, 1, 10), (6, 3, 12), (7, 0, 11), (7, 7, 13), (8, 0, 12), (8, 4, 13), (9, 4, 14), (9, 7, 15), (10, 3, 15), (11, 1, 14), (11, 7, 16), (12, 1, 15), (12, 4, 16), (13, 0, 16), (13, 8, 17), (14, 7, 18), (15, 4, 18), (16, 1, 18), (16, 8, 19), (17, 0, 19), (17, 9, 20), (18, 8, 21), (19, 1, 21), (19, 9, 22), (20, 0, 22), (21, 9, 23), (22, 1, 23), (23, 10, 24), (24, 11, 25)] [z0, z1, z2, z3, z4, z5, z6, z7, z8, z9, z10, z11, z12, z13, z14, z15, z16, z17, z18, z19, z20, z21, z22, z23, z24, z25] hrd (by first | exact fix0 hcx | exact fix1 hcx rfl | exact fixN hcx rfl) mixed (by kernel_rfl) ?_ ?_ ?_
  ·show mvTRun _ _ _ _ _ _ (fun s => Ghost _ _ s z0)
   rw [ez0]; simp only [go_sem, seval]; exact gD7
  ·refine ⟨?_, ?_, ?_, ?_, ?_, ?_, ?_, ?_, ?_, ?_, ?_, ?_, ?_, ?_, ?_, ?_, ?_, ?_, ?_, ?_, ?_, ?_, ?_, ?_, ?_, ?_, ?_, ?_, ?_, ?_, ?_, ?_, ?_, ?_, ?_, ?_, ?_, ?_, ?_, ?_, ?_, ?_, ?_, ?_, ?_, trivial⟩
   ·show gRun _ _ _ _ _ z0 (fun st' => Ghost _ _ st' z1)
    rw [ez0, ez1]; simp only [go_sem, seval]; exact dt_can ⟨rfl, rfl, rfl, rfl, rfl, rfl, rfl, rfl, trivial⟩ rfl
   ·show gRun _ _ _ _ _ z0 (fun st' => Ghost _ _ st' z2)
    rw [ez0, ez2]; simp only [go_sem, seval]; exact dt_can ⟨rfl, rfl, rfl, rfl, rfl, rfl, rfl, rfl, trivial⟩ rfl
   ·show gRun _ _ _ _ _ z0 (fun st' => Ghost _ _ st' z3)
    rw [ez0, ez3]; simp only [go_sem, seval]; refine fcall_src (hB) rfl rfl ?_; simp only [go_sem, seval]; exact dt_can ⟨rfl, rfl, rfl, rfl, rfl, rfl, trivial⟩ rfl
   ·show gRun _ _ _ _ _ z1 (fun st' => Ghost _ _ st' z4)
    rw [ez1, ez4]; simp only [go_sem, seval]; exact gD8
   ·show gRun _ _ _ _ _ z1 (fun st' => Ghost _ _ st' z5)
    rw [ez1, ez5]; simp only [go_sem, seval]; exact dt_can ⟨rfl, rfl, rfl, rfl, rfl, rfl, rfl, rfl, rfl, trivial⟩ rfl
   ·show gRun _ _ _ _ _ z1 (fun st' => Ghost _ _ st' z6)
    rw [ez1, ez6]; simp only [go_sem, seval]; refine fcall_src (hB) rfl rfl ?_; simp only [go_sem, seval]; exact dt_can ⟨rfl, rfl, rfl, rfl, rfl, rfl, rfl, trivial⟩ rfl
   ·show gRun _ _ _ _ _ z2 (fun st' => Ghost _ _ st' z5)
    rw [ez2, ez5]; simp only [go_sem, seval]; exact dt_can ⟨rfl, rfl, rfl, rfl, rfl, rfl, rfl, rfl, rfl, trivial⟩ rfl
   ·show gRun _ _ _ _ _ z2 (fun st' => Ghost _ _ st' z7)
    rw [ez2, ez7]; simp only [go_sem, seval]; exact gD8
   ·show gRun _ _ _ _ _ z2 (fun st' => Ghost _ _ st' z8)
    rw [ez2, ez8]; simp only [go_sem, seval]; refine fcall_src (hB) rfl rfl ?_; simp only [go_sem, seval]; exact dt_can ⟨rfl, rfl, rfl, rfl, rfl, rfl, rfl, trivial⟩ rfl
   ·show gRun _ _ _ _ _ z3 (fun st' => Ghost _ _ st' z6)
    rw [ez3, ez6]; simp only [go_sem, seval]; exact dt_can ⟨rfl, rfl, rfl, rfl, rfl, rfl, rfl, trivial⟩ rfl
   ·show gRun _ _ _ _ _ z3 (fun st' => Ghost _ _ st' z8)
    rw [ez3, ez8]; simp only [go_sem, seval]; exact dt_can ⟨rfl, rfl, rfl, rfl, rfl, rfl, rfl, trivial⟩ rfl
   ·show gRun _ _ _ _ _ z4 (fun st' => Ghost _ _ st' z9)
    rw [ez4, ez9]; simp only [go_sem, seval]; exact dt_can ⟨rfl, rfl, rfl, rfl, rfl, rfl, rfl, rfl, rfl, trivial⟩ rfl
   ·show gRun _ _ _ _ _ z4 (fun st' => Ghost _ _ st' z10)
    rw [ez4, ez10]; simp only [go_sem, seval]; refine fcall_src (hB) rfl rfl ?_; simp only [go_sem, seval]; exact dt_can ⟨rfl, rfl, rfl, rfl, rfl, rfl, rfl, trivial⟩ rfl
   ·show gRun _ _ _ _ _ z5 (fun st' => Ghost _ _ st' z9)
    rw [ez5, ez9]; simp only [go_sem, seval]; exact gD9
   ·show gRun _ _ _ _ _ z5 (fun st' => Ghost _ _ st' z11)
    rw [ez5, ez11]; simp only [go_sem, seval]; exact gD9
   ·show gRun _ _ _ _ _ z5 (fun st' => Ghost _ _ st' z12)
    rw [ez5, ez12]; simp only [go_sem, seval]; refine fcall_src (hB) rfl rfl ?_; simp only [go_sem, seval]; exact dt_can ⟨rfl, rfl, rfl, rfl, rfl, rfl, rfl, rfl, trivial⟩ rfl
   ·show gRun _ _ _ _ _ z6 (fun st' => Ghost _ _ st' z10)
    rw [ez6, ez10]; simp only [go_sem, seval]; exact gD7
   ·show gRun _ _ _ _ _ z6 (fun st' => Ghost _ _ st' z12)
    rw [ez6, ez12]; simp only [go_sem, seval]; exact dt_can ⟨rfl, rfl, rfl, rfl, rfl, rfl, rfl, rfl, trivial⟩ rfl
   ·show gRun _ _ _ _ _ z7 (fun st' => Ghost _ _ st' z11)
    rw [ez7, ez11]; simp only [go_sem, seval]; exact dt_can ⟨rfl, rfl, rfl, rfl, rfl, rfl, rfl, rfl, rfl, trivial⟩ rfl
   ·show gRun _ _ _ _ _ z7 (fun st' => Ghost _ _ st' z13)
    rw [ez7, ez13]; simp only [go_sem, seval]; refine fcall_src (hB) rfl rfl ?_; simp only [go_sem, seval]; exact dt_can ⟨rfl, rfl, rfl, rfl, rfl, rfl, rfl, trivial⟩ rfl
   ·show gRun _ _ _ _ _ z8 (fun st' => Ghost _ _ st' z12)
    rw [ez8, ez12]; simp only [go_sem, seval]; exact dt_can ⟨rfl, rfl, rfl, rfl, rfl, rfl, rfl, rfl, trivial⟩ rfl
   ·show gRun _ _ _ _ _ z8 (fun st' => Ghost _ _ st' z13)
    rw [ez8, ez13]; simp only [go_sem, seval]; exact gD7
   ·show gRun _ _ _ _ _ z9 (fun st' => Ghost _ _ st' z14)
    rw [ez9, ez14]; simp only [go_sem, seval]; exact gD9
   ·show gRun _ _ _ _ _ z9 (fun st' => Ghost _ _ st' z15)
    rw [ez9, ez15]; simp only [go_sem, seval]; refine fcall_src (hB) rfl rfl ?_; simp only [go_sem, seval]; exact dt_can ⟨rfl, rfl, rfl, rfl, rfl, rfl, rfl, rfl, trivial⟩ rfl
   ·show gRun _ _ _ _ _ z10 (fun st' => Ghost _ _ st' z15)
    rw [ez10, ez15]; simp only [go_sem, seval]; exact dt_can ⟨rfl, rfl, rfl, rfl, rfl, rfl, rfl, rfl, trivial⟩ rfl
   ·show gRun _ _ _ _ _ z11 (fun st' => Ghost _ _ st' z14)
    rw [ez11, ez14]; simp only [go_sem, seval]; exact gD9
   ·show gRun _ _ _ _ _ z11 (fun st' => Ghost _ _ st' z16)
    rw [ez11, ez16]; simp only [go_sem, seval]; refine fcall_src (hB) rfl rfl ?_; simp only [go_sem, seval]; exact dt_can ⟨rfl, rfl, rfl, rfl, rfl, rfl, rfl, rfl, trivial⟩ rfl
   ·show gRun _ _ _ _ _ z12 (fun st' => Ghost _ _ st' z15)
    rw [ez12, ez15]; simp only [go_sem, seval]; exact gD8
   ·show gRun _ _ _ _ _ z12 (fun st' => Ghost _ _ st' z16)
    rw [ez12, ez16]; simp only [go_sem, seval]; exact gD8
   ·show gRun _ _ _ _ _ z13 (fun st' => Ghost _ _ st' z16)
    rw [ez13, ez16]; simp only [go_sem, seval]; exact dt_can ⟨rfl, rfl, rfl, rfl, rfl, rfl, rfl, rfl, trivial⟩ rfl
   ·show gRun _ _ _ _ _ z13 (fun st' => Ghost _ _ st' z17)
    rw [ez13, ez17]; simp only [go_sem, seval]; exact gD6
   ·show gRun _ _ _ _ _ z14 (fun st' => Ghost _ _ st' z18)
    rw [ez14, ez18]; simp only [go_sem, seval]; refine fcall_src (hB) rfl rfl ?_; simp only [go_sem, seval]; exact dt_can ⟨rfl, rfl, rfl, rfl, rfl, rfl, rfl, rfl, trivial⟩ rfl
   ·show gRun _ _ _ _ _ z15 (fun st' => Ghost _ _ st' z18)
    rw [ez15, ez18]; simp only [go_sem, seval]; exact gD8
   ·show gRun _ _ _ _ _ z16 (fun st' => Ghost _ _ st' z18)
    rw [ez16, ez18]; simp only [go_sem, seval]; exact gD8
   ·show gRun _ _ _ _ _ z16 (fun st' => Ghost _ _ st' z19)
    rw [ez16, ez19]; simp only [go_sem, seval]; exact gD7
   ·show gRun _ _ _ _ _ z17 (fun st' => Ghost _ _ st' z19)
    rw [ez17, ez19]; simp only [go_sem, seval]; exact dt_can ⟨rfl, rfl, rfl, rfl, rfl, rfl, rfl, trivial⟩ rfl
   ·show gRun _ _ _ _ _ z17 (fun st' => Ghost _ _ st' z20)
    rw [ez17, ez20]; simp only [go_sem, seval]; exact gD6
   ·show gRun _ _ _ _ _ z18 (fun st' => Ghost _ _ st' z21)
    rw [ez18, ez21]; simp only [go_sem, seval]; exact gD7
   ·show gRun _ _ _ _ _ z19 (fun st' => Ghost _ _ st' z21)
    rw [ez19, ez21]; simp only [go_sem, seval]; exact gD7
   ·show gRun _ _ _ _ _ z19 (fun st' => Ghost _ _ st' z22)
    rw [ez19, ez22]; simp only [go_sem, seval]; exact gD7
   ·show gRun _ _ _ _ _ z20 (fun st' => Ghost _ _ st' z22)
    rw [ez20, ez22]; simp only [go_sem, seval]; exact dt_can ⟨rfl, rfl, rfl, rfl, rfl, rfl, rfl, trivial⟩ rfl
   ·show gRun _ _ _ _ _ z21 (fun st' => Ghost _ _ st' z23)
    rw [ez21, ez23]; simp only [go_sem, seval]; exact gD7
   ·show gRun _ _ _ _ _ z22 (fun st' => Ghost _ _ st' z23)
    rw [ez22, ez23]; simp only [go_sem, seval]; exact gD7
   ·show gRun _ _ _ _ _ z23 (fun st' => Ghost _ _ st' z24)
    rw [ez23, ez24]; simp only [go_sem, seval]; exact gD6
   ·show gRun _ _ _ _ _ z24 (fun st' => Ghost _ _ st' z25)
    rw [ez24, ez25]; simp only [go_sem, seval]; exact gD4
  show ATs _ _ _ _ _ z25
  rw [ez25]
  clear ez0 ez1 ez2 ez3 ez4 ez5 ez6 ez7 ez8 ez9 ez10 ez11 ez12 ez13 ez14 ez15 ez16 ez17 ez18 ez19 ez20 ez21 ez22 ez23 ez24 ez25 z0 z1 z2 z3 z4 z5 z6 z7 z8 z9 z10 z11 z12 z13 z14 z15 z16 z17 z18 z19 z20 z21 z22 z23 z24 z25
  refine ats_nil (bq_n ?_)
  refine gBN ?_
  refine ats_ret ⟨⟨[(0, .bptr 0 0), (1, .int most), (4, .bptr 2 0)], [(0, srcB b.2), (1, .a3 t (σ.set a.1.toNat (σ.getD b.1.toNat 0))), (2, .bx [.ref 1 []])]⟩, ghost_to [8] [(2, 7)], .inr rfl, (by first | rfl | exact ⟨trivial, rfl⟩ | (simp only [resL, resA, go_sem, seval]; done)), (by simp [St.get, slotGet, argSlots]), rfl⟩
 ·refine ⟨n, g, q.2, d1, d2, ok2, .inl ?_⟩
  clear lm lr
  obtain ⟨t, et⟩ : ∃ t, cubF n g = t := ⟨_, rfl⟩
  rw [et] at l0 hD ⊢
  refine OwnCall.introR (n := 60) (rs := [.cell 4 27]) 2 [0, 1] (X := [0]) Tryd.call30 Tryd.func30 rfl rfl rfl (by simp only [List.length_cons, List.length_nil]; omega) (by simp [Aw.ids, rootsA, rootsAs, argSlots, slotGet]) (fun cx hcx hrd => AT.weakG (ats_of ?_)); simp only [argSlots, Nat.zero_add, Nat.reduceAdd]
  refine gBN ?_
  (repeat refine ats_seq ?_); refine AT.ghost (st' := ⟨[(0, .bptr 0 0), (1, .int most), (4, .bptr 7 0)], [(0, srcB s), (7, .bx [.nil])]⟩) (ghost_to [] [(1, 7)]) ?_
  refine gCN fun K hK => ?_
  refine fcall_bx (hD) (k := ?_); simp only [Aw.ids, go_sem, seval]
  refine hK _ ?_; clear hK K
  (repeat refine ats_seq ?_); refine AT.ghost (st' := ⟨[(0, .bptr 0 0), (1, .int most), (4, .bptr 7 0), (5, .bptr 8 0)], [(0, srcB s1), (1, .t3 t), (7, .bx [.nil]), (8, .bx [.ref 1 []])]⟩) (ghost_to [2] []) ?_
  refine gCN fun K hK => ?_
  simp only [l0]
  (repeat refine aI (hb := ?_))
  refine hK _ ?_; clear hK K
  refine gCN fun K hK => ?_
  refine fcall_bx (hN) (k := ?_); simp only [Aw.ids, go_sem, seval]
  (repeat refine aI (hb := ?_))
  refine hK _ ?_; clear hK K
  (repeat refine ats_seq ?_)
  (repeat refine ats_seq ?_); refine ats_block ?_
  refine gBN ?_
  refine gI (fun hz => ?_) fun hz => ?_
  ·exact absurd hz q0
  refine gBN ?_
  refine gI (fun hz1 => ?_) fun hz1 => ?_
  ·exact absurd hz1 q1
  refine gBN ?_
  refine gI (fun hz2 => ?_) fun hz2 => ?_
  ·exact absurd hz2 q2
  refine ats_skip ?_
  refine ats_nil (bq_n ?_)
  refine gBN ?_
  refine ats_ret ⟨⟨[(0, .bptr 0 0), (1, .int most), (4, .bptr 2 0)], [(0, srcB q.2), (1, .t3 t), (2, .bx [.ref 1 []])]⟩, ghost_to [8] [(2, 7)], .inr rfl, (by first | rfl | exact ⟨trivial, rfl⟩ | (simp only [resL, resA, go_sem, seval]; done)), (by simp [St.get, slotGet, argSlots]), rfl⟩
theorem l03DrawAny_ok (s : Src) (hs : s.Ok) (most : Nat) (h1 : 1 ≤ most) (h2 : most ≤ 10) : ∃ (t : Cu) (s' : Src), t.length ≤ most ∧ s'.Ok ∧ AnyC Tryd.prog 30 s most t s' := by
 obtain ⟨n, g, s', d1, d2, ok, hA | hA | ⟨σ, lσ, hσ, hA⟩⟩ := l03DrawAny_own s hs most h1 h2
 ·refine ⟨cubF n g, s', by rw [cubF_length]; exact d2, ok, ?_⟩
  have h := OwnCall.frz hA [1] (by simp)
  unfold AnyC
  simpa [frzG, frzH, frzT_srcB, frzT_e, frzW, frzV, rmT, find] using h
 ·refine ⟨((cubF n g).take n).drop 1, s', by rw [List.length_drop, List.length_take, cubF_length]; omega, ok, ?_⟩
  have h := OwnCall.frz hA [1] (by simp)
  unfold AnyC
  simpa [frzG, frzH, frzT_srcB, frzT_e, frzW, frzV, rmT, find, cutData] using h
 ·refine ⟨σ.map fun k => (cubF n g).getD k [], s', by rw [List.length_map]; omega, ok, ?_⟩
  have h := OwnCall.frz hA [1] (by simp)
  unfold AnyC
  simpa [frzG, frzH, frzT_srcB, frzT_e, frzW, frzV, rmT, find] using h
end Go.Proofs.YtmjcbgpbhlheoaaDoor
