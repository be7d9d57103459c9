import Derived.Test.YtlngnhbochmcoaaVx1
import Derived.Test.YtlngnhbochmcoaaDz2
import Derived.Test.YtlngnhbochmcoaaLib7
set_option linter.unusedSimpArgs false
set_option linter.unusedVariables false
namespace Go.Proofs.Ytlngnhbochmcoaa
open Go Go.Aw Go.Pl
theorem JH_ (n : Int) : -55441 < n.tmod 55441 ∧ n.tmod 55441 < 55441 ∧ (n.tmod 55441 + 55441).tmod 55441 = n % 55441 := by
 have h1 := Int.tmod_lt_of_pos n (show (0 : Int) < 55441 by omega)
 have h2 := Int.lt_tmod_of_pos n (show (0 : Int) < 55441 by omega)
 have h3 := Int.tmod_add_mul_tdiv n 55441
 refine ⟨by omega, h1, ?_⟩
 rw [tmP (by omega)]
 omega
theorem Yz_ (n : Int) (h1 : -10000000000 ≤ n) (h2 : n ≤ 10000000000) : PureCall Try.prog 48 [.int n] (.int (n % 55441)) := by
 obtain ⟨e1, e2, e⟩ := JH_ n
 refine gPC 7 [.tmp 2] Try.call48 Try.func48 fun cx hcx => gE ?_
 refine gB ?_
 (repeat refine xa_ ?_); refine xr_ (xZ_ hcx) fun K hK => ?_; simp only [go_sem, seval, e]
 refine gU ?_
 refine hK _ ?_; clear hK K
 refine xd_ (zW_ rfl ?_)
 rfl
theorem JI_ (n : Int) (h1 : -10000000000 ≤ n) (h2 : n ≤ 10000000000) : PureCall Try.prog 59 [.int n] (.int (n % 55441)) := by
 obtain ⟨e1, e2, e⟩ := JH_ n
 refine gPC 7 [.tmp 2] Try.call59 Try.func59 fun cx hcx => gE ?_
 refine gB ?_
 (repeat refine xa_ ?_); refine xr_ (xZ_ hcx) fun K hK => ?_; simp only [go_sem, seval, e]
 refine gU ?_
 refine hK _ ?_; clear hK K
 refine xd_ (zW_ rfl ?_)
 rfl
theorem zF_ (m : List (List Int)) (lm : m.length ≤ 1000) (hm : ∀ j, j < m.length → (m.getD j []).length ≤ 1000) : FreshCall Try.prog 45 [.l2 m] (.l2 m) := by
 refine gFC 21 [.tmp 2] Try.call45 Try.func45 fun cx hcx => gE ?_
 refine gA ?_
 refine gA ?_
 refine gA ?_
 (repeat refine xa_ ?_); refine gLp (fun i : Nat => ⟨[(0, .l2 m), (3, .ref 0 []), (4, .int i)], [(0, .t2 (m.take i))]⟩) m.length fun i hi => ?_
 have lt : (m.take i).length = i := by rw [List.length_take]; omega
 refine gB ?_
 refine gI (fun h2 => ?_) fun h2 => ?_
 ·have ri := hm i (by omega)
  have ho := wP_ (m.getD i []) (by omega)
  have st := take_snoc (xs := m) (d := []) (k := i) (by omega)
  refine xb_ ?_
  refine gO ?_
  refine gC fun K hK => ?_
  refine gU ?_
  refine xK_ rfl (ho) rfl ?_; simp only [go_sem, seval]
  refine gU ?_
  refine hK _ ?_; clear hK K
  refine gB ?_
  refine ⟨i + 1,  by omega, by omega, .inl ⟨gH,  by rw [st]⟩⟩
 ·obtain rfl : i = m.length := by omega
  rw [List.take_of_length_le (by omega)]
  refine xf_ (ye_ ?_)
  refine gB ?_
  exact xd_ (Xl_ (is := [0]) rfl ⟨rfl, trivial⟩ rfl (by simp))
theorem YS_ (n : Nat) (hn : n ≤ 1000) (a : Nat → Int) (ha : ∀ c, c < n → InP (a c)) (v : Int) (hv : InP v) : PureCall Try.prog 69 [.l1 (xU_ n a), .int v] (.l1 (xU_ n fun c => a c * v % 55441)) := by
 have l0 := xn_ n a
 have eg : ∀ c, c < n → (xU_ n a).getD c 0 = a c := fun c hc => xE_ hc
 generalize xU_ n a = A at *
 refine gPC 25 [.tmp 4] Try.call69 Try.func69 fun cx hcx => gE ?_
 refine gB ?_
 refine gB ?_
 refine gB ?_
 (repeat refine xa_ ?_); refine gLp (fun i : Nat => ⟨[(0, .l1 A), (1, .int v), (5, .ref 0 []), (6, .int i)], [(0, .t1 (xU_ i fun c => a c * v % 55441))]⟩) n fun i hi => ?_
 have l1 := xn_ i fun c => a c * v % 55441
 refine gB ?_
 refine gI (fun h2 => ?_) fun h2 => ?_
 ·have hi : i < n := by omega
  have mp := Wv_ (ha i hi) hv
  have e1 : (a i * v).tmod 55441 = a i * v % 55441 := tmP mp.1
  have b1 : 0 ≤ a i * v % 55441 ∧ a i * v % 55441 < 55441 := ⟨Int.emod_nonneg _ (by omega), Int.emod_lt_of_pos _ (by omega)⟩
  have st := rowF_succ (n := i) (f := fun c => a c * v % 55441)
  have eg := eg i hi
  refine xb_ ?_
  refine gO ?_
  (repeat refine xa_ ?_); refine xr_ (xZ_ hcx) fun K hK => ?_; simp only [go_sem, seval, eg, e1]
  refine gU ?_
  refine hK _ ?_; clear hK K
  refine gB ?_
  refine ⟨i + 1, by omega, by omega, .inr ⟨[1], gK0, aJ8 ?_⟩⟩; rw [st]
 ·obtain rfl : i = n := by omega
  refine xf_ (ye_ ?_)
  refine gB ?_
  exact xd_ (TT_ rfl ⟨rfl, trivial⟩ rfl)
theorem Xv_ (n : Nat) (hn : n ≤ 1000) (a b : Nat → Int) (ha : ∀ c, c < n → InP (a c)) (hb : ∀ c, c < n → InP (b c)) (v : Int) (hv : InP v) : FreshCall Try.prog 47 [.l1 (xU_ n a), .l1 (xU_ n b), .int v] (.l1 (xU_ n fun c => (a c + v * b c) % 55441)) := by
 have l0 := xn_ n a
 have l9 := xn_ n b
 have eg : ∀ c, c < n → (xU_ n a).getD c 0 = a c := fun c hc => xE_ hc
 have eh : ∀ c, c < n → (xU_ n b).getD c 0 = b c := fun c hc => xE_ hc
 generalize xU_ n a = A at *
 generalize xU_ n b = B at *
 refine gFC 32 [.tmp 6] Try.call47 Try.func47 fun cx hcx => gE ?_
 refine gB ?_
 refine gB ?_
 refine gB ?_
 (repeat refine xa_ ?_); refine gLp (fun i : Nat => ⟨[(0, .l1 A), (1, .l1 B), (2, .int v), (7, .ref 0 []), (8, .int i)], [(0, .t1 (xU_ i fun c => (a c + v * b c) % 55441))]⟩) n fun i hi => ?_
 have l1 := xn_ i fun c => (a c + v * b c) % 55441
 refine gB ?_
 refine gI (fun h2 => ?_) fun h2 => ?_
 ·have hi : i < n := by omega
  have ap := ha i hi
  have mp := Wv_ hv (hb i hi)
  unfold InP at ap
  have e1 : (a i + v * b i).tmod 55441 = (a i + v * b i) % 55441 := tmP (by omega)
  have b1 : 0 ≤ (a i + v * b i) % 55441 ∧ (a i + v * b i) % 55441 < 55441 := ⟨Int.emod_nonneg _ (by omega), Int.emod_lt_of_pos _ (by omega)⟩
  have st := rowF_succ (n := i) (f := fun c => (a c + v * b c) % 55441)
  have eg := eg i hi
  have eh := eh i hi
  refine xb_ ?_
  refine gO ?_
  (repeat refine xa_ ?_); refine Jy_ [0, 1, 2, 3, 4, 5, 6, 7, 8, 9, 10, 11, 12, 13, 14, 15] (xZ_ hcx) mixed (by kernel_rfl) fun K hK => ?_; simp only [T5_, zO_, List.map_cons, List.map_nil, List.getElem?_toArray, List.getElem?_cons_zero, List.getElem?_cons_succ, Option.getD_some]; simp only [go_sem, seval]
  simp only [eg, eh, e1, Int.toNat_natCast, l0, l9, l1]
  try simp (disch := omega) only [tmP, tdP]
  refine gU ?_
  refine hK _ ?_; clear hK K
  refine gB ?_
  refine ⟨i + 1, by omega, by omega, .inr ⟨[1], gK0, aJ8 ?_⟩⟩; rw [st]
 ·obtain rfl : i = n := by omega
  refine xf_ (ye_ ?_)
  refine gB ?_
  exact xd_ (Xl_ (is := [0]) rfl ⟨rfl, trivial⟩ rfl (by simp))
theorem Wb_ (n : Nat) (hn : n ≤ 1000) (a b : Nat → Int) (ha : ∀ c, c < n → InP (a c)) (hb : ∀ c, c < n → InP (b c)) (v : Int) (hv : InP v) : PureCall Try.prog 47 [.l1 (xU_ n a), .l1 (xU_ n b), .int v] (.l1 (xU_ n fun c => (a c + v * b c) % 55441)) := (Xv_ n hn a b ha hb v hv).pure
theorem U5_ (n : Nat) (hn : n ≤ 1000) (a : Nat → Int) (ha : ∀ c, c < n → InP (a c)) (k : Nat) (hk : k < n) (h0 : ∀ c, c < k → a c = 0) (h1 : a k ≠ 0) : PureCall Try.prog 70 [.l1 (xU_ n a)] (.int (k : Int)) := by
 have l0 := xn_ n a
 have eg : ∀ c, c < n → (xU_ n a).getD c 0 = a c := fun c hc => xE_ hc
 generalize xU_ n a = A at *
 refine gPC 16 [.tmp 2] Try.call70 Try.func70 fun cx hcx => gE ?_
 refine gB ?_
 refine gB ?_
 (repeat refine xa_ ?_); refine gLp (fun i : Nat => ⟨[(0, .l1 A), (3, .int i)], []⟩) k fun i hi => ?_
 refine gB ?_
 refine gI (fun h2 => ?_) fun h2 => ?_
 ·have hi : i < n := by omega
  have eg := eg i hi
  have ap := ha i hi
  unfold InP at ap
  refine xb_ ?_
  refine gO ?_
  (repeat refine xa_ ?_); refine xr_ (xZ_ hcx) fun K hK => ?_; simp only [go_sem, seval, eg]
  refine gU ?_
  refine hK _ ?_; clear hK K
  by_cases e : i = k
  ·subst e
   refine gI (fun h3 => ?_) fun h3 => ?_
   ·refine gB ?_
    refine xd_ (zW_ rfl ?_)
    rfl
   ·exact absurd h3 h1
  ·have hz := h0 i (by omega)
   refine gI (fun h3 => ?_) fun h3 => ?_
   ·exact absurd hz h3
   ·refine xb_ ?_
    refine gB ?_
    refine ⟨i + 1,  by omega, by omega, .inl ⟨gH,  rfl⟩⟩
 ·omega
end Go.Proofs.Ytlngnhbochmcoaa
namespace Go.Proofs.Ytlngnhbochmcoaa
open Go Go.Aw Go.Pl
theorem aq0 {P : Program} {cx : Cx} {n : Nat} {Q : SQ} {st : St} {cs : List Code} {c : Code} (k id : Nat) {lo hi : Nat} {xs : List (List Int)} (hk : st.get k = .sub id [] lo hi) (hf : find st.H id = some (.r2 xs))
  (h : ATs P cx n (c :: cs) Q ⟨(k, .ref id []) :: x2_ [id] [] st.s, x8_ (xt_ (qOf [id] []) st.H) id (.r2 ((xs.take hi).drop lo))⟩) : ATs P cx n (c :: cs) Q st := by
 intro tmps w hs
 obtain ⟨hsz, ι, F, ho, hr⟩ := hs
 have h1 := hr k
 rw [hk] at h1
 obtain ⟨fp, k1, k2, k3⟩ := wb_ (P := P) (e := 0) ho (s := .sub id [] lo hi) (t0 := .r2 ((xs.take hi).drop lo)) (id := id) (by simp [target, hf, Yi_]) h1
 have hlt : ∀ b ∈ fp, b < w.heap.size := fun b hb => by
  obtain ⟨j1, j2⟩ := k3 b hb
  obtain ⟨p, hp, rfl⟩ := List.mem_map.1 j1
  exact (ho.mine b (mem_foot.2 ⟨p, hp, j2⟩)).1
 obtain ⟨v, all, subs, H', ι', F', ⟨rfl, rfl, rfl, rfl⟩, g1, g2, g3⟩ := ho.grow (R := []) (id := id) (t' := .r2 ((xs.take hi).drop lo)) (v' := tmps.getD k undef) (fp := []) (fp' := fp) (w' := w) (by simp) ⟨rfl, rfl, rfl, Nat.le_refl _, fun _ _ _ => rfl⟩ k2
  (fun b hb => ⟨hlt b hb, .inl (k3 b hb)⟩) (fun m hm hr => by
   obtain ⟨us, o1, o2⟩ := k1
   refine ⟨us, by rw [hm]; exact o1, o2.mono fun a c hac => ?_⟩
   have := hr (.l1 a) c (by simp only [rep]; exact hac)
   simpa only [xp_, rep] using this) (fun vs e => by cases e)
  (K := fun v all subs H' => v = .ref id [] ∧ all = [id] ∧ subs = [] ∧ H' = x8_ (xt_ (qOf [id] []) st.H) id (.r2 ((xs.take hi).drop lo))) ⟨rfl, rfl, rfl, by rw [yL_]; rfl⟩
 refine h tmps w ⟨hsz, ι', F', g1, fun j => ?_⟩
 show rep _ (xh_ ((k, AV.ref id []) :: x2_ [id] [] st.s) j) _
 unfold xh_
 split
 ·rename_i e
  subst e
  exact g2
 ·have e := congrFun (zm_ ⟨st.s, st.H⟩ [id] []) j
  rw [e]
  exact g3 _ _ (hr j)
set_option maxHeartbeats 8000000 in
theorem U6_ (n : Nat) (A : List (List Int)) (hA : yV_ n A) (hn : n ≤ 1000) (hm : A.length ≤ 1000) (hm1 : 1 ≤ A.length) : PureCall Try.prog 51 [.l2 A] (.l2 (YU_ n A)) := by
 have hO := zF_ A hm (fun j hj => by
  have h := hA (A.getD j []) (by simp [List.getD, hj])
  rw [h.1]; exact hn)
 have ent := yz_ hA
 have eA := wY_ hA
 unfold YU_ rkL
 generalize e2 A = G0 at *
 obtain ⟨m, em⟩ : ∃ m, A.length = m := ⟨_, rfl⟩
 rw [em] at ent eA hm ⊢
 obtain ⟨pvn, hPn⟩ := Tj_ ent n (Nat.le_refl _)
 have hdn := hPn.dm
 have tk : ((xy_ m n (gj m G0 n).1).take (gj m G0 n).2).drop 0 = xy_ (gj m G0 n).2 n (gj m G0 n).1 := by rw [Wd_ hdn]; rfl
 rw [eA] at hO ⊢
 refine gPC 99 [.tmp 2] Try.call51 Try.func51 fun cx hcx => gE ?_
 refine gBN ?_
 refine gCN fun K hK => ?_
 refine xK_ rfl (hO) rfl ?_; simp only [go_sem, seval]
 refine hK _ ?_; clear hK K
 skip
 (repeat refine xa_ ?_); refine AT.ghost (z1_ 0 rfl) ?_; simp only [find, x2_, xp_, xA_, qOf, rmT, xt_, x4_, x8_, List.map_cons, List.map_nil, List.filter_cons, List.filter_nil, List.contains_cons, List.contains_nil, List.isEmpty_nil, List.isEmpty_cons, Bool.or_false, Bool.or_true, Bool.false_and, Bool.true_and, Bool.and_false, Bool.and_true, Bool.not_true, Bool.not_false, Bool.false_eq_true, if_true, if_false, seval]
 refine gBN ?_
 refine gBN ?_
 (repeat refine xa_ ?_); refine gLp (fun k : Nat => ⟨[(3, .ref 0 []), (4, .int ((gj m G0 k).2 : Nat)), (5, .int k)], [(0, .r2 (xy_ m n (gj m G0 k).1))]⟩) n fun k hk => ?_
 obtain ⟨pv, hP⟩ := Tj_ ent k hk
 have hstep : gj m G0 (k + 1) = gjS m (gj m G0 k) k := rfl
 obtain ⟨s, es⟩ : ∃ s, gj m G0 k = s := ⟨_, rfl⟩
 rw [es] at hP hstep ⊢
 obtain ⟨G, d⟩ := s
 have hdm : d ≤ m := hP.dm
 have hE : ∀ i, i < m → ∀ c, c < n → InP (G i c) := hP.ent
 have lM := xx_ m n G
 have r0 : (xy_ m n G).getD 0 [] = xU_ n (G 0) := xF_ (by omega)
 have l0 := xn_ n (G 0)
 have mpos : ((0 : Int) < (m : Int)) = True := eq_true (by omega)
 try dsimp only
 (repeat refine xa_ ?_); refine xr_ (by first | exact xZ_ hcx | exact yQ_ hcx rfl | exact zE_ hcx rfl) fun K hK => ?_; simp only [go_sem, seval, lM, r0, l0, mpos, decide_true, Bool.true_and]
 refine gU ?_
 refine hK _ ?_; clear hK K
 refine gI (fun hk2 => ?_) fun hk2 => ?_
 ·obtain ⟨f1, f2, f3, f4⟩ := zQ_ G k (m - d) d
  have hgs : gjS m (G, d) k = if wA_ G k (m - d) d < m then (X5_ G d k (wA_ G k (m - d) d), d + 1) else (G, d) := rfl
  rw [hgs] at hstep
  generalize wA_ G k (m - d) d = F at *
  have hkn : k < n := by omega
  refine xb_ ?_
  refine gO ?_
  refine gBN ?_
  (repeat refine xa_ ?_); refine xo_ (fun j : Nat => ⟨[(3, .ref 0 []), (4, .int (d : Nat)), (5, .int k), (6, .int j)], [(0, .r2 (xy_ m n G))]⟩) (fun j => d ≤ j ∧ j ≤ F) (fun j => F - j) d ⟨Nat.le_refl _, f1⟩ (by
   refine And.intro ?_ rfl; simp only [leS, Nat.reduceEqDiff, ↓reduceIte, true_and, and_true]
   try rfl) (fun j hj => ?_)
  obtain ⟨j1, j2⟩ := hj
  by_cases hjm : j < m
  ·have rj : (xy_ m n G).getD j [] = xU_ n (G j) := xF_ hjm
   have lj := xn_ n (G j)
   have ej : (xU_ n (G j)).getD k 0 = G j k := xE_ hkn
   have pj := hE j hjm k hkn
   unfold InP at pj
   have jpos : ((j : Int) < (m : Int)) = True := eq_true (by omega)
   (repeat refine xa_ ?_); refine xr_ (by first | exact xZ_ hcx | exact yQ_ hcx rfl | exact zE_ hcx rfl) fun K hK => ?_; simp only [go_sem, seval, lM, rj, lj, ej, jpos, decide_true, Bool.true_and]
   refine gU ?_
   refine hK _ ?_; clear hK K
   by_cases hz : G j k = 0
   ·have hjF : j < F := by
     rcases Nat.lt_or_ge j F with h | h
     ·exact h
     ·have : j = F := by omega
      subst this
      exact absurd hz (f4 (by omega))
    refine gI (fun hc => ?_) fun hc => ?_
    ·refine xb_ ?_
     refine gO ?_
     refine gBN ?_
     refine ⟨j + 1,  ⟨by omega, by omega⟩, by omega, .inl ⟨gH,  rfl⟩⟩
    ·exact absurd hz hc
   ·have hjF : j = F := by
     rcases Nat.lt_or_ge j F with h | h
     ·exact absurd (f3 j j1 h) hz
     ·omega
    refine gI (fun hc => ?_) fun hc => ?_
    ·exact absurd hc hz
    ·subst hjF
     have Fm : ¬ ((j : Int) = (m : Int)) := by omega
     rw [if_pos hjm] at hstep
     obtain ⟨v, ev⟩ : ∃ v, inv (G j k) = v := ⟨_, rfl⟩
     have hI := Zk_ (G j k) ⟨by omega, by omega⟩
     have pv1 : InP v := by rw [← ev]; exact Yv_ ⟨by omega, by omega⟩
     rw [ev] at hI
     have hS := YS_ n hn (G j) (hE j hjm) v pv1
     have dlt : d < m := by omega
     have rd : (xy_ m n G).getD d [] = xU_ n (G d) := xF_ dlt
     have st1 : (xy_ m n G).set j (xU_ n (G d)) = xy_ m n (fun x => if x = j then G d else G x) := yx_
     obtain ⟨G2, eG2⟩ : ∃ G2, smF (swF G d j) d v = G2 := ⟨_, rfl⟩
     have st2 : (xy_ m n (fun x => if x = j then G d else G x)).set d (xU_ n fun c => G j c * v % 55441) = xy_ m n G2 := by
      rw [yx_, ← eG2]
      refine xC_ fun x _ c _ => ?_
      unfold smF swF
      by_cases e1 : x = d
      ·rw [if_pos e1, if_pos e1, if_pos rfl]
      ·rw [if_neg e1, if_neg e1, if_neg e1]
       by_cases e2 : x = j
       ·rw [if_pos e2, if_pos e2]
       ·rw [if_neg e2, if_neg e2]
     have R2 : ∀ c, G2 d c = G j c * v % 55441 := fun c => by
      rw [← eG2]; unfold smF swF; rw [if_pos rfl, if_pos rfl]
     have E2 : ∀ x, x < m → ∀ c, c < n → InP (G2 x c) := fun x hx c hc => by
      rw [← eG2]; unfold smF swF
      by_cases e1 : x = d
      ·rw [if_pos e1]; exact x7_ _
      ·rw [if_neg e1, if_neg e1]
       split
       ·exact hE d dlt c hc
       ·exact hE x hx c hc
     have eR : xU_ n (fun c => G j c * v % 55441) = xU_ n (G2 d) := yr_ fun c _ => (R2 c).symm
     have lM1 := xx_ m n (fun x => if x = j then G d else G x)
     have hst2 : X5_ G d k j = rdF G2 d k := by unfold X5_; rw [ev, eG2]
     rw [hst2] at hstep
     refine xf_ (ye_ ?_)
     (repeat refine xa_ ?_); refine xr_ (by first | exact xZ_ hcx | exact yQ_ hcx rfl | exact zE_ hcx rfl) fun K hK => ?_; simp only [go_sem, seval, lM]
     refine gU ?_
     refine hK _ ?_; clear hK K
     refine gI (fun hc2 => ?_) fun hc2 => ?_
     ·exact absurd hc2 Fm
     ·refine xb_ ?_
      (repeat refine xa_ ?_); refine xr_ (by first | exact xZ_ hcx | exact yQ_ hcx rfl | exact zE_ hcx rfl) fun K hK => ?_; simp only [go_sem, seval, rj, lM]
      refine gU ?_
      refine hK _ ?_; clear hK K
      (repeat refine xa_ ?_); refine xr_ (by first | exact xZ_ hcx | exact yQ_ hcx rfl | exact zE_ hcx rfl) fun K hK => ?_; simp only [go_sem, seval, rd, st1, lM]
      refine gU ?_
      refine hK _ ?_; clear hK K
      (repeat refine xa_ ?_); refine xr_ (by first | exact xZ_ hcx | exact yQ_ hcx rfl | exact zE_ hcx rfl) fun K hK => ?_; simp only [go_sem, seval, ej, lj]
      refine gU ?_
      first | refine xi_ (hI) rfl ?_ | refine xe_ (xg_ (hI) rfl) ?_
      refine gV ?_
      first | refine xi_ (hS) rfl ?_ | refine xe_ (xg_ (hS) rfl) ?_
      refine gV ?_
      refine hK _ ?_; clear hK K
      (repeat refine xa_ ?_); refine xr_ (by first | exact xZ_ hcx | exact yQ_ hcx rfl | exact zE_ hcx rfl) fun K hK => ?_; simp only [go_sem, seval, st2, lM1]
      refine gU ?_
      refine hK _ ?_; clear hK K
      rw [eR]
      refine gBN ?_
      clear hI hS st1 st2 eR eG2 hst2 tk hO
      have lR := xn_ n (G2 d)
      (repeat refine xa_ ?_); refine gLp (fun i : Nat => ⟨[(3, .ref 0 []), (4, .int (d : Nat)), (5, .int k), (7, .l1 (xU_ n (G2 d))), (8, .int i)], [(0, .r2 (xy_ m n (fun x => if x < i then rdF G2 d k x else G2 x)))]⟩) m fun i hi => ?_
      have lM2 := xx_ m n (fun x => if x < i then rdF G2 d k x else G2 x)
      (repeat refine xa_ ?_); refine xr_ (by first | exact xZ_ hcx | exact yQ_ hcx rfl | exact zE_ hcx rfl) fun K hK => ?_; simp only [go_sem, seval, lM2]
      refine gU ?_
      refine hK _ ?_; clear hK K
      refine gI (fun hi2 => ?_) fun hi2 => ?_
      ·have him : i < m := by omega
       have nx : ∀ g : Nat → Int, (∀ c, c < n → g c = rdF G2 d k i c) → (xy_ m n (fun x => if x < i then rdF G2 d k x else G2 x)).set i (xU_ n g) = xy_ m n (fun x => if x < i + 1 then rdF G2 d k x else G2 x) := fun g hg => by
        rw [yr_ hg, yx_]
        refine xC_ fun x _ c _ => ?_
        by_cases e1 : x = i
        ·rw [if_pos e1, if_pos (by omega), e1]
        ·rw [if_neg e1]
         by_cases e2 : x < i
         ·rw [if_pos e2, if_pos (by omega)]
         ·rw [if_neg e2, if_neg (by omega)]
       refine xb_ ?_
       refine gO ?_
       refine gBN ?_
       by_cases hid : i = d
       ·refine gI (fun hc3 => ?_) fun hc3 => ?_
        ·exact absurd hid (by omega)
        ·refine xb_ ?_
         refine gBN ?_
         subst hid
         have hsame : xy_ m n (fun x => if x < i then rdF G2 i k x else G2 x) = xy_ m n (fun x => if x < i + 1 then rdF G2 i k x else G2 x) := by
          refine xC_ fun x _ c _ => ?_
          by_cases e1 : x = i
          ·subst e1
           rw [if_neg (Nat.lt_irrefl _), if_pos (Nat.lt_succ_self _)]
           unfold rdF
           rw [if_pos rfl]
          ·by_cases e2 : x < i
           ·rw [if_pos e2, if_pos (by omega)]
           ·rw [if_neg e2, if_neg (by omega)]
         refine ⟨i + 1,  by omega, by omega, .inl ⟨gH,  by rw [hsame]⟩⟩
       ·have ri : (xy_ m n (fun x => if x < i then rdF G2 d k x else G2 x)).getD i [] = xU_ n (G2 i) := by
         rw [xF_ him]
         exact congrArg (xU_ n) (if_neg (Nat.lt_irrefl i))
        have li := xn_ n (G2 i)
        have ei : (xU_ n (G2 i)).getD k 0 = G2 i k := xE_ hkn
        have pi := E2 i him k hkn
        unfold InP at pi
        have hM := Yz_ (0 - G2 i k) (by omega) (by omega)
        have hP2 := Wb_ n hn (G2 i) (G2 d) (E2 i him) (E2 d dlt) ((0 - G2 i k) % 55441) (x7_ _)
        have hnx := nx (fun c => (G2 i c + (0 - G2 i k) % 55441 * G2 d c) % 55441) fun c hc => by
         unfold rdF
         rw [if_neg hid, Int.add_emod, Int.mul_emod, Int.emod_emod, ← Int.mul_emod, ← Int.add_emod, Int.sub_mul, Int.zero_mul, Int.zero_sub, ← Int.sub_eq_add_neg]
        refine gI (fun hc3 => ?_) fun hc3 => ?_
        ·(repeat refine xa_ ?_); refine xV_ (by first | exact xZ_ hcx | exact zE_ hcx rfl) mixed (by kernel_rfl) fun K hK => ?_; simp only [go_sem, seval, ri, li, ei, lM2]
         refine gU ?_
         first | refine xi_ (hM) rfl ?_ | refine xe_ (xg_ (hM) rfl) ?_
         refine gW ?_
         first | refine xi_ (hP2) rfl ?_ | refine xe_ (xg_ (hP2) rfl) ?_
         refine gW ?_
         simp only [go_sem, seval, hnx]
         refine hK _ ?_; clear hK K
         refine gBN ?_
         refine ⟨i + 1,  by omega, by omega, .inl ⟨gH,  rfl⟩⟩
        ·exact absurd hc3 (by omega)
      ·obtain rfl : i = m := by omega
       refine xf_ (ye_ ?_)
       refine gBN ?_
       refine gBN ?_
       have hsame : xy_ i n (fun x => if x < i then rdF G2 d k x else G2 x) = xy_ i n (rdF G2 d k) := xC_ fun x hx c _ => by rw [if_pos hx]
       refine ⟨k + 1,  by omega, by omega, .inl ⟨by simp only [leS, Nat.reduceEqDiff, ↓reduceIte, true_and, and_true]; (rw [hstep]; first | rfl | omega | simp),  by rw [hstep, hsame]⟩⟩
  ·have Fm : F = m := by omega
   have hjF : j = m := by omega
   subst hjF
   rw [if_neg (by omega)] at hstep
   have jneg : ((j : Int) < (j : Int)) = False := eq_false (by omega)
   (repeat refine xa_ ?_); refine xr_ (by first | exact xZ_ hcx | exact yQ_ hcx rfl | exact zE_ hcx rfl) fun K hK => ?_; simp only [go_sem, seval, lM, jneg, decide_false]
   refine gU ?_
   refine hK _ ?_; clear hK K
   refine gI (fun hc => ?_) fun hc => ?_
   ·simp at hc
   ·refine xf_ (ye_ ?_)
    (repeat refine xa_ ?_); refine xr_ (by first | exact xZ_ hcx | exact yQ_ hcx rfl | exact zE_ hcx rfl) fun K hK => ?_; simp only [go_sem, seval, lM]
    refine gU ?_
    refine hK _ ?_; clear hK K
    refine gI (fun hc2 => ?_) fun hc2 => ?_
    ·refine xf_ (am6 ?_)
     refine gBN ?_
     refine ⟨k + 1,  by omega, by omega, .inl ⟨by simp only [leS, Nat.reduceEqDiff, ↓reduceIte, true_and, and_true]; (rw [hstep]; first | rfl | omega),  by rw [hstep]⟩⟩
    ·first | exact absurd rfl hc2 | exact absurd trivial hc2
 ·obtain rfl : k = n := by omega
  rw [es] at tk
  refine xf_ (ye_ ?_)
  (repeat refine xa_ ?_); refine xr_ (by first | exact xZ_ hcx | exact yQ_ hcx rfl | exact zE_ hcx rfl) fun K hK => ?_; simp only [go_sem, seval, lM]
  refine gU ?_
  refine hK _ ?_; clear hK K
  rw [es]
  refine xd_ (TT_ rfl ⟨rfl, trivial⟩ ?_)
  exact congrArg (fun z => some (AV.l2 z)) tk
set_option maxHeartbeats 8000000 in
theorem U7_ (n : Nat) (A : List (List Int)) (hA : yV_ n A) (hn : n ≤ 1000) (hm : A.length ≤ 1000) (hm1 : 1 ≤ A.length) : OwnCall Try.prog 51 [.ref 1 []] [(1, .r2 A)] [(0, .r2 (YU_ n A))] (.ref 0 []) [] := by
 have hO := zF_ A hm (fun j hj => by
  have h := hA (A.getD j []) (by simp [List.getD, hj])
  rw [h.1]; exact hn)
 have ent := yz_ hA
 have eA := wY_ hA
 unfold YU_ rkL
 generalize e2 A = G0 at *
 obtain ⟨m, em⟩ : ∃ m, A.length = m := ⟨_, rfl⟩
 rw [em] at ent eA hm ⊢
 obtain ⟨pvn, hPn⟩ := Tj_ ent n (Nat.le_refl _)
 have hdn := hPn.dm
 have tk : ((xy_ m n (gj m G0 n).1).take (gj m G0 n).2).drop 0 = xy_ (gj m G0 n).2 n (gj m G0 n).1 := by rw [Wd_ hdn]; rfl
 rw [eA] at hO ⊢
 refine OwnCall.intro (n := 99) (rs := [.tmp 2]) 0 [] (X := []) Try.call51 Try.func51 rfl rfl rfl (by simp only [List.length_cons, List.length_nil]; omega) (by simp [Aw.ids, y9_, zk_, xD_, xh_]) (fun cx hcx => AT.weakG (yY_ ?_)); refine gE ?_
 refine gBN ?_
 refine gCN fun K hK => ?_
 refine xK_ rfl (hO) rfl ?_; simp only [go_sem, seval]
 refine hK _ ?_; clear hK K
 (repeat refine xa_ ?_); refine AT.ghost (st' := ⟨[(3, .ref 0 [])], [(0, .t2 (xy_ m n G0))]⟩) (xS_ [1] [(2, 0)]) ?_
 (repeat refine xa_ ?_); refine AT.ghost (z1_ 0 rfl) ?_; simp only [find, x2_, xp_, xA_, qOf, rmT, xt_, x4_, x8_, List.map_cons, List.map_nil, List.filter_cons, List.filter_nil, List.contains_cons, List.contains_nil, List.isEmpty_nil, List.isEmpty_cons, Bool.or_false, Bool.or_true, Bool.false_and, Bool.true_and, Bool.and_false, Bool.and_true, Bool.not_true, Bool.not_false, Bool.false_eq_true, if_true, if_false, seval]
 refine gBN ?_
 refine gBN ?_
 (repeat refine xa_ ?_); refine gLp (fun k : Nat => ⟨[(3, .ref 0 []), (4, .int ((gj m G0 k).2 : Nat)), (5, .int k)], [(0, .r2 (xy_ m n (gj m G0 k).1))]⟩) n fun k hk => ?_
 obtain ⟨pv, hP⟩ := Tj_ ent k hk
 have hstep : gj m G0 (k + 1) = gjS m (gj m G0 k) k := rfl
 obtain ⟨s, es⟩ : ∃ s, gj m G0 k = s := ⟨_, rfl⟩
 rw [es] at hP hstep ⊢
 obtain ⟨G, d⟩ := s
 have hdm : d ≤ m := hP.dm
 have hE : ∀ i, i < m → ∀ c, c < n → InP (G i c) := hP.ent
 have lM := xx_ m n G
 have r0 : (xy_ m n G).getD 0 [] = xU_ n (G 0) := xF_ (by omega)
 have l0 := xn_ n (G 0)
 have mpos : ((0 : Int) < (m : Int)) = True := eq_true (by omega)
 try dsimp only
 (repeat refine xa_ ?_); refine xr_ (by first | exact xZ_ hcx | exact yQ_ hcx rfl | exact zE_ hcx rfl) fun K hK => ?_; simp only [go_sem, seval, lM, r0, l0, mpos, decide_true, Bool.true_and]
 refine gU ?_
 refine hK _ ?_; clear hK K
 refine gI (fun hk2 => ?_) fun hk2 => ?_
 ·obtain ⟨f1, f2, f3, f4⟩ := zQ_ G k (m - d) d
  have hgs : gjS m (G, d) k = if wA_ G k (m - d) d < m then (X5_ G d k (wA_ G k (m - d) d), d + 1) else (G, d) := rfl
  rw [hgs] at hstep
  generalize wA_ G k (m - d) d = F at *
  have hkn : k < n := by omega
  refine xb_ ?_
  refine gO ?_
  refine gBN ?_
  (repeat refine xa_ ?_); refine xo_ (fun j : Nat => ⟨[(3, .ref 0 []), (4, .int (d : Nat)), (5, .int k), (6, .int j)], [(0, .r2 (xy_ m n G))]⟩) (fun j => d ≤ j ∧ j ≤ F) (fun j => F - j) d ⟨Nat.le_refl _, f1⟩ (by
   refine And.intro ?_ rfl; simp only [leS, Nat.reduceEqDiff, ↓reduceIte, true_and, and_true]
   try rfl) (fun j hj => ?_)
  obtain ⟨j1, j2⟩ := hj
  by_cases hjm : j < m
  ·have rj : (xy_ m n G).getD j [] = xU_ n (G j) := xF_ hjm
   have lj := xn_ n (G j)
   have ej : (xU_ n (G j)).getD k 0 = G j k := xE_ hkn
   have pj := hE j hjm k hkn
   unfold InP at pj
   have jpos : ((j : Int) < (m : Int)) = True := eq_true (by omega)
   (repeat refine xa_ ?_); refine xr_ (by first | exact xZ_ hcx | exact yQ_ hcx rfl | exact zE_ hcx rfl) fun K hK => ?_; simp only [go_sem, seval, lM, rj, lj, ej, jpos, decide_true, Bool.true_and]
   refine gU ?_
   refine hK _ ?_; clear hK K
   by_cases hz : G j k = 0
   ·have hjF : j < F := by
     rcases Nat.lt_or_ge j F with h | h
     ·exact h
     ·have : j = F := by omega
      subst this
      exact absurd hz (f4 (by omega))
    refine gI (fun hc => ?_) fun hc => ?_
    ·refine xb_ ?_
     refine gO ?_
     refine gBN ?_
     refine ⟨j + 1,  ⟨by omega, by omega⟩, by omega, .inl ⟨gH,  rfl⟩⟩
    ·exact absurd hz hc
   ·have hjF : j = F := by
     rcases Nat.lt_or_ge j F with h | h
     ·exact absurd (f3 j j1 h) hz
     ·omega
    refine gI (fun hc => ?_) fun hc => ?_
    ·exact absurd hc hz
    ·subst hjF
     have Fm : ¬ ((j : Int) = (m : Int)) := by omega
     rw [if_pos hjm] at hstep
     obtain ⟨v, ev⟩ : ∃ v, inv (G j k) = v := ⟨_, rfl⟩
     have hI := Zk_ (G j k) ⟨by omega, by omega⟩
     have pv1 : InP v := by rw [← ev]; exact Yv_ ⟨by omega, by omega⟩
     rw [ev] at hI
     have hS := YS_ n hn (G j) (hE j hjm) v pv1
     have dlt : d < m := by omega
     have rd : (xy_ m n G).getD d [] = xU_ n (G d) := xF_ dlt
     have st1 : (xy_ m n G).set j (xU_ n (G d)) = xy_ m n (fun x => if x = j then G d else G x) := yx_
     obtain ⟨G2, eG2⟩ : ∃ G2, smF (swF G d j) d v = G2 := ⟨_, rfl⟩
     have st2 : (xy_ m n (fun x => if x = j then G d else G x)).set d (xU_ n fun c => G j c * v % 55441) = xy_ m n G2 := by
      rw [yx_, ← eG2]
      refine xC_ fun x _ c _ => ?_
      unfold smF swF
      by_cases e1 : x = d
      ·rw [if_pos e1, if_pos e1, if_pos rfl]
      ·rw [if_neg e1, if_neg e1, if_neg e1]
       by_cases e2 : x = j
       ·rw [if_pos e2, if_pos e2]
       ·rw [if_neg e2, if_neg e2]
     have R2 : ∀ c, G2 d c = G j c * v % 55441 := fun c => by
      rw [← eG2]; unfold smF swF; rw [if_pos rfl, if_pos rfl]
     have E2 : ∀ x, x < m → ∀ c, c < n → InP (G2 x c) := fun x hx c hc => by
      rw [← eG2]; unfold smF swF
      by_cases e1 : x = d
      ·rw [if_pos e1]; exact x7_ _
      ·rw [if_neg e1, if_neg e1]
       split
       ·exact hE d dlt c hc
       ·exact hE x hx c hc
     have eR : xU_ n (fun c => G j c * v % 55441) = xU_ n (G2 d) := yr_ fun c _ => (R2 c).symm
     have lM1 := xx_ m n (fun x => if x = j then G d else G x)
     have hst2 : X5_ G d k j = rdF G2 d k := by unfold X5_; rw [ev, eG2]
     rw [hst2] at hstep
     refine xf_ (ye_ ?_)
     (repeat refine xa_ ?_); refine xr_ (by first | exact xZ_ hcx | exact yQ_ hcx rfl | exact zE_ hcx rfl) fun K hK => ?_; simp only [go_sem, seval, lM]
     refine gU ?_
     refine hK _ ?_; clear hK K
     refine gI (fun hc2 => ?_) fun hc2 => ?_
     ·exact absurd hc2 Fm
     ·refine xb_ ?_
      (repeat refine xa_ ?_); refine xr_ (by first | exact xZ_ hcx | exact yQ_ hcx rfl | exact zE_ hcx rfl) fun K hK => ?_; simp only [go_sem, seval, rj, lM]
      refine gU ?_
      refine hK _ ?_; clear hK K
      (repeat refine xa_ ?_); refine xr_ (by first | exact xZ_ hcx | exact yQ_ hcx rfl | exact zE_ hcx rfl) fun K hK => ?_; simp only [go_sem, seval, rd, st1, lM]
      refine gU ?_
      refine hK _ ?_; clear hK K
      (repeat refine xa_ ?_); refine xr_ (by first | exact xZ_ hcx | exact yQ_ hcx rfl | exact zE_ hcx rfl) fun K hK => ?_; simp only [go_sem, seval, ej, lj]
      refine gU ?_
      first | refine xi_ (hI) rfl ?_ | refine xe_ (xg_ (hI) rfl) ?_
      refine gV ?_
      first | refine xi_ (hS) rfl ?_ | refine xe_ (xg_ (hS) rfl) ?_
      refine gV ?_
      refine hK _ ?_; clear hK K
      (repeat refine xa_ ?_); refine xr_ (by first | exact xZ_ hcx | exact yQ_ hcx rfl | exact zE_ hcx rfl) fun K hK => ?_; simp only [go_sem, seval, st2, lM1]
      refine gU ?_
      refine hK _ ?_; clear hK K
      rw [eR]
      refine gBN ?_
      clear hI hS st1 st2 eR eG2 hst2 tk hO
      have lR := xn_ n (G2 d)
      (repeat refine xa_ ?_); refine gLp (fun i : Nat => ⟨[(3, .ref 0 []), (4, .int (d : Nat)), (5, .int k), (7, .l1 (xU_ n (G2 d))), (8, .int i)], [(0, .r2 (xy_ m n (fun x => if x < i then rdF G2 d k x else G2 x)))]⟩) m fun i hi => ?_
      have lM2 := xx_ m n (fun x => if x < i then rdF G2 d k x else G2 x)
      (repeat refine xa_ ?_); refine xr_ (by first | exact xZ_ hcx | exact yQ_ hcx rfl | exact zE_ hcx rfl) fun K hK => ?_; simp only [go_sem, seval, lM2]
      refine gU ?_
      refine hK _ ?_; clear hK K
      refine gI (fun hi2 => ?_) fun hi2 => ?_
      ·have him : i < m := by omega
       have nx : ∀ g : Nat → Int, (∀ c, c < n → g c = rdF G2 d k i c) → (xy_ m n (fun x => if x < i then rdF G2 d k x else G2 x)).set i (xU_ n g) = xy_ m n (fun x => if x < i + 1 then rdF G2 d k x else G2 x) := fun g hg => by
        rw [yr_ hg, yx_]
        refine xC_ fun x _ c _ => ?_
        by_cases e1 : x = i
        ·rw [if_pos e1, if_pos (by omega), e1]
        ·rw [if_neg e1]
         by_cases e2 : x < i
         ·rw [if_pos e2, if_pos (by omega)]
         ·rw [if_neg e2, if_neg (by omega)]
       refine xb_ ?_
       refine gO ?_
       refine gBN ?_
       by_cases hid : i = d
       ·refine gI (fun hc3 => ?_) fun hc3 => ?_
        ·exact absurd hid (by omega)
        ·refine xb_ ?_
         refine gBN ?_
         subst hid
         have hsame : xy_ m n (fun x => if x < i then rdF G2 i k x else G2 x) = xy_ m n (fun x => if x < i + 1 then rdF G2 i k x else G2 x) := by
          refine xC_ fun x _ c _ => ?_
          by_cases e1 : x = i
          ·subst e1
           rw [if_neg (Nat.lt_irrefl _), if_pos (Nat.lt_succ_self _)]
           unfold rdF
           rw [if_pos rfl]
          ·by_cases e2 : x < i
           ·rw [if_pos e2, if_pos (by omega)]
           ·rw [if_neg e2, if_neg (by omega)]
         refine ⟨i + 1,  by omega, by omega, .inl ⟨gH,  by rw [hsame]⟩⟩
       ·have ri : (xy_ m n (fun x => if x < i then rdF G2 d k x else G2 x)).getD i [] = xU_ n (G2 i) := by
         rw [xF_ him]
         exact congrArg (xU_ n) (if_neg (Nat.lt_irrefl i))
        have li := xn_ n (G2 i)
        have ei : (xU_ n (G2 i)).getD k 0 = G2 i k := xE_ hkn
        have pi := E2 i him k hkn
        unfold InP at pi
        have hM := Yz_ (0 - G2 i k) (by omega) (by omega)
        have hP2 := Wb_ n hn (G2 i) (G2 d) (E2 i him) (E2 d dlt) ((0 - G2 i k) % 55441) (x7_ _)
        have hnx := nx (fun c => (G2 i c + (0 - G2 i k) % 55441 * G2 d c) % 55441) fun c hc => by
         unfold rdF
         rw [if_neg hid, Int.add_emod, Int.mul_emod, Int.emod_emod, ← Int.mul_emod, ← Int.add_emod, Int.sub_mul, Int.zero_mul, Int.zero_sub, ← Int.sub_eq_add_neg]
        refine gI (fun hc3 => ?_) fun hc3 => ?_
        ·(repeat refine xa_ ?_); refine xV_ (by first | exact xZ_ hcx | exact zE_ hcx rfl) mixed (by kernel_rfl) fun K hK => ?_; simp only [go_sem, seval, ri, li, ei, lM2]
         refine gU ?_
         first | refine xi_ (hM) rfl ?_ | refine xe_ (xg_ (hM) rfl) ?_
         refine gW ?_
         first | refine xi_ (hP2) rfl ?_ | refine xe_ (xg_ (hP2) rfl) ?_
         refine gW ?_
         simp only [go_sem, seval, hnx]
         refine hK _ ?_; clear hK K
         refine gBN ?_
         refine ⟨i + 1,  by omega, by omega, .inl ⟨gH,  rfl⟩⟩
        ·exact absurd hc3 (by omega)
      ·obtain rfl : i = m := by omega
       refine xf_ (ye_ ?_)
       refine gBN ?_
       refine gBN ?_
       have hsame : xy_ i n (fun x => if x < i then rdF G2 d k x else G2 x) = xy_ i n (rdF G2 d k) := xC_ fun x hx c _ => by rw [if_pos hx]
       refine ⟨k + 1,  by omega, by omega, .inl ⟨by simp only [leS, Nat.reduceEqDiff, ↓reduceIte, true_and, and_true]; (rw [hstep]; first | rfl | omega | simp),  by rw [hstep, hsame]⟩⟩
  ·have Fm : F = m := by omega
   have hjF : j = m := by omega
   subst hjF
   rw [if_neg (by omega)] at hstep
   have jneg : ((j : Int) < (j : Int)) = False := eq_false (by omega)
   (repeat refine xa_ ?_); refine xr_ (by first | exact xZ_ hcx | exact yQ_ hcx rfl | exact zE_ hcx rfl) fun K hK => ?_; simp only [go_sem, seval, lM, jneg, decide_false]
   refine gU ?_
   refine hK _ ?_; clear hK K
   refine gI (fun hc => ?_) fun hc => ?_
   ·simp at hc
   ·refine xf_ (ye_ ?_)
    (repeat refine xa_ ?_); refine xr_ (by first | exact xZ_ hcx | exact yQ_ hcx rfl | exact zE_ hcx rfl) fun K hK => ?_; simp only [go_sem, seval, lM]
    refine gU ?_
    refine hK _ ?_; clear hK K
    refine gI (fun hc2 => ?_) fun hc2 => ?_
    ·refine xf_ (am6 ?_)
     refine gBN ?_
     refine ⟨k + 1,  by omega, by omega, .inl ⟨by simp only [leS, Nat.reduceEqDiff, ↓reduceIte, true_and, and_true]; (rw [hstep]; first | rfl | omega),  by rw [hstep]⟩⟩
    ·first | exact absurd rfl hc2 | exact absurd trivial hc2
 ·obtain rfl : k = n := by omega
  rw [es] at tk
  refine xf_ (ye_ ?_)
  (repeat refine xa_ ?_); refine xr_ (by first | exact xZ_ hcx | exact yQ_ hcx rfl | exact zE_ hcx rfl) fun K hK => ?_; simp only [go_sem, seval, lM]
  refine gU ?_
  refine hK _ ?_; clear hK K
  rw [es]
  refine aq0 2 0 rfl rfl ?_; simp only [x2_, xp_, xA_, qOf, rmT, xt_, x4_, x8_, List.map_cons, List.map_nil, List.filter_cons, List.filter_nil, List.contains_cons, List.contains_nil, Bool.or_false, Bool.or_true, Bool.false_and, Bool.not_true, Bool.not_false, Bool.false_eq_true, if_true, if_false, seval]; rw [tk]
  refine xd_ ⟨⟨[(2, .ref 0 [])], [(0, .r2 (xy_ d k G))]⟩, xS_ [] [], .inr rfl, (by first | rfl | exact ⟨trivial, rfl⟩ | (simp only [wg_, V8_, go_sem, seval]; done)), (by simp [St.get, xh_, xD_]), rfl⟩
set_option maxHeartbeats 8000000 in
theorem YT_ (n : Nat) (A : List (List Int)) (hA : yV_ n A) (hn : n ≤ 1000) (hm : A.length ≤ 1000) : PureCall Try.prog 51 [.l2 A] (.l2 (YU_ n A)) := by
 by_cases hA1 : 1 ≤ A.length
 ·exact U6_ n A hA hn hm hA1
 have hO := zF_ A hm (fun j hj => by
  have h := hA (A.getD j []) (by simp [List.getD, hj])
  rw [h.1]; exact hn)
 have ent := yz_ hA
 have eA := wY_ hA
 unfold YU_ rkL
 generalize e2 A = G0 at *
 obtain ⟨m, em⟩ : ∃ m, A.length = m := ⟨_, rfl⟩
 rw [em] at ent eA hm ⊢
 obtain ⟨pvn, hPn⟩ := Tj_ ent n (Nat.le_refl _)
 have hdn := hPn.dm
 obtain rfl : m = 0 := by omega
 have hd0 : (gj 0 G0 n).2 = 0 := by omega
 rw [hd0]
 rw [show A = [] from eA] at hO ⊢
 refine gPC 99 [.tmp 2] Try.call51 Try.func51 fun cx hcx => gE ?_
 refine gBN ?_
 refine gCN fun K hK => ?_
 refine xK_ rfl (hO) rfl ?_; simp only [go_sem, seval]
 refine hK _ ?_; clear hK K
 refine gBN ?_
 refine gBN ?_
 (repeat refine xa_ ?_)
 refine VT_ ⟨[(3, .ref 0 []), (4, .int 0)], [(0, .t2 [])]⟩ ?_ ?_
 ·(repeat refine xa_ ?_); refine gLp (fun k : Nat => ⟨[(3, .ref 0 []), (4, .int 0), (5, .int 0)], [(0, .t2 [])]⟩) 0 fun k hk => ?_
  refine gBN ?_
  refine gI (fun hh => ?_) fun hh => ?_
  ·simp at hh
  ·refine xf_ (ye_ ?_)
   refine yf_ ?_; refine Or.inl ⟨rfl, xS_ [] []⟩
 refine gBN ?_
 exact xd_ (TT_ rfl ⟨rfl, trivial⟩ rfl)
end Go.Proofs.Ytlngnhbochmcoaa
namespace Go.Proofs.Ytlngnhbochmcoaa
open Go Go.Aw Go.Pl
theorem basL_rows {n : Nat} {A : List (List Int)} (hA : yV_ n A) : yV_ n (YU_ n A) := by
 obtain ⟨pv, hP⟩ := Tj_ (yz_ hA) n (Nat.le_refl _)
 have hd := hP.dm
 intro r hr
 unfold YU_ at hr
 obtain ⟨i, hi, rfl⟩ := List.mem_map.1 hr
 refine ⟨xn_ _ _, fun x hx => ?_⟩
 obtain ⟨c, hc, rfl⟩ := List.mem_map.1 hx
 exact hP.ent i (by have := List.mem_range.1 hi; unfold rkL at this; omega) c (List.mem_range.1 hc)
theorem aq1 {pv : Nat → Nat} {r k : Nat} : ((xU_ r fun i => ((pv i : Nat) : Int)).any fun y => decide (y = (k : Int))) = U8_ pv r k := by
 unfold xU_ U8_
 rw [List.any_map]
 congr 1
 funext i
 exact decide_eq_decide.2 (by show ((pv i : Nat) : Int) = (k : Int) ↔ _; omega)
set_option maxHeartbeats 8000000 in
theorem VO_ (n : Nat) (A : List (List Int)) (hA : yV_ n A) (h1 : 1 ≤ A.length) (hm : A.length ≤ 1000) (hn1 : 1 ≤ n) (hn : n ≤ 1000) :
  ∃ K : List (List Int), K.length = n - rkL n A ∧ PureCall Try.prog 54 [.l2 A] (.l2 K) := by
 have hB := YT_ n A hA hn hm
 obtain ⟨pv, hP⟩ := Tj_ (yz_ hA) n (Nat.le_refl _)
 have hdm := hP.dm
 have hl0 : (A.getD 0 []).length = n := (hA (A.getD 0 []) (by simp [List.getD, show 0 < A.length by omega])).1
 unfold YU_ at hB
 have hrk : rkL n A = (gj A.length (e2 A) n).2 := rfl
 rw [← hrk] at hP hdm
 obtain ⟨r, er⟩ : ∃ r, rkL n A = r := ⟨_, rfl⟩
 rw [er] at hB hP hdm ⊢
 have hinj := fun i j hi hj e => hP.inj (i := i) (j := j) hi hj e
 have hfl := aG4 (n := n) hP.pk hinj
 obtain ⟨G, eG⟩ : ∃ G, (gj A.length (e2 A) n).1 = G := ⟨_, rfl⟩
 rw [eG] at hB hP
 have hE := hP.ent
 have hone := hP.one
 have hlead := hP.lead
 have hpk := hP.pk
 have kr := Ta_ (G := G) (pv := pv) (d := r) (n := n) (k := n)
 have kk := aG5 (G := G) (pv := pv) (d := r) (n := n)
 have kl : ∀ k, (W2_ G pv r n k).length ≤ k := fun k => by
  unfold W2_
  rw [List.length_map, U9_]
  exact Nat.le_trans (List.length_filter_le ..) (by rw [List.length_range]; exact Nat.le_refl _)
 have hKer := YT_ n (W2_ G pv r n n) kr hn (by have := kl n; omega)
 have kb := basL_rows kr
 have kbl : (YU_ n (W2_ G pv r n n)).length = n - r := by rw [wq_, kk, hfl]
 generalize YU_ n (W2_ G pv r n n) = K at *
 have hO := zF_ K (by omega) (fun j hj => by rw [(kb (K.getD j []) (by simp [List.getD, hj])).1]; exact hn)
 refine ⟨K, kbl, ?_⟩
 clear kb kk kr hfl hinj hP eG hrk er hA
 have lR := xx_ r n G
 refine gPC 74 [.tmp 2] Try.call54 Try.func54 fun cx hcx => gE ?_
 refine gB ?_
 (repeat refine xa_ ?_); refine xV_ (xZ_ hcx) mixed (by kernel_rfl) fun K hK => ?_; simp only [go_sem, seval]
 refine gU ?_
 first | refine xi_ (hB) rfl ?_ | refine xe_ (xg_ (hB) rfl) ?_
 refine gV ?_
 simp only [go_sem, seval, hl0]
 refine gU ?_
 refine hK _ ?_; clear hK K
 refine gB ?_
 refine gB ?_
 (repeat refine xa_ ?_); refine gLp (fun i : Nat => ⟨[(3, .l2 (xy_ r n G)), (4, .int n), (5, .ref 0 []), (6, .ref 1 []), (7, .int i)], [(0, .t1 (xU_ i fun i => ((pv i : Nat) : Int))), (1, .t2 [])]⟩) r fun i hi => ?_
 have lp := xn_ i fun i => ((pv i : Nat) : Int)
 (repeat refine xa_ ?_); refine xr_ (by first | exact xZ_ hcx | exact yQ_ hcx rfl) fun K hK => ?_; simp only [go_sem, seval, lR]
 refine gU ?_
 refine hK _ ?_; clear hK K
 refine gI (fun hc2 => ?_) fun hc2 => ?_
 ·have hi : i < r := by omega
  have ri : (xy_ r n G).getD i [] = xU_ n (G i) := xF_ hi
  have hF := U5_ n hn (G i) (hE i (by omega)) (pv i) (hpk i hi) (hlead i hi) (by rw [hone i (by omega) i hi, if_pos rfl]; decide)
  have st := rowF_succ (n := i) (f := fun i => ((pv i : Nat) : Int))
  refine xb_ ?_
  refine gO ?_
  (repeat refine xa_ ?_); refine xr_ (by first | exact xZ_ hcx | exact yQ_ hcx rfl) fun K hK => ?_; simp only [go_sem, seval, ri, lR]
  refine gU ?_
  first | refine xi_ (hF) rfl ?_ | refine xe_ (xg_ (hF) rfl) ?_
  refine gW ?_
  refine hK _ ?_; clear hK K
  refine gB ?_
  refine ⟨i + 1, by omega, by omega, .inr ⟨[2], gK0, aJ8 ?_⟩⟩; rw [st]
 ·obtain rfl : i = r := by omega
  refine xf_ (ye_ ?_)
  refine gB ?_
  have hd0 : W2_ G pv i n 0 = [] := rfl
  (repeat refine xa_ ?_); refine gLp (fun k : Nat => ⟨[(3, .l2 (xy_ i n G)), (4, .int n), (5, .ref 0 []), (6, .ref 1 []), (8, .int k)], [(0, .t1 (xU_ i fun i => ((pv i : Nat) : Int))), (1, .t2 (W2_ G pv i n k))]⟩) n fun k hk => ?_
  have lk := kl k
  have hH := QY_ (xU_ i fun i => ((pv i : Nat) : Int)) k
  rw [aq1] at hH
  refine gB ?_
  refine gI (fun hc4 => ?_) fun hc4 => ?_
  ·have hk' : k < n := by omega
   refine xb_ ?_
   refine gO ?_
   cases hp : U8_ pv i k with
   | true =>
    rw [hp] at hH
    have ks : W2_ G pv i n (k + 1) = W2_ G pv i n k := by
     have : frL pv i (k + 1) = frL pv i k := by rw [frL, hp]; rfl
     unfold W2_
     rw [this]
    refine gC fun K hK => ?_
    first | refine xM_ rfl rfl (hH) ?_ | refine xe_ (xG_ rfl rfl (hH)) ?_
    refine gV ?_
    refine hK _ ?_; clear hK K
    refine gR ?_
    refine xf_ (am6 ?_)
    refine gB ?_
    refine ⟨k + 1,  by omega, by omega, .inl ⟨gH,  by rw [ks]⟩⟩
   | false =>
    rw [hp] at hH
    have ks : W2_ G pv i n (k + 1) = W2_ G pv i n k ++ [xU_ n (kvG G pv k i)] := by
     have : frL pv i (k + 1) = frL pv i k ++ [k] := by rw [frL, hp]; rfl
     unfold W2_
     rw [this, List.map_append]
     rfl
    have k0 : (List.replicate n (0 : Int)).set k 1 = xU_ n (kvG G pv k 0) := by
     have e : List.replicate n (0 : Int) = xU_ n (fun _ => 0) := by simp [xU_, List.map_const']
     rw [e, wn_]
     rfl
    refine gC fun K hK => ?_
    first | refine xM_ rfl rfl (hH) ?_ | refine xe_ (xG_ rfl rfl (hH)) ?_
    refine gV ?_
    refine hK _ ?_; clear hK K
    refine gQ ?_
    refine xb_ ?_
    refine gB ?_
    (repeat refine xa_ ?_); refine xr_ (by first | exact xZ_ hcx | exact yQ_ hcx rfl) fun K hK => ?_; simp only [go_sem, seval, List.length_replicate]
    refine gU ?_
    refine hK _ ?_; clear hK K
    rw [k0]
    refine gB ?_
    (repeat refine xa_ ?_); refine gLp (fun j : Nat => ⟨[(3, .l2 (xy_ i n G)), (4, .int n), (5, .ref 0 []), (6, .ref 1 []), (8, .int k), (9, .ref 2 []), (10, .int j)], [(0, .t1 (xU_ i fun i => ((pv i : Nat) : Int))), (1, .t2 (W2_ G pv i n k)), (2, .t1 (xU_ n (kvG G pv k j)))]⟩) i fun j hj => ?_
    have lv := xn_ n (kvG G pv k j)
    have lpi := xn_ i fun i => ((pv i : Nat) : Int)
    (repeat refine xa_ ?_); refine xr_ (by first | exact xZ_ hcx | exact yQ_ hcx rfl) fun K hK => ?_; simp only [go_sem, seval, lR]
    refine gU ?_
    refine hK _ ?_; clear hK K
    refine gI (fun hc7 => ?_) fun hc7 => ?_
    ·have hj' : j < i := by omega
     have rj : (xy_ i n G).getD j [] = xU_ n (G j) := xF_ hj'
     have lj := xn_ n (G j)
     have ej : (xU_ n (G j)).getD k 0 = G j k := xE_ hk'
     have pj : (xU_ i fun i => ((pv i : Nat) : Int)).getD j 0 = ((pv j : Nat) : Int) := xE_ hj'
     have eI := hE j (by omega) k hk'
     unfold InP at eI
     have hM := Yz_ (0 - G j k) (by omega) (by omega)
     have hpn := hpk j hj'
     have sv : (xU_ n (kvG G pv k j)).set (pv j) ((0 - G j k) % 55441) = xU_ n (kvG G pv k (j + 1)) := by rw [wn_]; rfl
     have tN : ((pv j : Nat) : Int).toNat = pv j := Int.toNat_natCast _
     refine xb_ ?_
     refine gO ?_
     (repeat refine xa_ ?_); refine xV_ (xZ_ hcx) mixed (by kernel_rfl) fun K hK => ?_; simp only [go_sem, seval, rj, lj, ej, pj, lR, lpi, lv, tN]
     refine gU ?_
     first | refine xi_ (hM) rfl ?_ | refine xe_ (xg_ (hM) rfl) ?_
     refine gV ?_
     simp only [go_sem, seval, rj, lj, ej, pj, lR, lpi, lv, tN, sv]
     refine gU ?_
     refine hK _ ?_; clear hK K
     refine gB ?_
     refine ⟨j + 1,  by omega, by omega, .inl ⟨gH,  rfl⟩⟩
    ·obtain rfl : j = i := by omega
     have lv2 := kl k
     refine xf_ (ye_ ?_)
     refine gB ?_
     refine gB ?_
     refine ⟨k + 1,  by omega, by omega, .inl ⟨gH,  by rw [ks]⟩⟩
  ·obtain rfl : k = n := by omega
   refine xf_ (ye_ ?_)
   (repeat refine xa_ ?_); refine AT.ghost (JQ_ [1]) ?_; simp only [Ua_, find, xp_, xA_, qOf, rmT, xt_, x4_, List.map_cons, List.map_nil, List.filter_cons, List.filter_nil, List.contains_cons, List.contains_nil, Bool.or_false, Bool.or_true, Bool.false_and, Bool.not_true, Bool.not_false, Bool.false_eq_true, if_true, if_false, seval]
   refine gC fun K hK => ?_
   first | refine xi_ (hKer) rfl ?_ | refine xe_ (xg_ (hKer) rfl) ?_
   refine gV ?_
   first | refine x3_ rfl (hO) ?_ | refine xe_ (xP_ rfl (hO)) ?_
   refine gV ?_
   refine hK _ ?_; clear hK K
   exact xd_ (TT_ rfl ⟨rfl, trivial⟩ rfl)
end Go.Proofs.Ytlngnhbochmcoaa
namespace Go.Proofs.Ytlngnhbochmcoaa
open Go Go.Aw Go.Pl
end Go.Proofs.Ytlngnhbochmcoaa
namespace Go.Proofs.Ytlngnhbochmcoaa
open Go Go.Aw Go.Pl
theorem aG0 (x : List Int) (k : Nat) (h : k < x.length) : PureCall Try.prog 88 [.l1 x, .cptr [.int (k : Int)] 0] (.bool (decide (x.getD k 0 ≠ 0))) := by
 refine gPC 9 [.tmp 3] Try.call88 Try.func88 fun cx hcx => gE ?_
 refine gB ?_
 refine gC fun K hK => ?_
 refine gU ?_
 refine hK _ ?_; clear hK K
 refine xd_ (yZ_ rfl ?_)
 simp
theorem JJ_ (xs : List (List Int)) (f : Nat) (caps : List AV) (p : List Int → Bool) (hd : yd_ caps = true) (hf : ∀ i, i < xs.length → PureCall Try.prog f (.l1 (xs.getD i []) :: caps) (.bool (p (xs.getD i [])))) (j : Nat) (hj : j ≤ xs.length) (h0 : ∀ i, i < j → p (xs.getD i []) = false) (h1 : j < xs.length → p (xs.getD j []) = true) : PureCall Try.prog 65 [.l2 xs, .fn f caps] (.int (if j < xs.length then (j : Int) else -1)) := by
 refine gPC 19 [.tmp 4] Try.call65 Try.func65 fun cx hcx => gE ?_
 refine gA ?_
 refine yg_ 0 fun hw => ?_; simp only [St.get, xh_, Nat.reduceEqDiff, ↓reduceIte, if_true, fact, facts] at hw
 have hlen := hw.1
 refine gA ?_
 (repeat refine xa_ ?_); refine gLp (fun k : Nat => ⟨[(0, .l2 xs), (1, .fn f caps), (7, .int xs.length), (8, .int k)], []⟩) j fun k hk => ?_
 refine gA ?_
 refine gI (fun h2 => ?_) fun h2 => ?_
 ·have hf1 := hf k (by omega)
  by_cases e : k = j
  ·subst e
   rw [h1 (by omega)] at hf1
   refine xb_ ?_
   refine gO ?_
   refine gA ?_
   refine gC fun K hK => ?_
   refine gU ?_
   refine xi_ hf1 (by simp only [yd_, Aw.isData, hd, Bool.and_true]) ?_
   refine gV ?_
   refine hK _ ?_; clear hK K
   refine gR ?_
   refine gA ?_
   refine xd_ (zW_ rfl ?_)
   rw [if_pos (by omega)]
  ·rw [h0 k (by omega)] at hf1
   refine xb_ ?_
   refine gO ?_
   refine gA ?_
   refine gC fun K hK => ?_
   refine gU ?_
   refine xi_ hf1 (by simp only [yd_, Aw.isData, hd, Bool.and_true]) ?_
   refine gV ?_
   refine hK _ ?_; clear hK K
   refine gQ ?_
   refine xb_ ?_
   refine gB ?_
   refine ⟨k + 1,  by omega, by omega, .inl ⟨gH,  rfl⟩⟩
 ·refine xf_ (ye_ ?_)
  refine gA ?_
  refine xd_ (zW_ rfl ?_)
  rw [if_neg (by omega)]
end Go.Proofs.Ytlngnhbochmcoaa
namespace Go.Proofs.Ytlngnhbochmcoaa
open Go Go.Aw Go.Pl
attribute [local go_sem] aV1 aF7 aV2 aV3 bg9 zO_ List.getElem?_toArray List.getElem?_cons_zero List.getElem?_cons_succ
set_option maxHeartbeats 16000000 in
theorem QG_ (n : Nat) (A : List (List Int)) (hA : yV_ n A) (hn1 : 1 ≤ n) (hn : n ≤ 1000) (hm : A.length ≤ 1000) (hm1 : 1 ≤ A.length) : ∃ det : Int, FreshCall Try.prog 64 [.l2 A] (.tup [.l2 (YU_ n A), .int det]) := by
 have hC : ∀ i, i < A.length → FreshCall Try.prog 37 [.l1 (A.getD i [])] (.l1 (A.getD i [])) := fun i hi => by
  have h := hA (A.getD i []) (by simp [List.getD, hi])
  exact X2_ _ (by omega) (by omega)
 have hlA : ∀ i, i < A.length → (A.getD i []).length = n := fun i hi => (hA (A.getD i []) (by simp [List.getD, hi])).1
 have ent := yz_ hA
 have eA := wY_ hA
 unfold YU_ rkL
 generalize e2 A = G0 at *
 obtain ⟨m, em⟩ : ∃ m, A.length = m := ⟨_, rfl⟩
 rw [em] at ent eA hm hm1 hC hlA ⊢
 obtain ⟨pvn, hPn⟩ := Tj_ ent n (Nat.le_refl _)
 have hdn := hPn.dm
 have tk : ((xy_ m n (gj m G0 n).1).take (gj m G0 n).2).drop 0 = xy_ (gj m G0 n).2 n (gj m G0 n).1 := by rw [Wd_ hdn]; rfl
 -- the determinant, told along
 obtain ⟨dt, hdt0, hdtS⟩ : ∃ dt : Nat → Int, dt 0 = 1 ∧ ∀ k, dt (k + 1) = (if wA_ (gj m G0 k).1 k (m - (gj m G0 k).2) (gj m G0 k).2 < m then (if wA_ (gj m G0 k).1 k (m - (gj m G0 k).2) (gj m G0 k).2 = (gj m G0 k).2 then dt k else (0 - dt k) % 55441) * (gj m G0 k).1 (wA_ (gj m G0 k).1 k (m - (gj m G0 k).2) (gj m G0 k).2) k % 55441 else 0) :=
  ⟨fun k => Nat.rec 1 (fun k d => (if wA_ (gj m G0 k).1 k (m - (gj m G0 k).2) (gj m G0 k).2 < m then (if wA_ (gj m G0 k).1 k (m - (gj m G0 k).2) (gj m G0 k).2 = (gj m G0 k).2 then d else (0 - d) % 55441) * (gj m G0 k).1 (wA_ (gj m G0 k).1 k (m - (gj m G0 k).2) (gj m G0 k).2) k % 55441 else 0)) k, rfl, fun _ => rfl⟩
 have hdtP : ∀ k, InP (dt k) := fun k => by
  cases k with
  | zero => rw [hdt0]; exact ⟨by omega, by omega⟩
  | succ k =>
   rw [hdtS]
   split
   ·exact x7_ _
   ·exact ⟨by omega, by omega⟩
 refine ⟨dt n, ?_⟩
 refine gFC 165 [.tmp 2, .tmp 3] Try.call64 Try.func64 fun cx hcx => gE ?_
 refine gB ?_
 refine gB ?_
 refine gB ?_
 (repeat refine xa_ ?_); refine gLp (fun i : Nat => ⟨[(4, .ref 0 []), (5, .int 1), (19, .l2 A), (20, .int m), (21, .int i)], [(0, .t2 (A.take i))]⟩) m fun i hi => ?_
 have lt : (A.take i).length = i := by rw [List.length_take]; omega
 refine gB ?_
 refine gI (fun hc2 => ?_) fun hc2 => ?_
 ·have hi' : i < m := by omega
  have hCi := hC i hi'
  have hli := hlA i hi'
  have st := take_snoc (xs := A) (d := []) (k := i) (by omega)
  refine xb_ ?_
  refine gO ?_
  refine gB ?_
  refine gC fun K hK => ?_
  refine xK_ rfl (hCi) rfl ?_; simp only [go_sem, seval]
  refine gU ?_
  refine hK _ ?_; clear hK K
  refine gB ?_
  refine ⟨i + 1,  by omega, by omega, .inl ⟨gH,  by rw [st]⟩⟩
 ·obtain rfl : i = m := by omega
  rw [List.take_of_length_le (by omega), eA]
  clear hC hlA
  refine xf_ (ye_ ?_)
  refine gB ?_
  refine gB ?_
  (repeat refine xa_ ?_); refine AT.ghost (st' := ⟨[(4, .ref 0 []), (5, .int 1), (8, .int 0), (9, .bptr 1 0)], [(0, .t2 (xy_ i n G0)), (1, .bx [.int 0])]⟩) (xS_ [] []) ?_
  (repeat refine xa_ ?_)
  refine xo_ (fun k : Nat => ⟨[(4, .ref 0 []), (5, .int (dt k)), (8, .int ((gj i G0 k).2 : Nat)), (9, .bptr 1 0)], [(0, .t2 (xy_ i n (gj i G0 k).1)), (1, .bx [.int k])]⟩) (fun k => k ≤ n) (fun k => n - k) 0 (Nat.zero_le _) ⟨by
   rw [hdt0]
   simp only [xN_, St.get, xh_, Nat.reduceEqDiff, ↓reduceIte, true_and, and_true]
   first | rfl | exact ⟨rfl, rfl⟩ | trivial, rfl⟩ (fun k hk => ?_)
  obtain ⟨pv, hP⟩ := Tj_ ent k hk
  have hstep : gj i G0 (k + 1) = gjS i (gj i G0 k) k := rfl
  have hds := hdtS k
  have hdP := hdtP k
  obtain ⟨s, es⟩ : ∃ s, gj i G0 k = s := ⟨_, rfl⟩
  rw [es] at hP hstep hds ⊢
  obtain ⟨G, d⟩ := s
  have hdm : d ≤ i := hP.dm
  have hE : ∀ x, x < i → ∀ c, c < n → InP (G x c) := hP.ent
  have lM := xx_ i n G
  have r0 : (xy_ i n G).getD 0 [] = xU_ n (G 0) := xF_ (by omega)
  have l0 := xn_ n (G 0)
  have mpos : ((0 : Int) < (i : Int)) = True := eq_true (by omega)
  try dsimp only at hds ⊢
  (repeat refine xa_ ?_); refine xV_ (xZ_ hcx) mixed (by kernel_rfl) fun K hK => ?_; simp only [go_sem, seval, lM, r0, l0, mpos, decide_true, Bool.true_and]
  refine gU ?_
  refine hK _ ?_; clear hK K
  refine gI (fun hk2 => ?_) fun hk2 => ?_
  ·have hkn : k < n := by omega
   obtain ⟨f1, f2, f3, f4⟩ := zQ_ G k (i - d) d
   have hgs : gjS i (G, d) k = if wA_ G k (i - d) d < i then (X5_ G d k (wA_ G k (i - d) d), d + 1) else (G, d) := rfl
   rw [hgs] at hstep
   generalize wA_ G k (i - d) d = F at *
   have ldr : ((xy_ i n G).drop d).length = i - d := by rw [List.length_drop, lM]
   have gdr : ∀ x, x < i - d → ((xy_ i n G).drop d).getD x [] = xU_ n (G (d + x)) := fun x hx => by
    have e1 : ((xy_ i n G).drop d).getD x [] = (xy_ i n G).getD (d + x) [] := by
     rw [List.getD_eq_getElem?_getD, List.getD_eq_getElem?_getD, List.getElem?_drop]
    rw [e1, xF_ (by omega)]
   have hIx := JJ_ ((xy_ i n G).drop d) 88 [.cptr [.int (k : Int)] 0] (fun x => decide (x.getD k 0 ≠ 0)) rfl (fun x hx => by
    rw [ldr] at hx
    rw [gdr x hx]
    exact aG0 _ k (by rw [xn_]; exact hkn)) (F - d) (by rw [ldr]; omega) (fun x hx => by
    rw [gdr x (by omega), xE_ hkn]
    rw [f3 (d + x) (by omega) (by omega)]
    rfl) (fun hx => by
    rw [ldr] at hx
    rw [gdr _ hx, xE_ hkn, show d + (F - d) = F by omega]
    exact decide_eq_true (f4 (by omega)))
   rw [ldr] at hIx
   have tkd : ((xy_ i n G).take i).drop d = (xy_ i n G).drop d := by rw [List.take_of_length_le (by omega)]
   refine xb_ ?_
   refine gO ?_
   rw [← tkd] at hIx
   (repeat refine xa_ ?_); refine xr_ (xZ_ hcx) fun K hK => ?_; simp only [go_sem, seval, lM]
   refine gU ?_
   first | refine xM_ rfl rfl (hIx) ?_ | refine xe_ (xG_ rfl rfl (hIx)) ?_
   refine gV ?_
   refine hK _ ?_; clear hK K
   have dP := hE
   by_cases hF : F < i
   ·rw [if_pos (by omega)]
    rw [if_pos hF] at hstep hds
    have dF : ((F - d : Nat) : Int) = (F : Int) - d := by omega
    refine gB ?_
    refine gI (fun hc5 => ?_) fun hc5 => ?_
    ·omega
    ·refine xb_ ?_
     obtain ⟨G1, eG1⟩ : ∃ G1, swF G d F = G1 := ⟨_, rfl⟩
     have rd : (xy_ i n G).getD d [] = xU_ n (G d) := xF_ (by omega)
     have rF : (xy_ i n G).getD F [] = xU_ n (G F) := xF_ hF
     refine gB ?_
     (repeat refine xa_ ?_)
     refine VT_ ⟨[(4, .ref 0 []), (5, .int (if F = d then dt k else (0 - dt k) % 55441)), (8, .int d), (9, .bptr 1 0)], [(0, .t2 (xy_ i n G1)), (1, .bx [.int k])]⟩ ?_ ?_
     ·refine gI (fun hc6 => ?_) fun hc6 => ?_
      ·have hne : F ≠ d := by omega
       have hne1 : (F = d) = False := eq_false hne
       have hne2 : (d = F) = False := eq_false (fun e => hne e.symm)
       have eDF : (d : Int) + ((F - d : Nat) : Int) = (F : Int) := by omega
       have sw1 : ((xy_ i n G).set d (xU_ n (G F))).set F (xU_ n (G d)) = xy_ i n G1 := by
        rw [yx_, yx_, ← eG1]
        refine xC_ fun x _ c _ => ?_
        unfold swF
        by_cases e1 : x = d
        ·rw [if_pos e1, if_neg (by omega), if_pos e1]
        ·rw [if_neg e1]
         by_cases e2 : x = F
         ·rw [if_pos e2, if_pos e2, if_neg e1]
         ·rw [if_neg e2, if_neg e2, if_neg e1]
       unfold InP at hdP
       have hMd := JI_ (0 - dt k) (by omega) (by omega)
       rw [if_neg hne]
       (repeat refine xa_ ?_); refine AT.ghost (S7_ 0 d F 2 3 rfl (by rw [lM]; omega) (by rw [lM]; exact hF) (fun e => hne e.symm) rfl rfl (by decide)) ?_; simp only [find, x2_, xp_, xA_, qOf, rmT, xt_, x4_, x8_, List.map_cons, List.map_nil, List.filter_cons, List.filter_nil, List.contains_cons, List.contains_nil, List.isEmpty_nil, List.isEmpty_cons, Bool.or_false, Bool.or_true, Bool.false_and, Bool.true_and, Bool.and_false, Bool.and_true, Bool.not_true, Bool.not_false, Bool.false_eq_true, if_true, if_false, seval]
       rw [rd, rF]
       (repeat refine xa_ ?_)
       refine ap1 [] (.one 0 (.one 1 (.one 6 (.one 7 (.one 8 (.one 9 (.one 10 (.one 11 (.one 12 (.one 13 (.one 14 (.one 15 (.one 16 (.alt 2 (.alt 3 (.alt 4 (.alt 5 (.alt 17 (.one 18 (.alt 19 .fin .stop)) .stop) (.alt 17 (.one 5 (.one 18 (.alt 19 .fin .stop))) .stop)) (.alt 17 (.one 4 (.one 5 (.one 18 (.alt 19 .fin .stop)))) .stop)) (.alt 4 (.alt 3 (.alt 5 (.alt 17 (.one 18 (.alt 19 .fin .stop)) .stop) (.alt 17 (.one 5 (.one 18 (.alt 19 .fin .stop))) .stop)) (.alt 17 (.one 3 (.one 5 (.one 18 (.alt 19 .fin .stop)))) .stop)) (.alt 17 (.one 3 (.one 4 (.one 5 (.one 18 (.alt 19 .fin .stop))))) .stop))) (.alt 3 (.alt 2 (.alt 4 (.alt 5 (.alt 17 (.one 18 (.alt 19 .fin .stop)) .stop) (.alt 17 (.one 5 (.one 18 (.alt 19 .fin .stop))) .stop)) (.alt 17 (.one 4 (.one 5 (.one 18 (.alt 19 .fin .stop)))) .stop)) (.alt 4 (.alt 2 (.alt 5 (.alt 17 (.one 18 (.alt 19 .fin .stop)) .stop) (.alt 17 (.one 5 (.one 18 (.alt 19 .fin .stop))) .stop)) (.alt 5 (.alt 2 (.alt 17 (.one 18 (.alt 19 .fin .stop)) .stop) (.alt 17 (.one 2 (.one 18 (.alt 19 .fin .stop))) .stop)) (.alt 17 (.one 2 (.one 5 (.one 18 (.alt 19 .fin .stop)))) .stop))) (.alt 17 (.one 2 (.one 4 (.one 5 (.one 18 (.alt 19 .fin .stop))))) .stop))) (.alt 4 (.alt 2 (.alt 3 (.alt 5 (.alt 17 (.one 18 (.alt 19 .fin .stop)) .stop) (.alt 17 (.one 5 (.one 18 (.alt 19 .fin .stop))) .stop)) (.alt 17 (.one 3 (.one 5 (.one 18 (.alt 19 .fin .stop)))) .stop)) (.alt 3 (.alt 2 (.alt 5 (.alt 17 (.one 18 (.alt 19 .fin .stop)) .stop) (.alt 17 (.one 5 (.one 18 (.alt 19 .fin .stop))) .stop)) (.alt 5 (.alt 2 (.alt 17 (.one 18 (.alt 19 .fin .stop)) .stop) (.alt 17 (.one 2 (.one 18 (.alt 19 .fin .stop))) .stop)) (.alt 17 (.one 2 (.one 5 (.one 18 (.alt 19 .fin .stop)))) .stop))) (.alt 17 (.one 2 (.one 3 (.one 5 (.one 18 (.alt 19 .fin .stop))))) .stop))) (.alt 17 (.one 2 (.one 3 (.one 4 (.one 5 (.one 18 (.alt 19 .fin .stop)))))) .stop))))))))))))))))) ⟨[(4, .ref 0 []), (5, .int (dt k)), (8, .int d), (9, .bptr 1 0)], [(2, .t1 (xU_ n (G d))), (3, .t1 (xU_ n (G F))), (0, .mx (xy_ i n G) d F (.ref 3 []) (.ref 2 [])), (1, .bx [.int k])]⟩ (xZ_ hcx) mixed (by kernel_rfl) (fun K hK => ?_) ?_
       ·simp only [go_sem, seval, Option.getD_some, and_true, true_and, and_self, List.contains_cons, List.contains_nil, Bool.or_false, Bool.or_true]
        repeat' (first | exact hK _ gM  | with_reducible refine And.intro ?_ ?_ | omega | ((simp only [lM, eDF, Int.toNat_natCast, hne1, hne2, if_true, if_false])) | (rfl) | ((simp only [true_or, or_true, hne1, hne2, if_true, if_false])))
       (repeat refine xa_ ?_); refine AT.ghost (S8_ 0 d F 3 2 rfl rfl rfl (by decide) (fun e => hne e.symm)) ?_; simp only [find, x2_, xp_, xA_, qOf, rmT, xt_, x4_, x8_, List.map_cons, List.map_nil, List.filter_cons, List.filter_nil, List.contains_cons, List.contains_nil, List.isEmpty_nil, List.isEmpty_cons, Bool.or_false, Bool.or_true, Bool.false_and, Bool.true_and, Bool.and_false, Bool.and_true, Bool.not_true, Bool.not_false, Bool.false_eq_true, if_true, if_false, seval]
       rw [sw1]
       refine gC fun K hK => ?_
       refine gU ?_
       first | refine xi_ (hMd) rfl ?_ | refine xe_ (xg_ (hMd) rfl) ?_
       refine gV ?_
       refine hK _ ?_; clear hK K
       refine yf_ ?_; refine Or.inl ⟨rfl, xS_ [] []⟩
      ·have he : F = d := by omega
       have sw2 : xy_ i n G1 = xy_ i n G := by
        rw [← eG1]
        refine xC_ fun x _ c _ => ?_
        unfold swF
        rw [he]
        split
        ·rename_i e; rw [e]
        ·rfl
       rw [if_pos he, sw2]
       refine xb_ ?_
       refine yf_ ?_; refine Or.inl ⟨rfl, xS_ [] []⟩
     have hlz := f4 (by omega)
     have hle := hE F hF k hkn
     have E1 : ∀ x, x < i → ∀ c, c < n → InP (G1 x c) := fun x hx c hc => by
      rw [← eG1]
      unfold swF
      split
      ·exact hE F hF c hc
      ·split
       ·exact hE d (by omega) c hc
       ·exact hE x hx c hc
     have g1d : ∀ c, G1 d c = G F c := fun c => by rw [← eG1]; unfold swF; rw [if_pos rfl]
     have hD : InP (if F = d then dt k else (0 - dt k) % 55441) := by
      split
      ·exact hdP
      ·exact x7_ _
     obtain ⟨D, eD⟩ : ∃ D, (if F = d then dt k else (0 - dt k) % 55441) = D := ⟨_, rfl⟩
     obtain ⟨le, el⟩ : ∃ le, G F k = le := ⟨_, rfl⟩
     obtain ⟨v, ev⟩ : ∃ v, inv le = v := ⟨_, rfl⟩
     have hdv := Uf_ 1 le ⟨by omega, by omega⟩ (by rw [← el]; exact hle)
     have vP : InP v := by rw [← ev, ← el]; exact Yv_ hle
     rw [ev, Int.one_mul, SR_ vP] at hdv
     have hst : X5_ G d k F = rdF (smF G1 d v) d k := by unfold X5_; rw [el, ev, eG1]
     rw [hst] at hstep
     rw [el] at hle hds
     rw [eD] at hD hds ⊢
     have dml := Wv_ hD hle
     have e3 : (D * le).tmod 55441 = D * le % 55441 := tmP dml.1
     have b3 : 0 ≤ D * le % 55441 ∧ D * le % 55441 < 55441 := ⟨Int.emod_nonneg _ (by omega), Int.emod_lt_of_pos _ (by omega)⟩
     have lM1 := xx_ i n G1
     have rd1 : (xy_ i n G1).getD d [] = xU_ n (G1 d) := xF_ (by omega)
     have ld1 := xn_ n (G1 d)
     have ek1 : (xU_ n (G1 d)).getD k 0 = le := by rw [xE_ hkn, g1d, el]
     clear eG1 hIx tkd gdr ldr rd rF f3 f4
     (repeat refine xa_ ?_); refine xV_ (xZ_ hcx) mixed (by kernel_rfl) fun K hK => ?_; simp only [go_sem, seval, lM1, rd1, ek1, ld1]
     refine gU ?_
     refine hK _ ?_; clear hK K
     (repeat refine xa_ ?_); refine xr_ (xZ_ hcx) fun K hK => ?_; simp only [go_sem, seval, e3]
     refine gU ?_
     refine hK _ ?_; clear hK K
     rw [← hds]
     refine gC fun K hK => ?_
     first | refine xi_ (hdv) rfl ?_ | refine xe_ (xg_ (hdv) rfl) ?_
     refine gV ?_
     refine hK _ ?_; clear hK K
     (repeat refine xa_ ?_); refine xr_ (xZ_ hcx) fun K hK => ?_; simp only [go_sem, seval, lM1, rd1, ld1]
     refine gU ?_
     refine hK _ ?_; clear hK K
     have hs0 : xy_ i n G1 = xy_ i n (fun x y => if x = d ∧ y < 0 then G1 d y * v % 55441 else G1 x y) := xC_ fun x _ c _ => by rw [if_neg (by omega)]
     rw [hs0]
     (repeat refine xa_ ?_); refine gLp (fun c : Nat => ⟨[(4, .ref 0 []), (5, .int (dt (k + 1))), (8, .int d), (9, .bptr 1 0), (12, .int v), (91, .int n), (92, .int c)], [(0, .t2 (xy_ i n (fun x y => if x = d ∧ y < c then G1 d y * v % 55441 else G1 x y))), (1, .bx [.int k])]⟩) n fun c hc => ?_
     refine gB ?_
     refine gI (fun hc8 => ?_) fun hc8 => ?_
     ·have hcn : c < n := by omega
      obtain ⟨X, eX⟩ : ∃ X : Nat → Nat → Int, (fun x y => if x = d ∧ y < c then G1 d y * v % 55441 else G1 x y) = X := ⟨_, rfl⟩
      rw [eX]
      have lX := xx_ i n X
      have rX : (xy_ i n X).getD d [] = xU_ n (X d) := xF_ (by omega)
      have lX2 := xn_ n (X d)
      have gX : (xU_ n (X d)).getD c 0 = G1 d c := by
       rw [xE_ hcn, ← eX]
       exact if_neg (by omega)
      have iX := E1 d (by omega) c hcn
      have mX := Wv_ iX vP
      unfold InP at iX
      have e5 : (G1 d c * v).tmod 55441 = G1 d c * v % 55441 := tmP mX.1
      have b5 : 0 ≤ G1 d c * v % 55441 ∧ G1 d c * v % 55441 < 55441 := ⟨Int.emod_nonneg _ (by omega), Int.emod_lt_of_pos _ (by omega)⟩
      have sX : (xy_ i n X).set d ((xU_ n (X d)).set c (G1 d c * v % 55441)) = xy_ i n (fun x y => if x = d ∧ y < c + 1 then G1 d y * v % 55441 else G1 x y) := by
       rw [wn_, yx_]
       refine xC_ fun x _ y _ => ?_
       by_cases e1 : x = d
       ·rw [if_pos e1]
        by_cases e2 : y = c
        ·rw [if_pos e2, if_pos ⟨e1, by omega⟩, e2]
        ·rw [if_neg e2, ← eX]
         dsimp only
         rw [e1]
         by_cases e4 : y < c
         ·rw [if_pos ⟨rfl, e4⟩, if_pos ⟨rfl, by omega⟩]
         ·rw [if_neg (fun h => e4 h.2), if_neg (fun h => by have := h.2; omega)]
       ·rw [if_neg e1, ← eX]
        dsimp only
        rw [if_neg (fun h => e1 h.1), if_neg (fun h => e1 h.1)]
      refine xb_ ?_
      refine gO ?_
      refine gB ?_
      (repeat refine xa_ ?_); refine xV_ (xZ_ hcx) mixed (by kernel_rfl) fun K hK => ?_; simp only [go_sem, seval, lX, rX, lX2, gX, e5, sX]
      refine gU ?_
      refine hK _ ?_; clear hK K
      refine gB ?_
      refine ⟨c + 1,  by omega, by omega, .inl ⟨gH,  rfl⟩⟩
     ·obtain rfl : c = n := by omega
      obtain ⟨G2, eG2⟩ : ∃ G2, smF G1 d v = G2 := ⟨_, rfl⟩
      have hs1 : xy_ i c (fun x y => if x = d ∧ y < c then G1 d y * v % 55441 else G1 x y) = xy_ i c (fun x => if x < 0 then rdF G2 d k x else G2 x) := xC_ fun x _ y hy => by
       rw [if_neg (Nat.not_lt_zero x), ← eG2]
       unfold smF
       by_cases e : x = d
       ·rw [if_pos ⟨e, hy⟩, if_pos e]
       ·rw [if_neg (fun h => e h.1), if_neg e]
      have E2 : ∀ x, x < i → ∀ y, y < c → InP (G2 x y) := fun x hx y hy => by
       rw [← eG2]; unfold smF
       split
       ·exact x7_ _
       ·exact E1 x hx y hy
      rw [eG2] at hstep
      have lM2 := xx_ i c (fun x => if x < 0 then rdF G2 d k x else G2 x)
      clear hs0 E1 g1d
      rw [hs1]
      refine xf_ (ye_ ?_)
      (repeat refine xa_ ?_); refine xr_ (xZ_ hcx) fun K hK => ?_; simp only [go_sem, seval, lM2]
      refine gU ?_
      refine hK _ ?_; clear hK K
      (repeat refine xa_ ?_); refine gLp (fun x : Nat => ⟨[(4, .ref 0 []), (5, .int (dt (k + 1))), (8, .int d), (9, .bptr 1 0), (112, .ref 0 []), (113, .int i), (114, .int x)], [(0, .t2 (xy_ i c (fun z => if z < x then rdF G2 d k z else G2 z))), (1, .bx [.int k])]⟩) i fun x hx => ?_
      refine gB ?_
      refine gI (fun hx2 => ?_) fun hx2 => ?_
      ·have hxi : x < i := by omega
       obtain ⟨X, eX⟩ : ∃ X : Nat → Nat → Int, (fun z => if z < x then rdF G2 d k z else G2 z) = X := ⟨_, rfl⟩
       have Xx : X x = G2 x := by rw [← eX]; exact if_neg (Nat.lt_irrefl x)
       have Xd : X d = G2 d := by
        rw [← eX]
        dsimp only
        split
        ·funext y; unfold rdF; rw [if_pos rfl]
        ·rfl
       have nx : ∀ Y : Nat → Nat → Int, (∀ y, y < c → Y x y = rdF G2 d k x y) → (∀ z, z ≠ x → Y z = X z) → xy_ i c Y = xy_ i c (fun z => if z < x + 1 then rdF G2 d k z else G2 z) := fun Y h1 h2 => by
        refine xC_ fun z _ y hy => ?_
        by_cases e1 : z = x
        ·rw [e1, if_pos (by omega)]
         exact h1 y hy
        ·rw [h2 z e1, ← eX]
         dsimp only
         by_cases e2 : z < x
         ·rw [if_pos e2, if_pos (by omega)]
         ·rw [if_neg e2, if_neg (by omega)]
       rw [eX]
       have lX := xx_ i c X
       have rX : (xy_ i c X).getD x [] = xU_ c (G2 x) := by rw [xF_ hxi, Xx]
       have lX2 := xn_ c (G2 x)
       have gX : (xU_ c (G2 x)).getD k 0 = G2 x k := xE_ hkn
       have iX := E2 x hxi k hkn
       unfold InP at iX
       refine xb_ ?_
       refine gO ?_
       (repeat refine xa_ ?_); refine xr_ (xZ_ hcx) fun K hK => ?_; simp only [go_sem, seval, lX]
       refine gU ?_
       refine hK _ ?_; clear hK K
       by_cases hxd : x = d
       ·have hxd' : ((x : Int) = (d : Int)) = True := eq_true (by omega)
        have hn := nx X (fun y _ => by rw [Xx, hxd]; unfold rdF; rw [if_pos rfl]) (fun z _ => rfl)
        (repeat refine xa_ ?_); refine xr_ (xZ_ hcx) fun K hK => ?_; simp only [go_sem, seval, lX, hxd', decide_true, Bool.not_true, Bool.true_or]
        refine gU ?_
        refine hK _ ?_; clear hK K
        refine gI (fun hc11 => ?_) fun hc11 => ?_
        ·refine xf_ (am6 ?_)
         refine gB ?_
         refine ⟨x + 1,  by omega, by omega, .inl ⟨gH,  by rw [hn]⟩⟩
        ·first | exact absurd trivial hc11 | simp at hc11
       ·have hxd' : ((x : Int) = (d : Int)) = False := eq_false (by omega)
        (repeat refine xa_ ?_); refine xr_ (xZ_ hcx) fun K hK => ?_; simp only [go_sem, seval, lX, rX, lX2, gX, hxd', decide_false, Bool.not_false, Bool.false_or]
        refine gU ?_
        refine hK _ ?_; clear hK K
        by_cases hz : G2 x k = 0
        ·have hn := nx X (fun y hy => by
          rw [Xx]; unfold rdF; rw [if_neg hxd, hz, Int.zero_mul, Int.sub_zero]
          have := E2 x hxi y hy
          exact (Int.emod_eq_of_lt this.1 (by have := this.2; omega)).symm) (fun z _ => rfl)
         refine gI (fun hc11 => ?_) fun hc11 => ?_
         ·refine xf_ (am6 ?_)
          refine gB ?_
          refine ⟨x + 1,  by omega, by omega, .inl ⟨gH,  by rw [hn]⟩⟩
         ·exact absurd hz (by simpa using hc11)
        ·refine gI (fun hc11 => ?_) fun hc11 => ?_
         ·exact absurd hc11 hz
         ·refine xb_ ?_
          (repeat refine xa_ ?_); refine xr_ (xZ_ hcx) fun K hK => ?_; simp only [go_sem, seval, lX, rX, lX2, gX]
          refine gU ?_
          refine hK _ ?_; clear hK K
          (repeat refine xa_ ?_); refine xr_ (xZ_ hcx) fun K hK => ?_; simp only [go_sem, seval, lX, rX, lX2]
          refine gU ?_
          refine hK _ ?_; clear hK K
          have hs2 : xy_ i c X = xy_ i c (fun z y => if z = x ∧ y < 0 then rdF G2 d k x y else X z y) := xC_ fun z _ y _ => by rw [if_neg (by omega)]
          rw [hs2]
          obtain ⟨fc, efc⟩ : ∃ fc, G2 x k = fc := ⟨_, rfl⟩
          rw [efc] at iX ⊢
          (repeat refine xa_ ?_); refine gLp (fun y : Nat => ⟨[(4, .ref 0 []), (5, .int (dt (k + 1))), (8, .int d), (9, .bptr 1 0), (15, .ref 0 [x]), (16, .int fc), (112, .ref 0 []), (113, .int i), (114, .int x), (134, .int c), (135, .int y)], [(0, .t2 (xy_ i c (fun z w => if z = x ∧ w < y then rdF G2 d k x w else X z w))), (1, .bx [.int k])]⟩) c fun y hy => ?_
          refine gB ?_
          refine gI (fun hy2 => ?_) fun hy2 => ?_
          ·have hyc : y < c := by omega
           obtain ⟨Y, eY⟩ : ∃ Y : Nat → Nat → Int, (fun z w => if z = x ∧ w < y then rdF G2 d k x w else X z w) = Y := ⟨_, rfl⟩
           rw [eY]
           have lY := xx_ i c Y
           have rY : (xy_ i c Y).getD x [] = xU_ c (Y x) := xF_ hxi
           have rD : (xy_ i c Y).getD d [] = xU_ c (Y d) := xF_ (by omega)
           have lY1 := xn_ c (Y x)
           have lY2 := xn_ c (Y d)
           have gY : (xU_ c (Y x)).getD y 0 = G2 x y := by
            rw [xE_ hyc, ← eY]
            dsimp only
            rw [if_neg (by omega), Xx]
           have gD : (xU_ c (Y d)).getD y 0 = G2 d y := by
            rw [xE_ hyc, ← eY]
            dsimp only
            rw [if_neg (fun h => hxd h.1.symm), Xd]
           have i1 := E2 x hxi y hyc
           have i2 := E2 d (by omega) y hyc
           have mm := Wv_ (show InP fc from iX) i2
           unfold InP at i1
           have hM := JI_ (G2 x y - fc * G2 d y) (by omega) (by omega)
           have sY : (xy_ i c Y).set x ((xU_ c (Y x)).set y ((G2 x y - fc * G2 d y) % 55441)) = xy_ i c (fun z w => if z = x ∧ w < y + 1 then rdF G2 d k x w else X z w) := by
            rw [wn_, yx_]
            refine xC_ fun z _ w _ => ?_
            by_cases e1 : z = x
            ·rw [if_pos e1]
             by_cases e2 : w = y
             ·rw [if_pos e2, if_pos ⟨e1, by omega⟩, e2]
              unfold rdF
              rw [if_neg hxd, efc]
             ·rw [if_neg e2, ← eY]
              dsimp only
              rw [e1]
              by_cases e4 : w < y
              ·rw [if_pos ⟨rfl, e4⟩, if_pos ⟨rfl, by omega⟩]
              ·rw [if_neg (fun h => e4 h.2), if_neg (fun h => by have := h.2; omega)]
            ·rw [if_neg e1, ← eY]
             dsimp only
             rw [if_neg (fun h => e1 h.1), if_neg (fun h => e1 h.1)]
           refine xb_ ?_
           refine gO ?_
           refine gB ?_
           (repeat refine xa_ ?_); refine xV_ (xZ_ hcx) mixed (by kernel_rfl) fun K hK => ?_; simp only [go_sem, seval, lY, rY, rD, lY1, lY2, gY, gD]
           refine gU ?_
           first | refine xi_ (hM) rfl ?_ | refine xe_ (xg_ (hM) rfl) ?_
           refine gV ?_
           simp only [go_sem, seval, lY, rY, rD, lY1, lY2, gY, gD, sY]
           refine gU ?_
           refine hK _ ?_; clear hK K
           refine gB ?_
           refine ⟨y + 1,  by omega, by omega, .inl ⟨gH,  rfl⟩⟩
          ·obtain rfl : y = c := by omega
           have hn := nx (fun z w => if z = x ∧ w < y then rdF G2 d k x w else X z w) (fun w hw => by rw [if_pos ⟨rfl, hw⟩]) (fun z hz => by funext w; rw [if_neg (fun h => hz h.1)])
           rw [hn]
           refine xf_ (ye_ ?_)
           refine gB ?_
           refine ⟨x + 1,  by omega, by omega, .inl ⟨gH,  rfl⟩⟩
      ·obtain rfl : x = i := by omega
       have hs3 : xy_ x c (fun z => if z < x then rdF G2 d k z else G2 z) = xy_ x c (rdF G2 d k) := xC_ fun z hz y _ => by rw [if_pos hz]
       rw [hs3]
       refine xf_ (ye_ ?_)
       refine gB ?_
       refine gB ?_
       refine gB ?_
       (repeat refine xa_ ?_); refine AT.ghost (st' := ⟨[(4, .ref 0 []), (5, .int (dt (k + 1))), (8, .int ((d : Int) + 1)), (9, .bptr 1 0)], [(0, .t2 (xy_ x c (rdF G2 d k))), (1, .bx [.int k])]⟩) (xS_ [1] [(2, 1)]) ?_
       refine gB ?_
       refine ⟨k + 1,  by omega, by omega, .inl ⟨by simp only [leS, Nat.reduceEqDiff, ↓reduceIte, true_and, and_true]; (rw [hstep]; first | rfl | omega | simp),  by rw [hstep]; rfl⟩⟩
   ·rw [if_neg hF] at hstep hds
    rw [if_neg (by omega)]
    refine gB ?_
    refine gI (fun hc5 => ?_) fun hc5 => ?_
    ·refine gB ?_
     refine xf_ (am6 ?_)
     refine gB ?_
     refine gB ?_
     (repeat refine xa_ ?_); refine AT.ghost (st' := ⟨[(4, .ref 0 []), (5, .int 0), (8, .int d), (9, .bptr 1 0)], [(0, .t2 (xy_ i n G)), (1, .bx [.int k])]⟩) (xS_ [1] [(2, 1)]) ?_
     refine gB ?_
     refine ⟨k + 1,  by omega, by omega, .inl ⟨by simp only [leS, Nat.reduceEqDiff, ↓reduceIte, true_and, and_true]; (rw [hstep, hds]; first | rfl | omega),  by rw [hstep]; rfl⟩⟩
    ·first | omega | exact absurd trivial hc5
  ·obtain rfl : k = n := by omega
   rw [es] at tk ⊢
   refine xf_ (ye_ ?_)
   (repeat refine xa_ ?_); refine xr_ (xZ_ hcx) fun K hK => ?_; simp only [go_sem, seval, lM]
   refine gU ?_
   refine hK _ ?_; clear hK K
   refine ap6 2 0 rfl rfl (congrArg (fun z => some (Tree.t2 z)) tk) rfl ?_
   exact xd_ (ce8 (is := [0]) trivial trivial rfl (by simp))
end Go.Proofs.Ytlngnhbochmcoaa
