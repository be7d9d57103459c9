import Derived.Test.YtlngnhbochmcoaaVx2
import Derived.Test.YtlngnhbochmcoaaUa
import Derived.Test.YtlngnhbochmcoaaPn2
set_option linter.unusedSimpArgs false
set_option linter.unusedVariables false
namespace Go.Proofs.Ytlngnhbochmcoaa
open Go Go.Aw Go.Pl
theorem dtr {b : Bool} {P : Program} {ops : Array Oper} {n m : Nat} {l : List Oper} {cx : Cx} {a c sa sc : St} (ea : a = sa) (ec : c = sc) (h : y3_ b P ops n l sa (fun st' => yp_ cx m st' sc)) : y3_ b P ops n l a (fun st' => yp_ cx m st' c) := by rw [ea, ec]; exact h
theorem QV_ {n : Nat} {m : List (List Int)} (h : MatP n m) : yV_ n m := fun r hr => by
 obtain ⟨i, hi, e⟩ := List.getElem_of_mem hr
 have hi2 : i < n := by rw [← h.1]; exact hi
 have er : m.getD i [] = r := by rw [List.getD_eq_getElem?_getD, List.getElem?_eq_getElem hi, e]; rfl
 have l := h.row hi2
 rw [er] at l
 refine ⟨l, fun x hx => ?_⟩
 obtain ⟨j, hj, e2⟩ := List.getElem_of_mem hx
 have := h.inP hi2 (j := j) (by rw [← l]; exact hj)
 simp only [Pl.e2] at this
 rw [er, List.getD_eq_getElem?_getD, List.getElem?_eq_getElem hj, e2] at this
 exact this
theorem Uc_ {n : Nat} {m : List (List Int)} (h : MatP n m) : xy_ n n (e2 m) = m := by
 have := wY_ (QV_ h)
 rw [h.1] at this
 exact this.symm
theorem Zj_ (n : Nat) (n1 : 1 ≤ n) (h16 : n ≤ 16) (m : List (List Int)) (hm : MatP n m) (c : Int) (hc : InP c) : FreshCall Try.prog 63 [.l2 m, .int c] (.l2 (ltM n m c)) := by
 have lm := hm.1
 obtain ⟨c0, c1⟩ := hc
 obtain ⟨f, ef⟩ : ∃ f : Nat → Nat → Int, f = fun i j => if i = j then (e2 m i j - c) % 55441 else e2 m i j := ⟨_, rfl⟩
 have er : ltM n m c = xy_ n n f := by rw [ef]; rfl
 rw [er]
 refine gFC 35 [.tmp 4] Try.call63 Try.func63 fun cx hcx => gE ?_
 refine gB ?_
 refine gB ?_
 refine gB ?_
 (repeat refine xa_ ?_); refine gLp (fun i : Nat => ⟨[(1, .int c), (5, .ref 0 []), (10, .l2 m), (11, .int n), (12, .int i)], [(0, .t2 (xy_ i n f))]⟩) n fun i hi => ?_
 have l0 := xx_ i n f
 refine gB ?_
 refine gI (fun h2 => ?_) fun h2 => ?_
 ·have hi : i < n := by omega
  have ri := hm.row hi
  have bd2 := hm.inP hi hi
  simp only [e2] at bd2
  obtain ⟨b0, b1⟩ := bd2
  have hcl := X2_ (m.getD i []) (by omega) (by omega)
  have hmd := S9_ ((m.getD i []).getD i 0 - c) (by omega) (by omega)
  have es : (m.getD i []).set i (((m.getD i []).getD i 0 - c) % 55441) = xU_ n (f i) := by
   rw [← wW_ ri, wn_, wW_ ri]
   refine yr_ fun y _ => ?_
   rw [ef]
   show _ = if i = y then ((m.getD i []).getD y 0 - c) % 55441 else (m.getD i []).getD y 0
   by_cases e : y = i
   ·rw [if_pos e, if_pos e.symm, e]
   ·rw [if_neg e, if_neg (Ne.symm e)]
  have st := QI_ (j := i) (m := n) (f := f)
  refine xb_ ?_
  refine gO ?_
  refine gB ?_
  refine gC fun K hK => ?_
  refine xK_ rfl (hcl) rfl ?_; simp only [go_sem, seval]
  refine hK _ ?_; clear hK K
  (repeat refine xa_ ?_); refine xr_ (xZ_ hcx) fun K hK => ?_; simp only [go_sem, seval, ri]
  refine gU ?_
  first | refine xi_ (hmd) rfl ?_ | refine xe_ (xg_ (hmd) rfl) ?_
  refine gW ?_
  refine hK _ ?_; clear hK K
  rw [es]
  refine gB ?_
  refine gB ?_
  refine ⟨i + 1,  by omega, by omega, .inl ⟨gH,  by rw [← st]⟩⟩
 ·obtain rfl : i = n := by omega
  refine xf_ (ye_ ?_)
  refine gB ?_
  exact xd_ (Xl_ (is := [0]) rfl ⟨rfl, trivial⟩ rfl (by simp))
theorem ac4 (n : Nat) (h16 : n ≤ 16) (m : List (List Int)) (hm : MatP n m) : PureCall Try.prog 86 [.l2 m] (.int (trD n m)) := by
 have lm := hm.1
 obtain ⟨g, eg⟩ : ∃ g : Nat → Int, g = fun i => e2 m i i := ⟨_, rfl⟩
 have er : trD n m = sumTo g n % 55441 := by rw [eg]; rfl
 rw [er]
 have bd : ∀ k, k ≤ n → 0 ≤ sumTo g k ∧ sumTo g k ≤ k * 55440 := fun k hk => sumTo_le fun i hi => by
  rw [eg]
  exact hm.inP (by omega) (by omega)
 refine gPC 22 [.tmp 2] Try.call86 Try.func86 fun cx hcx => gE ?_
 refine gB ?_
 refine gB ?_
 refine gB ?_
 (repeat refine xa_ ?_); refine gLp (fun i : Nat => ⟨[(0, .l2 m), (3, .int (sumTo g i)), (6, .int n), (7, .int i)], []⟩) n fun i hi => ?_
 refine gB ?_
 refine gI (fun h2 => ?_) fun h2 => ?_
 ·have hi : i < n := by omega
  have ri := hm.row hi
  have bd2 := hm.inP hi hi
  simp only [e2] at bd2
  obtain ⟨b0, b1⟩ := bd2
  obtain ⟨s0, s1⟩ := bd i (by omega)
  have st : sumTo g (i + 1) = sumTo g i + (m.getD i []).getD i 0 := by rw [sumTo, eg]
  refine xb_ ?_
  refine gO ?_
  refine gB ?_
  (repeat refine xa_ ?_); refine xr_ (xZ_ hcx) fun K hK => ?_; simp only [go_sem, seval, ri]
  refine gU ?_
  refine hK _ ?_; clear hK K
  refine gB ?_
  refine ⟨i + 1,  by omega, by omega, .inl ⟨by simp only [leS, Nat.reduceEqDiff, ↓reduceIte, true_and, and_true]; exact ⟨st.symm, by omega⟩,  rfl⟩⟩
 ·obtain rfl : i = n := by omega
  obtain ⟨s0, s1⟩ := bd i (by omega)
  have em : (sumTo g i).tmod 55441 = sumTo g i % 55441 := Int.tmod_eq_emod_of_nonneg s0
  refine xf_ (ye_ ?_)
  (repeat refine xa_ ?_); refine xr_ (xZ_ hcx) fun K hK => ?_; simp only [go_sem, seval, em]
  refine gU ?_
  refine hK _ ?_; clear hK K
  refine xd_ (zW_ rfl ?_)
  rfl
theorem Ud_ (n : Nat) (h16 : n ≤ 16) (m : List (List Int)) (hm : MatOk n m) : FreshCall Try.prog 35 [.l2 m] (.l2 m) := by
 have lm := hm.1
 refine gFC 35 [.tmp 2] Try.call35 Try.func35 fun cx hcx => gE ?_
 refine gB ?_
 refine gB ?_
 refine gB ?_
 (repeat refine xa_ ?_); refine gLp (fun i : Nat => ⟨[(3, .ref 0 []), (10, .l2 m), (11, .int n), (12, .int i)], [(0, .t2 (m.take i))]⟩) n fun i hi => ?_
 have lt : (m.take i).length = i := by rw [List.length_take]; omega
 refine gB ?_
 refine gI (fun h2 => ?_) fun h2 => ?_
 ·have hi : i < n := by omega
  obtain ⟨ri, hr⟩ := hm.2 i hi
  have st := take_snoc (xs := m) (d := []) (k := i) (by omega)
  obtain ⟨w, ew⟩ : ∃ w, m.getD i [] = w := ⟨_, rfl⟩
  rw [ew] at ri hr st
  refine xb_ ?_
  refine gO ?_
  (repeat refine xa_ ?_); refine xr_ (xZ_ hcx) fun K hK => ?_; simp only [go_sem, seval, ew]
  refine gU ?_
  refine hK _ ?_; clear hK K
  refine gB ?_
  refine gB ?_
  (repeat refine xa_ ?_); refine gLp (fun j : Nat => ⟨[(3, .ref 0 []), (6, .ref 1 []), (10, .l2 m), (11, .int n), (12, .int i), (17, .l1 w), (18, .int n), (19, .int j)], [(0, .t2 (m.take i)), (1, .t1 (w.take j))]⟩) n fun j hj => ?_
  have lw : (w.take j).length = j := by rw [List.length_take]; omega
  refine gB ?_
  refine gI (fun h3 => ?_) fun h3 => ?_
  ·have hj : j < n := by omega
   obtain ⟨bj0, bj1⟩ := hr j hj
   have hmd := S9_ (w.getD j 0) (by omega) (by omega)
   rw [show w.getD j 0 % 55441 = w.getD j 0 by omega] at hmd
   have sw := take_snoc (xs := w) (d := 0) (k := j) (by omega)
   refine xb_ ?_
   refine gO ?_
   refine gB ?_
   refine gC fun K hK => ?_
   first | refine xi_ (hmd) rfl ?_ | refine xe_ (xg_ (hmd) rfl) ?_
   refine gW ?_
   refine hK _ ?_; clear hK K
   refine gB ?_
   refine ⟨j + 1, by omega, by omega, .inr ⟨[2], gK0, aJ8 ?_⟩⟩; rw [sw]
  ·have tw : w.take n = w := List.take_of_length_le (by omega)
   obtain rfl : j = n := by omega
   rw [tw]
   refine xf_ (ye_ ?_)
   refine gB ?_
   refine gB ?_
   refine ⟨i + 1,  by omega, by omega, .inl ⟨gH,  by rw [st]⟩⟩
 ·obtain rfl : i = n := by omega
  rw [List.take_of_length_le (by omega)]
  refine xf_ (ye_ ?_)
  refine gB ?_
  exact xd_ (Xl_ (is := [0]) rfl ⟨rfl, trivial⟩ rfl (by simp))
theorem Ro_ (n : Nat) (h16 : n ≤ 16) (m : List (List Int)) (hm : MatP n m) (c : Int) (hc : InP c) : FreshCall Try.prog 52 [.l2 m, .int c] (.l2 (ltM n m c)) := by
 have lm := hm.1
 obtain ⟨c0, c1⟩ := hc
 obtain ⟨F, eF⟩ : ∃ F : Nat → Nat → Nat → Int, F = fun i x y => if x = y ∧ x < i then (e2 m x y - c) % 55441 else e2 m x y := ⟨_, rfl⟩
 have e0 : m = xy_ n n (F 0) := by
  rw [← Uc_ hm]
  refine xC_ fun x _ y _ => ?_
  rw [eF]
  show _ = if x = y ∧ x < 0 then _ else _
  rw [if_neg (by omega)]
 have er : ltM n m c = xy_ n n (F n) := xC_ fun x hx y _ => by
  rw [eF]
  show (if x = y then _ else _) = if x = y ∧ x < n then _ else _
  by_cases e : x = y
  ·rw [if_pos e, if_pos ⟨e, hx⟩]
  ·rw [if_neg e, if_neg (fun h => e h.1)]
 have ho := zF_ m (by omega) (fun j hj => by rw [hm.row (by omega)]; omega)
 rw [er]
 refine gFC 31 [.tmp 4] Try.call52 Try.func52 fun cx hcx => gE ?_
 refine gB ?_
 refine gC fun K hK => ?_
 refine xK_ rfl (ho) rfl ?_; simp only [go_sem, seval]
 refine hK _ ?_; clear hK K
 refine gB ?_
 have t0 : Tree.t2 m = .t2 (xy_ n n (F 0)) := by rw [← e0]
 rw [t0]
 (repeat refine xa_ ?_); refine gLp (fun i : Nat => ⟨[(1, .int c), (5, .ref 0 []), (6, .int i)], [(0, .t2 (xy_ n n (F i)))]⟩) n fun i hi => ?_
 have l0 := xx_ n n (F i)
 (repeat refine xa_ ?_); refine xr_ (by first | exact xZ_ hcx | exact yQ_ hcx rfl) fun K hK => ?_; simp only [go_sem, seval, l0]
 refine gU ?_
 refine hK _ ?_; clear hK K
 refine gI (fun h2 => ?_) fun h2 => ?_
 ·have hi : i < n := by omega
  have bd2 := hm.inP hi hi
  simp only [e2] at bd2
  obtain ⟨b0, b1⟩ := bd2
  have ri : (xy_ n n (F i)).getD i [] = xU_ n (F i i) := xF_ hi
  have l1 := xn_ n (F i i)
  have g1 : (xU_ n (F i i)).getD i 0 = (m.getD i []).getD i 0 := by
   rw [xE_ hi, eF]
   exact if_neg (by omega)
  have hmd := X9_ ((m.getD i []).getD i 0 - c) (by omega) (by omega)
  have st : (xy_ n n (F i)).set i ((xU_ n (F i i)).set i (((m.getD i []).getD i 0 - c) % 55441)) = xy_ n n (F (i + 1)) := by
   rw [← ri, X0_ hi]
   refine xC_ fun x _ y _ => ?_
   rw [eF]
   show (if x = i ∧ y = i then _ else if x = y ∧ x < i then _ else _) = if x = y ∧ x < i + 1 then _ else _
   by_cases e : x = i ∧ y = i
   ·rw [if_pos e, if_pos (by omega), e.1, e.2]
   ·rw [if_neg e]
    by_cases e2 : x = y ∧ x < i
    ·rw [if_pos e2, if_pos (by omega)]
    ·rw [if_neg e2, if_neg (by omega)]
  refine xb_ ?_
  refine gO ?_
  (repeat refine xa_ ?_); refine xr_ (by first | exact xZ_ hcx | exact yQ_ hcx rfl) fun K hK => ?_; simp only [go_sem, seval, l0, ri]
  refine gU ?_
  refine hK _ ?_; clear hK K
  (repeat refine xa_ ?_); refine xr_ (by first | exact xZ_ hcx | exact yQ_ hcx rfl) fun K hK => ?_; simp only [go_sem, seval, ri, l1, g1]
  refine gU ?_
  first | refine xi_ (hmd) rfl ?_ | refine xe_ (xg_ (hmd) rfl) ?_
  refine gV ?_
  simp only [go_sem, seval, ri, l1]
  refine gU ?_
  refine hK _ ?_; clear hK K
  refine gB ?_
  refine ⟨i + 1,  by omega, by omega, .inl ⟨gH,  by rw [← st]⟩⟩
 ·obtain rfl : i = n := by omega
  refine xf_ (ye_ ?_)
  refine gB ?_
  exact xd_ (Xl_ (is := [0]) rfl ⟨rfl, trivial⟩ rfl (by simp))
end Go.Proofs.Ytlngnhbochmcoaa
namespace Go.Proofs.Ytlngnhbochmcoaa
open Go Go.Aw Go.Pl
attribute [local go_sem] zO_ List.getElem?_toArray List.getElem?_cons_zero List.getElem?_cons_succ Option.getD_some and_true true_and and_self
theorem ba1 (n : Nat) {m : List (List Int)} (hm : MatP n m) (c : Int) : MatP n (ltM n m c) := UQ_ fun i hi j hj => by
 split
 ·exact x7_ _
 ·exact hm.inP hi hj
theorem aK8 (n : Nat) (a : List (List Int)) (s : List (List Int) × List Int) (k : Nat) : MatP n (flM n a s k) := ba1 n (wN_ _ _ _) _
theorem ba2 (n : Nat) (a : List (List Int)) : ∀ k, MatP n (flS n a k).1
 | 0 => ⟨by show (List.replicate n _).length = n; rw [List.length_replicate], fun i hi => by
  show ((List.replicate n (List.replicate n (0 : Int))).getD i []).length = n ∧ _
  rw [Wj_ hi, List.length_replicate]
  refine ⟨rfl, fun j hj => ?_⟩
  show InP (((List.replicate n (List.replicate n (0 : Int))).getD i []).getD j 0)
  rw [Wj_ hi, Wj_ hj]
  exact ⟨Int.le_refl 0, (by omega : (0 : Int) ≤ 55440)⟩⟩
 | k + 1 => aK8 n a _ k
set_option maxRecDepth 100000 in
set_option maxHeartbeats 8000000 in
theorem Yf_ (n : Nat) (n1 : 1 ≤ n) (h16 : n ≤ 16) (a : List (List Int)) (ha : MatP n a) : FreshCall Try.prog 60 [.l2 a] (.l1 (flS n a n).2) := by
 have la := ha.1
 have hz := SO_ n n (by omega) (by omega)
 obtain ⟨S, eS⟩ : ∃ S : Nat → List (List Int) × List Int, S = flS n a := ⟨_, rfl⟩
 rw [← eS]
 have hP : ∀ k, MatP n (S k).1 := fun k => by rw [eS]; exact ba2 n a k
 have hl : ∀ k, (S k).2.length = n + 1 := fun k => by rw [eS]; exact Xx_ n a k
 have hb : ∀ k, k ≤ n → ∀ j, InP ((S k).2.getD j 0) := fun k hk j => by rw [eS]; exact Sh_ n a k hk j
 have hs : ∀ k, S (k + 1) = (flM n a (S k) k, (S k).2.set (n - (k + 1)) ((-(trD n (wz_ a (flM n a (S k) k) n))) % 55441 * inv ((k + 1 : Nat) : Int) % 55441)) := fun k => by rw [eS]; rfl
 have h0 : S 0 = (List.replicate n (List.replicate n 0), (List.replicate (n + 1) 0).set n 1) := by rw [eS]; rfl
 clear eS
 have en1 : ((n : Int) + 1).toNat = n + 1 := by omega
 have lr : (List.replicate (n + 1) (0 : Int)).length = n + 1 := List.length_replicate
 refine FreshCall.introR (n := 50) (rs := [.tmp 2]) Try.call60 Try.func60 rfl rfl rfl (by simp only [List.length_cons, List.length_nil]; omega) (fun cx hcx hrd => yY_ ?_); refine gE ?_
 refine gB ?_
 (repeat refine xa_ ?_); refine xr_ (xZ_ hcx) fun K hK => ?_; simp only [go_sem, seval, la]
 refine gU ?_
 refine hK _ ?_; clear hK K
 (repeat refine xa_ ?_); refine xr_ (xZ_ hcx) fun K hK => ?_; simp only [go_sem, seval, en1]
 refine gU ?_
 refine hK _ ?_; clear hK K
 (repeat refine xa_ ?_); refine xr_ (xZ_ hcx) fun K hK => ?_; simp only [go_sem, seval, lr]
 refine gU ?_
 refine hK _ ?_; clear hK K
 refine gC fun K hK => ?_
 first | refine x3_ rfl (hz) ?_ | refine xe_ (xP_ rfl (hz)) ?_
 refine gV ?_
 refine hK _ ?_; clear hK K
 refine gB ?_
 have t0 : Tree.t1 ((List.replicate (n + 1) 0).set n 1) = .t1 (S 0).2 := by rw [h0]
 have l0 : List.replicate n (List.replicate n (0 : Int)) = (S 0).1 := by rw [h0]
 rw [t0, l0]
 (repeat refine xa_ ?_); refine gLp (fun k : Nat => ⟨[(0, .l2 a), (3, .int n), (4, .ref 0 []), (5, .l2 (S k).1), (6, .int (k + 1))], [(0, .t1 (S k).2)]⟩) n fun k hk => ?_
 have lk := hl k
 refine gB ?_
 refine gI (fun h2 => ?_) fun h2 => ?_
 ·have hk : k < n := by omega
  have hM := Zm_ a (S k).1 n n1 h16 ha (hP k)
  obtain ⟨g0, g1⟩ := hb k (by omega) (n - k)
  have e1 : (n : Int) - (k + 1) + 1 = ((n - k : Nat) : Int) := by omega
  have hMod := S9_ (0 - ((S k).2.getD (n - k) 0)) (by omega) (by omega)
  rw [show (0 - ((S k).2.getD (n - k) 0)) % 55441 = -((S k).2.getD (n - k) 0) % 55441 by rw [Int.zero_sub]] at hMod
  have hL := Zj_ n n1 h16 (wz_ a (S k).1 n) (wN_ _ _ _) (-((S k).2.getD (n - k) 0) % 55441) (x7_ _)
  have hs1 := hs k
  have eM : ltM n (wz_ a (S k).1 n) (-((S k).2.getD (n - k) 0) % 55441) = flM n a (S k) k := rfl
  rw [eM] at hL
  have hM2 := Zm_ a (flM n a (S k) k) n n1 h16 ha (aK8 n a _ k)
  have hT := ac4 n h16 (wz_ a (flM n a (S k) k) n) (wN_ _ _ _)
  obtain ⟨d0, d1⟩ := x7_ (sumTo (fun i => e2 (wz_ a (flM n a (S k) k) n) i i) n)
  have eT : trD n (wz_ a (flM n a (S k) k) n) = sumTo (fun i => e2 (wz_ a (flM n a (S k) k) n) i i) n % 55441 := rfl
  rw [← eT] at d0 d1
  generalize trD n (wz_ a (flM n a (S k) k) n) = tt at *
  have hMod2 := S9_ (0 - tt) (by omega) (by omega)
  rw [show (0 - tt) % 55441 = -tt % 55441 by rw [Int.zero_sub]] at hMod2
  have hD := Uf_ (-tt % 55441) ((k + 1 : Nat) : Int) (x7_ _) ⟨by omega, by omega⟩
  obtain ⟨M', eM'⟩ : ∃ M', flM n a (S k) k = M' := ⟨_, rfl⟩
  rw [eM'] at hL hM2 hT hs1
  obtain ⟨v, ev⟩ : ∃ v, -tt % 55441 * inv ((k + 1 : Nat) : Int) % 55441 = v := ⟨_, rfl⟩
  rw [ev] at hD hs1
  have e2 : (n : Int) - (k + 1) = ((n - (k + 1) : Nat) : Int) := by omega
  have ek : ((k + 1 : Nat) : Int) = (k : Int) + 1 := by omega
  rw [ek] at hD
  clear eT eM
  refine xb_ ?_
  refine gO ?_
  (repeat refine xa_ ?_)
  obtain ⟨mk, emk⟩ : ∃ mk : List (Nat × AV) → List (Nat × Tree) → St, mk = fun s h => ⟨[(0, .l2 a), (3, .int n), (4, .ref 0 []), (5, .l2 (S k).1), (6, .int (k + 1))] ++ s, h ++ [(0, .t1 (S k).2)]⟩ := ⟨_, rfl⟩
  obtain ⟨z0, ez0⟩ := gZ (⟨[(0, .l2 a), (3, .int n), (4, .ref 0 []), (5, .l2 (S k).1), (6, .int (k + 1)), (23, .l2 a), (24, .l2 (S k).1), (26, .ref 0 []), (27, .int n), (28, .int (k + 1))], [(0, .t1 (S k).2)]⟩ : St)
  obtain ⟨z1, ez1⟩ := gZ (mk [(25, .l2 (wz_ a (S k).1 n)), (26, .ref 0 []), (27, .int n), (28, .int (k + 1))] [])
  obtain ⟨z2, ez2⟩ := gZ (mk [(23, .l2 a), (24, .l2 (S k).1), (26, .ref 0 []), (29, .int ((n : Int) - (k + 1)))] [])
  obtain ⟨z3, ez3⟩ := gZ (mk [(25, .l2 (wz_ a (S k).1 n)), (26, .ref 0 []), (29, .int ((n : Int) - (k + 1)))] [])
  obtain ⟨z4, ez4⟩ := gZ (mk [(23, .l2 a), (24, .l2 (S k).1), (26, .ref 0 []), (30, .int ((n - k : Nat) : Int))] [])
  obtain ⟨z5, ez5⟩ := gZ (mk [(25, .l2 (wz_ a (S k).1 n)), (26, .ref 0 []), (30, .int ((n - k : Nat) : Int))] [])
  obtain ⟨z6, ez6⟩ := gZ (mk [(23, .l2 a), (24, .l2 (S k).1), (31, .eref 0 [] (n - k))] [])
  obtain ⟨z7, ez7⟩ := gZ (mk [(25, .l2 (wz_ a (S k).1 n)), (31, .eref 0 [] (n - k))] [])
  obtain ⟨z8, ez8⟩ := gZ (mk [(23, .l2 a), (24, .l2 (S k).1), (32, .int ((S k).2.getD (n - k) 0))] [])
  obtain ⟨z9, ez9⟩ := gZ (mk [(25, .l2 (wz_ a (S k).1 n)), (32, .int ((S k).2.getD (n - k) 0))] [])
  obtain ⟨z10, ez10⟩ := gZ (mk [(23, .l2 a), (24, .l2 (S k).1), (33, .int (0 - ((S k).2.getD (n - k) 0)))] [])
  obtain ⟨z11, ez11⟩ := gZ (mk [(25, .l2 (wz_ a (S k).1 n)), (33, .int (0 - ((S k).2.getD (n - k) 0)))] [])
  obtain ⟨z12, ez12⟩ := gZ (mk [(25, .l2 (wz_ a (S k).1 n)), (34, .int (-((S k).2.getD (n - k) 0) % 55441))] [])
  obtain ⟨z13, ez13⟩ := gZ (mk [(35, .l2 M')] [])
  obtain ⟨z14, ez14⟩ := gZ (⟨[(0, .l2 a), (3, .int n), (4, .ref 0 []), (5, .l2 M'), (6, .int (k + 1))], [(0, .t1 (S k).2)]⟩ : St)
  refine zu_ [] [0, 1, 3, 4, 5] [[0, 1, 3, 4, 5], [0, 1, 2, 3, 4, 5], [0, 1, 3, 4, 5, 6], [0, 1, 2, 3, 4, 5, 6], [0, 1, 3, 4, 5, 6, 7], [0, 1, 2, 3, 4, 5, 6, 7], [0, 1, 3, 4, 5, 6, 7, 8], [0, 1, 2, 3, 4, 5, 6, 7, 8], [0, 1, 3, 4, 5, 6, 7, 8, 9], [0, 1, 2, 3, 4, 5, 6, 7, 8, 9], [0, 1, 3, 4, 5, 6, 7, 8, 9, 10], [0, 1, 2, 3, 4, 5, 6, 7, 8, 9, 10], [0, 1, 2, 3, 4, 5, 6, 7, 8, 9, 10, 11], [0, 1, 2, 3, 4, 5, 6, 7, 8, 9, 10, 11, 12], [0, 1, 2, 3, 4, 5, 6, 7, 8, 9, 10, 11, 12, 13]] [(0, 2, 1), (0, 6, 2), (1, 6, 3), (2, 2, 3), (2, 7, 4), (3, 7, 5), (4, 2, 5), (4, 8, 6), (5, 8, 7), (6, 2, 7), (6, 9, 8), (7, 9, 9), (8, 2, 9), (8, 10, 10), (9, 10, 11), (10, 2, 11), (11, 11, 12), (12, 12, 13), (13, 13, 14)] [z0, z1, z2, z3, z4, z5, z6, z7, z8, z9, z10, z11, z12, z13, z14] hrd (by first | exact xZ_ hcx | exact yQ_ hcx rfl | exact zE_ hcx rfl) mixed (by kernel_rfl) ?_ ?_ ?_
  ·show zz_ _ _ _ _ _ _ (fun s => yp_ _ _ s z0)
   rw [ez0]; simp only [go_sem, seval]; repeat' (first | (refine zA_ ?_ rfl; (focus ((repeat' (first | exact True.intro | refine And.intro rfl ?_)); done))) | with_reducible refine And.intro ?_ ?_ | omega)
  ·refine ⟨dtr ez0 ez1 ?_, dtr ez0 ez2 ?_, dtr ez1 ez3 ?_, dtr ez2 ez3 ?_, dtr ez2 ez4 ?_, dtr ez3 ez5 ?_, dtr ez4 ez5 ?_, dtr ez4 ez6 ?_, dtr ez5 ez7 ?_, dtr ez6 ez7 ?_, dtr ez6 ez8 ?_, dtr ez7 ez9 ?_, dtr ez8 ez9 ?_, dtr ez8 ez10 ?_, dtr ez9 ez11 ?_, dtr ez10 ez11 ?_, dtr ez11 ez12 ?_, dtr ez12 ez13 ?_, dtr ez13 ez14 ?_, trivial⟩
   all_goals simp only [emk, List.cons_append, List.nil_append, List.append_nil, go_sem, seval]
   all_goals repeat' (first | (refine zA_ ?_ rfl; (focus ((repeat' (first | exact True.intro | refine And.intro rfl ?_)); done))) | with_reducible refine And.intro ?_ ?_ | omega | ((first | refine x3_ rfl (hM) ?_ | refine xe_ (xP_ rfl (hM)) ?_); simp only [go_sem, seval]) | ((first | refine xi_ (hMod) rfl ?_ | refine xe_ (xg_ (hMod) rfl) ?_); simp only [go_sem, seval]) | ((first | refine x3_ rfl (hL) ?_ | refine xe_ (xP_ rfl (hL)) ?_); simp only [go_sem, seval]) | ((simp only [e1])))
  show ATs _ _ _ _ _ z14
  rw [ez14]
  clear emk ez0 ez1 ez2 ez3 ez4 ez5 ez6 ez7 ez8 ez9 ez10 ez11 ez12 ez13 ez14
  (repeat refine xa_ ?_); refine xr_ (xZ_ hcx) fun K hK => ?_; simp only [go_sem, seval, e2]
  refine gU ?_
  first | refine x3_ rfl (hM2) ?_ | refine xe_ (xP_ rfl (hM2)) ?_
  refine gV ?_
  first | refine xi_ (hT) rfl ?_ | refine xe_ (xg_ (hT) rfl) ?_
  refine gW ?_
  first | refine xi_ (hMod2) rfl ?_ | refine xe_ (xg_ (hMod2) rfl) ?_
  refine gV ?_
  first | refine xi_ (hD) rfl ?_ | refine xe_ (xg_ (hD) rfl) ?_
  refine gW ?_
  refine hK _ ?_; clear hK K
  refine gB ?_
  refine ⟨k + 1,  by omega, by omega, .inl ⟨by simp only [leS, Nat.reduceEqDiff, ↓reduceIte, true_and, and_true]; exact ⟨by rw [hs1], by omega⟩,  by rw [hs1]⟩⟩
 ·obtain rfl : k = n := by omega
  refine xf_ (ye_ ?_)
  refine gB ?_
  exact xd_ (Xl_ (is := [0]) rfl ⟨rfl, trivial⟩ rfl (by simp))
end Go.Proofs.Ytlngnhbochmcoaa
namespace Go.Proofs.Ytlngnhbochmcoaa
open Go Go.Aw Go.Pl
set_option maxHeartbeats 4000000 in
theorem ac5 (xs : List Int) : OwnCall Try.prog 87 [.l1 xs] [] [(4, .bx [.l1 xs])] (.fn 99 [.bptr 4 0]) [] := by
 refine OwnCall.intro (n := 4) (rs := [.tmp 2]) 1 [0] (X := []) Try.call87 Try.func87 rfl rfl rfl (by simp only [List.length_cons, List.length_nil]; omega) (by simp [Aw.ids, y9_, zk_, xD_, xh_]) (fun cx hcx => AT.weakG (yY_ ?_)); refine gE ?_
 refine gBN ?_
 refine gBN ?_
 refine xd_ ⟨⟨[(0, .l1 xs), (2, .fn 99 [.bptr 4 0])], [(4, .bx [.l1 xs])]⟩, xS_ [] [(0, 4)], .inr rfl, (by first | rfl | exact ⟨trivial, rfl⟩ | (simp only [wg_, V8_, go_sem, seval]; done)), (by simp [St.get, xh_, xD_]), rfl⟩
set_option maxRecDepth 100000 in
set_option maxHeartbeats 8000000 in
theorem WA_ (q : List Int) (hl : q.length ≤ 1000) (hq : ∀ j, j < q.length → InP (q.getD j 0)) (z : Int) (hz : InP z) : PureCall Try.prog 61 [.l1 q, .int z] (.int (hvL q z)) := by
 rw [← aa3]
 have hba := ac5 q
 obtain ⟨z0, z1⟩ := hz
 refine PureCall.introD (n := 19) (rs := [.tmp 4]) Try.call61 Try.func61 rfl rfl rfl (by simp only [List.length_cons, List.length_nil]; omega) (fun cx hcx hrd => ?_)
 have hcxA := hcx
 refine gE ?_
 refine ap9 [_, _] ⟨[(0, .l1 q), (3, .bptr 0 0), (5, .bptr 1 0)], [(0, .bx [.int z]), (1, .bx [.int 0])]⟩ (fun cx hf => ?_) ?_
 ·replace hcx := hf.trans hcx
  refine gBN ?_
  refine gBN ?_
  refine yf_ ?_; refine Or.inl ⟨rfl, xS_ [] []⟩
 ·refine JD_ ?_
  (repeat refine ap8 ?_)
  refine JF_ ⟨[(0, .l1 q), (3, .bptr 0 0), (5, .bptr 1 0), (9, .fn 99 [.bptr 4 0])], [(0, .bx [.int z]), (1, .bx [.int 0]), (4, .bx [.l1 q])]⟩ (fun cx hf => ?_) ?_
  ·replace hcx := hf.trans hcx
   refine gCN fun K hK => ?_
   refine wU_ (hba) (by simp [Aw.ids]) (by simp [find]) (by simp [z2_, x4_, xA_, xp_, Wq_, Aw.ids]) (by simp [xA_, xp_, Wq_, Aw.ids]) (by simp [Aw.ids]) ?_; simp only [Aw.ids, List.map_cons, List.map_nil, List.filter_cons, List.filter_nil, List.contains_cons, List.contains_nil, Bool.or_false, Bool.or_true, Bool.not_true, Bool.not_false, Nat.reduceBEq, Bool.false_eq_true, if_true, if_false, List.cons_append, List.nil_append]; simp only [go_sem, seval]
   refine hK _ ?_; clear hK K
   refine yf_ ?_; refine Or.inl ⟨rfl, xS_ [] []⟩
  refine QE_ ?_
  refine ATD.back (fB := 99) JG_ Try.call99 hrd (gs := 9) (p0 := 10) (p1 := 11) q.length (fun k => [(0, .bx [.int z]), (1, .bx [.int (hvT q z k)]), (4, .bx [.l1 q])]) (fun k => q.getD (q.length - 1 - k) 0) (fun j => [0, 3, 5, 9].contains j) (by unfold maxLen; omega) rfl rfl rfl (by decide) (by decide) (by decide) (bh2 rfl) (bh3 rfl rfl (fun x => rfl)) (fun k hkl c2 hf2 => ?_) ?_
  ·have hcx := hf2
   have hk : k ≤ q.length := by omega
   obtain ⟨q0, q1⟩ := hq (q.length - 1 - k) (by omega)
   have h1 := Wl_ q z k
   have m1 := Wv_ h1 ⟨z0, z1⟩
   have cs1 : (hvT q z k * z + q.getD (q.length - 1 - k) 0) % 55441 = hvT q z (k + 1) := rfl
   have b1 := Wl_ q z (k + 1)
   rw [← cs1] at b1
   have e1 : (hvT q z k * z + q.getD (q.length - 1 - k) 0).tmod 55441 = (hvT q z k * z + q.getD (q.length - 1 - k) 0) % 55441 := tmP (by omega)
   obtain ⟨c0, c1⟩ := b1
   obtain ⟨m0, m1⟩ := m1
   generalize q.getD (q.length - 1 - k) 0 = y at *
   obtain ⟨w, eW⟩ : ∃ w, hvT q z k * z = w := ⟨_, rfl⟩
   rw [eW] at e1 cs1 m0 m1 c0 c1
   refine yY_ ?_
   refine gBN ?_
   refine ⟨rfl, fun cx hf => ?_⟩
   have hcx := hf
   refine AT.weakG (yY_ ?_)
   refine gO ?_
   (repeat refine xa_ ?_); refine xr_ (by first | exact xZ_ hcx | exact zE_ hcx rfl) fun K hK => ?_; simp only [go_sem, seval, eW, e1, cs1]
   refine gU ?_
   refine hK _ ?_; clear hK K
   refine yf_ (Vq_ (yf_ ?_))
   refine ⟨_, QF_, rfl, ?_, rfl⟩
   show xN_ _ [(0, .l1 q), (3, .bptr 0 0), (5, .bptr 1 0), (9, .fn 99 [.bptr 4 0])]
   simp only [leS, Nat.reduceEqDiff, ↓reduceIte, true_and, and_true]
  ·refine JE_ fun cx hf => ?_
   replace hcx := hf.trans hcxA
   refine yY_ ?_
   refine gBN ?_
   refine xd_ (zW_ rfl ?_)
   rfl
def dvR (q : List Int) (z : Int) (t : Nat) : List Int := xU_ (q.length - 1) fun j => if q.length - 1 - t ≤ j then hvT q z (q.length - 1 - j) else 0
theorem Rp_ (q : List Int) (h2 : 2 ≤ q.length) (hl : q.length ≤ 1000) (hq : ∀ j, j < q.length → InP (q.getD j 0)) (z : Int) (hz : InP z) : FreshCall Try.prog 62 [.l1 q, .int z] (.l1 (dvQ q z)) := by
 obtain ⟨z0, z1⟩ := hz
 obtain ⟨m, em⟩ : ∃ m, q.length = m + 1 := ⟨q.length - 1, by omega⟩
 have er : dvQ q z = dvR q z m := yr_ fun j hj => by
  show _ = if q.length - 1 - m ≤ j then _ else _
  rw [if_pos (by omega)]
 have e0 : List.replicate m (0 : Int) = dvR q z 0 := by
  unfold dvR
  rw [em, Nat.add_sub_cancel, yr_ (g := fun _ => 0) fun j hj => by rw [if_neg (by omega)]]
  unfold xU_
  rw [List.map_const', List.length_range]
 have ld : ∀ t, (dvR q z t).length = m := fun t => by unfold dvR; rw [xn_]; omega
 have st : ∀ t, t < m → (dvR q z t).set (m - 1 - t) (hvT q z (t + 1)) = dvR q z (t + 1) := fun t ht => by
  unfold dvR
  rw [em, Nat.add_sub_cancel, wn_]
  refine yr_ fun j hj => ?_
  by_cases c : j = m - 1 - t
  ·rw [if_pos c, if_pos (by omega), show m - j = t + 1 by omega]
  ·rw [if_neg c]
   by_cases d : m - t ≤ j
   ·rw [if_pos d, if_pos (by omega)]
   ·rw [if_neg d, if_neg (by omega)]
 rw [er]
 have en1 : ((m + 1 : Nat) : Int) - 1 = (m : Int) := by omega
 have en2 : ((m : Int)).toNat = m := by omega
 have hb := Wl_ q z
 refine gFC 34 [.tmp 4] Try.call62 Try.func62 fun cx hcx => gE ?_
 refine gBN ?_
 (repeat refine xa_ ?_); refine xr_ (by first | exact xZ_ hcx | exact zE_ hcx rfl) fun K hK => ?_; simp only [go_sem, seval, em, en1, en2, e0]
 refine gU ?_
 refine hK _ ?_; clear hK K
 (repeat refine xa_ ?_); refine xr_ (by first | exact xZ_ hcx | exact zE_ hcx rfl) fun K hK => ?_; simp only [go_sem, seval, ld]
 refine gU ?_
 refine hK _ ?_; clear hK K
 (repeat refine xa_ ?_); refine gLp (fun t : Nat => ⟨[(0, .l1 q), (1, .int z), (5, .ref 0 []), (6, .int (hvT q z t)), (7, .int (m - 1 - t))], [(0, .t1 (dvR q z t))]⟩) m fun t ht => ?_
 have l0 := ld t
 refine gBN ?_
 refine gI (fun hc => ?_) fun hc => ?_
 ·have ht : t < m := by omega
  obtain ⟨q0, q1⟩ := hq (m - t) (by omega)
  have m1 := Wv_ (hb t) ⟨z0, z1⟩
  have cs1 : (hvT q z t * z + q.getD (m - t) 0) % 55441 = hvT q z (t + 1) := by rw [hvT, em, Nat.add_sub_cancel]
  have e1 : (hvT q z t * z + q.getD (m - t) 0).tmod 55441 = (hvT q z t * z + q.getD (m - t) 0) % 55441 := tmP (by omega)
  obtain ⟨c0, c1⟩ := hb (t + 1)
  obtain ⟨m0, m1⟩ := m1
  have i1 : (m : Int) - 1 - t + 1 = ((m - t : Nat) : Int) := by omega
  have i2 : (m : Int) - 1 - t = ((m - 1 - t : Nat) : Int) := by omega
  have i3 : ((m - t : Nat) : Int).toNat = m - t := by omega
  have s1 := st t ht
  obtain ⟨w, eW⟩ : ∃ w, hvT q z t * z = w := ⟨_, rfl⟩
  obtain ⟨y, ey⟩ : ∃ y, q.getD (m - t) 0 = y := ⟨_, rfl⟩
  rw [eW, ey] at e1 cs1
  rw [eW] at m0 m1
  rw [ey] at q0 q1
  refine xb_ ?_
  refine gO ?_
  (repeat refine xa_ ?_); refine xr_ (by first | exact xZ_ hcx | exact zE_ hcx rfl) fun K hK => ?_; simp only [go_sem, seval, i1, eW, ey, e1, cs1]
  refine gU ?_
  refine hK _ ?_; clear hK K
  (repeat refine xa_ ?_); refine xr_ (by first | exact xZ_ hcx | exact zE_ hcx rfl) fun K hK => ?_; simp only [go_sem, seval, i2]
  refine gU ?_
  refine hK _ ?_; clear hK K
  rw [s1]
  refine gBN ?_
  refine ⟨t + 1,  by omega, by omega, .inl ⟨gH,  rfl⟩⟩
 ·obtain rfl : t = m := by omega
  refine xf_ (ye_ ?_)
  refine gBN ?_
  exact xd_ (Xl_ (is := [0]) rfl ⟨rfl, trivial⟩ rfl (by simp))
end Go.Proofs.Ytlngnhbochmcoaa
namespace Go.Proofs.Ytlngnhbochmcoaa
open Go Go.Aw Go.Pl
theorem aK9 (n : Nat) (a : List (List Int)) : RtI (flS n a n).2 0 (flS n a n).2 := by
 have l := Xx_ n a n
 refine ⟨by omega, fun j _ => Sh_ n a n (Nat.le_refl _) j, ?_, fun _ _ _ => Iff.rfl⟩
 rw [l, Nat.add_sub_cancel]
 have := Yc_ n a (j := 0) n (Nat.zero_le _) (Nat.le_refl _)
 rw [Nat.sub_zero] at this
 rw [this]
 show ((List.replicate (n + 1) 0).set n 1).getD n 0 = 1
 rw [Wi_ (by rw [List.length_replicate]; omega)]
set_option maxRecDepth 100000 in
set_option maxHeartbeats 8000000 in
theorem Wr_ (n : Nat) (n1 : 1 ≤ n) (h16 : n ≤ 16) (a : List (List Int)) (ha : MatP n a) : FreshCall Try.prog 36 [.l2 a] (.l1 (rtL (flS n a n).2 55441)) := by
 have hC := Yf_ n n1 h16 a ha
 have hR := aK9 n a
 have hl := Xx_ n a n
 obtain ⟨P, eP⟩ : ∃ P, (flS n a n).2 = P := ⟨_, rfl⟩
 rw [eP] at hC hR hl ⊢
 clear eP
 refine gFC 39 [.tmp 2] Try.call36 Try.func36 fun cx hcx => gE ?_
 refine gB ?_
 refine gC fun K hK => ?_
 first | refine x3_ rfl (hC) ?_ | refine xe_ (xP_ rfl (hC)) ?_
 refine gV ?_
 refine hK _ ?_; clear hK K
 refine gB ?_
 (repeat refine xa_ ?_); refine xo_ (fun s : Nat × List Int => ⟨[(3, .ref 0 []), (4, .l1 s.2), (5, .int s.1)], [(0, .t1 (rtL P s.1))]⟩) (fun s => s.1 ≤ 55441 ∧ RtI P s.1 s.2) (fun s => 55441 - s.1) (0, P) ⟨Nat.zero_le _, hR⟩ (by
  refine And.intro ?_ rfl; simp only [leS, Nat.reduceEqDiff, ↓reduceIte, true_and, and_true]
  first | exact ⟨rfl, rfl⟩ | rfl | trivial) (fun s hs => ?_)
 obtain ⟨k, q⟩ := s
 obtain ⟨hk, hq⟩ := hs
 dsimp only at hk hq ⊢
 have lr := YE_ P k
 have lq := hq.len
 by_cases hgo : k < 55441 ∧ 1 < q.length
 ·have g1 : ((k : Int) < 55441) = True := eq_true (by omega)
  have g2 : ((q.length : Int) > 1) = True := eq_true (by omega)
  have g3 : ((1 : Int) < (q.length : Int)) = True := eq_true (by omega)
  have hv := WA_ q (by omega) hq.inP (k : Int) ⟨by omega, by omega⟩
  (repeat refine xa_ ?_); refine xr_ (xZ_ hcx) fun K hK => ?_; simp only [go_sem, seval, g1, g2, g3, decide_true, Bool.true_and]
  refine gU ?_
  refine hK _ ?_; clear hK K
  refine gR ?_
  refine xb_ ?_
  refine gO ?_
  refine gC fun K hK => ?_
  first | refine xi_ (hv) rfl ?_ | refine xe_ (xg_ (hv) rfl) ?_
  refine gV ?_
  refine hK _ ?_; clear hK K
  by_cases hz : hvL q (k : Int) = 0
  ·have hp : hvL P (k : Int) = 0 := (hq.same k (by omega) (by omega)).1 hz
   have sy := aa4 hp
   refine gI (fun h5 => ?_) fun h5 => ?_
   ·exact absurd hz h5
   refine xb_ ?_
   refine gC fun K hK => ?_
   refine gU ?_
   refine hK _ ?_; clear hK K
   rw [← sy]
   have lr2 := YE_ P (k + 1)
   (repeat refine xa_ ?_); refine AT.ghost (st' := ⟨[(3, .ref 0 []), (4, .l1 q), (5, .int k)], [(0, .t1 (rtL P (k + 1)))]⟩) (xS_ [1] []) ?_
   (repeat refine xa_ ?_); refine xo_ (fun q' : List Int => ⟨[(3, .ref 0 []), (4, .l1 q'), (5, .int k)], [(0, .t1 (rtL P (k + 1)))]⟩) (fun q' => RtI P ((k + 1 : Nat) : Int) q') (fun q' => q'.length) q (hq.mono (by omega)) (by
    refine And.intro ?_ rfl; simp only [leS, Nat.reduceEqDiff, ↓reduceIte, true_and, and_true]
    try rfl) (fun q' hq' => ?_)
   have lq' := hq'.len
   have hv' := WA_ q' (by omega) hq'.inP (k : Int) ⟨by omega, by omega⟩
   by_cases c1 : 1 < q'.length
   ·have f2 : ((q'.length : Int) > 1) = True := eq_true (by omega)
    have f3 : ((1 : Int) < (q'.length : Int)) = True := eq_true (by omega)
    (repeat refine xa_ ?_); refine xr_ (xZ_ hcx) fun K hK => ?_; simp only [go_sem, seval, f2, f3, decide_true, Bool.true_and]
    first | refine xe_ (fun _ => xg_ (hv') rfl) ?_ | refine xe_ (xg_ (hv') rfl) ?_
    refine gV ?_
    (try simp only [go_sem, seval, decide_true, Bool.true_and])
    refine gU ?_
    refine hK _ ?_; clear hK K
    refine gI (fun h6 => ?_) fun h6 => ?_
    ·have hd := Rp_ q' (by omega) (by omega) hq'.inP (k : Int) ⟨by omega, by omega⟩
     refine xb_ ?_
     refine gO ?_
     refine gC fun K hK => ?_
     first | refine x3_ rfl (hd) ?_ | refine xe_ (xP_ rfl (hd)) ?_
     refine gV ?_
     refine hK _ ?_; clear hK K
     refine yf_ (Vq_ (yf_ ?_))
     have hd2 := hq'.div (k := (k : Int)) (by omega) (by omega) (by omega) h6
     have dl := Wm_ q' (k : Int)
     refine ⟨dvQ q' k,  hd2, by omega, .inl ⟨by simp only [leS, Nat.reduceEqDiff, ↓reduceIte, true_and, and_true]; (first | done | trivial | rfl),  rfl⟩⟩
    ·have hq2 := hq'
     refine xf_ (ye_ ?_)
     refine yf_ (Vq_ ?_)
     refine gB ?_
     refine ⟨(k + 1, q'),  ⟨by omega, hq2⟩, by omega, .inl ⟨by simp only [leS, Nat.reduceEqDiff, ↓reduceIte, true_and, and_true]; (first | done | exact ⟨rfl, by omega⟩ | omega),  rfl⟩⟩
   ·have f2 : ((q'.length : Int) > 1) = False := eq_false (by omega)
    have f3 : ((1 : Int) < (q'.length : Int)) = False := eq_false (by omega)
    (repeat refine xa_ ?_); refine xr_ (xZ_ hcx) fun K hK => ?_; simp only [go_sem, seval, f2, f3, decide_false, Bool.false_and]
    refine gU ?_
    refine xe_ (v := .int 0) (by first | trivial | (intro h; cases h)) ?_
    refine gW ?_
    refine hK _ ?_; clear hK K
    refine gI (fun h6 => ?_) fun h6 => ?_
    ·exact absurd h6 (by simp)
    ·refine xf_ (ye_ ?_)
     refine yf_ (Vq_ ?_)
     refine gB ?_
     refine ⟨(k + 1, q'),  ⟨by omega, hq'⟩, by omega, .inl ⟨by simp only [leS, Nat.reduceEqDiff, ↓reduceIte, true_and, and_true]; (first | done | exact ⟨rfl, by omega⟩ | omega),  rfl⟩⟩
  ·have hp : hvL P (k : Int) ≠ 0 := fun h => hz ((hq.same k (by omega) (by omega)).2 h)
   have sn := aa5 hp
   refine gI (fun h5 => ?_) fun h5 => ?_
   ·refine xf_ (am6 ?_)
    refine gB ?_
    refine ⟨(k + 1, q),  ⟨by omega, hq.mono (by omega)⟩, by omega, .inl ⟨by simp only [leS, Nat.reduceEqDiff, ↓reduceIte, true_and, and_true]; (first | done | exact ⟨rfl, by omega⟩ | omega),  by rw [sn]⟩⟩
   ·exact absurd h5 hz
 ·have fin : rtL P 55441 = rtL P k := by
   refine ar8 hk fun j h1 h2 => ?_
   by_cases c : 1 < q.length
   ·omega
   ·exact hq.one (by omega) (by omega) (by omega)
  rw [fin]
  by_cases c : k < 55441
  ·have g1 : ((k : Int) < 55441) = True := eq_true (by omega)
   have g2 : ((q.length : Int) > 1) = False := eq_false (by omega)
   have g3 : ((1 : Int) < (q.length : Int)) = False := eq_false (by omega)
   (repeat refine xa_ ?_); refine xr_ (xZ_ hcx) fun K hK => ?_; simp only [go_sem, seval, g1, g2, g3, decide_true, decide_false, Bool.true_and]
   refine gU ?_
   refine hK _ ?_; clear hK K
   refine gQ ?_
   refine xf_ (ye_ ?_)
   refine gB ?_
   exact xd_ (Xl_ (is := [0]) rfl ⟨rfl, trivial⟩ rfl (by simp))
  ·have g1 : ((k : Int) < 55441) = False := eq_false (by omega)
   (repeat refine xa_ ?_); refine xr_ (xZ_ hcx) fun K hK => ?_; simp only [go_sem, seval, g1, decide_false, Bool.false_and]
   refine gU ?_
   refine hK _ ?_; clear hK K
   refine gQ ?_
   refine xf_ (ye_ ?_)
   refine gB ?_
   exact xd_ (Xl_ (is := [0]) rfl ⟨rfl, trivial⟩ rfl (by simp))
end Go.Proofs.Ytlngnhbochmcoaa
namespace Go.Proofs.Ytlngnhbochmcoaa
open Go Go.Aw Go.Pl
theorem Sr_ {n : Nat} {m : List (List Int)} (h : MatP n m) : ∀ a, a < n → ∀ b, b < n → InP (e2 m a b) := fun a ha b hb => h.inP ha hb
set_option maxRecDepth 100000 in
set_option maxHeartbeats 8000000 in
theorem Ue_ (n : Nat) (n1 : 1 ≤ n) (h16 : n ≤ 16) (ms : List (List (List Int))) (l1 : 1 ≤ ms.length) (l16 : ms.length ≤ 16) (hms : ∀ i, i < ms.length → MatP n (ms.getD i [])) (vs : List Int) (lv : vs.length = ms.length) (hv : ∀ i, i < ms.length → InP (vs.getD i 0)) :
  PureCall Try.prog 38 [.l3 ms, .l1 vs] (.bool (decide ((hcR n ms vs ms.length).length < n))) := by
 have hR := fun i (hi : i ≤ ms.length) => zD_ (n := n) (ms := ms) (vs := vs) i fun l hl => Sr_ (hms l (by omega))
 have h0 := (hms 0 (by omega)).1
 obtain ⟨R, eR⟩ : ∃ R : Nat → List (List Int), R = hcR n ms vs := ⟨_, rfl⟩
 have hs : ∀ i, R (i + 1) = YU_ n (R i ++ ltM n (ms.getD i []) (vs.getD i 0)) := fun i => by rw [eR]; rfl
 have hR0 : R 0 = [] := by rw [eR]; rfl
 rw [← eR] at hR ⊢
 clear eR
 refine gPC 37 [.tmp 4] Try.call38 Try.func38 fun cx hcx => gE ?_
 refine gB ?_
 refine gB ?_
 refine gB ?_
 have t0 : Tree.t2 [] = .t2 (R 0) := by rw [hR0]
 rw [t0]
 (repeat refine xa_ ?_); refine gLp (fun i : Nat => ⟨[(0, .l3 ms), (1, .l1 vs), (5, .ref 0 []), (9, .l3 ms), (10, .int ms.length), (11, .int i)], [(0, .t2 (R i))]⟩) ms.length fun i hi => ?_
 have lR := (hR i hi).2
 refine gB ?_
 refine gI (fun h2 => ?_) fun h2 => ?_
 ·have hi' : i < ms.length := by omega
  have hm := hms i hi'
  have hL := Zj_ n n1 h16 (ms.getD i []) hm (vs.getD i 0) (hv i hi')
  have lL : (ltM n (ms.getD i []) (vs.getD i 0)).length = n := xx_ ..
  have hA := zU_ (hR i hi).1 (wt_ (Sr_ hm) (vs.getD i 0))
  obtain ⟨det, hD⟩ := QG_ n (R i ++ ltM n (ms.getD i []) (vs.getD i 0)) hA n1 (by omega) (by rw [List.length_append]; omega) (by rw [List.length_append]; omega)
  rw [← hs i] at hD
  have lA : (R i ++ ltM n (ms.getD i []) (vs.getD i 0)).length ≤ 100 := by rw [List.length_append]; omega
  obtain ⟨L, eL⟩ : ∃ L, ltM n (ms.getD i []) (vs.getD i 0) = L := ⟨_, rfl⟩
  rw [eL] at hL hD lL lA
  refine xb_ ?_
  refine gO ?_
  refine gB ?_
  (repeat refine xa_ ?_); refine xr_ (xZ_ hcx) fun K hK => ?_; simp only [go_sem, seval, lv]
  refine gU ?_
  refine xK_ rfl (hL) rfl ?_; simp only [go_sem, seval]
  refine gU ?_
  refine hK _ ?_; clear hK K
  (repeat refine xa_ ?_); refine AT.ghost (st' := ⟨[(0, .l3 ms), (1, .l1 vs), (5, .ref 0 []), (9, .l3 ms), (10, .int ms.length), (11, .int i)], [(0, .t2 (R i ++ L))]⟩) (xS_ [1] []) ?_
  refine gC fun K hK => ?_
  refine xK_ rfl (hD) rfl ?_; simp only [go_sem, seval]
  refine hK _ ?_; clear hK K
  (repeat refine xa_ ?_); refine AT.ghost (st' := ⟨[(0, .l3 ms), (1, .l1 vs), (5, .ref 0 []), (9, .l3 ms), (10, .int ms.length), (11, .int i)], [(0, .t2 (R (i + 1)))]⟩) (xS_ [0] [(1, 0)]) ?_
  refine gB ?_
  refine ⟨i + 1,  by omega, by omega, .inl ⟨gH,  rfl⟩⟩
 ·obtain rfl : i = ms.length := by omega
  refine xf_ (ye_ ?_)
  (repeat refine xa_ ?_); refine xr_ (xZ_ hcx) fun K hK => ?_; simp only [go_sem, seval, h0]
  refine gU ?_
  refine hK _ ?_; clear hK K
  refine xd_ (yZ_ rfl ?_)
  first | rfl | simp
end Go.Proofs.Ytlngnhbochmcoaa
