import Derived.Test.YtjbdiekkjegckaaGreatZz4
set_option linter.unusedSimpArgs false
set_option linter.unusedVariables false
namespace Go.Proofs.YtjbdiekkjegckaaGreat
open Go Go.Aw Go.Pl
theorem UL_ {t u v m : Int} (m2 : m ≤ 1000) (t0 : 0 ≤ t) (t1 : t < m) (u0 : 0 ≤ u) (u1 : u ≤ 8) (v0 : 0 ≤ v) (v1 : v ≤ 8) : (0 ≤ t * u ∧ t * u ≤ 8000) ∧ 0 ≤ t * u * v ∧ t * u * v ≤ 64000 := by
 have h1 : 0 ≤ t * u := Int.mul_nonneg t0 u0
 have h2 : t * u ≤ 1000 * 8 := Int.mul_le_mul (by omega) u1 u0 (by omega)
 have h3 : 0 ≤ t * u * v := Int.mul_nonneg h1 v0
 have h4 : t * u * v ≤ 8000 * 8 := Int.mul_le_mul (by omega) v1 v0 (by omega)
 omega
structure ChO (m : Int) (p : Nat) (T : List (List Int)) (u v : List Int) : Prop where
 m2 : m ≤ 1000
 len : T.length = p
 row : ∀ i, i < p → (T.getD i []).length = p
 rng : ∀ i, i < p → ∀ k, k < p → 0 ≤ e2 T i k ∧ e2 T i k < m
 lu : u.length = p
 lv : v.length = p
 ru : ∀ i, i < p → 0 ≤ u.getD i 0 ∧ u.getD i 0 ≤ 8
 rv : ∀ i, i < p → 0 ≤ v.getD i 0 ∧ v.getD i 0 ≤ 8
theorem TE_ {m : Int} {p : Nat} {T : List (List Int)} {u v : List Int} (h : ChO m p T u v) {i : Nat} (hi : i < p) : ∀ k : Nat, k ≤ p → 0 ≤ chT T u v i k ∧ chT T u v i k ≤ 64000 * k
 | 0, _ => ⟨Int.le_refl _, by show (0 : Int) ≤ 64000 * 0; omega⟩
 | k + 1, hk => by
  have ih := TE_ h hi k (by omega)
  have b := (UL_ h.m2 (h.rng i hi k (by omega)).1 (h.rng i hi k (by omega)).2 (h.ru i hi).1 (h.ru i hi).2 (h.rv k (by omega)).1 (h.rv k (by omega)).2).2
  show 0 ≤ chT T u v i k + e2 T i k * u.getD i 0 * v.getD k 0 ∧ chT T u v i k + e2 T i k * u.getD i 0 * v.getD k 0 ≤ 64000 * ((k + 1 : Nat) : Int)
  push_cast
  omega
theorem RP_ {m : Int} {p : Nat} {T : List (List Int)} {u v : List Int} (h : ChO m p T u v) (p8 : p ≤ 8) : ∀ i : Nat, i ≤ p → 0 ≤ chS T u v p i ∧ chS T u v p i ≤ 512000 * i
 | 0, _ => ⟨Int.le_refl _, by show (0 : Int) ≤ 512000 * 0; omega⟩
 | i + 1, hi => by
  have ih := RP_ h p8 i (by omega)
  have b := TE_ h (show i < p by omega) p (Nat.le_refl _)
  show 0 ≤ chS T u v p i + chT T u v i p ∧ chS T u v p i + chT T u v i p ≤ 512000 * ((i + 1 : Nat) : Int)
  push_cast
  omega
def chV (o : List Int) (m : Int) (T : List (List Int)) (x y : Nat) : Int := chS T (dgL o x o.length).1 (dgL o y o.length).1 o.length o.length % m
theorem bf2 {o : List Int} (hp : PosO o) (h8 : xA_ o ≤ 8) {m : Int} (m2 : m ≤ 1000) {T : List (List Int)} (hT : T.length = o.length) (hr : ∀ i, i < o.length → (T.getD i []).length = o.length ∧ ∀ k, k < o.length → 0 ≤ e2 T i k ∧ e2 T i k < m) (x y : Nat) : ChO m o.length T (dgL o x o.length).1 (dgL o y o.length).1 := by
 have a := YZ_ hp (x := x) o.length (Nat.le_refl _)
 have b := YZ_ hp (x := y) o.length (Nat.le_refl _)
 refine ⟨m2, hT, fun i hi => (hr i hi).1, fun i hi => (hr i hi).2, a.1, b.1, fun i hi => ?_, fun i hi => ?_⟩
 ·have := a.2.2.2 i hi
  have := zH_ hp hi
  omega
 ·have := b.2.2.2 i hi
  have := zH_ hp hi
  omega
end Go.Proofs.YtjbdiekkjegckaaGreat
namespace Go.Proofs.YtjbdiekkjegckaaGreat
open Go Go.Aw Go.Pl
attribute [local go_sem] y9_ yB_ za_ zb_ wE_ yq_ List.getElem?_toArray List.getElem?_cons_zero List.getElem?_cons_succ
set_option maxRecDepth 100000 in
set_option maxHeartbeats 16000000 in
theorem Ss_ (s : Src) (hs : s.Ok) (o : List Int) (m : Int) (n : Nat) (hp : PosO o) (h8 : xA_ o ≤ 8) (hn : (n : Int) = xA_ o) (m1 : 1 ≤ m) (m2 : m ≤ 1000) (hl : o.length ≤ 8) :
  OwnCall Tryz.prog 85 [.bptr 0 0, .l1 o, .int m] [(0, xv_ s)]
   [(0, xv_ (Ye_ o m o.length o.length s).2), (1, .t1 o), (2, .t3 (List.replicate n (List.replicate n (List.replicate n 0)))), (3, .t2 (yW_ n n (chV o m (Ye_ o m o.length o.length s).1))), (4, .bx [.ref 1 [], .int m, .ref 2 [], .ref 3 []])]
   (.agg [.ref 1 [], .int m, .ref 2 [], .ref 3 []]) [0] := by
 have n1 := yk_ hp
 have n8 : n ≤ 8 := by omega
 have hS := w5_ o hp
 rw [KM_ h8 hn] at hS
 have hO := Zh_ o (by omega)
 have hE := zn_ n (by omega)
 have fM := fun i => YC_ (o := o) m1 (n := o.length) hs i
 have fA := fM o.length
 obtain ⟨Z, eZ⟩ : ∃ Z, List.replicate n (List.replicate n (List.replicate n (0 : Int))) = Z := ⟨_, rfl⟩
 rw [eZ] at hE ⊢
 obtain ⟨P, eP⟩ : ∃ P : Nat → List (List Int) × Src, P = fun i => Ye_ o m o.length i s := ⟨_, rfl⟩
 have hPe : ∀ i, Ye_ o m o.length i s = P i := fun i => by rw [eP]
 have hP0 : P 0 = ([], s) := by rw [eP]; rfl
 rw [hPe] at fA ⊢
 refine OwnCall.intro (n := 131) (rs := [.cell 6 30]) 3 [0, 1, 2] (X := [0]) Tryz.call85 Tryz.func85 rfl rfl rfl (by simp only [List.length_cons, List.length_nil]; omega) (by simp [Aw.ids, x3_, xQ_, xl_, xg_]) (fun cx hcx => AT.weakG (x2_ ?_)); refine gE ?_
 refine gBN ?_
 refine gCN fun K hK => ?_
 first | refine xc_ (hS) rfl ?_ | refine xd_ (xa_ (hS) rfl) ?_
 refine gV ?_
 refine hK _ ?_; clear hK K
 refine gCN fun K hK => ?_
 refine gU ?_
 refine xq_ rfl (hO) rfl ?_; simp only [go_sem, seval]
 refine gU ?_
 refine xq_ rfl (hE) rfl ?_; simp only [go_sem, seval]
 refine gU ?_
 refine hK _ ?_; clear hK K
 refine gBN ?_
 (repeat refine xb_ ?_); refine AT.ghost (st' := ⟨[(0, .bptr 0 0), (1, .l1 o), (2, .int m), (6, .bptr 1 0), (7, .int n), (8, .bptr 4 0), (9, .ref 5 [])], [(0, xv_ s), (1, .bx [.nil, .int 0, .nil, .nil]), (2, .t1 o), (3, .t3 Z), (4, .bx [.ref 2 [], .int m, .ref 3 [], .nil]), (5, .t2 [])]⟩) (xr_ [] (by simp only [go_sem, seval, AV.int.injEq, AV.bool.injEq, AV.l1.injEq, AV.l2.injEq, AV.l3.injEq]) (by simp only [go_sem, seval])) ?_
 refine gBN ?_
 have e1 : xv_ s = xv_ (P 0).2 := by rw [hP0]
 have e2' : Tree.t2 [] = .t2 (P 0).1 := by rw [hP0]
 rw [e1, e2']
 (repeat refine xb_ ?_); refine gLp (fun i : Nat => ⟨[(0, .bptr 0 0), (1, .l1 o), (2, .int m), (6, .bptr 1 0), (7, .int n), (8, .bptr 4 0), (9, .ref 5 []), (10, .int i)], [(0, xv_ (P i).2), (1, .bx [.nil, .int 0, .nil, .nil]), (2, .t1 o), (3, .t3 Z), (4, .bx [.ref 2 [], .int m, .ref 3 [], .nil]), (5, .t2 (P i).1)]⟩) o.length fun i hi => ?_
 refine gBN ?_
 refine gI (fun hc2 => ?_) fun hc2 => ?_
 ·have hi : i < o.length := by omega
  have fi := fM i
  have eS : P (i + 1) = ((P i).1 ++ [(XE_ o m i o.length (P i).2).1], (XE_ o m i o.length (P i).2).2) := by rw [eP]; rfl
  rw [hPe] at fi
  obtain ⟨q, eq⟩ : ∃ q, P i = q := ⟨_, rfl⟩
  rw [eq] at fi eS ⊢
  have fR := fun k => YB_ (o := o) m1 (i := i) fi.1 k
  obtain ⟨R, eR⟩ : ∃ R : Nat → List Int × Src, R = fun k => XE_ o m i k q.2 := ⟨_, rfl⟩
  have hRe : ∀ k, XE_ o m i k q.2 = R k := fun k => by rw [eR]
  have hR0 : R 0 = ([], q.2) := by rw [eR]; rfl
  rw [hRe] at eS
  have lq := fi.2.1
  refine xe_ ?_
  refine gO ?_
  refine gBN ?_
  refine gBN ?_
  (repeat refine xb_ ?_); refine AT.ghost (st' := ⟨[(0, .bptr 0 0), (1, .l1 o), (2, .int m), (6, .bptr 1 0), (7, .int n), (8, .bptr 4 0), (9, .ref 5 []), (10, .int i), (11, .ref 6 []), (12, .int 0)], [(0, xv_ q.2), (1, .bx [.nil, .int 0, .nil, .nil]), (2, .t1 o), (3, .t3 Z), (4, .bx [.ref 2 [], .int m, .ref 3 [], .nil]), (5, .t2 q.1), (6, .t1 [])]⟩) (xr_ [] (by simp only [go_sem, seval, AV.int.injEq, AV.bool.injEq, AV.l1.injEq, AV.l2.injEq, AV.l3.injEq]) (by simp only [go_sem, seval])) ?_
  have e3 : xv_ q.2 = xv_ (R 0).2 := by rw [hR0]
  have e4 : Tree.t1 [] = .t1 (R 0).1 := by rw [hR0]
  rw [e3, e4]
  (repeat refine xb_ ?_); refine gLp (fun k : Nat => ⟨[(0, .bptr 0 0), (1, .l1 o), (2, .int m), (6, .bptr 1 0), (7, .int n), (8, .bptr 4 0), (9, .ref 5 []), (10, .int i), (11, .ref 6 []), (12, .int k)], [(0, xv_ (R k).2), (1, .bx [.nil, .int 0, .nil, .nil]), (2, .t1 o), (3, .t3 Z), (4, .bx [.ref 2 [], .int m, .ref 3 [], .nil]), (5, .t2 q.1), (6, .t1 (R k).1)]⟩) o.length fun k hk => ?_
  refine gBN ?_
  refine gI (fun hc4 => ?_) fun hc4 => ?_
  ·have hk9 : k < o.length := by omega
   have fk := fR k
   have eT : R (k + 1) = ((R k).1 ++ [m / (chG o m i k : Nat) * (nx (R k).2 (chG o m i k : Nat)).1], (nx (R k).2 (chG o m i k : Nat)).2) := by rw [eR]; rfl
   rw [hRe] at fk
   obtain ⟨r, er⟩ : ∃ r, R k = r := ⟨_, rfl⟩
   rw [er] at fk eT ⊢
   have oi := hp.2 i hi
   have ok := hp.2 k hk9
   have oi2 := zH_ hp hi
   have ok2 := zH_ hp hk9
   have G1 := Kv_ (o := o) (i := i) (k := k) m1
   have c1 := YG_ (o.getD i 0).toNat (o.getD k 0).toNat (by omega) (by omega)
   have c2 := YG_ (Nat.gcd (o.getD i 0).toNat (o.getD k 0).toNat) m.toNat (by have := Nat.le_of_dvd (show 0 < (o.getD i 0).toNat by omega) (Nat.gcd_dvd_left (o.getD i 0).toNat (o.getD k 0).toNat); omega) (by omega)
   have eG : Nat.gcd (Nat.gcd (o.getD i 0).toNat (o.getD k 0).toNat) m.toNat = chG o m i k := rfl
   rw [eG] at c2
   rw [show (((o.getD i 0).toNat : Nat) : Int) = o.getD i 0 by omega, show (((o.getD k 0).toNat : Nat) : Int) = o.getD k 0 by omega] at c1
   rw [show ((m.toNat : Nat) : Int) = m by omega] at c2
   generalize Nat.gcd (o.getD i 0).toNat (o.getD k 0).toNat = g1 at *
   generalize chG o m i k = G at *
   have hN := xW_ r.2 fk.1 (G : Int) (by omega)
   have bN := yO_ r.2 (n := (G : Int)) (by omega)
   obtain ⟨t, et⟩ : ∃ t, nx r.2 (G : Int) = t := ⟨_, rfl⟩
   rw [et] at hN bN eT
   have bv := ai4 m1 (show 1 ≤ (G : Int) by omega) bN.1 bN.2
   have ed : m.tdiv (G : Int) = m / (G : Int) := Int.tdiv_eq_ediv_of_nonneg (by omega)
   obtain ⟨D, eD⟩ : ∃ D, m / (G : Int) = D := ⟨_, rfl⟩
   rw [eD] at bv ed eT
   obtain ⟨V, eV⟩ : ∃ V, D * t.1 = V := ⟨_, rfl⟩
   rw [eV] at bv eT
   have lr := fk.2.1
   clear hRe eR fR eP hPe fM fA fi eS
   refine xe_ ?_
   refine gO ?_
   (repeat refine xb_ ?_)
   refine xZ_ [] (.one 0 (.one 1 (.one 2 (.one 3 (.one 4 (.one 5 (.one 6 (.one 7 (.one 8 (.one 9 (.one 10 (.one 11 .fin)))))))))))) ⟨[(0, .bptr 0 0), (1, .l1 o), (2, .int m), (6, .bptr 1 0), (7, .int n), (8, .bptr 4 0), (9, .ref 5 []), (10, .int i), (11, .ref 6 []), (12, .int k), (13, .int G)], [(0, xv_ r.2), (1, .bx [.nil, .int 0, .nil, .nil]), (2, .t1 o), (3, .t3 Z), (4, .bx [.ref 2 [], .int m, .ref 3 [], .nil]), (5, .t2 q.1), (6, .t1 r.1)]⟩ (by first | exact xO_ hcx | exact y2_ hcx rfl) mixed (by kernel_rfl) (fun K hK => ?_) ?_
   ·simp only [go_sem, seval, Option.getD_some, and_true, true_and, and_self, List.contains_cons, List.contains_nil, Bool.or_false, Bool.or_true]
    repeat' (first | exact hK _ gM  | with_reducible refine And.intro ?_ ?_ | omega | ((first | refine xc_ (c1) rfl ?_ | refine xd_ (xa_ (c1) rfl) ?_); simp only [go_sem, seval, Option.getD_some, and_true, true_and, and_self, List.contains_cons, List.contains_nil, Bool.or_false, Bool.or_true]) | ((first | refine xc_ (c2) rfl ?_ | refine xd_ (xa_ (c2) rfl) ?_); simp only [go_sem, seval, Option.getD_some, and_true, true_and, and_self, List.contains_cons, List.contains_nil, Bool.or_false, Bool.or_true]))
   (repeat refine xb_ ?_)
   refine xZ_ [6] (.one 4 (.one 5 (.alt 0 (.alt 1 (.alt 2 (.alt 3 (.alt 6 (.one 7 (.alt 8 (.alt 9 (.one 10 .fin) .stop) .stop)) .stop) (.alt 6 (.one 3 (.one 7 (.alt 8 (.alt 9 (.one 10 .fin) .stop) .stop))) .stop)) (.alt 6 (.one 2 (.one 3 (.one 7 (.alt 8 (.alt 9 (.one 10 .fin) .stop) .stop)))) .stop)) (.alt 2 (.alt 1 (.alt 3 (.alt 6 (.one 7 (.alt 8 (.alt 9 (.one 10 .fin) .stop) .stop)) .stop) (.alt 6 (.one 3 (.one 7 (.alt 8 (.alt 9 (.one 10 .fin) .stop) .stop))) .stop)) (.alt 6 (.one 1 (.one 3 (.one 7 (.alt 8 (.alt 9 (.one 10 .fin) .stop) .stop)))) .stop)) (.alt 6 (.one 1 (.one 2 (.one 3 (.one 7 (.alt 8 (.alt 9 (.one 10 .fin) .stop) .stop))))) .stop))) (.alt 1 (.alt 0 (.alt 2 (.alt 3 (.alt 6 (.one 7 (.alt 8 (.alt 9 (.one 10 .fin) .stop) .stop)) .stop) (.alt 6 (.one 3 (.one 7 (.alt 8 (.alt 9 (.one 10 .fin) .stop) .stop))) .stop)) (.alt 6 (.one 2 (.one 3 (.one 7 (.alt 8 (.alt 9 (.one 10 .fin) .stop) .stop)))) .stop)) (.alt 2 (.alt 0 (.alt 3 (.alt 6 (.one 7 (.alt 8 (.alt 9 (.one 10 .fin) .stop) .stop)) .stop) (.alt 6 (.one 3 (.one 7 (.alt 8 (.alt 9 (.one 10 .fin) .stop) .stop))) .stop)) (.alt 3 (.alt 0 (.alt 6 (.one 7 (.alt 8 (.alt 9 (.one 10 .fin) .stop) .stop)) .stop) (.alt 6 (.one 0 (.one 7 (.alt 8 (.alt 9 (.one 10 .fin) .stop) .stop))) .stop)) (.alt 6 (.one 0 (.one 3 (.one 7 (.alt 8 (.alt 9 (.one 10 .fin) .stop) .stop)))) .stop))) (.alt 6 (.one 0 (.one 2 (.one 3 (.one 7 (.alt 8 (.alt 9 (.one 10 .fin) .stop) .stop))))) .stop))) (.alt 2 (.alt 0 (.alt 1 (.alt 3 (.alt 6 (.one 7 (.alt 8 (.alt 9 (.one 10 .fin) .stop) .stop)) .stop) (.alt 6 (.one 3 (.one 7 (.alt 8 (.alt 9 (.one 10 .fin) .stop) .stop))) .stop)) (.alt 6 (.one 1 (.one 3 (.one 7 (.alt 8 (.alt 9 (.one 10 .fin) .stop) .stop)))) .stop)) (.alt 1 (.alt 0 (.alt 3 (.alt 6 (.one 7 (.alt 8 (.alt 9 (.one 10 .fin) .stop) .stop)) .stop) (.alt 6 (.one 3 (.one 7 (.alt 8 (.alt 9 (.one 10 .fin) .stop) .stop))) .stop)) (.alt 3 (.alt 0 (.alt 6 (.one 7 (.alt 8 (.alt 9 (.one 10 .fin) .stop) .stop)) .stop) (.alt 6 (.one 0 (.one 7 (.alt 8 (.alt 9 (.one 10 .fin) .stop) .stop))) .stop)) (.alt 6 (.one 0 (.one 3 (.one 7 (.alt 8 (.alt 9 (.one 10 .fin) .stop) .stop)))) .stop))) (.alt 6 (.one 0 (.one 1 (.one 3 (.one 7 (.alt 8 (.alt 9 (.one 10 .fin) .stop) .stop))))) .stop))) (.alt 6 (.one 0 (.one 1 (.one 2 (.one 3 (.one 7 (.alt 8 (.alt 9 (.one 10 .fin) .stop) .stop)))))) .stop)))))) ⟨[(0, .bptr 0 0), (1, .l1 o), (2, .int m), (6, .bptr 1 0), (7, .int n), (8, .bptr 4 0), (9, .ref 5 []), (10, .int i), (11, .ref 6 []), (12, .int k)], [(0, xv_ t.2), (1, .bx [.nil, .int 0, .nil, .nil]), (2, .t1 o), (3, .t3 Z), (4, .bx [.ref 2 [], .int m, .ref 3 [], .nil]), (5, .t2 q.1), (6, .t1 (r.1 ++ [V])), (7, .t1 [V])]⟩ (by first | exact xO_ hcx | exact y2_ hcx rfl) mixed (by kernel_rfl) (fun K hK => ?_) ?_
   ·simp only [go_sem, seval, Option.getD_some, and_true, true_and, and_self, List.contains_cons, List.contains_nil, Bool.or_false, Bool.or_true]
    repeat' (first | exact hK _ gM  | with_reducible refine And.intro ?_ ?_ | omega | (refine zz_ (hN) (by simp [Aw.ids]) (by simp [find]) (by simp [zQ_, zC_, xH_, xu_, YV_, Aw.ids]) (by simp [xH_, xu_, YV_, Aw.ids]) (by simp [Aw.ids]) ?_; simp only [Aw.ids, List.map_cons, List.map_nil, List.filter_cons, List.filter_nil, List.contains_cons, List.contains_nil, Bool.or_false, Bool.or_true, Bool.not_true, Bool.not_false, Nat.reduceBEq, Bool.false_eq_true, if_true, if_false, List.cons_append, List.nil_append]; simp only [go_sem, seval, Option.getD_some, and_true, true_and, and_self, List.contains_cons, List.contains_nil, Bool.or_false, Bool.or_true]) | ((simp only [ed, eV])))
   refine gBN ?_
   refine ⟨k + 1, by omega, by omega, .inr ⟨[7], gK0, aG3 ?_⟩⟩; rw [eT]
  ·obtain rfl : k = o.length := by omega
   refine xh_ (x9_ ?_)
   refine gBN ?_
   refine gBN ?_
   refine ⟨i + 1,  by omega, by omega, .inl ⟨gH,  by rw [eS]⟩⟩
 ·obtain rfl : i = o.length := by omega
  obtain ⟨Q, eQ⟩ : ∃ Q, P o.length = Q := ⟨_, rfl⟩
  rw [eQ] at fA ⊢
  obtain ⟨okQ, hT, hR⟩ := fA
  obtain ⟨g, eg⟩ : ∃ g : Nat → Nat → Int, g = chV o m Q.1 := ⟨_, rfl⟩
  rw [← eg]
  refine xh_ (x9_ ?_)
  refine gBN ?_
  (repeat refine xb_ ?_)
  refine xt_ (fun q : Option Nat => match q with
   | none => ⟨[(0, .bptr 0 0), (1, .l1 o), (2, .int m), (6, .bptr 1 0), (7, .int n), (8, .bptr 4 0), (9, .ref 5 []), (14, .int 0)], [(0, xv_ Q.2), (1, .bx [.nil, .int 0, .nil, .nil]), (2, .t1 o), (3, .t3 Z), (4, .bx [.ref 2 [], .int m, .ref 3 [], .nil]), (5, .t2 Q.1)]⟩
   | some i => ⟨[(0, .bptr 0 0), (1, .l1 o), (2, .int m), (6, .bptr 1 0), (7, .int n), (8, .bptr 4 0), (9, .ref 5 []), (14, .int i)], [(0, xv_ Q.2), (1, .bx [.nil, .int 0, .nil, .nil]), (2, .t1 o), (3, .t3 Z), (4, .bx [.ref 2 [], .int m, .ref 3 [], .ref 8 []]), (5, .t2 Q.1), (8, .t2 (yW_ i n g))]⟩) (fun q => match q with
   | none => True
   | some i => 1 ≤ i ∧ i ≤ n) (fun q => match q with
   | none => n + 1
   | some i => n - i) none trivial ⟨by simp only [xs_, St.get, xg_, Nat.reduceEqDiff, ↓reduceIte, true_and, and_true], rfl⟩ (fun q hq => ?_)
  cases q with
  | none =>
   dsimp only at hq ⊢
   refine gBN ?_
   refine gI (fun hli => ?_) fun hli => ?_
   ·have hx : 0 < n := by omega
    refine xe_ ?_
    refine gO ?_
    refine gBN ?_
    refine gBN ?_
    (repeat refine xb_ ?_); refine gLp (fun y : Nat => ⟨[(0, .bptr 0 0), (1, .l1 o), (2, .int m), (6, .bptr 1 0), (7, .int n), (8, .bptr 4 0), (9, .ref 5 []), (14, .int 0), (15, .ref 6 []), (16, .int y)], [(0, xv_ Q.2), (1, .bx [.nil, .int 0, .nil, .nil]), (2, .t1 o), (3, .t3 Z), (4, .bx [.ref 2 [], .int m, .ref 3 [], .nil]), (5, .t2 Q.1), (6, .t1 (zo_ y (g 0)))]⟩) n fun y hy => ?_
    have lr := xT_ y (g 0)
    have lm := ya_ 0 n g
    refine gBN ?_
    refine gI (fun hy2 => ?_) fun hy2 => ?_
    ·have hy : y < n := by omega
     have d1 := z0_ o 0 hp h8 (by omega) (by omega)
     have d2 := z0_ o y hp h8 (by omega) (by omega)
     have hO := bf2 hp h8 m2 hT hR 0 y
     have gv : g 0 y = chS Q.1 (dgL o 0 o.length).1 (dgL o y o.length).1 o.length o.length % m := by rw [eg]; rfl
     obtain ⟨u, eu⟩ : ∃ u, (dgL o 0 o.length).1 = u := ⟨_, rfl⟩
     obtain ⟨v, ev⟩ : ∃ v, (dgL o y o.length).1 = v := ⟨_, rfl⟩
     rw [eu] at d1 hO gv
     rw [ev] at d2 hO gv
     obtain ⟨p, ep⟩ : ∃ p, o.length = p := ⟨_, rfl⟩
     rw [ep] at hO gv
     have p8 : p ≤ 8 := by omega
     have bS := fun i hi => RP_ hO p8 i hi
     have bT := fun i hi k hk => TE_ hO (i := i) hi k hk
     have st := yR_ (k := y) (f := g 0)
     refine xe_ ?_
     refine gO ?_
     refine gCN fun K hK => ?_
     first | refine yx_ rfl (d1) ?_ | refine xd_ (yn_ rfl (d1)) ?_
     refine gV ?_
     first | refine yx_ rfl (d2) ?_ | refine xd_ (yn_ rfl (d2)) ?_
     refine gV ?_
     refine hK _ ?_; clear hK K
     refine gBN ?_
     (repeat refine xb_ ?_)
     (repeat refine xb_ ?_); refine xt_ (fun i2 : Nat => ⟨[(0, .bptr 0 0), (1, .l1 o), (2, .int m), (6, .bptr 1 0), (7, .int n), (8, .bptr 4 0), (9, .ref 5 []), (14, .int 0), (15, .ref 6 []), (16, .int y), (17, .l1 u), (18, .l1 v), (19, .int (chS Q.1 u v p i2)), (20, .int i2)], [(0, xv_ Q.2), (1, .bx [.nil, .int 0, .nil, .nil]), (2, .t1 o), (3, .t3 Z), (4, .bx [.ref 2 [], .int m, .ref 3 [], .nil]), (5, .t2 Q.1), (6, .t1 (zo_ y (g 0)))]⟩) (fun i2 => i2 ≤ p) (fun i2 => p - i2) 0 (Nat.zero_le _) (by
      refine And.intro ?_ rfl; simp only [leS, Nat.reduceEqDiff, ↓reduceIte, true_and, and_true]
      first | exact ⟨rfl, rfl⟩ | rfl) (fun i2 hle2 => ?_)
     (repeat refine xb_ ?_); refine xx_ (by first | exact xO_ hcx | exact wJ_ hcx rfl | exact y2_ hcx rfl) fun K hK => ?_; simp only [go_sem, seval, ep]
     refine gU ?_
     refine hK _ ?_; clear hK K
     refine gI (fun hi2 => ?_) fun hi2 => ?_
     ·have hi : i2 < p := by omega
      have b1 := bS i2 (by omega)
      refine xe_ ?_
      refine gO ?_
      refine gBN ?_
      have t0 : chS Q.1 u v p i2 = chS Q.1 u v p i2 + chT Q.1 u v i2 0 := by show _ = _ + 0; omega
      rw [t0]
      (repeat refine xb_ ?_); refine gLp (fun k2 : Nat => ⟨[(0, .bptr 0 0), (1, .l1 o), (2, .int m), (6, .bptr 1 0), (7, .int n), (8, .bptr 4 0), (9, .ref 5 []), (14, .int 0), (15, .ref 6 []), (16, .int y), (17, .l1 u), (18, .l1 v), (19, .int (chS Q.1 u v p i2 + chT Q.1 u v i2 k2)), (20, .int i2), (21, .int k2)], [(0, xv_ Q.2), (1, .bx [.nil, .int 0, .nil, .nil]), (2, .t1 o), (3, .t3 Z), (4, .bx [.ref 2 [], .int m, .ref 3 [], .nil]), (5, .t2 Q.1), (6, .t1 (zo_ y (g 0)))]⟩) p fun k2 hk2 => ?_
      (repeat refine xb_ ?_); refine xx_ (by first | exact xO_ hcx | exact wJ_ hcx rfl | exact y2_ hcx rfl) fun K hK => ?_; simp only [go_sem, seval, ep]
      refine gU ?_
      refine hK _ ?_; clear hK K
      refine gI (fun hk2 => ?_) fun hk2 => ?_
      ·have hk : k2 < p := by omega
       have b2 := bT i2 hi k2 (by omega)
       have b3 := bT i2 hi (k2 + 1) (by omega)
       have lQ := hO.len
       have rQ := hO.row i2 hi
       have lu := hO.lu
       have lv := hO.lv
       obtain ⟨c1, c2⟩ := UL_ m2 (hO.rng i2 hi k2 hk).1 (hO.rng i2 hi k2 hk).2 (hO.ru i2 hi).1 (hO.ru i2 hi).2 (hO.rv k2 hk).1 (hO.rv k2 hk).2
       have tb := hO.rng i2 hi k2 hk
       have ub := hO.ru i2 hi
       have vb := hO.rv k2 hk
       have ss : chT Q.1 u v i2 (k2 + 1) = chT Q.1 u v i2 k2 + e2 Q.1 i2 k2 * u.getD i2 0 * v.getD k2 0 := rfl
       have eQ : (Q.1.getD i2 []).getD k2 0 = e2 Q.1 i2 k2 := rfl
       obtain ⟨t, et⟩ : ∃ t, e2 Q.1 i2 k2 = t := ⟨_, rfl⟩
       rw [et] at c1 c2 tb ss eQ
       obtain ⟨A, eA⟩ : ∃ A, t * u.getD i2 0 = A := ⟨_, rfl⟩
       rw [eA] at c1 c2 ss
       obtain ⟨B, eB⟩ : ∃ B, A * v.getD k2 0 = B := ⟨_, rfl⟩
       rw [eB] at c2 ss
       have s2 : chS Q.1 u v p i2 + chT Q.1 u v i2 k2 + B = chS Q.1 u v p i2 + chT Q.1 u v i2 (k2 + 1) := by omega
       refine xe_ ?_
       refine gO ?_
       (repeat refine xb_ ?_); refine xI_ (by first | exact xO_ hcx | exact y2_ hcx rfl) mixed (by kernel_rfl) fun K hK => ?_; simp only [go_sem, seval, lQ, rQ, lu, lv, eQ, eA, eB]
       refine gU ?_
       refine hK _ ?_; clear hK K
       rw [s2]
       refine gBN ?_
       refine ⟨k2 + 1,  by omega, by omega, .inl ⟨gH,  rfl⟩⟩
      ·obtain rfl : k2 = p := by omega
       have s3 : chS Q.1 u v k2 i2 + chT Q.1 u v i2 k2 = chS Q.1 u v k2 (i2 + 1) := rfl
       rw [s3]
       refine xh_ (x9_ ?_)
       refine gBN ?_
       refine ⟨i2 + 1,  by omega, by omega, .inl ⟨gH,  rfl⟩⟩
     ·obtain rfl : i2 = p := by omega
      have b1 := bS i2 (by omega)
      have b5 := Int.emod_nonneg (chS Q.1 u v i2 i2) (show m ≠ 0 by omega)
      have b6 := Int.emod_lt_of_pos (chS Q.1 u v i2 i2) (show 0 < m by omega)
      have tv : (chS Q.1 u v i2 i2).tmod m = g 0 y := by rw [gv]; exact Int.tmod_eq_emod_of_nonneg b1.1
      rw [← gv] at b5 b6
      refine xh_ (x9_ ?_)
      (repeat refine xb_ ?_); refine xx_ (by first | exact xO_ hcx | exact wJ_ hcx rfl | exact y2_ hcx rfl) fun K hK => ?_; simp only [go_sem, seval, tv]
      refine gU ?_
      refine hK _ ?_; clear hK K
      rw [← st]
      refine gBN ?_
      refine ⟨y + 1, by omega, by omega, .inr ⟨[7], gK0, bf9⟩⟩
    ·obtain rfl : y = n := by omega
     refine xh_ (x9_ ?_)
     refine gCN fun K hK => ?_
     try simp only [lm]
     refine gU ?_
     refine hK _ ?_; clear hK K
     refine gBN ?_
     refine ⟨some (0 + 1), ⟨by omega, by omega⟩, by show y - (0 + 1) < y + 1; omega, .inl ⟨?_, ?_⟩⟩
     ·simp only [xs_, St.get, xg_, Nat.reduceEqDiff, ↓reduceIte, AV.int.injEq, true_and, and_true]
      try omega
     ·dsimp only
      rw [zP_]
      try rfl
   ·omega
  | some i =>
   dsimp only at hq ⊢
   refine gBN ?_
   refine gI (fun hli => ?_) fun hli => ?_
   ·have hx : i < n := by omega
    refine xe_ ?_
    refine gO ?_
    refine gBN ?_
    refine gBN ?_
    (repeat refine xb_ ?_); refine gLp (fun y : Nat => ⟨[(0, .bptr 0 0), (1, .l1 o), (2, .int m), (6, .bptr 1 0), (7, .int n), (8, .bptr 4 0), (9, .ref 5 []), (14, .int i), (15, .ref 9 []), (16, .int y)], [(0, xv_ Q.2), (1, .bx [.nil, .int 0, .nil, .nil]), (2, .t1 o), (3, .t3 Z), (4, .bx [.ref 2 [], .int m, .ref 3 [], .ref 8 []]), (5, .t2 Q.1), (8, .t2 (yW_ i n g)), (9, .t1 (zo_ y (g i)))]⟩) n fun y hy => ?_
    have lr := xT_ y (g i)
    have lm := ya_ i n g
    refine gBN ?_
    refine gI (fun hy2 => ?_) fun hy2 => ?_
    ·have hy : y < n := by omega
     have d1 := z0_ o i hp h8 (by omega) (by omega)
     have d2 := z0_ o y hp h8 (by omega) (by omega)
     have hO := bf2 hp h8 m2 hT hR i y
     have gv : g i y = chS Q.1 (dgL o i o.length).1 (dgL o y o.length).1 o.length o.length % m := by rw [eg]; rfl
     obtain ⟨u, eu⟩ : ∃ u, (dgL o i o.length).1 = u := ⟨_, rfl⟩
     obtain ⟨v, ev⟩ : ∃ v, (dgL o y o.length).1 = v := ⟨_, rfl⟩
     rw [eu] at d1 hO gv
     rw [ev] at d2 hO gv
     obtain ⟨p, ep⟩ : ∃ p, o.length = p := ⟨_, rfl⟩
     rw [ep] at hO gv
     have p8 : p ≤ 8 := by omega
     have bS := fun i hi => RP_ hO p8 i hi
     have bT := fun i hi k hk => TE_ hO (i := i) hi k hk
     have st := yR_ (k := y) (f := g i)
     refine xe_ ?_
     refine gO ?_
     refine gCN fun K hK => ?_
     first | refine yx_ rfl (d1) ?_ | refine xd_ (yn_ rfl (d1)) ?_
     refine gV ?_
     first | refine yx_ rfl (d2) ?_ | refine xd_ (yn_ rfl (d2)) ?_
     refine gV ?_
     refine hK _ ?_; clear hK K
     refine gBN ?_
     (repeat refine xb_ ?_)
     (repeat refine xb_ ?_); refine xt_ (fun i2 : Nat => ⟨[(0, .bptr 0 0), (1, .l1 o), (2, .int m), (6, .bptr 1 0), (7, .int n), (8, .bptr 4 0), (9, .ref 5 []), (14, .int i), (15, .ref 9 []), (16, .int y), (17, .l1 u), (18, .l1 v), (19, .int (chS Q.1 u v p i2)), (20, .int i2)], [(0, xv_ Q.2), (1, .bx [.nil, .int 0, .nil, .nil]), (2, .t1 o), (3, .t3 Z), (4, .bx [.ref 2 [], .int m, .ref 3 [], .ref 8 []]), (5, .t2 Q.1), (8, .t2 (yW_ i n g)), (9, .t1 (zo_ y (g i)))]⟩) (fun i2 => i2 ≤ p) (fun i2 => p - i2) 0 (Nat.zero_le _) (by
      refine And.intro ?_ rfl; simp only [leS, Nat.reduceEqDiff, ↓reduceIte, true_and, and_true]
      first | exact ⟨rfl, rfl⟩ | rfl) (fun i2 hle2 => ?_)
     (repeat refine xb_ ?_); refine xx_ (by first | exact xO_ hcx | exact wJ_ hcx rfl | exact y2_ hcx rfl) fun K hK => ?_; simp only [go_sem, seval, ep]
     refine gU ?_
     refine hK _ ?_; clear hK K
     refine gI (fun hi2 => ?_) fun hi2 => ?_
     ·have hi : i2 < p := by omega
      have b1 := bS i2 (by omega)
      refine xe_ ?_
      refine gO ?_
      refine gBN ?_
      have t0 : chS Q.1 u v p i2 = chS Q.1 u v p i2 + chT Q.1 u v i2 0 := by show _ = _ + 0; omega
      rw [t0]
      (repeat refine xb_ ?_); refine gLp (fun k2 : Nat => ⟨[(0, .bptr 0 0), (1, .l1 o), (2, .int m), (6, .bptr 1 0), (7, .int n), (8, .bptr 4 0), (9, .ref 5 []), (14, .int i), (15, .ref 9 []), (16, .int y), (17, .l1 u), (18, .l1 v), (19, .int (chS Q.1 u v p i2 + chT Q.1 u v i2 k2)), (20, .int i2), (21, .int k2)], [(0, xv_ Q.2), (1, .bx [.nil, .int 0, .nil, .nil]), (2, .t1 o), (3, .t3 Z), (4, .bx [.ref 2 [], .int m, .ref 3 [], .ref 8 []]), (5, .t2 Q.1), (8, .t2 (yW_ i n g)), (9, .t1 (zo_ y (g i)))]⟩) p fun k2 hk2 => ?_
      (repeat refine xb_ ?_); refine xx_ (by first | exact xO_ hcx | exact wJ_ hcx rfl | exact y2_ hcx rfl) fun K hK => ?_; simp only [go_sem, seval, ep]
      refine gU ?_
      refine hK _ ?_; clear hK K
      refine gI (fun hk2 => ?_) fun hk2 => ?_
      ·have hk : k2 < p := by omega
       have b2 := bT i2 hi k2 (by omega)
       have b3 := bT i2 hi (k2 + 1) (by omega)
       have lQ := hO.len
       have rQ := hO.row i2 hi
       have lu := hO.lu
       have lv := hO.lv
       obtain ⟨c1, c2⟩ := UL_ m2 (hO.rng i2 hi k2 hk).1 (hO.rng i2 hi k2 hk).2 (hO.ru i2 hi).1 (hO.ru i2 hi).2 (hO.rv k2 hk).1 (hO.rv k2 hk).2
       have tb := hO.rng i2 hi k2 hk
       have ub := hO.ru i2 hi
       have vb := hO.rv k2 hk
       have ss : chT Q.1 u v i2 (k2 + 1) = chT Q.1 u v i2 k2 + e2 Q.1 i2 k2 * u.getD i2 0 * v.getD k2 0 := rfl
       have eQ : (Q.1.getD i2 []).getD k2 0 = e2 Q.1 i2 k2 := rfl
       obtain ⟨t, et⟩ : ∃ t, e2 Q.1 i2 k2 = t := ⟨_, rfl⟩
       rw [et] at c1 c2 tb ss eQ
       obtain ⟨A, eA⟩ : ∃ A, t * u.getD i2 0 = A := ⟨_, rfl⟩
       rw [eA] at c1 c2 ss
       obtain ⟨B, eB⟩ : ∃ B, A * v.getD k2 0 = B := ⟨_, rfl⟩
       rw [eB] at c2 ss
       have s2 : chS Q.1 u v p i2 + chT Q.1 u v i2 k2 + B = chS Q.1 u v p i2 + chT Q.1 u v i2 (k2 + 1) := by omega
       refine xe_ ?_
       refine gO ?_
       (repeat refine xb_ ?_); refine xI_ (by first | exact xO_ hcx | exact y2_ hcx rfl) mixed (by kernel_rfl) fun K hK => ?_; simp only [go_sem, seval, lQ, rQ, lu, lv, eQ, eA, eB]
       refine gU ?_
       refine hK _ ?_; clear hK K
       rw [s2]
       refine gBN ?_
       refine ⟨k2 + 1,  by omega, by omega, .inl ⟨gH,  rfl⟩⟩
      ·obtain rfl : k2 = p := by omega
       have s3 : chS Q.1 u v k2 i2 + chT Q.1 u v i2 k2 = chS Q.1 u v k2 (i2 + 1) := rfl
       rw [s3]
       refine xh_ (x9_ ?_)
       refine gBN ?_
       refine ⟨i2 + 1,  by omega, by omega, .inl ⟨gH,  rfl⟩⟩
     ·obtain rfl : i2 = p := by omega
      have b1 := bS i2 (by omega)
      have b5 := Int.emod_nonneg (chS Q.1 u v i2 i2) (show m ≠ 0 by omega)
      have b6 := Int.emod_lt_of_pos (chS Q.1 u v i2 i2) (show 0 < m by omega)
      have tv : (chS Q.1 u v i2 i2).tmod m = g i y := by rw [gv]; exact Int.tmod_eq_emod_of_nonneg b1.1
      rw [← gv] at b5 b6
      refine xh_ (x9_ ?_)
      (repeat refine xb_ ?_); refine xx_ (by first | exact xO_ hcx | exact wJ_ hcx rfl | exact y2_ hcx rfl) fun K hK => ?_; simp only [go_sem, seval, tv]
      refine gU ?_
      refine hK _ ?_; clear hK K
      rw [← st]
      refine gBN ?_
      refine ⟨y + 1, by omega, by omega, .inr ⟨[10], gK0, bf9⟩⟩
    ·obtain rfl : y = n := by omega
     refine xh_ (x9_ ?_)
     refine gCN fun K hK => ?_
     try simp only [lm]
     refine gU ?_
     refine hK _ ?_; clear hK K
     refine gBN ?_
     refine ⟨some (i + 1), ⟨by omega, by omega⟩, by show y - (i + 1) < y - i; omega, .inl ⟨?_, ?_⟩⟩
     ·simp only [xs_, St.get, xg_, Nat.reduceEqDiff, ↓reduceIte, AV.int.injEq, true_and, and_true]
      try omega
     ·dsimp only
      rw [zP_]
      try rfl
   ·obtain rfl : i = n := by omega
    refine xh_ (x9_ ?_)
    refine gBN ?_
    refine xf_ ⟨⟨[(0, .bptr 0 0), (1, .l1 o), (2, .int m), (6, .bptr 4 0)], [(0, xv_ Q.2), (1, .t1 o), (2, .t3 Z), (3, .t2 (yW_ i i g)), (4, .bx [.ref 1 [], .int m, .ref 2 [], .ref 3 []])]⟩, xm_ [4, 5] [(1, 4), (2, 1), (3, 2), (8, 3)], .inr rfl, (by first | rfl | exact ⟨trivial, rfl⟩ | (simp only [y1_, zZ_, go_sem, seval]; done)), (by simp [St.get, xg_, xl_]), rfl⟩
end Go.Proofs.YtjbdiekkjegckaaGreat
namespace Go.Proofs.YtjbdiekkjegckaaGreat
open Go Go.Aw Go.Pl
theorem aI0 {o : List Int} {m : Int} {n : Nat} {T : List (List Int)} (m1 : 1 ≤ m) : GridB n m (yW_ n n (chV o m T)) := by
 refine ⟨ya_ .., fun j hj => ?_⟩
 rw [yK_ hj]
 refine ⟨xT_ .., fun k hk => ?_⟩
 rw [y4_ hk]
 unfold chV
 have := Int.emod_nonneg (chS T (dgL o j o.length).1 (dgL o k o.length).1 o.length o.length) (show m ≠ 0 by omega)
 have := Int.emod_lt_of_pos (chS T (dgL o j o.length).1 (dgL o k o.length).1 o.length o.length) (show 0 < m by omega)
 omega
theorem aI1 {o : List Int} {m : Int} {n : Nat} (hp : PosO o) (h8 : xA_ o ≤ 8) (m1 : 1 ≤ m) (m2 : m ≤ 1000) (hn : (n : Int) = xA_ o) : CocS o m (List.replicate n (List.replicate n (List.replicate n (0 : Int)))) := by
 have e : List.replicate n (List.replicate n (List.replicate n (0 : Int))) = z5_ n (fun _ _ _ => 0) := by rw [Yh_ n (fun _ _ _ => 0), Y2_]
 rw [e]
 have l : (z5_ n (fun _ _ _ => 0)).length = n := xL_ ..
 refine ⟨hp, h8, m1, m2, by rw [l]; exact hn, ?_⟩
 rw [l]
 exact YR_ fun x _ y _ z _ => ⟨Int.le_refl _, by omega⟩
theorem av8 {n : Nat} {a : Int} (n1 : 1 ≤ n) (n8 : n ≤ 8) (h2 : a * n % 2 = 0) : GridB n (2 * n) (sdC n a) := (aE7 n1 n8 h2).num.1
end Go.Proofs.YtjbdiekkjegckaaGreat
