import Derived.Test.YtlngnhbochmcoaaCi
set_option linter.unusedSimpArgs false
set_option linter.unusedVariables false
namespace Go.Proofs.Ytlngnhbochmcoaa
open Go Go.Aw Go.Pl
attribute [local go_sem] zO_ List.getElem?_toArray List.getElem?_cons_zero List.getElem?_cons_succ Option.getD_some and_true true_and and_self
theorem Sp_ (r i : Nat) : swp r r i = i := by unfold swp; split <;> (try split) <;> omega
theorem QT_ {r s i : Nat} (h1 : i ≠ r) (h2 : i ≠ s) : swp r s i = i := by unfold swp; rw [if_neg h1, if_neg h2]
theorem aK6 (r s : Nat) : swp r s r = s := by unfold swp; rw [if_pos rfl]
theorem aK7 (r s : Nat) : swp r s s = r := by unfold swp; split <;> (try rw [if_pos rfl]) <;> omega
theorem Sq_ (a b : List Int) (m : Nat) (hm : m ≤ 1000) (la : a.length = m) (lb : b.length = m) (ha : ∀ c, c < m → InP (a.getD c 0)) (hb : ∀ c, c < m → InP (b.getD c 0)) (v : Int) (hv : InP v) : FreshCall Try.prog 47 [.l1 a, .l1 b, .int v] (.l1 (plL a b v)) := by
 have h := Xv_ m hm (fun c => a.getD c 0) (fun c => b.getD c 0) ha hb v hv
 rw [wW_ la, wW_ lb] at h
 unfold plL
 rw [la]
 exact h
set_option maxRecDepth 100000 in
set_option maxHeartbeats 16000000 in
theorem Rn_ (n : Nat) (n1 : 1 ≤ n) (h16 : n ≤ 16) (a : List (List Int)) (ha : MatP n a) : PureCall Try.prog 28 [.l2 a] (.l1 (chL n a)) := by
 have la := ha.1
 have hO := zF_ a (by omega) (fun j hj => by rw [ha.row (by omega)]; omega)
 have hGP := fun k (hk : k ≤ n - 2) => (aJ0 (n := n) (A := e2 a) (fun x hx y hy => ha.inP hx hy) k hk).inP
 have eM : xy_ n n (e2 a) = a := Uc_ ha
 unfold chL
 obtain ⟨G, eG⟩ : ∃ G : Nat → Nat → Nat → Int, G = hsN n (e2 a) := ⟨_, rfl⟩
 have hG0 : xy_ n n (G 0) = a := by rw [eG]; exact eM
 have hGs : ∀ k, G (k + 1) = hsS n k (G k) := fun k => by rw [eG]; rfl
 rw [← eG] at hGP ⊢
 clear eG eM
 refine PureCall.introR (n := 252) (rs := [.tmp 2]) Try.call28 Try.func28 rfl rfl rfl (by simp only [List.length_cons, List.length_nil]; omega) (fun cx hcx hrd => yY_ ?_); refine gE ?_
 refine gB ?_
 refine gC fun K hK => ?_
 refine xK_ rfl (hO) rfl ?_; simp only [go_sem, seval]
 refine hK _ ?_; clear hK K
 (repeat refine xa_ ?_); refine xr_ (by first | exact xZ_ hcx | exact yQ_ hcx rfl) fun K hK => ?_; simp only [go_sem, seval, la]
 refine gU ?_
 refine hK _ ?_; clear hK K
 refine gB ?_
 have t0 : Tree.t2 a = .t2 (xy_ n n (G 0)) := by rw [hG0]
 rw [t0]
 (repeat refine xa_ ?_); refine xo_ (fun k : Nat => ⟨[(3, .ref 0 []), (4, .int n), (5, .int k)], [(0, .t2 (xy_ n n (G k)))]⟩) (fun k => k ≤ (n - 2)) (fun k => (n - 2) - k) 0 (Nat.zero_le _) (by refine And.intro ?_ rfl; simp only [leS, Nat.reduceEqDiff, ↓reduceIte, true_and, and_true]; repeat' (first | rfl | with_reducible refine And.intro ?_ ?_ | omega)) (fun k hk => ?_)
 refine gB ?_
 refine gI (fun h2 => ?_) fun h2 => ?_
 ·have hk2 : k + 2 < n := by omega
  have hE := hGP k hk
  have hS := hGs k
  have hSd : hsS n k (G k) = if wA_ (G k) k (n - (k + 1)) (k + 1) = n then G k else heF k (inv (hwF (wA_ (G k) k (n - (k + 1)) (k + 1)) (k + 1) (G k) (k + 1) k)) (hwF (wA_ (G k) k (n - (k + 1)) (k + 1)) (k + 1) (G k)) (n - (k + 2)) := rfl
  rw [hSd] at hS
  clear hSd
  obtain ⟨f1, f2, f3, f4⟩ := zQ_ (G k) k (n - (k + 1)) (k + 1)
  obtain ⟨G1, eG1⟩ : ∃ G1, G k = G1 := ⟨_, rfl⟩
  rw [eG1] at hE hS f1 f2 f3 f4 ⊢
  obtain ⟨F, eF⟩ : ∃ F, wA_ G1 k (n - (k + 1)) (k + 1) = F := ⟨_, rfl⟩
  rw [eF] at hS f1 f2 f3 f4
  have lM := xx_ n n G1
  refine xb_ ?_
  refine gO ?_
  refine gB ?_
  (repeat refine xa_ ?_); refine xo_ (fun f : Nat => ⟨[(3, .ref 0 []), (4, .int n), (5, .int k), (6, .int f)], [(0, .t2 (xy_ n n G1))]⟩) (fun f => k + 1 ≤ f ∧ f ≤ F) (fun f => n - f) (k + 1) ⟨Nat.le_refl _, f1⟩ (by
   refine And.intro ?_ rfl; simp only [leS, Nat.reduceEqDiff, ↓reduceIte, true_and, and_true]
   try first | omega | exact ⟨by omega, by omega⟩) (fun f hf => ?_)
  obtain ⟨j1, j2⟩ := hf
  by_cases hfn : f < n
  ·have rj : (xy_ n n G1).getD f [] = xU_ n (G1 f) := xF_ hfn
   have lj := xn_ n (G1 f)
   have ej : (xU_ n (G1 f)).getD k 0 = G1 f k := xE_ (by omega)
   obtain ⟨p0, p1⟩ := hE f hfn k (by omega)
   have jpos : ((f : Int) < (n : Int)) = True := eq_true (by omega)
   (repeat refine xa_ ?_); refine xr_ (by first | exact xZ_ hcx | exact yQ_ hcx rfl) fun K hK => ?_; simp only [go_sem, seval, lM, rj, lj, ej, jpos, decide_true, Bool.true_and]
   refine gU ?_
   refine hK _ ?_; clear hK K
   by_cases hz : G1 f k = 0
   ·have hfF : f < F := by
     rcases Nat.lt_or_ge f F with h | h
     ·exact h
     ·have : f = F := by omega
      subst this
      exact absurd hz (f4 (by omega))
    refine gI (fun hc => ?_) fun hc => ?_
    ·refine xb_ ?_
     refine gO ?_
     refine gB ?_
     refine ⟨f + 1,  ⟨by omega, by omega⟩, by omega, .inl ⟨gH,  rfl⟩⟩
    ·exact absurd hz hc
   ·have hfF : f = F := by
     rcases Nat.lt_or_ge f F with h | h
     ·exact absurd (f3 f j1 h) hz
     ·omega
    refine gI (fun hc => ?_) fun hc => ?_
    ·exact absurd hc hz
    ·subst hfF
     rw [if_neg (by omega)] at hS
     refine xf_ (ye_ ?_)
     refine gB ?_
     refine gI (fun hc2 => ?_) fun hc2 => ?_
     ·exact absurd hc2 (by omega)
     refine xb_ ?_
     refine gB ?_
     obtain ⟨G2, eG2⟩ : ∃ G2, hwF f (k + 1) G1 = G2 := ⟨_, rfl⟩
     rw [eG2] at hS
     (repeat refine xa_ ?_)
     refine VT_ ⟨[(3, .ref 0 []), (4, .int n), (5, .int k)], [(0, .t2 (xy_ n n G2))]⟩ ?_ ?_
     ·refine gI (fun hc3 => ?_) fun hc3 => ?_
      ·have hne : f ≠ k + 1 := by omega
       have hne1 : (f = k + 1) = False := eq_false hne
       have hne2 : (k + 1 = f) = False := eq_false (fun e => hne e.symm)
       have ek : (k : Int) + 1 = ((k + 1 : Nat) : Int) := by omega
       have rk : (xy_ n n G1).getD (k + 1) [] = xU_ n (G1 (k + 1)) := xF_ (by omega)
       obtain ⟨GR, eGR⟩ : ∃ GR : Nat → Nat → Int, GR = fun x y => G1 (swp f (k + 1) x) y := ⟨_, rfl⟩
       have sw1 : ((xy_ n n G1).set f (xU_ n (G1 (k + 1)))).set (k + 1) (xU_ n (G1 f)) = xy_ n n GR := by
        rw [yx_, yx_, eGR]
        refine xC_ fun x _ c _ => ?_
        show (if x = k + 1 then G1 f else if x = f then G1 (k + 1) else G1 x) c = G1 (swp f (k + 1) x) c
        by_cases e1 : x = k + 1
        ·rw [if_pos e1, e1, aK7]
        ·rw [if_neg e1]
         by_cases e2 : x = f
         ·rw [if_pos e2, e2, aK6]
         ·rw [if_neg e2, QT_ e2 e1]
       (repeat refine xa_ ?_); refine AT.ghost (S7_ 0 f (k + 1) 2 3 rfl (by rw [lM]; omega) (by rw [lM]; omega) (hne) rfl rfl (by decide)) ?_; simp only [find, x2_, xp_, xA_, qOf, rmT, xt_, x4_, x8_, List.map_cons, List.map_nil, List.filter_cons, List.filter_nil, List.contains_cons, List.contains_nil, List.isEmpty_nil, List.isEmpty_cons, Bool.or_false, Bool.or_true, Bool.false_and, Bool.true_and, Bool.and_false, Bool.and_true, Bool.not_true, Bool.not_false, Bool.false_eq_true, if_true, if_false, seval]
       rw [rj, rk]
       (repeat refine xa_ ?_); refine xr_ (by first | exact xZ_ hcx | exact yQ_ hcx rfl) fun K hK => ?_; simp only [go_sem, seval, lM, hne1, hne2, if_true, if_false, true_or, or_true]
       refine gU ?_
       refine hK _ ?_; clear hK K
       (repeat refine xa_ ?_); refine xr_ (by first | exact xZ_ hcx | exact yQ_ hcx rfl) fun K hK => ?_; simp only [go_sem, seval, ek, lM, hne1, hne2, if_true, if_false, true_or, or_true]
       refine gU ?_
       refine hK _ ?_; clear hK K
       (repeat refine xa_ ?_); refine xr_ (by first | exact xZ_ hcx | exact yQ_ hcx rfl) fun K hK => ?_; simp only [go_sem, seval, ek, lM, hne1, hne2, if_true, if_false, true_or, or_true]
       refine gU ?_
       refine hK _ ?_; clear hK K
       (repeat refine xa_ ?_); refine AT.ghost (S8_ 0 f (k + 1) 3 2 rfl rfl rfl (by decide) (hne)) ?_; simp only [find, x2_, xp_, xA_, qOf, rmT, xt_, x4_, x8_, List.map_cons, List.map_nil, List.filter_cons, List.filter_nil, List.contains_cons, List.contains_nil, List.isEmpty_nil, List.isEmpty_cons, Bool.or_false, Bool.or_true, Bool.false_and, Bool.true_and, Bool.and_false, Bool.and_true, Bool.not_true, Bool.not_false, Bool.false_eq_true, if_true, if_false, seval]
       rw [sw1]
       obtain ⟨H, eH⟩ : ∃ H : Nat → Nat → Nat → Int, H = fun i x y => if x < i then GR x (swp f (k + 1) y) else GR x y := ⟨_, rfl⟩
       have h0 : xy_ n n GR = xy_ n n (H 0) := by
        rw [eH]
        exact xC_ fun x _ y _ => (if_neg (Nat.not_lt_zero x)).symm
       have hn : xy_ n n (H n) = xy_ n n G2 := by
        rw [eH, ← eG2, eGR]
        exact xC_ fun x hx y _ => if_pos hx
       rw [h0]
       refine gB ?_
       (repeat refine xa_ ?_); refine gLp (fun i : Nat => ⟨[(3, .ref 0 []), (4, .int n), (5, .int k), (6, .int f), (8, .int i)], [(0, .t2 (xy_ n n (H i)))]⟩) n fun i hi => ?_
       have lH := xx_ n n (H i)
       refine gB ?_
       refine gI (fun hc4 => ?_) fun hc4 => ?_
       ·have hi2 : i < n := by omega
        have ri : (xy_ n n (H i)).getD i [] = xU_ n (GR i) := by
         rw [xF_ hi2, eH]
         exact yr_ fun y _ => if_neg (Nat.lt_irrefl i)
        have li := xn_ n (GR i)
        have gf : (xU_ n (GR i)).getD f 0 = GR i f := xE_ hfn
        have gk : (xU_ n (GR i)).getD (k + 1) 0 = GR i (k + 1) := xE_ (by omega)
        obtain ⟨H1, eH1⟩ : ∃ H1 : Nat → Nat → Int, H1 = fun x y => if x = i ∧ y = f then GR i (k + 1) else H i x y := ⟨_, rfl⟩
        have st1 : (xy_ n n (H i)).set i ((xU_ n (GR i)).set f (GR i (k + 1))) = xy_ n n H1 := by rw [← ri, X0_ hi2, eH1]
        have lH1 := xx_ n n H1
        have ri1 : (xy_ n n H1).getD i [] = xU_ n (H1 i) := xF_ hi2
        have li1 := xn_ n (H1 i)
        have st2 : (xy_ n n H1).set i ((xU_ n (H1 i)).set (k + 1) (GR i f)) = xy_ n n (H (i + 1)) := by
         rw [← ri1, X0_ hi2, eH1, eH]
         refine xC_ fun x _ y _ => ?_
         show (if x = i ∧ y = k + 1 then GR i f else if x = i ∧ y = f then GR i (k + 1) else if x < i then GR x (swp f (k + 1) y) else GR x y) = if x < i + 1 then GR x (swp f (k + 1) y) else GR x y
         by_cases c1 : x = i
         ·subst c1
          rw [if_pos (Nat.lt_succ_self x)]
          by_cases c2 : y = k + 1
          ·rw [if_pos ⟨rfl, c2⟩, c2, aK7]
          ·rw [if_neg (fun h => c2 h.2)]
           by_cases c3 : y = f
           ·rw [if_pos ⟨rfl, c3⟩, c3, aK6]
           ·rw [if_neg (fun h => c3 h.2), if_neg (Nat.lt_irrefl x), QT_ c3 c2]
         ·rw [if_neg (fun h => c1 h.1), if_neg (fun h => c1 h.1)]
          by_cases c4 : x < i
          ·rw [if_pos c4, if_pos (by omega)]
          ·rw [if_neg c4, if_neg (by omega)]
        refine xb_ ?_
        refine gO ?_
        (repeat refine xa_ ?_); refine xr_ (by first | exact xZ_ hcx | exact yQ_ hcx rfl) fun K hK => ?_; simp only [go_sem, seval, lH]
        refine gU ?_
        refine hK _ ?_; clear hK K
        (repeat refine xa_ ?_); refine xr_ (by first | exact xZ_ hcx | exact yQ_ hcx rfl) fun K hK => ?_; simp only [go_sem, seval, ri, li, gf]
        refine gU ?_
        refine hK _ ?_; clear hK K
        (repeat refine xa_ ?_); refine xr_ (by first | exact xZ_ hcx | exact yQ_ hcx rfl) fun K hK => ?_; simp only [go_sem, seval, ek, ri, li, gk]
        refine gU ?_
        refine hK _ ?_; clear hK K
        rw [st1]
        (repeat refine xa_ ?_); refine xr_ (by first | exact xZ_ hcx | exact yQ_ hcx rfl) fun K hK => ?_; simp only [go_sem, seval, ek, ri1, li1]
        refine gU ?_
        refine hK _ ?_; clear hK K
        rw [st2]
        refine gB ?_
        refine ⟨i + 1,  by omega, by omega, .inl ⟨gH,  rfl⟩⟩
       ·obtain rfl : i = n := by omega
        rw [hn]
        refine xf_ (ye_ ?_)
        refine yf_ ?_; refine Or.inl ⟨rfl, xS_ [] []⟩
      ·have e12 : xy_ n n G1 = xy_ n n G2 := by
        rw [← eG2]
        refine xC_ fun x _ y _ => ?_
        unfold hwF
        rw [show k + 1 = f by omega, Sp_, Sp_]
       rw [e12]
       refine xb_ ?_
       refine yf_ ?_; refine Or.inl ⟨rfl, xS_ [] []⟩
     have ek : (k : Int) + 1 = ((k + 1 : Nat) : Int) := by omega
     have hE2 : ∀ x, x < n → ∀ y, y < n → InP (G2 x y) := by
      rw [← eG2]
      exact fun x hx y hy => hE _ (YX_ hfn (by omega) hx) _ (YX_ hfn (by omega) hy)
     have lM2 := xx_ n n G2
     have rk1 : (xy_ n n G2).getD (k + 1) [] = xU_ n (G2 (k + 1)) := xF_ (by omega)
     have lk1 := xn_ n (G2 (k + 1))
     have gk1 : (xU_ n (G2 (k + 1))).getD k 0 = G2 (k + 1) k := xE_ (by omega)
     have hI := Zk_ (G2 (k + 1) k) (hE2 _ (by omega) _ (by omega))
     have pv : InP (inv (G2 (k + 1) k)) := Yv_ (hE2 _ (by omega) _ (by omega))
     obtain ⟨v, ev⟩ : ∃ v, inv (G2 (k + 1) k) = v := ⟨_, rfl⟩
     rw [ev] at hI hS pv
     (repeat refine xa_ ?_); refine xr_ (by first | exact xZ_ hcx | exact yQ_ hcx rfl) fun K hK => ?_; simp only [go_sem, seval, ek, lM2, rk1, lk1, gk1]
     refine gU ?_
     first | refine xi_ (hI) rfl ?_ | refine xe_ (xg_ (hI) rfl) ?_
     refine gV ?_
     refine hK _ ?_; clear hK K
     refine gB ?_
     obtain ⟨E, eE⟩ : ∃ E : Nat → Nat → Nat → Int, E = heF k v G2 := ⟨_, rfl⟩
     have hES : ∀ t, E (t + 1) = heS k v (k + 2 + t) (E t) := fun t => by rw [eE]; rfl
     have hEP : ∀ t, ∀ x, x < n → ∀ y, y < n → InP (E t x y) := fun t => by
      induction t with
      | zero => rw [eE]; exact hE2
      | succ t ih => rw [hES]; exact aa0 ih
     have hE0 : E 0 = G2 := by rw [eE]; rfl
     rw [← eE] at hS
     clear eE
     rw [← hE0]
     (repeat refine xa_ ?_); refine xo_ (fun t : Nat => ⟨[(3, .ref 0 []), (4, .int n), (5, .int k), (11, .int v), (12, .int ((k + 2 + t : Nat) : Int))], [(0, .t2 (xy_ n n (E t)))]⟩) (fun t => t ≤ (n - (k + 2))) (fun t => (n - (k + 2)) - t) 0 (Nat.zero_le _) (by refine And.intro ?_ rfl; simp only [leS, Nat.reduceEqDiff, ↓reduceIte, true_and, and_true]; repeat' (first | rfl | with_reducible refine And.intro ?_ ?_ | omega)) (fun t ht => ?_)
     refine gB ?_
     refine gI (fun hc5 => ?_) fun hc5 => ?_
     ·have ht2 : k + 2 + t < n := by omega
      have hEt := hEP t
      have hSt := hES t
      obtain ⟨i, ei⟩ : ∃ i, k + 2 + t = i := ⟨_, rfl⟩
      rw [ei] at hSt ht2 ⊢
      obtain ⟨B, eB⟩ : ∃ B, E t = B := ⟨_, rfl⟩
      rw [eB] at hEt hSt ⊢
      have lB := xx_ n n B
      have ri : (xy_ n n B).getD i [] = xU_ n (B i) := xF_ ht2
      have li := xn_ n (B i)
      have gi : (xU_ n (B i)).getD k 0 = B i k := xE_ (by omega)
      have rk : (xy_ n n B).getD (k + 1) [] = xU_ n (B (k + 1)) := xF_ (by omega)
      have mp := Wv_ (hEt i ht2 k (by omega)) pv
      have em : (B i k * v).tmod 55441 = B i k * v % 55441 := tmP mp.1
      have pc := x7_ (B i k * v)
      have hSd : heS k v i B = heC k i (B i k * v % 55441) (heR k i (B i k * v % 55441) B) := rfl
      rw [hSd] at hSt
      clear hSd
      obtain ⟨pb0, pb1⟩ := mp
      obtain ⟨M0, eM0⟩ : ∃ M0, B i k * v = M0 := ⟨_, rfl⟩
      rw [eM0] at em pb0 pb1 pc hSt
      obtain ⟨c, ec⟩ : ∃ c, M0 % 55441 = c := ⟨_, rfl⟩
      rw [ec] at em pc hSt
      obtain ⟨pc0, pc1⟩ := pc
      have hMd := X9_ (0 - c) (by omega) (by omega)
      rw [show (0 - c) % 55441 = -c % 55441 by rw [Int.zero_sub]] at hMd
      have hPl := Xv_ n (by omega) (B i) (B (k + 1)) (fun y hy => hEt i ht2 y hy) (fun y hy => hEt (k + 1) (by omega) y hy) (-c % 55441) (x7_ _)
      obtain ⟨R, eR⟩ : ∃ R, heR k i c B = R := ⟨_, rfl⟩
      have sR : (xy_ n n B).set i (xU_ n fun y => (B i y + -c % 55441 * B (k + 1) y) % 55441) = xy_ n n R := by
       rw [yx_, ← eR]
       refine xC_ fun x _ y _ => ?_
       unfold heR
       by_cases e : x = i
       ·rw [if_pos e, if_pos e]
       ·rw [if_neg e, if_neg e]
      rw [eR] at hSt
      rw [← ri, ← rk] at hPl
      refine xb_ ?_
      refine gO ?_
      (repeat refine xa_ ?_); refine xr_ (by first | exact xZ_ hcx | exact yQ_ hcx rfl) fun K hK => ?_; simp only [go_sem, seval, lB, ri, li, gi, eM0, em]
      refine gU ?_
      refine hK _ ?_; clear hK K
      obtain ⟨PL, ePL⟩ : ∃ PL, (xU_ n fun y => (B i y + -c % 55441 * B (k + 1) y) % 55441) = PL := ⟨_, rfl⟩
      rw [ePL] at hPl sR
      (repeat refine xa_ ?_)
      obtain ⟨mk, emk⟩ : ∃ mk : List (Nat × AV) → List (Nat × Tree) → St, mk = fun s h => ⟨[(3, .ref 0 []), (4, .int n), (5, .int k), (11, .int v), (12, .int i), (13, .int c)] ++ s, h ++ [(0, .t2 (xy_ n n B))]⟩ := ⟨_, rfl⟩
      obtain ⟨z0, ez0⟩ := gZ (⟨[(3, .ref 0 []), (4, .int n), (5, .int k), (11, .int v), (12, .int i), (13, .int c), (125, .ref 0 []), (126, .int i), (127, .ref 0 []), (128, .int i), (131, .ref 0 []), (132, .int k), (136, .int c)], [(0, .t2 (xy_ n n B))]⟩ : St)
      obtain ⟨z1, ez1⟩ := gZ (mk [(125, .ref 0 []), (126, .int i), (129, .eref 0 [] i), (131, .ref 0 []), (132, .int k), (136, .int c)] [])
      obtain ⟨z2, ez2⟩ := gZ (mk [(125, .ref 0 []), (126, .int i), (127, .ref 0 []), (128, .int i), (131, .ref 0 []), (133, .int ((k + 1 : Nat) : Int)), (136, .int c)] [])
      obtain ⟨z3, ez3⟩ := gZ (mk [(125, .ref 0 []), (126, .int i), (127, .ref 0 []), (128, .int i), (131, .ref 0 []), (132, .int k), (137, .int (0 - c))] [])
      obtain ⟨z4, ez4⟩ := gZ (mk [(125, .ref 0 []), (126, .int i), (130, .ref 0 [i]), (131, .ref 0 []), (132, .int k), (136, .int c)] [])
      obtain ⟨z5, ez5⟩ := gZ (mk [(125, .ref 0 []), (126, .int i), (129, .eref 0 [] i), (131, .ref 0 []), (133, .int ((k + 1 : Nat) : Int)), (136, .int c)] [])
      obtain ⟨z6, ez6⟩ := gZ (mk [(125, .ref 0 []), (126, .int i), (129, .eref 0 [] i), (131, .ref 0 []), (132, .int k), (137, .int (0 - c))] [])
      obtain ⟨z7, ez7⟩ := gZ (mk [(125, .ref 0 []), (126, .int i), (127, .ref 0 []), (128, .int i), (134, .eref 0 [] (k + 1)), (136, .int c)] [])
      obtain ⟨z8, ez8⟩ := gZ (mk [(125, .ref 0 []), (126, .int i), (127, .ref 0 []), (128, .int i), (131, .ref 0 []), (133, .int ((k + 1 : Nat) : Int)), (137, .int (0 - c))] [])
      obtain ⟨z9, ez9⟩ := gZ (mk [(125, .ref 0 []), (126, .int i), (127, .ref 0 []), (128, .int i), (131, .ref 0 []), (132, .int k), (138, .int (-c % 55441))] [])
      obtain ⟨z10, ez10⟩ := gZ (mk [(125, .ref 0 []), (126, .int i), (130, .ref 0 [i]), (131, .ref 0 []), (133, .int ((k + 1 : Nat) : Int)), (136, .int c)] [])
      obtain ⟨z11, ez11⟩ := gZ (mk [(125, .ref 0 []), (126, .int i), (130, .ref 0 [i]), (131, .ref 0 []), (132, .int k), (137, .int (0 - c))] [])
      obtain ⟨z12, ez12⟩ := gZ (mk [(125, .ref 0 []), (126, .int i), (129, .eref 0 [] i), (134, .eref 0 [] (k + 1)), (136, .int c)] [])
      obtain ⟨z13, ez13⟩ := gZ (mk [(125, .ref 0 []), (126, .int i), (129, .eref 0 [] i), (131, .ref 0 []), (133, .int ((k + 1 : Nat) : Int)), (137, .int (0 - c))] [])
      obtain ⟨z14, ez14⟩ := gZ (mk [(125, .ref 0 []), (126, .int i), (129, .eref 0 [] i), (131, .ref 0 []), (132, .int k), (138, .int (-c % 55441))] [])
      obtain ⟨z15, ez15⟩ := gZ (mk [(125, .ref 0 []), (126, .int i), (127, .ref 0 []), (128, .int i), (135, .ref 0 [k + 1]), (136, .int c)] [])
      obtain ⟨z16, ez16⟩ := gZ (mk [(125, .ref 0 []), (126, .int i), (127, .ref 0 []), (128, .int i), (134, .eref 0 [] (k + 1)), (137, .int (0 - c))] [])
      obtain ⟨z17, ez17⟩ := gZ (mk [(125, .ref 0 []), (126, .int i), (127, .ref 0 []), (128, .int i), (131, .ref 0 []), (133, .int ((k + 1 : Nat) : Int)), (138, .int (-c % 55441))] [])
      obtain ⟨z18, ez18⟩ := gZ (mk [(125, .ref 0 []), (126, .int i), (130, .ref 0 [i]), (134, .eref 0 [] (k + 1)), (136, .int c)] [])
      obtain ⟨z19, ez19⟩ := gZ (mk [(125, .ref 0 []), (126, .int i), (130, .ref 0 [i]), (131, .ref 0 []), (133, .int ((k + 1 : Nat) : Int)), (137, .int (0 - c))] [])
      obtain ⟨z20, ez20⟩ := gZ (mk [(125, .ref 0 []), (126, .int i), (130, .ref 0 [i]), (131, .ref 0 []), (132, .int k), (138, .int (-c % 55441))] [])
      obtain ⟨z21, ez21⟩ := gZ (mk [(125, .ref 0 []), (126, .int i), (129, .eref 0 [] i), (135, .ref 0 [k + 1]), (136, .int c)] [])
      obtain ⟨z22, ez22⟩ := gZ (mk [(125, .ref 0 []), (126, .int i), (129, .eref 0 [] i), (134, .eref 0 [] (k + 1)), (137, .int (0 - c))] [])
      obtain ⟨z23, ez23⟩ := gZ (mk [(125, .ref 0 []), (126, .int i), (129, .eref 0 [] i), (131, .ref 0 []), (133, .int ((k + 1 : Nat) : Int)), (138, .int (-c % 55441))] [])
      obtain ⟨z24, ez24⟩ := gZ (mk [(125, .ref 0 []), (126, .int i), (127, .ref 0 []), (128, .int i), (135, .ref 0 [k + 1]), (137, .int (0 - c))] [])
      obtain ⟨z25, ez25⟩ := gZ (mk [(125, .ref 0 []), (126, .int i), (127, .ref 0 []), (128, .int i), (134, .eref 0 [] (k + 1)), (138, .int (-c % 55441))] [])
      obtain ⟨z26, ez26⟩ := gZ (mk [(125, .ref 0 []), (126, .int i), (130, .ref 0 [i]), (135, .ref 0 [k + 1]), (136, .int c)] [])
      obtain ⟨z27, ez27⟩ := gZ (mk [(125, .ref 0 []), (126, .int i), (130, .ref 0 [i]), (134, .eref 0 [] (k + 1)), (137, .int (0 - c))] [])
      obtain ⟨z28, ez28⟩ := gZ (mk [(125, .ref 0 []), (126, .int i), (130, .ref 0 [i]), (131, .ref 0 []), (133, .int ((k + 1 : Nat) : Int)), (138, .int (-c % 55441))] [])
      obtain ⟨z29, ez29⟩ := gZ (mk [(125, .ref 0 []), (126, .int i), (129, .eref 0 [] i), (135, .ref 0 [k + 1]), (137, .int (0 - c))] [])
      obtain ⟨z30, ez30⟩ := gZ (mk [(125, .ref 0 []), (126, .int i), (129, .eref 0 [] i), (134, .eref 0 [] (k + 1)), (138, .int (-c % 55441))] [])
      obtain ⟨z31, ez31⟩ := gZ (mk [(125, .ref 0 []), (126, .int i), (127, .ref 0 []), (128, .int i), (135, .ref 0 [k + 1]), (138, .int (-c % 55441))] [])
      obtain ⟨z32, ez32⟩ := gZ (mk [(125, .ref 0 []), (126, .int i), (130, .ref 0 [i]), (135, .ref 0 [k + 1]), (137, .int (0 - c))] [])
      obtain ⟨z33, ez33⟩ := gZ (mk [(125, .ref 0 []), (126, .int i), (130, .ref 0 [i]), (134, .eref 0 [] (k + 1)), (138, .int (-c % 55441))] [])
      obtain ⟨z34, ez34⟩ := gZ (mk [(125, .ref 0 []), (126, .int i), (129, .eref 0 [] i), (135, .ref 0 [k + 1]), (138, .int (-c % 55441))] [])
      obtain ⟨z35, ez35⟩ := gZ (mk [(125, .ref 0 []), (126, .int i), (130, .ref 0 [i]), (135, .ref 0 [k + 1]), (138, .int (-c % 55441))] [])
      obtain ⟨z36, ez36⟩ := gZ (⟨[(3, .ref 0 []), (4, .int n), (5, .int k), (11, .int v), (12, .int i), (13, .int c), (125, .ref 0 []), (126, .int i), (139, .ref 1 [])], [(0, .t2 (xy_ n n B)), (1, .t1 PL)]⟩ : St)
      obtain ⟨z37, ez37⟩ := gZ (⟨[(3, .ref 0 []), (4, .int n), (5, .int k), (11, .int v), (12, .int i), (13, .int c), (139, .ref 1 []), (140, .eref 0 [] i)], [(0, .t2 (xy_ n n B)), (1, .t1 PL)]⟩ : St)
      obtain ⟨z38, ez38⟩ := gZ (⟨[(3, .ref 0 []), (4, .int n), (5, .int k), (11, .int v), (12, .int i), (13, .int c)], [(0, .t2 (xy_ n n R))]⟩ : St)
      refine zu_ [14] [0, 1, 2, 3, 6, 7, 11] [[0, 1, 2, 3, 6, 7, 11], [0, 1, 2, 3, 4, 6, 7, 11], [0, 1, 2, 3, 6, 7, 8, 11], [0, 1, 2, 3, 6, 7, 11, 12], [0, 1, 2, 3, 4, 5, 6, 7, 11], [0, 1, 2, 3, 4, 6, 7, 8, 11], [0, 1, 2, 3, 4, 6, 7, 11, 12], [0, 1, 2, 3, 6, 7, 8, 9, 11], [0, 1, 2, 3, 6, 7, 8, 11, 12], [0, 1, 2, 3, 6, 7, 11, 12, 13], [0, 1, 2, 3, 4, 5, 6, 7, 8, 11], [0, 1, 2, 3, 4, 5, 6, 7, 11, 12], [0, 1, 2, 3, 4, 6, 7, 8, 9, 11], [0, 1, 2, 3, 4, 6, 7, 8, 11, 12], [0, 1, 2, 3, 4, 6, 7, 11, 12, 13], [0, 1, 2, 3, 6, 7, 8, 9, 10, 11], [0, 1, 2, 3, 6, 7, 8, 9, 11, 12], [0, 1, 2, 3, 6, 7, 8, 11, 12, 13], [0, 1, 2, 3, 4, 5, 6, 7, 8, 9, 11], [0, 1, 2, 3, 4, 5, 6, 7, 8, 11, 12], [0, 1, 2, 3, 4, 5, 6, 7, 11, 12, 13], [0, 1, 2, 3, 4, 6, 7, 8, 9, 10, 11], [0, 1, 2, 3, 4, 6, 7, 8, 9, 11, 12], [0, 1, 2, 3, 4, 6, 7, 8, 11, 12, 13], [0, 1, 2, 3, 6, 7, 8, 9, 10, 11, 12], [0, 1, 2, 3, 6, 7, 8, 9, 11, 12, 13], [0, 1, 2, 3, 4, 5, 6, 7, 8, 9, 10, 11], [0, 1, 2, 3, 4, 5, 6, 7, 8, 9, 11, 12], [0, 1, 2, 3, 4, 5, 6, 7, 8, 11, 12, 13], [0, 1, 2, 3, 4, 6, 7, 8, 9, 10, 11, 12], [0, 1, 2, 3, 4, 6, 7, 8, 9, 11, 12, 13], [0, 1, 2, 3, 6, 7, 8, 9, 10, 11, 12, 13], [0, 1, 2, 3, 4, 5, 6, 7, 8, 9, 10, 11, 12], [0, 1, 2, 3, 4, 5, 6, 7, 8, 9, 11, 12, 13], [0, 1, 2, 3, 4, 6, 7, 8, 9, 10, 11, 12, 13], [0, 1, 2, 3, 4, 5, 6, 7, 8, 9, 10, 11, 12, 13], [0, 1, 2, 3, 4, 5, 6, 7, 8, 9, 10, 11, 12, 13, 14], [0, 1, 2, 3, 4, 5, 6, 7, 8, 9, 10, 11, 12, 13, 14, 15], [0, 1, 2, 3, 4, 5, 6, 7, 8, 9, 10, 11, 12, 13, 14, 15, 16]] [(0, 4, 1), (0, 8, 2), (0, 12, 3), (1, 5, 4), (1, 8, 5), (1, 12, 6), (2, 4, 5), (2, 9, 7), (2, 12, 8), (3, 4, 6), (3, 8, 8), (3, 13, 9), (4, 8, 10), (4, 12, 11), (5, 5, 10), (5, 9, 12), (5, 12, 13), (6, 5, 11), (6, 8, 13), (6, 13, 14), (7, 4, 12), (7, 10, 15), (7, 12, 16), (8, 4, 13), (8, 9, 16), (8, 13, 17), (9, 4, 14), (9, 8, 17), (10, 9, 18), (10, 12, 19), (11, 8, 19), (11, 13, 20), (12, 5, 18), (12, 10, 21), (12, 12, 22), (13, 5, 19), (13, 9, 22), (13, 13, 23), (14, 5, 20), (14, 8, 23), (15, 4, 21), (15, 12, 24), (16, 4, 22), (16, 10, 24), (16, 13, 25), (17, 4, 23), (17, 9, 25), (18, 10, 26), (18, 12, 27), (19, 9, 27), (19, 13, 28), (20, 8, 28), (21, 5, 26), (21, 12, 29), (22, 5, 27), (22, 10, 29), (22, 13, 30), (23, 5, 28), (23, 9, 30), (24, 4, 29), (24, 13, 31), (25, 4, 30), (25, 10, 31), (26, 12, 32), (27, 10, 32), (27, 13, 33), (28, 9, 33), (29, 5, 32), (29, 13, 34), (30, 5, 33), (30, 10, 34), (31, 4, 34), (32, 13, 35), (33, 10, 35), (34, 5, 35), (35, 14, 36), (36, 15, 37), (37, 16, 38)] [z0, z1, z2, z3, z4, z5, z6, z7, z8, z9, z10, z11, z12, z13, z14, z15, z16, z17, z18, z19, z20, z21, z22, z23, z24, z25, z26, z27, z28, z29, z30, z31, z32, z33, z34, z35, z36, z37, z38] hrd (by first | exact xZ_ hcx | exact yQ_ hcx rfl | exact zE_ hcx rfl) mixed (by kernel_rfl) ?_ ?_ ?_
      ·show zz_ _ _ _ _ _ _ (fun s => yp_ _ _ s z0)
       rw [ez0]; simp only [go_sem, seval]; repeat' (first | (refine zA_ ?_ rfl; (focus ((repeat' (first | exact True.intro | refine And.intro rfl ?_)); done))) | with_reducible refine And.intro ?_ ?_ | omega)
      ·refine ⟨dtr ez0 ez1 ?_, dtr ez0 ez2 ?_, dtr ez0 ez3 ?_, dtr ez1 ez4 ?_, dtr ez1 ez5 ?_, dtr ez1 ez6 ?_, dtr ez2 ez5 ?_, dtr ez2 ez7 ?_, dtr ez2 ez8 ?_, dtr ez3 ez6 ?_, dtr ez3 ez8 ?_, dtr ez3 ez9 ?_, dtr ez4 ez10 ?_, dtr ez4 ez11 ?_, dtr ez5 ez10 ?_, dtr ez5 ez12 ?_, dtr ez5 ez13 ?_, dtr ez6 ez11 ?_, dtr ez6 ez13 ?_, dtr ez6 ez14 ?_, dtr ez7 ez12 ?_, dtr ez7 ez15 ?_, dtr ez7 ez16 ?_, dtr ez8 ez13 ?_, dtr ez8 ez16 ?_, dtr ez8 ez17 ?_, dtr ez9 ez14 ?_, dtr ez9 ez17 ?_, dtr ez10 ez18 ?_, dtr ez10 ez19 ?_, dtr ez11 ez19 ?_, dtr ez11 ez20 ?_, dtr ez12 ez18 ?_, dtr ez12 ez21 ?_, dtr ez12 ez22 ?_, dtr ez13 ez19 ?_, dtr ez13 ez22 ?_, dtr ez13 ez23 ?_, dtr ez14 ez20 ?_, dtr ez14 ez23 ?_, dtr ez15 ez21 ?_, dtr ez15 ez24 ?_, dtr ez16 ez22 ?_, dtr ez16 ez24 ?_, dtr ez16 ez25 ?_, dtr ez17 ez23 ?_, dtr ez17 ez25 ?_, dtr ez18 ez26 ?_, dtr ez18 ez27 ?_, dtr ez19 ez27 ?_, dtr ez19 ez28 ?_, dtr ez20 ez28 ?_, dtr ez21 ez26 ?_, dtr ez21 ez29 ?_, dtr ez22 ez27 ?_, dtr ez22 ez29 ?_, dtr ez22 ez30 ?_, dtr ez23 ez28 ?_, dtr ez23 ez30 ?_, dtr ez24 ez29 ?_, dtr ez24 ez31 ?_, dtr ez25 ez30 ?_, dtr ez25 ez31 ?_, dtr ez26 ez32 ?_, dtr ez27 ez32 ?_, dtr ez27 ez33 ?_, dtr ez28 ez33 ?_, dtr ez29 ez32 ?_, dtr ez29 ez34 ?_, dtr ez30 ez33 ?_, dtr ez30 ez34 ?_, dtr ez31 ez34 ?_, dtr ez32 ez35 ?_, dtr ez33 ez35 ?_, dtr ez34 ez35 ?_, dtr ez35 ez36 ?_, dtr ez36 ez37 ?_, dtr ez37 ez38 ?_, trivial⟩
       all_goals simp only [emk, List.cons_append, List.nil_append, List.append_nil, go_sem, seval]
       all_goals repeat' (first | (refine zA_ ?_ rfl; (focus ((repeat' (first | exact True.intro | refine And.intro rfl ?_)); done))) | with_reducible refine And.intro ?_ ?_ | omega | ((simp only [ek])) | ((first | refine xi_ (hMd) rfl ?_ | refine xe_ (xg_ (hMd) rfl) ?_); simp only [go_sem, seval]) | (refine xK_ rfl (hPl) rfl ?_; simp only [go_sem, seval]) | ((simp only [sR])))
      show ATs _ _ _ _ _ z38
      rw [ez38]
      clear emk ez0 ez1 ez2 ez3 ez4 ez5 ez6 ez7 ez8 ez9 ez10 ez11 ez12 ez13 ez14 ez15 ez16 ez17 ez18 ez19 ez20 ez21 ez22 ez23 ez24 ez25 ez26 ez27 ez28 ez29 ez30 ez31 ez32 ez33 ez34 ez35 ez36 ez37 ez38
      clear hPl sR hMd
      have hRP : ∀ x, x < n → ∀ y, y < n → InP (R x y) := fun x hx y hy => by
       rw [← eR]
       unfold heR
       by_cases e : x = i
       ·rw [if_pos e]; exact x7_ _
       ·rw [if_neg e]; exact hEt x hx y hy
      obtain ⟨J, eJ⟩ : ∃ J : Nat → Nat → Nat → Int, J = fun j x y => if y = k + 1 ∧ x < j then (R x (k + 1) + c * R x i) % 55441 else R x y := ⟨_, rfl⟩
      have hJ0 : xy_ n n R = xy_ n n (J 0) := by
       rw [eJ]
       exact xC_ fun x _ y _ => (if_neg (fun h => Nat.not_lt_zero x h.2)).symm
      have hJn : xy_ n n (J n) = xy_ n n (E (t + 1)) := by
       rw [eJ, hSt]
       refine xC_ fun x hx y _ => ?_
       show (if y = k + 1 ∧ x < n then _ else _) = if y = k + 1 then _ else _
       by_cases e : y = k + 1
       ·rw [if_pos ⟨e, hx⟩, if_pos e]
       ·rw [if_neg (fun h => e h.1), if_neg e]
      rw [hJ0]
      refine gB ?_
      (repeat refine xa_ ?_); refine gLp (fun j : Nat => ⟨[(3, .ref 0 []), (4, .int n), (5, .int k), (11, .int v), (12, .int i), (13, .int c), (14, .int j)], [(0, .t2 (xy_ n n (J j)))]⟩) n fun j hj => ?_
      have lJ := xx_ n n (J j)
      refine gB ?_
      refine gI (fun hc6 => ?_) fun hc6 => ?_
      ·have hj2 : j < n := by omega
       have rj : (xy_ n n (J j)).getD j [] = xU_ n (R j) := by
        rw [xF_ hj2, eJ]
        exact yr_ fun y _ => if_neg (fun h => Nat.lt_irrefl j h.2)
       have lr := xn_ n (R j)
       have ljr : ((xy_ n n (J j)).getD j []).length = n := by rw [rj]; exact lr
       have g1 : (xU_ n (R j)).getD (k + 1) 0 = R j (k + 1) := xE_ (by omega)
       have g2 : (xU_ n (R j)).getD i 0 = R j i := xE_ ht2
       obtain ⟨q0, q1⟩ := Wv_ ⟨pc0, pc1⟩ (hRP j hj2 i ht2)
       obtain ⟨u0, u1⟩ := hRP j hj2 (k + 1) (by omega)
       obtain ⟨X1, eX1⟩ : ∃ X1, R j (k + 1) = X1 := ⟨_, rfl⟩
       obtain ⟨X2, eX2⟩ : ∃ X2, R j i = X2 := ⟨_, rfl⟩
       have sJ : (xy_ n n (J j)).set j ((xU_ n (R j)).set (k + 1) ((X1 + c * X2) % 55441)) = xy_ n n (J (j + 1)) := by
        rw [← rj, X0_ hj2, eJ, ← eX1, ← eX2]
        refine xC_ fun x _ y _ => ?_
        show (if x = j ∧ y = k + 1 then _ else if y = k + 1 ∧ x < j then _ else _) = if y = k + 1 ∧ x < j + 1 then _ else _
        by_cases e1 : x = j ∧ y = k + 1
        ·rw [if_pos e1, if_pos ⟨e1.2, by omega⟩, e1.1]
        ·rw [if_neg e1]
         by_cases e2 : y = k + 1 ∧ x < j
         ·rw [if_pos e2, if_pos ⟨e2.1, by omega⟩]
         ·rw [if_neg e2, if_neg (fun h => (Nat.lt_or_ge x j).elim (fun g => e2 ⟨h.1, g⟩) (fun g => e1 ⟨by omega, h.1⟩))]
       rw [eX1] at g1 u0 u1
       rw [eX2] at g2 q0 q1
       obtain ⟨Y, eY⟩ : ∃ Y, c * X2 = Y := ⟨_, rfl⟩
       rw [eY] at q0 q1 sJ
       have eT : (X1 + Y).tmod 55441 = (X1 + Y) % 55441 := tmP (by omega)
       obtain ⟨w0, w1⟩ := x7_ (X1 + Y)
       obtain ⟨Z, eZ⟩ : ∃ Z, (X1 + Y) % 55441 = Z := ⟨_, rfl⟩
       rw [eZ] at eT w0 w1 sJ
       refine xb_ ?_
       refine gO ?_
       (repeat refine xa_ ?_); refine xr_ (by first | exact xZ_ hcx | exact yQ_ hcx rfl) fun K hK => ?_; simp only [go_sem, seval, lJ]
       refine gU ?_
       refine hK _ ?_; clear hK K
       (repeat refine xa_ ?_)
       obtain ⟨mk, emk⟩ : ∃ mk : List (Nat × AV) → List (Nat × Tree) → St, mk = fun s h => ⟨[(3, .ref 0 []), (4, .int n), (5, .int k), (11, .int v), (12, .int i), (13, .int c), (14, .int j)] ++ s, h ++ [(0, .t2 (xy_ n n (J j)))]⟩ := ⟨_, rfl⟩
       obtain ⟨z0, ez0⟩ := gZ (⟨[(3, .ref 0 []), (4, .int n), (5, .int k), (11, .int v), (12, .int i), (13, .int c), (14, .int j), (150, .ref 0 [j]), (151, .int k), (153, .ref 0 [j]), (154, .int k), (158, .int c), (159, .ref 0 [j]), (160, .int i)], [(0, .t2 (xy_ n n (J j)))]⟩ : St)
       obtain ⟨z1, ez1⟩ := gZ (mk [(150, .ref 0 [j]), (152, .int ((k + 1 : Nat) : Int)), (153, .ref 0 [j]), (154, .int k), (158, .int c), (159, .ref 0 [j]), (160, .int i)] [])
       obtain ⟨z2, ez2⟩ := gZ (mk [(150, .ref 0 [j]), (151, .int k), (153, .ref 0 [j]), (155, .int ((k + 1 : Nat) : Int)), (158, .int c), (159, .ref 0 [j]), (160, .int i)] [])
       obtain ⟨z3, ez3⟩ := gZ (mk [(150, .ref 0 [j]), (151, .int k), (153, .ref 0 [j]), (154, .int k), (158, .int c), (161, .eref 0 [j] i)] [])
       obtain ⟨z4, ez4⟩ := gZ (mk [(150, .ref 0 [j]), (152, .int ((k + 1 : Nat) : Int)), (153, .ref 0 [j]), (155, .int ((k + 1 : Nat) : Int)), (158, .int c), (159, .ref 0 [j]), (160, .int i)] [])
       obtain ⟨z5, ez5⟩ := gZ (mk [(150, .ref 0 [j]), (152, .int ((k + 1 : Nat) : Int)), (153, .ref 0 [j]), (154, .int k), (158, .int c), (161, .eref 0 [j] i)] [])
       obtain ⟨z6, ez6⟩ := gZ (mk [(150, .ref 0 [j]), (151, .int k), (156, .eref 0 [j] (k + 1)), (158, .int c), (159, .ref 0 [j]), (160, .int i)] [])
       obtain ⟨z7, ez7⟩ := gZ (mk [(150, .ref 0 [j]), (151, .int k), (153, .ref 0 [j]), (155, .int ((k + 1 : Nat) : Int)), (158, .int c), (161, .eref 0 [j] i)] [])
       obtain ⟨z8, ez8⟩ := gZ (mk [(150, .ref 0 [j]), (151, .int k), (153, .ref 0 [j]), (154, .int k), (158, .int c), (162, .int X2)] [])
       obtain ⟨z9, ez9⟩ := gZ (mk [(150, .ref 0 [j]), (152, .int ((k + 1 : Nat) : Int)), (156, .eref 0 [j] (k + 1)), (158, .int c), (159, .ref 0 [j]), (160, .int i)] [])
       obtain ⟨z10, ez10⟩ := gZ (mk [(150, .ref 0 [j]), (152, .int ((k + 1 : Nat) : Int)), (153, .ref 0 [j]), (155, .int ((k + 1 : Nat) : Int)), (158, .int c), (161, .eref 0 [j] i)] [])
       obtain ⟨z11, ez11⟩ := gZ (mk [(150, .ref 0 [j]), (152, .int ((k + 1 : Nat) : Int)), (153, .ref 0 [j]), (154, .int k), (158, .int c), (162, .int X2)] [])
       obtain ⟨z12, ez12⟩ := gZ (mk [(150, .ref 0 [j]), (151, .int k), (157, .int X1), (158, .int c), (159, .ref 0 [j]), (160, .int i)] [])
       obtain ⟨z13, ez13⟩ := gZ (mk [(150, .ref 0 [j]), (151, .int k), (156, .eref 0 [j] (k + 1)), (158, .int c), (161, .eref 0 [j] i)] [])
       obtain ⟨z14, ez14⟩ := gZ (mk [(150, .ref 0 [j]), (151, .int k), (153, .ref 0 [j]), (155, .int ((k + 1 : Nat) : Int)), (158, .int c), (162, .int X2)] [])
       obtain ⟨z15, ez15⟩ := gZ (mk [(150, .ref 0 [j]), (151, .int k), (153, .ref 0 [j]), (154, .int k), (163, .int Y)] [])
       obtain ⟨z16, ez16⟩ := gZ (mk [(150, .ref 0 [j]), (152, .int ((k + 1 : Nat) : Int)), (157, .int X1), (158, .int c), (159, .ref 0 [j]), (160, .int i)] [])
       obtain ⟨z17, ez17⟩ := gZ (mk [(150, .ref 0 [j]), (152, .int ((k + 1 : Nat) : Int)), (156, .eref 0 [j] (k + 1)), (158, .int c), (161, .eref 0 [j] i)] [])
       obtain ⟨z18, ez18⟩ := gZ (mk [(150, .ref 0 [j]), (152, .int ((k + 1 : Nat) : Int)), (153, .ref 0 [j]), (155, .int ((k + 1 : Nat) : Int)), (158, .int c), (162, .int X2)] [])
       obtain ⟨z19, ez19⟩ := gZ (mk [(150, .ref 0 [j]), (152, .int ((k + 1 : Nat) : Int)), (153, .ref 0 [j]), (154, .int k), (163, .int Y)] [])
       obtain ⟨z20, ez20⟩ := gZ (mk [(150, .ref 0 [j]), (151, .int k), (157, .int X1), (158, .int c), (161, .eref 0 [j] i)] [])
       obtain ⟨z21, ez21⟩ := gZ (mk [(150, .ref 0 [j]), (151, .int k), (156, .eref 0 [j] (k + 1)), (158, .int c), (162, .int X2)] [])
       obtain ⟨z22, ez22⟩ := gZ (mk [(150, .ref 0 [j]), (151, .int k), (153, .ref 0 [j]), (155, .int ((k + 1 : Nat) : Int)), (163, .int Y)] [])
       obtain ⟨z23, ez23⟩ := gZ (mk [(150, .ref 0 [j]), (152, .int ((k + 1 : Nat) : Int)), (157, .int X1), (158, .int c), (161, .eref 0 [j] i)] [])
       obtain ⟨z24, ez24⟩ := gZ (mk [(150, .ref 0 [j]), (152, .int ((k + 1 : Nat) : Int)), (156, .eref 0 [j] (k + 1)), (158, .int c), (162, .int X2)] [])
       obtain ⟨z25, ez25⟩ := gZ (mk [(150, .ref 0 [j]), (152, .int ((k + 1 : Nat) : Int)), (153, .ref 0 [j]), (155, .int ((k + 1 : Nat) : Int)), (163, .int Y)] [])
       obtain ⟨z26, ez26⟩ := gZ (mk [(150, .ref 0 [j]), (151, .int k), (157, .int X1), (158, .int c), (162, .int X2)] [])
       obtain ⟨z27, ez27⟩ := gZ (mk [(150, .ref 0 [j]), (151, .int k), (156, .eref 0 [j] (k + 1)), (163, .int Y)] [])
       obtain ⟨z28, ez28⟩ := gZ (mk [(150, .ref 0 [j]), (152, .int ((k + 1 : Nat) : Int)), (157, .int X1), (158, .int c), (162, .int X2)] [])
       obtain ⟨z29, ez29⟩ := gZ (mk [(150, .ref 0 [j]), (152, .int ((k + 1 : Nat) : Int)), (156, .eref 0 [j] (k + 1)), (163, .int Y)] [])
       obtain ⟨z30, ez30⟩ := gZ (mk [(150, .ref 0 [j]), (151, .int k), (157, .int X1), (163, .int Y)] [])
       obtain ⟨z31, ez31⟩ := gZ (mk [(150, .ref 0 [j]), (152, .int ((k + 1 : Nat) : Int)), (157, .int X1), (163, .int Y)] [])
       obtain ⟨z32, ez32⟩ := gZ (mk [(150, .ref 0 [j]), (151, .int k), (164, .int (X1 + Y))] [])
       obtain ⟨z33, ez33⟩ := gZ (mk [(150, .ref 0 [j]), (152, .int ((k + 1 : Nat) : Int)), (164, .int (X1 + Y))] [])
       obtain ⟨z34, ez34⟩ := gZ (mk [(150, .ref 0 [j]), (151, .int k), (165, .int Z)] [])
       obtain ⟨z35, ez35⟩ := gZ (mk [(150, .ref 0 [j]), (152, .int ((k + 1 : Nat) : Int)), (165, .int Z)] [])
       obtain ⟨z36, ez36⟩ := gZ (mk [(165, .int Z), (166, .eref 0 [j] (k + 1))] [])
       obtain ⟨z37, ez37⟩ := gZ (⟨[(3, .ref 0 []), (4, .int n), (5, .int k), (11, .int v), (12, .int i), (13, .int c), (14, .int j)], [(0, .t2 (xy_ n n (J (j + 1))))]⟩ : St)
       refine zu_ [] [0, 1, 3, 4, 8, 9, 10] [[0, 1, 3, 4, 8, 9, 10], [0, 1, 2, 3, 4, 8, 9, 10], [0, 1, 3, 4, 5, 8, 9, 10], [0, 1, 3, 4, 8, 9, 10, 11], [0, 1, 2, 3, 4, 5, 8, 9, 10], [0, 1, 2, 3, 4, 8, 9, 10, 11], [0, 1, 3, 4, 5, 6, 8, 9, 10], [0, 1, 3, 4, 5, 8, 9, 10, 11], [0, 1, 3, 4, 8, 9, 10, 11, 12], [0, 1, 2, 3, 4, 5, 6, 8, 9, 10], [0, 1, 2, 3, 4, 5, 8, 9, 10, 11], [0, 1, 2, 3, 4, 8, 9, 10, 11, 12], [0, 1, 3, 4, 5, 6, 7, 8, 9, 10], [0, 1, 3, 4, 5, 6, 8, 9, 10, 11], [0, 1, 3, 4, 5, 8, 9, 10, 11, 12], [0, 1, 3, 4, 8, 9, 10, 11, 12, 13], [0, 1, 2, 3, 4, 5, 6, 7, 8, 9, 10], [0, 1, 2, 3, 4, 5, 6, 8, 9, 10, 11], [0, 1, 2, 3, 4, 5, 8, 9, 10, 11, 12], [0, 1, 2, 3, 4, 8, 9, 10, 11, 12, 13], [0, 1, 3, 4, 5, 6, 7, 8, 9, 10, 11], [0, 1, 3, 4, 5, 6, 8, 9, 10, 11, 12], [0, 1, 3, 4, 5, 8, 9, 10, 11, 12, 13], [0, 1, 2, 3, 4, 5, 6, 7, 8, 9, 10, 11], [0, 1, 2, 3, 4, 5, 6, 8, 9, 10, 11, 12], [0, 1, 2, 3, 4, 5, 8, 9, 10, 11, 12, 13], [0, 1, 3, 4, 5, 6, 7, 8, 9, 10, 11, 12], [0, 1, 3, 4, 5, 6, 8, 9, 10, 11, 12, 13], [0, 1, 2, 3, 4, 5, 6, 7, 8, 9, 10, 11, 12], [0, 1, 2, 3, 4, 5, 6, 8, 9, 10, 11, 12, 13], [0, 1, 3, 4, 5, 6, 7, 8, 9, 10, 11, 12, 13], [0, 1, 2, 3, 4, 5, 6, 7, 8, 9, 10, 11, 12, 13], [0, 1, 3, 4, 5, 6, 7, 8, 9, 10, 11, 12, 13, 14], [0, 1, 2, 3, 4, 5, 6, 7, 8, 9, 10, 11, 12, 13, 14], [0, 1, 3, 4, 5, 6, 7, 8, 9, 10, 11, 12, 13, 14, 15], [0, 1, 2, 3, 4, 5, 6, 7, 8, 9, 10, 11, 12, 13, 14, 15], [0, 1, 2, 3, 4, 5, 6, 7, 8, 9, 10, 11, 12, 13, 14, 15, 16], [0, 1, 2, 3, 4, 5, 6, 7, 8, 9, 10, 11, 12, 13, 14, 15, 16, 17]] [(0, 2, 1), (0, 5, 2), (0, 11, 3), (1, 5, 4), (1, 11, 5), (2, 2, 4), (2, 6, 6), (2, 11, 7), (3, 2, 5), (3, 5, 7), (3, 12, 8), (4, 6, 9), (4, 11, 10), (5, 5, 10), (5, 12, 11), (6, 2, 9), (6, 7, 12), (6, 11, 13), (7, 2, 10), (7, 6, 13), (7, 12, 14), (8, 2, 11), (8, 5, 14), (8, 13, 15), (9, 7, 16), (9, 11, 17), (10, 6, 17), (10, 12, 18), (11, 5, 18), (11, 13, 19), (12, 2, 16), (12, 11, 20), (13, 2, 17), (13, 7, 20), (13, 12, 21), (14, 2, 18), (14, 6, 21), (14, 13, 22), (15, 2, 19), (15, 5, 22), (16, 11, 23), (17, 7, 23), (17, 12, 24), (18, 6, 24), (18, 13, 25), (19, 5, 25), (20, 2, 23), (20, 12, 26), (21, 2, 24), (21, 7, 26), (21, 13, 27), (22, 2, 25), (22, 6, 27), (23, 12, 28), (24, 7, 28), (24, 13, 29), (25, 6, 29), (26, 2, 28), (26, 13, 30), (27, 2, 29), (27, 7, 30), (28, 13, 31), (29, 7, 31), (30, 2, 31), (30, 14, 32), (31, 14, 33), (32, 2, 33), (32, 15, 34), (33, 15, 35), (34, 2, 35), (35, 16, 36), (36, 17, 37)] [z0, z1, z2, z3, z4, z5, z6, z7, z8, z9, z10, z11, z12, z13, z14, z15, z16, z17, z18, z19, z20, z21, z22, z23, z24, z25, z26, z27, z28, z29, z30, z31, z32, z33, z34, z35, z36, z37] hrd (by first | exact xZ_ hcx | exact yQ_ hcx rfl | exact zE_ hcx rfl) mixed (by kernel_rfl) ?_ ?_ ?_
       ·show zz_ _ _ _ _ _ _ (fun s => yp_ _ _ s z0)
        rw [ez0]; simp only [go_sem, seval]; repeat' (first | (refine zA_ ?_ rfl; (focus ((repeat' (first | exact True.intro | refine And.intro rfl ?_)); done))) | with_reducible refine And.intro ?_ ?_ | omega)
       ·refine ⟨dtr ez0 ez1 ?_, dtr ez0 ez2 ?_, dtr ez0 ez3 ?_, dtr ez1 ez4 ?_, dtr ez1 ez5 ?_, dtr ez2 ez4 ?_, dtr ez2 ez6 ?_, dtr ez2 ez7 ?_, dtr ez3 ez5 ?_, dtr ez3 ez7 ?_, dtr ez3 ez8 ?_, dtr ez4 ez9 ?_, dtr ez4 ez10 ?_, dtr ez5 ez10 ?_, dtr ez5 ez11 ?_, dtr ez6 ez9 ?_, dtr ez6 ez12 ?_, dtr ez6 ez13 ?_, dtr ez7 ez10 ?_, dtr ez7 ez13 ?_, dtr ez7 ez14 ?_, dtr ez8 ez11 ?_, dtr ez8 ez14 ?_, dtr ez8 ez15 ?_, dtr ez9 ez16 ?_, dtr ez9 ez17 ?_, dtr ez10 ez17 ?_, dtr ez10 ez18 ?_, dtr ez11 ez18 ?_, dtr ez11 ez19 ?_, dtr ez12 ez16 ?_, dtr ez12 ez20 ?_, dtr ez13 ez17 ?_, dtr ez13 ez20 ?_, dtr ez13 ez21 ?_, dtr ez14 ez18 ?_, dtr ez14 ez21 ?_, dtr ez14 ez22 ?_, dtr ez15 ez19 ?_, dtr ez15 ez22 ?_, dtr ez16 ez23 ?_, dtr ez17 ez23 ?_, dtr ez17 ez24 ?_, dtr ez18 ez24 ?_, dtr ez18 ez25 ?_, dtr ez19 ez25 ?_, dtr ez20 ez23 ?_, dtr ez20 ez26 ?_, dtr ez21 ez24 ?_, dtr ez21 ez26 ?_, dtr ez21 ez27 ?_, dtr ez22 ez25 ?_, dtr ez22 ez27 ?_, dtr ez23 ez28 ?_, dtr ez24 ez28 ?_, dtr ez24 ez29 ?_, dtr ez25 ez29 ?_, dtr ez26 ez28 ?_, dtr ez26 ez30 ?_, dtr ez27 ez29 ?_, dtr ez27 ez30 ?_, dtr ez28 ez31 ?_, dtr ez29 ez31 ?_, dtr ez30 ez31 ?_, dtr ez30 ez32 ?_, dtr ez31 ez33 ?_, dtr ez32 ez33 ?_, dtr ez32 ez34 ?_, dtr ez33 ez35 ?_, dtr ez34 ez35 ?_, dtr ez35 ez36 ?_, dtr ez36 ez37 ?_, trivial⟩
        all_goals simp only [emk, List.cons_append, List.nil_append, List.append_nil, go_sem, seval]
        all_goals repeat' (first | (refine zA_ ?_ rfl; (focus ((repeat' (first | exact True.intro | refine And.intro rfl ?_)); done))) | with_reducible refine And.intro ?_ ?_ | omega | ((simp only [ek])) | ((simp only [rj, g1])) | ((simp only [rj, g2])) | ((simp only [eY])) | ((simp only [eT])) | ((simp only [rj, sJ])))
       show ATs _ _ _ _ _ z37
       rw [ez37]
       clear emk ez0 ez1 ez2 ez3 ez4 ez5 ez6 ez7 ez8 ez9 ez10 ez11 ez12 ez13 ez14 ez15 ez16 ez17 ez18 ez19 ez20 ez21 ez22 ez23 ez24 ez25 ez26 ez27 ez28 ez29 ez30 ez31 ez32 ez33 ez34 ez35 ez36 ez37
       refine gB ?_
       refine ⟨j + 1,  by omega, by omega, .inl ⟨gH,  rfl⟩⟩
      ·obtain rfl : j = n := by omega
       rw [hJn]
       refine xf_ (ye_ ?_)
       refine gB ?_
       refine ⟨t + 1,  by omega, by omega, .inl ⟨gH,  rfl⟩⟩
     ·obtain rfl : t = n - (k + 2) := by omega
      rw [← hS]
      refine xf_ (ye_ ?_)
      refine gB ?_
      refine ⟨k + 1,  by omega, by omega, .inl ⟨gH,  rfl⟩⟩
  ·have hF : F = n := by omega
   have jneg : ((f : Int) < (n : Int)) = False := eq_false (by omega)
   rw [if_pos hF] at hS
   (repeat refine xa_ ?_); refine xr_ (by first | exact xZ_ hcx | exact yQ_ hcx rfl) fun K hK => ?_; simp only [go_sem, seval, jneg, decide_false, Bool.false_and]
   refine gU ?_
   refine hK _ ?_; clear hK K
   refine gQ ?_
   refine xf_ (ye_ ?_)
   refine gB ?_
   refine gI (fun hc2 => ?_) fun hc2 => ?_
   ·refine xf_ (am6 ?_)
    refine gB ?_
    refine ⟨k + 1,  by omega, by omega, .inl ⟨gH,  by rw [hS]⟩⟩
   ·exact absurd (by omega) hc2
 ·obtain rfl : k = n - 2 := by omega
  obtain ⟨H, eH⟩ : ∃ H, G (n - 2) = H := ⟨_, rfl⟩
  have hH := hGP (n - 2) (Nat.le_refl _)
  rw [eH] at hH ⊢
  clear hGs hG0 hGP t0 hO h2 hk eH
  obtain ⟨S, eS⟩ : ∃ S : Nat → List (List Int), S = hpS H := ⟨_, rfl⟩
  have hSs : ∀ k, S (k + 1) = S k ++ [(hpI H (S k) k k).1] := fun k => by rw [eS]; rfl
  have hSP := fun k => aa2 H k
  rw [← eS] at hSP ⊢
  have hS0 : S 0 = [[1]] := by rw [eS]; rfl
  clear eS
  have lH := xx_ n n H
  refine xf_ (ye_ ?_)
  refine gB ?_
  refine gB ?_
  rw [← hS0]
  (repeat refine xa_ ?_); refine gLp (fun k : Nat => ⟨[(3, .ref 0 []), (4, .int n), (16, .ref 2 []), (17, .int k)], [(0, .t2 (xy_ n n H)), (2, .t2 (S k))]⟩) n fun k hk => ?_
  obtain ⟨lS, hSk⟩ := hSP k
  have hSs1 := hSs k
  refine gB ?_
  refine gI (fun hd1 => ?_) fun hd1 => ?_
  ·have hk2 : k < n := by omega
   obtain ⟨X, eX⟩ : ∃ X, (S k).getD k [] = X := ⟨_, rfl⟩
   obtain ⟨lX, pX, _⟩ := hSk k (Nat.le_refl _)
   rw [eX] at lX pX
   have rk : (xy_ n n H).getD k [] = xU_ n (H k) := xF_ hk2
   have lk := xn_ n (H k)
   have lkr : ((xy_ n n H).getD k []).length = n := by rw [rk]; exact lk
   have gk : (xU_ n (H k)).getD k 0 = H k k := xE_ hk2
   obtain ⟨p0, p1⟩ := hH k hk2 k hk2
   have hOw := wP_ X (by omega)
   rw [← eX] at hOw
   have pA : ∀ c, c < k + 2 → InP ((0 :: X).getD c 0) := fun c hc => by
    cases c with
    | zero => exact ⟨Int.le_refl 0, (by omega : (0 : Int) ≤ 55440)⟩
    | succ c => exact pX c (by omega)
   have pB : ∀ c, c < k + 2 → InP ((X ++ [0]).getD c 0) := fun c hc => by
    by_cases e : c < X.length
    ·rw [zV_ e]; exact pX c (by omega)
    ·rw [show c = X.length by omega, w0_]; exact ⟨Int.le_refl 0, (by omega : (0 : Int) ≤ 55440)⟩
   have hP0 := Sq_ (0 :: X) (X ++ [0]) (k + 2) (by omega) (by rw [List.length_cons]; omega) (by rw [List.length_append, lX]; rfl) pA pB (-(H k k) % 55441) (x7_ _)
   have eB : plL (0 :: X) (X ++ [0]) (-(H k k) % 55441) = (hpI H (S k) k 0).1 := by rw [← eX]; rfl
   rw [eB] at hP0
   obtain ⟨I, eI⟩ : ∃ I : Nat → List Int × Int, I = hpI H (S k) k := ⟨_, rfl⟩
   have hIs : ∀ t, I (t + 1) = (plL (I t).1 ((S k).getD (k - 1 - t) [] ++ List.replicate ((I t).1.length - ((S k).getD (k - 1 - t) []).length) 0) (-((I t).2 * H (k - 1 - t + 1) (k - 1 - t) % 55441 * H (k - 1 - t) k % 55441) % 55441), (I t).2 * H (k - 1 - t + 1) (k - 1 - t) % 55441) := fun t => by rw [eI]; rfl
   have hIl : ∀ t, (I t).1.length = k + 2 := fun t => by rw [eI]; exact Wk_ (hSk k (Nat.le_refl _)).1 t
   have hIp : ∀ t, (∀ c, c < k + 2 → InP ((I t).1.getD c 0)) ∧ InP (I t).2 := fun t => by
    cases t with
    | zero =>
     rw [eI]
     exact ⟨fun c hc => V0_ _ _ _ (by rw [eX, List.length_cons]; omega), ⟨(by omega : (0 : Int) ≤ 1), (by omega : (1 : Int) ≤ 55440)⟩⟩
    | succ t =>
     rw [hIs]
     exact ⟨fun c hc => V0_ _ _ _ (by rw [hIl]; omega), x7_ _⟩
   have hI0 : (I 0).2 = 1 := by rw [eI]; rfl
   rw [← eI] at hP0 hSs1
   clear eI eB
   have hMd := X9_ (0 - H k k) (by omega) (by omega)
   rw [show (0 - H k k) % 55441 = -(H k k) % 55441 by rw [Int.zero_sub]] at hMd
   refine xb_ ?_
   refine gO ?_
   (repeat refine xa_ ?_); refine xr_ (by first | exact xZ_ hcx | exact yQ_ hcx rfl) fun K hK => ?_; simp only [go_sem, seval, eX]
   refine gU ?_
   refine hK _ ?_; clear hK K
   (repeat refine xa_ ?_); refine AT.ghost (st' := ⟨[(3, .ref 0 []), (4, .int n), (16, .ref 2 []), (17, .int k), (18, .ref 3 [])], [(0, .t2 (xy_ n n H)), (2, .t2 (S k)), (3, .t1 (0 :: X))]⟩) (xS_ [] []) ?_
   have xk : k < (S k).length := by omega
   (repeat refine xa_ ?_)
   obtain ⟨mk, emk⟩ : ∃ mk : List (Nat × AV) → List (Nat × Tree) → St, mk = fun s h => ⟨[(3, .ref 0 []), (4, .int n), (16, .ref 2 []), (17, .int k)] ++ s, h ++ [(0, .t2 (xy_ n n H)), (2, .t2 (S k)), (3, .t1 (0 :: X))]⟩ := ⟨_, rfl⟩
   obtain ⟨z0, ez0⟩ := gZ (⟨[(3, .ref 0 []), (4, .int n), (16, .ref 2 []), (17, .int k), (180, .ref 3 []), (181, .ref 2 []), (182, .int k), (188, .ref 0 []), (189, .int k), (192, .int k)], [(0, .t2 (xy_ n n H)), (2, .t2 (S k)), (3, .t1 (0 :: X))]⟩ : St)
   obtain ⟨z1, ez1⟩ := gZ (mk [(180, .ref 3 []), (183, .eref 2 [] k), (188, .ref 0 []), (189, .int k), (192, .int k)] [])
   obtain ⟨z2, ez2⟩ := gZ (⟨[(3, .ref 0 []), (4, .int n), (16, .ref 2 []), (17, .int k), (180, .ref 3 []), (181, .ref 2 []), (182, .int k), (186, .ref 4 []), (188, .ref 0 []), (189, .int k), (192, .int k)], [(0, .t2 (xy_ n n H)), (2, .t2 (S k)), (3, .t1 (0 :: X)), (4, .t1 [0])]⟩ : St)
   obtain ⟨z3, ez3⟩ := gZ (mk [(180, .ref 3 []), (181, .ref 2 []), (182, .int k), (190, .eref 0 [] k), (192, .int k)] [])
   obtain ⟨z4, ez4⟩ := gZ (mk [(180, .ref 3 []), (184, .ref 2 [k]), (188, .ref 0 []), (189, .int k), (192, .int k)] [])
   obtain ⟨z5, ez5⟩ := gZ (⟨[(3, .ref 0 []), (4, .int n), (16, .ref 2 []), (17, .int k), (180, .ref 3 []), (183, .eref 2 [] k), (186, .ref 4 []), (188, .ref 0 []), (189, .int k), (192, .int k)], [(0, .t2 (xy_ n n H)), (2, .t2 (S k)), (3, .t1 (0 :: X)), (4, .t1 [0])]⟩ : St)
   obtain ⟨z6, ez6⟩ := gZ (mk [(180, .ref 3 []), (183, .eref 2 [] k), (190, .eref 0 [] k), (192, .int k)] [])
   obtain ⟨z7, ez7⟩ := gZ (⟨[(3, .ref 0 []), (4, .int n), (16, .ref 2 []), (17, .int k), (180, .ref 3 []), (181, .ref 2 []), (182, .int k), (186, .ref 4 []), (190, .eref 0 [] k), (192, .int k)], [(0, .t2 (xy_ n n H)), (2, .t2 (S k)), (3, .t1 (0 :: X)), (4, .t1 [0])]⟩ : St)
   obtain ⟨z8, ez8⟩ := gZ (mk [(180, .ref 3 []), (181, .ref 2 []), (182, .int k), (191, .ref 0 [k]), (192, .int k)] [])
   obtain ⟨z9, ez9⟩ := gZ (⟨[(3, .ref 0 []), (4, .int n), (16, .ref 2 []), (17, .int k), (180, .ref 3 []), (185, .ref 4 []), (188, .ref 0 []), (189, .int k), (192, .int k)], [(0, .t2 (xy_ n n H)), (2, .t2 (S k)), (3, .t1 (0 :: X)), (4, .t1 X)]⟩ : St)
   obtain ⟨z10, ez10⟩ := gZ (⟨[(3, .ref 0 []), (4, .int n), (16, .ref 2 []), (17, .int k), (180, .ref 3 []), (184, .ref 2 [k]), (186, .ref 4 []), (188, .ref 0 []), (189, .int k), (192, .int k)], [(0, .t2 (xy_ n n H)), (2, .t2 (S k)), (3, .t1 (0 :: X)), (4, .t1 [0])]⟩ : St)
   obtain ⟨z11, ez11⟩ := gZ (mk [(180, .ref 3 []), (184, .ref 2 [k]), (190, .eref 0 [] k), (192, .int k)] [])
   obtain ⟨z12, ez12⟩ := gZ (⟨[(3, .ref 0 []), (4, .int n), (16, .ref 2 []), (17, .int k), (180, .ref 3 []), (183, .eref 2 [] k), (186, .ref 4 []), (190, .eref 0 [] k), (192, .int k)], [(0, .t2 (xy_ n n H)), (2, .t2 (S k)), (3, .t1 (0 :: X)), (4, .t1 [0])]⟩ : St)
   obtain ⟨z13, ez13⟩ := gZ (mk [(180, .ref 3 []), (183, .eref 2 [] k), (191, .ref 0 [k]), (192, .int k)] [])
   obtain ⟨z14, ez14⟩ := gZ (⟨[(3, .ref 0 []), (4, .int n), (16, .ref 2 []), (17, .int k), (180, .ref 3 []), (181, .ref 2 []), (182, .int k), (186, .ref 4 []), (191, .ref 0 [k]), (192, .int k)], [(0, .t2 (xy_ n n H)), (2, .t2 (S k)), (3, .t1 (0 :: X)), (4, .t1 [0])]⟩ : St)
   obtain ⟨z15, ez15⟩ := gZ (mk [(180, .ref 3 []), (181, .ref 2 []), (182, .int k), (193, .eref 0 [k] k)] [])
   obtain ⟨z16, ez16⟩ := gZ (⟨[(3, .ref 0 []), (4, .int n), (16, .ref 2 []), (17, .int k), (180, .ref 3 []), (185, .ref 4 []), (186, .ref 5 []), (188, .ref 0 []), (189, .int k), (192, .int k)], [(0, .t2 (xy_ n n H)), (2, .t2 (S k)), (3, .t1 (0 :: X)), (4, .t1 X), (5, .t1 [0])]⟩ : St)
   obtain ⟨z17, ez17⟩ := gZ (⟨[(3, .ref 0 []), (4, .int n), (16, .ref 2 []), (17, .int k), (180, .ref 3 []), (185, .ref 4 []), (190, .eref 0 [] k), (192, .int k)], [(0, .t2 (xy_ n n H)), (2, .t2 (S k)), (3, .t1 (0 :: X)), (4, .t1 X)]⟩ : St)
   obtain ⟨z18, ez18⟩ := gZ (⟨[(3, .ref 0 []), (4, .int n), (16, .ref 2 []), (17, .int k), (180, .ref 3 []), (184, .ref 2 [k]), (186, .ref 4 []), (190, .eref 0 [] k), (192, .int k)], [(0, .t2 (xy_ n n H)), (2, .t2 (S k)), (3, .t1 (0 :: X)), (4, .t1 [0])]⟩ : St)
   obtain ⟨z19, ez19⟩ := gZ (mk [(180, .ref 3 []), (184, .ref 2 [k]), (191, .ref 0 [k]), (192, .int k)] [])
   obtain ⟨z20, ez20⟩ := gZ (⟨[(3, .ref 0 []), (4, .int n), (16, .ref 2 []), (17, .int k), (180, .ref 3 []), (183, .eref 2 [] k), (186, .ref 4 []), (191, .ref 0 [k]), (192, .int k)], [(0, .t2 (xy_ n n H)), (2, .t2 (S k)), (3, .t1 (0 :: X)), (4, .t1 [0])]⟩ : St)
   obtain ⟨z21, ez21⟩ := gZ (mk [(180, .ref 3 []), (183, .eref 2 [] k), (193, .eref 0 [k] k)] [])
   obtain ⟨z22, ez22⟩ := gZ (⟨[(3, .ref 0 []), (4, .int n), (16, .ref 2 []), (17, .int k), (180, .ref 3 []), (181, .ref 2 []), (182, .int k), (186, .ref 4 []), (193, .eref 0 [k] k)], [(0, .t2 (xy_ n n H)), (2, .t2 (S k)), (3, .t1 (0 :: X)), (4, .t1 [0])]⟩ : St)
   obtain ⟨z23, ez23⟩ := gZ (mk [(180, .ref 3 []), (181, .ref 2 []), (182, .int k), (194, .int (H k k))] [])
   obtain ⟨z24, ez24⟩ := gZ (⟨[(3, .ref 0 []), (4, .int n), (16, .ref 2 []), (17, .int k), (180, .ref 3 []), (187, .ref 4 []), (188, .ref 0 []), (189, .int k), (192, .int k)], [(0, .t2 (xy_ n n H)), (2, .t2 (S k)), (3, .t1 (0 :: X)), (4, .t1 (X ++ [0])), (5, .t1 [0])]⟩ : St)
   obtain ⟨z25, ez25⟩ := gZ (⟨[(3, .ref 0 []), (4, .int n), (16, .ref 2 []), (17, .int k), (180, .ref 3 []), (185, .ref 4 []), (186, .ref 5 []), (190, .eref 0 [] k), (192, .int k)], [(0, .t2 (xy_ n n H)), (2, .t2 (S k)), (3, .t1 (0 :: X)), (4, .t1 X), (5, .t1 [0])]⟩ : St)
   obtain ⟨z26, ez26⟩ := gZ (⟨[(3, .ref 0 []), (4, .int n), (16, .ref 2 []), (17, .int k), (180, .ref 3 []), (185, .ref 4 []), (191, .ref 0 [k]), (192, .int k)], [(0, .t2 (xy_ n n H)), (2, .t2 (S k)), (3, .t1 (0 :: X)), (4, .t1 X)]⟩ : St)
   obtain ⟨z27, ez27⟩ := gZ (⟨[(3, .ref 0 []), (4, .int n), (16, .ref 2 []), (17, .int k), (180, .ref 3 []), (184, .ref 2 [k]), (186, .ref 4 []), (191, .ref 0 [k]), (192, .int k)], [(0, .t2 (xy_ n n H)), (2, .t2 (S k)), (3, .t1 (0 :: X)), (4, .t1 [0])]⟩ : St)
   obtain ⟨z28, ez28⟩ := gZ (mk [(180, .ref 3 []), (184, .ref 2 [k]), (193, .eref 0 [k] k)] [])
   obtain ⟨z29, ez29⟩ := gZ (⟨[(3, .ref 0 []), (4, .int n), (16, .ref 2 []), (17, .int k), (180, .ref 3 []), (183, .eref 2 [] k), (186, .ref 4 []), (193, .eref 0 [k] k)], [(0, .t2 (xy_ n n H)), (2, .t2 (S k)), (3, .t1 (0 :: X)), (4, .t1 [0])]⟩ : St)
   obtain ⟨z30, ez30⟩ := gZ (mk [(180, .ref 3 []), (183, .eref 2 [] k), (194, .int (H k k))] [])
   obtain ⟨z31, ez31⟩ := gZ (⟨[(3, .ref 0 []), (4, .int n), (16, .ref 2 []), (17, .int k), (180, .ref 3 []), (181, .ref 2 []), (182, .int k), (186, .ref 4 []), (194, .int (H k k))], [(0, .t2 (xy_ n n H)), (2, .t2 (S k)), (3, .t1 (0 :: X)), (4, .t1 [0])]⟩ : St)
   obtain ⟨z32, ez32⟩ := gZ (mk [(180, .ref 3 []), (181, .ref 2 []), (182, .int k), (195, .int (0 - H k k))] [])
   obtain ⟨z33, ez33⟩ := gZ (⟨[(3, .ref 0 []), (4, .int n), (16, .ref 2 []), (17, .int k), (180, .ref 3 []), (187, .ref 4 []), (190, .eref 0 [] k), (192, .int k)], [(0, .t2 (xy_ n n H)), (2, .t2 (S k)), (3, .t1 (0 :: X)), (4, .t1 (X ++ [0])), (5, .t1 [0])]⟩ : St)
   obtain ⟨z34, ez34⟩ := gZ (⟨[(3, .ref 0 []), (4, .int n), (16, .ref 2 []), (17, .int k), (180, .ref 3 []), (185, .ref 4 []), (186, .ref 5 []), (191, .ref 0 [k]), (192, .int k)], [(0, .t2 (xy_ n n H)), (2, .t2 (S k)), (3, .t1 (0 :: X)), (4, .t1 X), (5, .t1 [0])]⟩ : St)
   obtain ⟨z35, ez35⟩ := gZ (⟨[(3, .ref 0 []), (4, .int n), (16, .ref 2 []), (17, .int k), (180, .ref 3 []), (185, .ref 4 []), (193, .eref 0 [k] k)], [(0, .t2 (xy_ n n H)), (2, .t2 (S k)), (3, .t1 (0 :: X)), (4, .t1 X)]⟩ : St)
   obtain ⟨z36, ez36⟩ := gZ (⟨[(3, .ref 0 []), (4, .int n), (16, .ref 2 []), (17, .int k), (180, .ref 3 []), (184, .ref 2 [k]), (186, .ref 4 []), (193, .eref 0 [k] k)], [(0, .t2 (xy_ n n H)), (2, .t2 (S k)), (3, .t1 (0 :: X)), (4, .t1 [0])]⟩ : St)
   obtain ⟨z37, ez37⟩ := gZ (mk [(180, .ref 3 []), (184, .ref 2 [k]), (194, .int (H k k))] [])
   obtain ⟨z38, ez38⟩ := gZ (⟨[(3, .ref 0 []), (4, .int n), (16, .ref 2 []), (17, .int k), (180, .ref 3 []), (183, .eref 2 [] k), (186, .ref 4 []), (194, .int (H k k))], [(0, .t2 (xy_ n n H)), (2, .t2 (S k)), (3, .t1 (0 :: X)), (4, .t1 [0])]⟩ : St)
   obtain ⟨z39, ez39⟩ := gZ (mk [(180, .ref 3 []), (183, .eref 2 [] k), (195, .int (0 - H k k))] [])
   obtain ⟨z40, ez40⟩ := gZ (⟨[(3, .ref 0 []), (4, .int n), (16, .ref 2 []), (17, .int k), (180, .ref 3 []), (181, .ref 2 []), (182, .int k), (186, .ref 4 []), (195, .int (0 - H k k))], [(0, .t2 (xy_ n n H)), (2, .t2 (S k)), (3, .t1 (0 :: X)), (4, .t1 [0])]⟩ : St)
   obtain ⟨z41, ez41⟩ := gZ (⟨[(3, .ref 0 []), (4, .int n), (16, .ref 2 []), (17, .int k), (180, .ref 3 []), (187, .ref 4 []), (191, .ref 0 [k]), (192, .int k)], [(0, .t2 (xy_ n n H)), (2, .t2 (S k)), (3, .t1 (0 :: X)), (4, .t1 (X ++ [0])), (5, .t1 [0])]⟩ : St)
   obtain ⟨z42, ez42⟩ := gZ (⟨[(3, .ref 0 []), (4, .int n), (16, .ref 2 []), (17, .int k), (180, .ref 3 []), (185, .ref 4 []), (186, .ref 5 []), (193, .eref 0 [k] k)], [(0, .t2 (xy_ n n H)), (2, .t2 (S k)), (3, .t1 (0 :: X)), (4, .t1 X), (5, .t1 [0])]⟩ : St)
   obtain ⟨z43, ez43⟩ := gZ (⟨[(3, .ref 0 []), (4, .int n), (16, .ref 2 []), (17, .int k), (180, .ref 3 []), (185, .ref 4 []), (194, .int (H k k))], [(0, .t2 (xy_ n n H)), (2, .t2 (S k)), (3, .t1 (0 :: X)), (4, .t1 X)]⟩ : St)
   obtain ⟨z44, ez44⟩ := gZ (⟨[(3, .ref 0 []), (4, .int n), (16, .ref 2 []), (17, .int k), (180, .ref 3 []), (184, .ref 2 [k]), (186, .ref 4 []), (194, .int (H k k))], [(0, .t2 (xy_ n n H)), (2, .t2 (S k)), (3, .t1 (0 :: X)), (4, .t1 [0])]⟩ : St)
   obtain ⟨z45, ez45⟩ := gZ (mk [(180, .ref 3 []), (184, .ref 2 [k]), (195, .int (0 - H k k))] [])
   obtain ⟨z46, ez46⟩ := gZ (⟨[(3, .ref 0 []), (4, .int n), (16, .ref 2 []), (17, .int k), (180, .ref 3 []), (183, .eref 2 [] k), (186, .ref 4 []), (195, .int (0 - H k k))], [(0, .t2 (xy_ n n H)), (2, .t2 (S k)), (3, .t1 (0 :: X)), (4, .t1 [0])]⟩ : St)
   obtain ⟨z47, ez47⟩ := gZ (⟨[(3, .ref 0 []), (4, .int n), (16, .ref 2 []), (17, .int k), (180, .ref 3 []), (187, .ref 4 []), (193, .eref 0 [k] k)], [(0, .t2 (xy_ n n H)), (2, .t2 (S k)), (3, .t1 (0 :: X)), (4, .t1 (X ++ [0])), (5, .t1 [0])]⟩ : St)
   obtain ⟨z48, ez48⟩ := gZ (⟨[(3, .ref 0 []), (4, .int n), (16, .ref 2 []), (17, .int k), (180, .ref 3 []), (185, .ref 4 []), (186, .ref 5 []), (194, .int (H k k))], [(0, .t2 (xy_ n n H)), (2, .t2 (S k)), (3, .t1 (0 :: X)), (4, .t1 X), (5, .t1 [0])]⟩ : St)
   obtain ⟨z49, ez49⟩ := gZ (⟨[(3, .ref 0 []), (4, .int n), (16, .ref 2 []), (17, .int k), (180, .ref 3 []), (185, .ref 4 []), (195, .int (0 - H k k))], [(0, .t2 (xy_ n n H)), (2, .t2 (S k)), (3, .t1 (0 :: X)), (4, .t1 X)]⟩ : St)
   obtain ⟨z50, ez50⟩ := gZ (⟨[(3, .ref 0 []), (4, .int n), (16, .ref 2 []), (17, .int k), (180, .ref 3 []), (184, .ref 2 [k]), (186, .ref 4 []), (195, .int (0 - H k k))], [(0, .t2 (xy_ n n H)), (2, .t2 (S k)), (3, .t1 (0 :: X)), (4, .t1 [0])]⟩ : St)
   obtain ⟨z51, ez51⟩ := gZ (⟨[(3, .ref 0 []), (4, .int n), (16, .ref 2 []), (17, .int k), (180, .ref 3 []), (187, .ref 4 []), (194, .int (H k k))], [(0, .t2 (xy_ n n H)), (2, .t2 (S k)), (3, .t1 (0 :: X)), (4, .t1 (X ++ [0])), (5, .t1 [0])]⟩ : St)
   obtain ⟨z52, ez52⟩ := gZ (⟨[(3, .ref 0 []), (4, .int n), (16, .ref 2 []), (17, .int k), (180, .ref 3 []), (185, .ref 4 []), (186, .ref 5 []), (195, .int (0 - H k k))], [(0, .t2 (xy_ n n H)), (2, .t2 (S k)), (3, .t1 (0 :: X)), (4, .t1 X), (5, .t1 [0])]⟩ : St)
   obtain ⟨z53, ez53⟩ := gZ (⟨[(3, .ref 0 []), (4, .int n), (16, .ref 2 []), (17, .int k), (180, .ref 3 []), (187, .ref 4 []), (195, .int (0 - H k k))], [(0, .t2 (xy_ n n H)), (2, .t2 (S k)), (3, .t1 (0 :: X)), (4, .t1 (X ++ [0])), (5, .t1 [0])]⟩ : St)
   obtain ⟨z54, ez54⟩ := gZ (⟨[(3, .ref 0 []), (4, .int n), (16, .ref 2 []), (17, .int k), (180, .ref 3 []), (187, .ref 4 []), (196, .int (-(H k k) % 55441))], [(0, .t2 (xy_ n n H)), (2, .t2 (S k)), (3, .t1 (0 :: X)), (4, .t1 (X ++ [0])), (5, .t1 [0])]⟩ : St)
   obtain ⟨z55, ez55⟩ := gZ (⟨[(3, .ref 0 []), (4, .int n), (16, .ref 2 []), (17, .int k), (197, .ref 6 [])], [(0, .t2 (xy_ n n H)), (2, .t2 (S k)), (3, .t1 (0 :: X)), (4, .t1 (X ++ [0])), (5, .t1 [0]), (6, .t1 (I 0).1)]⟩ : St)
   obtain ⟨z56, ez56⟩ := gZ (⟨[(3, .ref 0 []), (4, .int n), (16, .ref 2 []), (17, .int k), (18, .ref 6 [])], [(0, .t2 (xy_ n n H)), (2, .t2 (S k)), (3, .t1 (0 :: X)), (4, .t1 (X ++ [0])), (5, .t1 [0]), (6, .t1 (I 0).1)]⟩ : St)
   refine zu_ [5, 6, 17, 7] [0, 1, 2, 8, 9, 12] [[0, 1, 2, 8, 9, 12], [0, 1, 2, 3, 8, 9, 12], [0, 1, 2, 6, 8, 9, 12], [0, 1, 2, 8, 9, 10, 12], [0, 1, 2, 3, 4, 8, 9, 12], [0, 1, 2, 3, 6, 8, 9, 12], [0, 1, 2, 3, 8, 9, 10, 12], [0, 1, 2, 6, 8, 9, 10, 12], [0, 1, 2, 8, 9, 10, 11, 12], [0, 1, 2, 3, 4, 5, 8, 9, 12], [0, 1, 2, 3, 4, 6, 8, 9, 12], [0, 1, 2, 3, 4, 8, 9, 10, 12], [0, 1, 2, 3, 6, 8, 9, 10, 12], [0, 1, 2, 3, 8, 9, 10, 11, 12], [0, 1, 2, 6, 8, 9, 10, 11, 12], [0, 1, 2, 8, 9, 10, 11, 12, 13], [0, 1, 2, 3, 4, 5, 6, 8, 9, 12], [0, 1, 2, 3, 4, 5, 8, 9, 10, 12], [0, 1, 2, 3, 4, 6, 8, 9, 10, 12], [0, 1, 2, 3, 4, 8, 9, 10, 11, 12], [0, 1, 2, 3, 6, 8, 9, 10, 11, 12], [0, 1, 2, 3, 8, 9, 10, 11, 12, 13], [0, 1, 2, 6, 8, 9, 10, 11, 12, 13], [0, 1, 2, 8, 9, 10, 11, 12, 13, 14], [0, 1, 2, 3, 4, 5, 6, 7, 8, 9, 12], [0, 1, 2, 3, 4, 5, 6, 8, 9, 10, 12], [0, 1, 2, 3, 4, 5, 8, 9, 10, 11, 12], [0, 1, 2, 3, 4, 6, 8, 9, 10, 11, 12], [0, 1, 2, 3, 4, 8, 9, 10, 11, 12, 13], [0, 1, 2, 3, 6, 8, 9, 10, 11, 12, 13], [0, 1, 2, 3, 8, 9, 10, 11, 12, 13, 14], [0, 1, 2, 6, 8, 9, 10, 11, 12, 13, 14], [0, 1, 2, 8, 9, 10, 11, 12, 13, 14, 15], [0, 1, 2, 3, 4, 5, 6, 7, 8, 9, 10, 12], [0, 1, 2, 3, 4, 5, 6, 8, 9, 10, 11, 12], [0, 1, 2, 3, 4, 5, 8, 9, 10, 11, 12, 13], [0, 1, 2, 3, 4, 6, 8, 9, 10, 11, 12, 13], [0, 1, 2, 3, 4, 8, 9, 10, 11, 12, 13, 14], [0, 1, 2, 3, 6, 8, 9, 10, 11, 12, 13, 14], [0, 1, 2, 3, 8, 9, 10, 11, 12, 13, 14, 15], [0, 1, 2, 6, 8, 9, 10, 11, 12, 13, 14, 15], [0, 1, 2, 3, 4, 5, 6, 7, 8, 9, 10, 11, 12], [0, 1, 2, 3, 4, 5, 6, 8, 9, 10, 11, 12, 13], [0, 1, 2, 3, 4, 5, 8, 9, 10, 11, 12, 13, 14], [0, 1, 2, 3, 4, 6, 8, 9, 10, 11, 12, 13, 14], [0, 1, 2, 3, 4, 8, 9, 10, 11, 12, 13, 14, 15], [0, 1, 2, 3, 6, 8, 9, 10, 11, 12, 13, 14, 15], [0, 1, 2, 3, 4, 5, 6, 7, 8, 9, 10, 11, 12, 13], [0, 1, 2, 3, 4, 5, 6, 8, 9, 10, 11, 12, 13, 14], [0, 1, 2, 3, 4, 5, 8, 9, 10, 11, 12, 13, 14, 15], [0, 1, 2, 3, 4, 6, 8, 9, 10, 11, 12, 13, 14, 15], [0, 1, 2, 3, 4, 5, 6, 7, 8, 9, 10, 11, 12, 13, 14], [0, 1, 2, 3, 4, 5, 6, 8, 9, 10, 11, 12, 13, 14, 15], [0, 1, 2, 3, 4, 5, 6, 7, 8, 9, 10, 11, 12, 13, 14, 15], [0, 1, 2, 3, 4, 5, 6, 7, 8, 9, 10, 11, 12, 13, 14, 15, 16], [0, 1, 2, 3, 4, 5, 6, 7, 8, 9, 10, 11, 12, 13, 14, 15, 16, 17], [0, 1, 2, 3, 4, 5, 6, 7, 8, 9, 10, 11, 12, 13, 14, 15, 16, 17, 18]] [(0, 3, 1), (0, 6, 2), (0, 10, 3), (1, 4, 4), (1, 6, 5), (1, 10, 6), (2, 3, 5), (2, 10, 7), (3, 3, 6), (3, 6, 7), (3, 11, 8), (4, 5, 9), (4, 6, 10), (4, 10, 11), (5, 4, 10), (5, 10, 12), (6, 4, 11), (6, 6, 12), (6, 11, 13), (7, 3, 12), (7, 11, 14), (8, 3, 13), (8, 6, 14), (8, 13, 15), (9, 6, 16), (9, 10, 17), (10, 5, 16), (10, 10, 18), (11, 5, 17), (11, 6, 18), (11, 11, 19), (12, 4, 18), (12, 11, 20), (13, 4, 19), (13, 6, 20), (13, 13, 21), (14, 3, 20), (14, 13, 22), (15, 3, 21), (15, 6, 22), (15, 14, 23), (16, 7, 24), (16, 10, 25), (17, 6, 25), (17, 11, 26), (18, 5, 25), (18, 11, 27), (19, 5, 26), (19, 6, 27), (19, 13, 28), (20, 4, 27), (20, 13, 29), (21, 4, 28), (21, 6, 29), (21, 14, 30), (22, 3, 29), (22, 14, 31), (23, 3, 30), (23, 6, 31), (23, 15, 32), (24, 10, 33), (25, 7, 33), (25, 11, 34), (26, 6, 34), (26, 13, 35), (27, 5, 34), (27, 13, 36), (28, 5, 35), (28, 6, 36), (28, 14, 37), (29, 4, 36), (29, 14, 38), (30, 4, 37), (30, 6, 38), (30, 15, 39), (31, 3, 38), (31, 15, 40), (32, 3, 39), (32, 6, 40), (33, 11, 41), (34, 7, 41), (34, 13, 42), (35, 6, 42), (35, 14, 43), (36, 5, 42), (36, 14, 44), (37, 5, 43), (37, 6, 44), (37, 15, 45), (38, 4, 44), (38, 15, 46), (39, 4, 45), (39, 6, 46), (40, 3, 46), (41, 13, 47), (42, 7, 47), (42, 14, 48), (43, 6, 48), (43, 15, 49), (44, 5, 48), (44, 15, 50), (45, 5, 49), (45, 6, 50), (46, 4, 50), (47, 14, 51), (48, 7, 51), (48, 15, 52), (49, 6, 52), (50, 5, 52), (51, 15, 53), (52, 7, 53), (53, 16, 54), (54, 17, 55), (55, 18, 56)] [z0, z1, z2, z3, z4, z5, z6, z7, z8, z9, z10, z11, z12, z13, z14, z15, z16, z17, z18, z19, z20, z21, z22, z23, z24, z25, z26, z27, z28, z29, z30, z31, z32, z33, z34, z35, z36, z37, z38, z39, z40, z41, z42, z43, z44, z45, z46, z47, z48, z49, z50, z51, z52, z53, z54, z55, z56] hrd (by first | exact xZ_ hcx | exact yQ_ hcx rfl | exact zE_ hcx rfl) mixed (by kernel_rfl) ?_ ?_ ?_
   ·show zz_ _ _ _ _ _ _ (fun s => yp_ _ _ s z0)
    rw [ez0]; simp only [go_sem, seval]; repeat' (first | (refine zA_ ?_ rfl; (focus ((repeat' (first | exact True.intro | refine And.intro rfl ?_)); done))) | with_reducible refine And.intro ?_ ?_ | omega)
   ·refine ⟨dtr ez0 ez1 ?_, dtr ez0 ez2 ?_, dtr ez0 ez3 ?_, dtr ez1 ez4 ?_, dtr ez1 ez5 ?_, dtr ez1 ez6 ?_, dtr ez2 ez5 ?_, dtr ez2 ez7 ?_, dtr ez3 ez6 ?_, dtr ez3 ez7 ?_, dtr ez3 ez8 ?_, dtr ez4 ez9 ?_, dtr ez4 ez10 ?_, dtr ez4 ez11 ?_, dtr ez5 ez10 ?_, dtr ez5 ez12 ?_, dtr ez6 ez11 ?_, dtr ez6 ez12 ?_, dtr ez6 ez13 ?_, dtr ez7 ez12 ?_, dtr ez7 ez14 ?_, dtr ez8 ez13 ?_, dtr ez8 ez14 ?_, dtr ez8 ez15 ?_, dtr ez9 ez16 ?_, dtr ez9 ez17 ?_, dtr ez10 ez16 ?_, dtr ez10 ez18 ?_, dtr ez11 ez17 ?_, dtr ez11 ez18 ?_, dtr ez11 ez19 ?_, dtr ez12 ez18 ?_, dtr ez12 ez20 ?_, dtr ez13 ez19 ?_, dtr ez13 ez20 ?_, dtr ez13 ez21 ?_, dtr ez14 ez20 ?_, dtr ez14 ez22 ?_, dtr ez15 ez21 ?_, dtr ez15 ez22 ?_, dtr ez15 ez23 ?_, dtr ez16 ez24 ?_, dtr ez16 ez25 ?_, dtr ez17 ez25 ?_, dtr ez17 ez26 ?_, dtr ez18 ez25 ?_, dtr ez18 ez27 ?_, dtr ez19 ez26 ?_, dtr ez19 ez27 ?_, dtr ez19 ez28 ?_, dtr ez20 ez27 ?_, dtr ez20 ez29 ?_, dtr ez21 ez28 ?_, dtr ez21 ez29 ?_, dtr ez21 ez30 ?_, dtr ez22 ez29 ?_, dtr ez22 ez31 ?_, dtr ez23 ez30 ?_, dtr ez23 ez31 ?_, dtr ez23 ez32 ?_, dtr ez24 ez33 ?_, dtr ez25 ez33 ?_, dtr ez25 ez34 ?_, dtr ez26 ez34 ?_, dtr ez26 ez35 ?_, dtr ez27 ez34 ?_, dtr ez27 ez36 ?_, dtr ez28 ez35 ?_, dtr ez28 ez36 ?_, dtr ez28 ez37 ?_, dtr ez29 ez36 ?_, dtr ez29 ez38 ?_, dtr ez30 ez37 ?_, dtr ez30 ez38 ?_, dtr ez30 ez39 ?_, dtr ez31 ez38 ?_, dtr ez31 ez40 ?_, dtr ez32 ez39 ?_, dtr ez32 ez40 ?_, dtr ez33 ez41 ?_, dtr ez34 ez41 ?_, dtr ez34 ez42 ?_, dtr ez35 ez42 ?_, dtr ez35 ez43 ?_, dtr ez36 ez42 ?_, dtr ez36 ez44 ?_, dtr ez37 ez43 ?_, dtr ez37 ez44 ?_, dtr ez37 ez45 ?_, dtr ez38 ez44 ?_, dtr ez38 ez46 ?_, dtr ez39 ez45 ?_, dtr ez39 ez46 ?_, dtr ez40 ez46 ?_, dtr ez41 ez47 ?_, dtr ez42 ez47 ?_, dtr ez42 ez48 ?_, dtr ez43 ez48 ?_, dtr ez43 ez49 ?_, dtr ez44 ez48 ?_, dtr ez44 ez50 ?_, dtr ez45 ez49 ?_, dtr ez45 ez50 ?_, dtr ez46 ez50 ?_, dtr ez47 ez51 ?_, dtr ez48 ez51 ?_, dtr ez48 ez52 ?_, dtr ez49 ez52 ?_, dtr ez50 ez52 ?_, dtr ez51 ez53 ?_, dtr ez52 ez53 ?_, dtr ez53 ez54 ?_, dtr ez54 ez55 ?_, dtr ez55 ez56 ?_, trivial⟩
    all_goals simp only [emk, List.cons_append, List.nil_append, List.append_nil, go_sem, seval]
    all_goals repeat' (first | (refine zA_ ?_ rfl; (focus ((repeat' (first | exact True.intro | refine And.intro rfl ?_)); done))) | (refine wS_ [(4, 5)] ?_ ?_; (focus (simp only [go_sem, seval, AV.int.injEq, AV.bool.injEq, AV.l1.injEq, AV.l2.injEq, AV.l3.injEq]; done)); (focus (simp only [go_sem, seval]; done))) | with_reducible refine And.intro ?_ ?_ | omega | (refine xK_ rfl (hOw) rfl ?_; simp only [go_sem, seval]) | ((first | refine xi_ (hMd) rfl ?_ | refine xe_ (xg_ (hMd) rfl) ?_); simp only [go_sem, seval]) | (refine xK_ rfl (hP0) rfl ?_; simp only [go_sem, seval]) | ((simp only [rk, gk])) | ((simp only [eX])))
   show ATs _ _ _ _ _ z56
   rw [ez56]
   clear emk ez0 ez1 ez2 ez3 ez4 ez5 ez6 ez7 ez8 ez9 ez10 ez11 ez12 ez13 ez14 ez15 ez16 ez17 ez18 ez19 ez20 ez21 ez22 ez23 ez24 ez25 ez26 ez27 ez28 ez29 ez30 ez31 ez32 ez33 ez34 ez35 ez36 ez37 ez38 ez39 ez40 ez41 ez42 ez43 ez44 ez45 ez46 ez47 ez48 ez49 ez50 ez51 ez52 ez53 ez54 ez55 ez56
   (repeat refine xa_ ?_); refine AT.ghost (st' := ⟨[(3, .ref 0 []), (4, .int n), (16, .ref 2 []), (17, .int k), (18, .ref 3 [])], [(0, .t2 (xy_ n n H)), (2, .t2 (S k)), (3, .t1 (I 0).1)]⟩) (xS_ [3, 4, 5] [(6, 3)]) ?_
   refine gB ?_
   refine gB ?_
   (repeat refine xa_ ?_); refine gLp (fun t : Nat => ⟨[(3, .ref 0 []), (4, .int n), (16, .ref 2 []), (17, .int k), (18, .ref 3 []), (19, .int (I t).2), (20, .int ((k : Int) - 1 - t))], [(0, .t2 (xy_ n n H)), (2, .t2 (S k)), (3, .t1 (I t).1)]⟩) k fun t ht => ?_
   have hIs1 := hIs t
   have lq := hIl t
   obtain ⟨pq, pp⟩ := hIp t
   obtain ⟨q, eq⟩ : ∃ q, I t = q := ⟨_, rfl⟩
   rw [eq] at hIs1 lq pq pp ⊢
   refine gB ?_
   refine gI (fun hd2 => ?_) fun hd2 => ?_
   ·have htk : t < k := by omega
    obtain ⟨i, ei⟩ : ∃ i, k - 1 - t = i := ⟨_, rfl⟩
    rw [ei] at hIs1
    have eI2 : (k : Int) - 1 - t = (i : Int) := by omega
    have ei1 : (i : Int) + 1 = ((i + 1 : Nat) : Int) := by omega
    obtain ⟨lXi, pXi, _⟩ := hSk i (by omega)
    obtain ⟨Xi, eXi⟩ : ∃ Xi, (S k).getD i [] = Xi := ⟨_, rfl⟩
    have hOw2 := wP_ ((S k).getD i []) (by omega)
    rw [eXi] at lXi pXi hIs1
    have r1 : (xy_ n n H).getD (i + 1) [] = xU_ n (H (i + 1)) := xF_ (by omega)
    have ln1 := xn_ n (H (i + 1))
    have n1g : (xU_ n (H (i + 1))).getD i 0 = H (i + 1) i := xE_ (by omega)
    have r2 : (xy_ n n H).getD i [] = xU_ n (H i) := xF_ (by omega)
    have ln2 := xn_ n (H i)
    have n2g : (xU_ n (H i)).getD k 0 = H i k := xE_ hk2
    obtain ⟨a0, a1⟩ := Wv_ pp (hH (i + 1) (by omega) i (by omega))
    obtain ⟨A1, eA1⟩ : ∃ A1, q.2 * H (i + 1) i = A1 := ⟨_, rfl⟩
    rw [eA1] at a0 a1 hIs1
    have eT1 : A1.tmod 55441 = A1 % 55441 := tmP a0
    have pw1 := x7_ A1
    obtain ⟨W, eW⟩ : ∃ W, A1 % 55441 = W := ⟨_, rfl⟩
    rw [eW] at eT1 pw1 hIs1
    obtain ⟨b0, b1⟩ := Wv_ pw1 (hH i (by omega) k hk2)
    obtain ⟨A2, eA2⟩ : ∃ A2, W * H i k = A2 := ⟨_, rfl⟩
    rw [eA2] at b0 b1 hIs1
    have eT2 : A2.tmod 55441 = A2 % 55441 := tmP b0
    have pz2 := x7_ A2
    obtain ⟨Z, eZ⟩ : ∃ Z, A2 % 55441 = Z := ⟨_, rfl⟩
    rw [eZ] at eT2 pz2 hIs1
    obtain ⟨z0, z1⟩ := pz2
    obtain ⟨w0, w1⟩ := pw1
    have hMd2 := X9_ (0 - Z) (by omega) (by omega)
    rw [show (0 - Z) % 55441 = -Z % 55441 by rw [Int.zero_sub]] at hMd2
    have en : (((k + 2 : Nat) : Int) - ((i + 1 : Nat) : Int)).toNat = k + 2 - (i + 1) := by omega
    rw [lq, lXi] at hIs1
    obtain ⟨LL, eLL⟩ : ∃ LL, Xi ++ List.replicate (k + 2 - (i + 1)) 0 = LL := ⟨_, rfl⟩
    have lLL : LL.length = k + 2 := by rw [← eLL, List.length_append, List.length_replicate, lXi]; omega
    have pLL : ∀ c, c < k + 2 → InP (LL.getD c 0) := fun c hc => by
     rw [← eLL]
     by_cases e : c < Xi.length
     ·rw [List.getD_eq_getElem?_getD, List.getElem?_append_left e, ← List.getD_eq_getElem?_getD]
      exact pXi c (by omega)
     ·rw [List.getD_eq_getElem?_getD, List.getElem?_append_right (by omega), List.getElem?_replicate, if_pos (by omega)]
      exact ⟨Int.le_refl 0, (by omega : (0 : Int) ≤ 55440)⟩
    rw [eLL] at hIs1
    have hPl2 := Sq_ q.1 LL (k + 2) (by omega) lq lLL pq pLL (-Z % 55441) (x7_ _)
    have xi : i < (S k).length := by omega
    have lXr : ((S k).getD i []).length = i + 1 := by rw [eXi]; exact lXi
    refine xb_ ?_
    refine gO ?_
    (repeat refine xa_ ?_); refine xr_ (by first | exact xZ_ hcx | exact yQ_ hcx rfl) fun K hK => ?_; simp only [go_sem, seval, eI2, ei1, lH, r1, ln1, n1g, eA1, eT1]
    refine gU ?_
    refine hK _ ?_; clear hK K
    (repeat refine xa_ ?_); refine AT.ghost (st' := ⟨[(3, .ref 0 []), (4, .int n), (16, .ref 2 []), (17, .int k), (18, .ref 3 []), (19, .int W), (20, .int i)], [(0, .t2 (xy_ n n H)), (2, .t2 (S k)), (3, .t1 q.1)]⟩) (xS_ [] []) ?_
    (repeat refine xa_ ?_)
    obtain ⟨mk, emk⟩ : ∃ mk : List (Nat × AV) → List (Nat × Tree) → St, mk = fun s h => ⟨[(3, .ref 0 []), (4, .int n), (16, .ref 2 []), (17, .int k), (18, .ref 3 []), (19, .int W), (20, .int i)] ++ s, h ++ [(0, .t2 (xy_ n n H)), (2, .t2 (S k)), (3, .t1 q.1)]⟩ := ⟨_, rfl⟩
    obtain ⟨z0, ez0⟩ := gZ (⟨[(3, .ref 0 []), (4, .int n), (16, .ref 2 []), (17, .int k), (18, .ref 3 []), (19, .int W), (20, .int i), (215, .ref 2 []), (216, .int i), (220, .ref 3 []), (222, .ref 2 []), (223, .int i)], [(0, .t2 (xy_ n n H)), (2, .t2 (S k)), (3, .t1 q.1)]⟩ : St)
    obtain ⟨z1, ez1⟩ := gZ (mk [(217, .eref 2 [] i), (220, .ref 3 []), (222, .ref 2 []), (223, .int i)] [])
    obtain ⟨z2, ez2⟩ := gZ (mk [(215, .ref 2 []), (216, .int i), (221, .int ((k + 2 : Nat) : Int)), (222, .ref 2 []), (223, .int i)] [])
    obtain ⟨z3, ez3⟩ := gZ (mk [(215, .ref 2 []), (216, .int i), (220, .ref 3 []), (224, .eref 2 [] i)] [])
    obtain ⟨z4, ez4⟩ := gZ (mk [(218, .ref 2 [i]), (220, .ref 3 []), (222, .ref 2 []), (223, .int i)] [])
    obtain ⟨z5, ez5⟩ := gZ (mk [(217, .eref 2 [] i), (221, .int ((k + 2 : Nat) : Int)), (222, .ref 2 []), (223, .int i)] [])
    obtain ⟨z6, ez6⟩ := gZ (mk [(217, .eref 2 [] i), (220, .ref 3 []), (224, .eref 2 [] i)] [])
    obtain ⟨z7, ez7⟩ := gZ (mk [(215, .ref 2 []), (216, .int i), (221, .int ((k + 2 : Nat) : Int)), (224, .eref 2 [] i)] [])
    obtain ⟨z8, ez8⟩ := gZ (mk [(215, .ref 2 []), (216, .int i), (220, .ref 3 []), (225, .ref 2 [i])] [])
    obtain ⟨z9, ez9⟩ := gZ (⟨[(3, .ref 0 []), (4, .int n), (16, .ref 2 []), (17, .int k), (18, .ref 3 []), (19, .int W), (20, .int i), (219, .ref 4 []), (220, .ref 3 []), (222, .ref 2 []), (223, .int i)], [(0, .t2 (xy_ n n H)), (2, .t2 (S k)), (3, .t1 q.1), (4, .t1 Xi)]⟩ : St)
    obtain ⟨z10, ez10⟩ := gZ (mk [(218, .ref 2 [i]), (221, .int ((k + 2 : Nat) : Int)), (222, .ref 2 []), (223, .int i)] [])
    obtain ⟨z11, ez11⟩ := gZ (mk [(218, .ref 2 [i]), (220, .ref 3 []), (224, .eref 2 [] i)] [])
    obtain ⟨z12, ez12⟩ := gZ (mk [(217, .eref 2 [] i), (221, .int ((k + 2 : Nat) : Int)), (224, .eref 2 [] i)] [])
    obtain ⟨z13, ez13⟩ := gZ (mk [(217, .eref 2 [] i), (220, .ref 3 []), (225, .ref 2 [i])] [])
    obtain ⟨z14, ez14⟩ := gZ (mk [(215, .ref 2 []), (216, .int i), (221, .int ((k + 2 : Nat) : Int)), (225, .ref 2 [i])] [])
    obtain ⟨z15, ez15⟩ := gZ (mk [(215, .ref 2 []), (216, .int i), (220, .ref 3 []), (226, .int ((i + 1 : Nat) : Int))] [])
    obtain ⟨z16, ez16⟩ := gZ (⟨[(3, .ref 0 []), (4, .int n), (16, .ref 2 []), (17, .int k), (18, .ref 3 []), (19, .int W), (20, .int i), (219, .ref 4 []), (221, .int ((k + 2 : Nat) : Int)), (222, .ref 2 []), (223, .int i)], [(0, .t2 (xy_ n n H)), (2, .t2 (S k)), (3, .t1 q.1), (4, .t1 Xi)]⟩ : St)
    obtain ⟨z17, ez17⟩ := gZ (⟨[(3, .ref 0 []), (4, .int n), (16, .ref 2 []), (17, .int k), (18, .ref 3 []), (19, .int W), (20, .int i), (219, .ref 4 []), (220, .ref 3 []), (224, .eref 2 [] i)], [(0, .t2 (xy_ n n H)), (2, .t2 (S k)), (3, .t1 q.1), (4, .t1 Xi)]⟩ : St)
    obtain ⟨z18, ez18⟩ := gZ (mk [(218, .ref 2 [i]), (221, .int ((k + 2 : Nat) : Int)), (224, .eref 2 [] i)] [])
    obtain ⟨z19, ez19⟩ := gZ (mk [(218, .ref 2 [i]), (220, .ref 3 []), (225, .ref 2 [i])] [])
    obtain ⟨z20, ez20⟩ := gZ (mk [(217, .eref 2 [] i), (221, .int ((k + 2 : Nat) : Int)), (225, .ref 2 [i])] [])
    obtain ⟨z21, ez21⟩ := gZ (mk [(217, .eref 2 [] i), (220, .ref 3 []), (226, .int ((i + 1 : Nat) : Int))] [])
    obtain ⟨z22, ez22⟩ := gZ (mk [(215, .ref 2 []), (216, .int i), (221, .int ((k + 2 : Nat) : Int)), (226, .int ((i + 1 : Nat) : Int))] [])
    obtain ⟨z23, ez23⟩ := gZ (⟨[(3, .ref 0 []), (4, .int n), (16, .ref 2 []), (17, .int k), (18, .ref 3 []), (19, .int W), (20, .int i), (219, .ref 4 []), (221, .int ((k + 2 : Nat) : Int)), (224, .eref 2 [] i)], [(0, .t2 (xy_ n n H)), (2, .t2 (S k)), (3, .t1 q.1), (4, .t1 Xi)]⟩ : St)
    obtain ⟨z24, ez24⟩ := gZ (⟨[(3, .ref 0 []), (4, .int n), (16, .ref 2 []), (17, .int k), (18, .ref 3 []), (19, .int W), (20, .int i), (219, .ref 4 []), (220, .ref 3 []), (225, .ref 2 [i])], [(0, .t2 (xy_ n n H)), (2, .t2 (S k)), (3, .t1 q.1), (4, .t1 Xi)]⟩ : St)
    obtain ⟨z25, ez25⟩ := gZ (mk [(218, .ref 2 [i]), (221, .int ((k + 2 : Nat) : Int)), (225, .ref 2 [i])] [])
    obtain ⟨z26, ez26⟩ := gZ (mk [(218, .ref 2 [i]), (220, .ref 3 []), (226, .int ((i + 1 : Nat) : Int))] [])
    obtain ⟨z27, ez27⟩ := gZ (mk [(217, .eref 2 [] i), (221, .int ((k + 2 : Nat) : Int)), (226, .int ((i + 1 : Nat) : Int))] [])
    obtain ⟨z28, ez28⟩ := gZ (mk [(215, .ref 2 []), (216, .int i), (227, .int (((k + 2 : Nat) : Int) - ((i + 1 : Nat) : Int)))] [])
    obtain ⟨z29, ez29⟩ := gZ (⟨[(3, .ref 0 []), (4, .int n), (16, .ref 2 []), (17, .int k), (18, .ref 3 []), (19, .int W), (20, .int i), (219, .ref 4 []), (221, .int ((k + 2 : Nat) : Int)), (225, .ref 2 [i])], [(0, .t2 (xy_ n n H)), (2, .t2 (S k)), (3, .t1 q.1), (4, .t1 Xi)]⟩ : St)
    obtain ⟨z30, ez30⟩ := gZ (⟨[(3, .ref 0 []), (4, .int n), (16, .ref 2 []), (17, .int k), (18, .ref 3 []), (19, .int W), (20, .int i), (219, .ref 4 []), (220, .ref 3 []), (226, .int ((i + 1 : Nat) : Int))], [(0, .t2 (xy_ n n H)), (2, .t2 (S k)), (3, .t1 q.1), (4, .t1 Xi)]⟩ : St)
    obtain ⟨z31, ez31⟩ := gZ (mk [(218, .ref 2 [i]), (221, .int ((k + 2 : Nat) : Int)), (226, .int ((i + 1 : Nat) : Int))] [])
    obtain ⟨z32, ez32⟩ := gZ (mk [(217, .eref 2 [] i), (227, .int (((k + 2 : Nat) : Int) - ((i + 1 : Nat) : Int)))] [])
    obtain ⟨z33, ez33⟩ := gZ (⟨[(3, .ref 0 []), (4, .int n), (16, .ref 2 []), (17, .int k), (18, .ref 3 []), (19, .int W), (20, .int i), (219, .ref 4 []), (221, .int ((k + 2 : Nat) : Int)), (226, .int ((i + 1 : Nat) : Int))], [(0, .t2 (xy_ n n H)), (2, .t2 (S k)), (3, .t1 q.1), (4, .t1 Xi)]⟩ : St)
    obtain ⟨z34, ez34⟩ := gZ (mk [(218, .ref 2 [i]), (227, .int (((k + 2 : Nat) : Int) - ((i + 1 : Nat) : Int)))] [])
    obtain ⟨z35, ez35⟩ := gZ (⟨[(3, .ref 0 []), (4, .int n), (16, .ref 2 []), (17, .int k), (18, .ref 3 []), (19, .int W), (20, .int i), (219, .ref 4 []), (227, .int (((k + 2 : Nat) : Int) - ((i + 1 : Nat) : Int)))], [(0, .t2 (xy_ n n H)), (2, .t2 (S k)), (3, .t1 q.1), (4, .t1 Xi)]⟩ : St)
    obtain ⟨z36, ez36⟩ := gZ (⟨[(3, .ref 0 []), (4, .int n), (16, .ref 2 []), (17, .int k), (18, .ref 3 []), (19, .int W), (20, .int i), (228, .ref 4 [])], [(0, .t2 (xy_ n n H)), (2, .t2 (S k)), (3, .t1 q.1), (4, .t1 LL)]⟩ : St)
    obtain ⟨z37, ez37⟩ := gZ (⟨[(3, .ref 0 []), (4, .int n), (16, .ref 2 []), (17, .int k), (18, .ref 3 []), (19, .int W), (20, .int i), (21, .ref 4 [])], [(0, .t2 (xy_ n n H)), (2, .t2 (S k)), (3, .t1 q.1), (4, .t1 LL)]⟩ : St)
    refine zu_ [4, 13] [0, 1, 5, 7, 8] [[0, 1, 5, 7, 8], [0, 1, 2, 5, 7, 8], [0, 1, 5, 6, 7, 8], [0, 1, 5, 7, 8, 9], [0, 1, 2, 3, 5, 7, 8], [0, 1, 2, 5, 6, 7, 8], [0, 1, 2, 5, 7, 8, 9], [0, 1, 5, 6, 7, 8, 9], [0, 1, 5, 7, 8, 9, 10], [0, 1, 2, 3, 4, 5, 7, 8], [0, 1, 2, 3, 5, 6, 7, 8], [0, 1, 2, 3, 5, 7, 8, 9], [0, 1, 2, 5, 6, 7, 8, 9], [0, 1, 2, 5, 7, 8, 9, 10], [0, 1, 5, 6, 7, 8, 9, 10], [0, 1, 5, 7, 8, 9, 10, 11], [0, 1, 2, 3, 4, 5, 6, 7, 8], [0, 1, 2, 3, 4, 5, 7, 8, 9], [0, 1, 2, 3, 5, 6, 7, 8, 9], [0, 1, 2, 3, 5, 7, 8, 9, 10], [0, 1, 2, 5, 6, 7, 8, 9, 10], [0, 1, 2, 5, 7, 8, 9, 10, 11], [0, 1, 5, 6, 7, 8, 9, 10, 11], [0, 1, 2, 3, 4, 5, 6, 7, 8, 9], [0, 1, 2, 3, 4, 5, 7, 8, 9, 10], [0, 1, 2, 3, 5, 6, 7, 8, 9, 10], [0, 1, 2, 3, 5, 7, 8, 9, 10, 11], [0, 1, 2, 5, 6, 7, 8, 9, 10, 11], [0, 1, 5, 6, 7, 8, 9, 10, 11, 12], [0, 1, 2, 3, 4, 5, 6, 7, 8, 9, 10], [0, 1, 2, 3, 4, 5, 7, 8, 9, 10, 11], [0, 1, 2, 3, 5, 6, 7, 8, 9, 10, 11], [0, 1, 2, 5, 6, 7, 8, 9, 10, 11, 12], [0, 1, 2, 3, 4, 5, 6, 7, 8, 9, 10, 11], [0, 1, 2, 3, 5, 6, 7, 8, 9, 10, 11, 12], [0, 1, 2, 3, 4, 5, 6, 7, 8, 9, 10, 11, 12], [0, 1, 2, 3, 4, 5, 6, 7, 8, 9, 10, 11, 12, 13], [0, 1, 2, 3, 4, 5, 6, 7, 8, 9, 10, 11, 12, 13, 14]] [(0, 2, 1), (0, 6, 2), (0, 9, 3), (1, 3, 4), (1, 6, 5), (1, 9, 6), (2, 2, 5), (2, 9, 7), (3, 2, 6), (3, 6, 7), (3, 10, 8), (4, 4, 9), (4, 6, 10), (4, 9, 11), (5, 3, 10), (5, 9, 12), (6, 3, 11), (6, 6, 12), (6, 10, 13), (7, 2, 12), (7, 10, 14), (8, 2, 13), (8, 6, 14), (8, 11, 15), (9, 6, 16), (9, 9, 17), (10, 4, 16), (10, 9, 18), (11, 4, 17), (11, 6, 18), (11, 10, 19), (12, 3, 18), (12, 10, 20), (13, 3, 19), (13, 6, 20), (13, 11, 21), (14, 2, 20), (14, 11, 22), (15, 2, 21), (15, 6, 22), (16, 9, 23), (17, 6, 23), (17, 10, 24), (18, 4, 23), (18, 10, 25), (19, 4, 24), (19, 6, 25), (19, 11, 26), (20, 3, 25), (20, 11, 27), (21, 3, 26), (21, 6, 27), (22, 2, 27), (22, 12, 28), (23, 10, 29), (24, 6, 29), (24, 11, 30), (25, 4, 29), (25, 11, 31), (26, 4, 30), (26, 6, 31), (27, 3, 31), (27, 12, 32), (28, 2, 32), (29, 11, 33), (30, 6, 33), (31, 4, 33), (31, 12, 34), (32, 3, 34), (33, 12, 35), (34, 4, 35), (35, 13, 36), (36, 14, 37)] [z0, z1, z2, z3, z4, z5, z6, z7, z8, z9, z10, z11, z12, z13, z14, z15, z16, z17, z18, z19, z20, z21, z22, z23, z24, z25, z26, z27, z28, z29, z30, z31, z32, z33, z34, z35, z36, z37] hrd (by first | exact xZ_ hcx | exact yQ_ hcx rfl | exact zE_ hcx rfl) mixed (by kernel_rfl) ?_ ?_ ?_
    ·show zz_ _ _ _ _ _ _ (fun s => yp_ _ _ s z0)
     rw [ez0]; simp only [go_sem, seval]; repeat' (first | (refine zA_ ?_ rfl; (focus ((repeat' (first | exact True.intro | refine And.intro rfl ?_)); done))) | with_reducible refine And.intro ?_ ?_ | omega)
    ·refine ⟨dtr ez0 ez1 ?_, dtr ez0 ez2 ?_, dtr ez0 ez3 ?_, dtr ez1 ez4 ?_, dtr ez1 ez5 ?_, dtr ez1 ez6 ?_, dtr ez2 ez5 ?_, dtr ez2 ez7 ?_, dtr ez3 ez6 ?_, dtr ez3 ez7 ?_, dtr ez3 ez8 ?_, dtr ez4 ez9 ?_, dtr ez4 ez10 ?_, dtr ez4 ez11 ?_, dtr ez5 ez10 ?_, dtr ez5 ez12 ?_, dtr ez6 ez11 ?_, dtr ez6 ez12 ?_, dtr ez6 ez13 ?_, dtr ez7 ez12 ?_, dtr ez7 ez14 ?_, dtr ez8 ez13 ?_, dtr ez8 ez14 ?_, dtr ez8 ez15 ?_, dtr ez9 ez16 ?_, dtr ez9 ez17 ?_, dtr ez10 ez16 ?_, dtr ez10 ez18 ?_, dtr ez11 ez17 ?_, dtr ez11 ez18 ?_, dtr ez11 ez19 ?_, dtr ez12 ez18 ?_, dtr ez12 ez20 ?_, dtr ez13 ez19 ?_, dtr ez13 ez20 ?_, dtr ez13 ez21 ?_, dtr ez14 ez20 ?_, dtr ez14 ez22 ?_, dtr ez15 ez21 ?_, dtr ez15 ez22 ?_, dtr ez16 ez23 ?_, dtr ez17 ez23 ?_, dtr ez17 ez24 ?_, dtr ez18 ez23 ?_, dtr ez18 ez25 ?_, dtr ez19 ez24 ?_, dtr ez19 ez25 ?_, dtr ez19 ez26 ?_, dtr ez20 ez25 ?_, dtr ez20 ez27 ?_, dtr ez21 ez26 ?_, dtr ez21 ez27 ?_, dtr ez22 ez27 ?_, dtr ez22 ez28 ?_, dtr ez23 ez29 ?_, dtr ez24 ez29 ?_, dtr ez24 ez30 ?_, dtr ez25 ez29 ?_, dtr ez25 ez31 ?_, dtr ez26 ez30 ?_, dtr ez26 ez31 ?_, dtr ez27 ez31 ?_, dtr ez27 ez32 ?_, dtr ez28 ez32 ?_, dtr ez29 ez33 ?_, dtr ez30 ez33 ?_, dtr ez31 ez33 ?_, dtr ez31 ez34 ?_, dtr ez32 ez34 ?_, dtr ez33 ez35 ?_, dtr ez34 ez35 ?_, dtr ez35 ez36 ?_, dtr ez36 ez37 ?_, trivial⟩
     all_goals simp only [emk, List.cons_append, List.nil_append, List.append_nil, go_sem, seval]
     all_goals repeat' (first | (refine zA_ ?_ rfl; (focus ((repeat' (first | exact True.intro | refine And.intro rfl ?_)); done))) | with_reducible refine And.intro ?_ ?_ | omega | (refine xK_ rfl (hOw2) rfl ?_; simp only [go_sem, seval]) | ((simp only [eXi])) | ((simp only [lq])) | ((simp only [lXr])) | ((simp only [en, lXi, eLL])))
    show ATs _ _ _ _ _ z37
    rw [ez37]
    clear emk ez0 ez1 ez2 ez3 ez4 ez5 ez6 ez7 ez8 ez9 ez10 ez11 ez12 ez13 ez14 ez15 ez16 ez17 ez18 ez19 ez20 ez21 ez22 ez23 ez24 ez25 ez26 ez27 ez28 ez29 ez30 ez31 ez32 ez33 ez34 ez35 ez36 ez37
    (repeat refine xa_ ?_); refine xr_ (by first | exact xZ_ hcx | exact yQ_ hcx rfl) fun K hK => ?_; simp only [go_sem, seval, lH, r2, ln2, n2g, eA2, eT2]
    refine gU ?_
    first | refine xi_ (hMd2) rfl ?_ | refine xe_ (xg_ (hMd2) rfl) ?_
    refine gV ?_
    refine xK_ rfl (hPl2) rfl ?_; simp only [go_sem, seval]
    refine hK _ ?_; clear hK K
    (repeat refine xa_ ?_); refine AT.ghost (st' := ⟨[(3, .ref 0 []), (4, .int n), (16, .ref 2 []), (17, .int k), (18, .ref 3 []), (19, .int W), (20, .int i)], [(0, .t2 (xy_ n n H)), (2, .t2 (S k)), (3, .t1 (plL q.1 LL (-Z % 55441)))]⟩) (xS_ [3, 4] [(5, 3)]) ?_
    refine gB ?_
    refine ⟨t + 1,  by omega, by omega, .inl ⟨by simp only [leS, Nat.reduceEqDiff, ↓reduceIte, true_and, and_true]; exact ⟨by rw [hIs1], by omega⟩,  by rw [hIs1]⟩⟩
   ·obtain rfl : t = k := by omega
    rw [← eq]
    refine xf_ (ye_ ?_)
    refine gB ?_
    refine gB ?_
    refine ⟨t + 1,  by omega, by omega, .inl ⟨gH,  by rw [hSs1]⟩⟩
  ·obtain rfl : k = n := by omega
   have xk : k < (S k).length := by omega
   refine xf_ (ye_ ?_)
   refine gB ?_
   exact xd_ (TT_ rfl ⟨rfl, trivial⟩ rfl)
end Go.Proofs.Ytlngnhbochmcoaa
namespace Go.Proofs.Ytlngnhbochmcoaa
open Go Go.Aw Go.Pl
theorem QU_ {n : Nat} {a : List (List Int)} : (chL n a).length = n + 1 ∧ ∀ j, j < n + 1 → InP ((chL n a).getD j 0) := by
 obtain ⟨_, h⟩ := aa2 (hsN n (e2 a) (n - 2)) n
 obtain ⟨h1, h2, _⟩ := h n (Nat.le_refl _)
 exact ⟨h1, fun j hj => h2 j (by omega)⟩
set_option maxRecDepth 100000 in
set_option maxHeartbeats 8000000 in
theorem Ub_ (n : Nat) (n1 : 1 ≤ n) (h16 : n ≤ 16) (a : List (List Int)) (ha : MatP n a) : FreshCall Try.prog 18 [.l2 a] (.l1 (rtL (chL n a) 55441)) := by
 have hC := Rn_ n n1 h16 a ha
 obtain ⟨lP, pP⟩ := QU_ (n := n) (a := a)
 obtain ⟨P, eP⟩ : ∃ P, chL n a = P := ⟨_, rfl⟩
 rw [eP] at hC lP pP ⊢
 clear eP
 refine gFC 38 [.tmp 2] Try.call18 Try.func18 fun cx hcx => gE ?_
 refine gB ?_
 refine gC fun K hK => ?_
 first | refine xi_ (hC) rfl ?_ | refine xe_ (xg_ (hC) rfl) ?_
 refine gV ?_
 refine hK _ ?_; clear hK K
 refine gB ?_
 (repeat refine xa_ ?_); refine gLp (fun z : Nat => ⟨[(3, .l1 P), (4, .ref 0 []), (5, .int z)], [(0, .t1 (rtL P z))]⟩) 55441 fun z hz => ?_
 have lr := YE_ P z
 by_cases hz : z < 55441
 ·have g1 : ((z : Int) < 55441) = True := eq_true (by omega)
  have hv : hvT P z (n + 1) = hvL P z := by rw [← lP]; exact aa3 P z
  have hb := Wl_ P (z : Int)
  obtain ⟨V, eV⟩ : ∃ V : Nat → Int, V = hvT P (z : Int) := ⟨_, rfl⟩
  have hs : ∀ t, V (t + 1) = (V t * z + P.getD (n - t) 0) % 55441 := fun t => by rw [eV, hvT, lP, Nat.add_sub_cancel]
  have h0 : V 0 = 0 := by rw [eV]; rfl
  rw [← eV] at hv hb
  clear eV
  (repeat refine xa_ ?_); refine xr_ (xZ_ hcx) fun K hK => ?_; simp only [go_sem, seval, g1, decide_true]
  refine gU ?_
  refine hK _ ?_; clear hK K
  refine gR ?_
  refine xb_ ?_
  refine gO ?_
  refine gB ?_
  (repeat refine xa_ ?_); refine xr_ (xZ_ hcx) fun K hK => ?_; simp only [go_sem, seval, lP]
  refine gU ?_
  refine hK _ ?_; clear hK K
  (repeat refine xa_ ?_); refine xo_ (fun t : Nat => ⟨[(3, .l1 P), (4, .ref 0 []), (5, .int z), (6, .int (V t)), (7, .int ((n : Int) - t))], [(0, .t1 (rtL P z))]⟩) (fun t => t ≤ (n + 1)) (fun t => (n + 1) - t) 0 (Nat.zero_le _) (by refine And.intro ?_ rfl; simp only [leS, Nat.reduceEqDiff, ↓reduceIte, true_and, and_true]; repeat' (first | rfl | with_reducible refine And.intro ?_ ?_ | omega)) (fun t ht => ?_)
  refine gB ?_
  refine gI (fun h3 => ?_) fun h3 => ?_
  ·have ht2 : t < n + 1 := by omega
   have st := hs t
   obtain ⟨m0, m1⟩ := Wv_ (hb t) ⟨(by omega : (0 : Int) ≤ (z : Int)), (by omega : (z : Int) ≤ 55440)⟩
   obtain ⟨p0, p1⟩ := pP (n - t) (by omega)
   have en : (n : Int) - t = ((n - t : Nat) : Int) := by omega
   obtain ⟨X, eX⟩ : ∃ X, V t * (z : Int) = X := ⟨_, rfl⟩
   obtain ⟨Y, eY⟩ : ∃ Y, P.getD (n - t) 0 = Y := ⟨_, rfl⟩
   rw [eX, eY] at st
   rw [eX] at m0 m1
   rw [eY] at p0 p1
   have eT : (X + Y).tmod 55441 = V (t + 1) := by rw [st]; exact tmP (by omega)
   obtain ⟨b0, b1⟩ := hb (t + 1)
   refine xb_ ?_
   refine gO ?_
   (repeat refine xa_ ?_); refine xr_ (xZ_ hcx) fun K hK => ?_; simp only [go_sem, seval, en, eX, eY, eT]
   refine gU ?_
   refine hK _ ?_; clear hK K
   refine gB ?_
   refine ⟨t + 1,  by omega, by omega, .inl ⟨by simp only [leS, Nat.reduceEqDiff, ↓reduceIte, true_and, and_true]; (first | omega | exact ⟨trivial, by omega⟩ | exact ⟨rfl, by omega⟩),  rfl⟩⟩
  ·obtain rfl : t = n + 1 := by omega
   rw [hv]
   refine xf_ (ye_ ?_)
   refine gB ?_
   by_cases c : hvL P (z : Int) = 0
   ·have sy := aa4 c
    refine gI (fun h4 => ?_) fun h4 => ?_
    ·refine gC fun K hK => ?_
     refine gU ?_
     refine hK _ ?_; clear hK K
     refine gB ?_
     refine ⟨z + 1, by omega, by omega, .inr ⟨[1], gK0, aJ8 ?_⟩⟩; rw [sy]
    ·exact absurd c h4
   ·have sn := aa5 c
    refine gI (fun h4 => ?_) fun h4 => ?_
    ·exact absurd h4 c
    ·refine xb_ ?_
     refine gB ?_
     refine ⟨z + 1,  by omega, by omega, .inl ⟨gH,  by rw [sn]⟩⟩
 ·have hze : z = 55441 := by omega
  have g1 : ((z : Int) < 55441) = False := eq_false (by omega)
  (repeat refine xa_ ?_); refine xr_ (xZ_ hcx) fun K hK => ?_; simp only [go_sem, seval, g1, decide_false]
  refine gU ?_
  refine hK _ ?_; clear hK K
  refine gQ ?_
  rw [hze]
  refine xf_ (ye_ ?_)
  refine gB ?_
  exact xd_ (Xl_ (is := [0]) rfl ⟨rfl, trivial⟩ rfl (by simp))
end Go.Proofs.Ytlngnhbochmcoaa
