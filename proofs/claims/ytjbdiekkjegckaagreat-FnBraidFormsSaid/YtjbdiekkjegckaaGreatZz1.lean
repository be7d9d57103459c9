import Derived.Test.YtjbdiekkjegckaaGreatHy2
import Derived.Test.YtjbdiekkjegckaaGreatPm2
set_option linter.unusedSimpArgs false
set_option linter.unusedVariables false
namespace Go.Proofs.YtjbdiekkjegckaaGreat
open Go Go.Aw Go.Pl
def grB (o : List Int) : Bool := decide (o.length ≤ 4) && !(o.any fun n => !(decide (2 ≤ n) && decide (n ≤ 16)))
def dvB (m : Int) : Bool := decide (55440 % m = 0)
theorem aw0 {o : List Int} (hp : PosO o) (h : (o.any fun n => !(decide (2 ≤ n) && decide (n ≤ 16))) = false) : 2 ≤ xA_ o := by
 have h0 := hp.1
 have e := (w1_ 0).1 h 0 h0
 have := zH_ hp h0
 generalize o.getD 0 0 = z at *
 simp at e
 omega
theorem Zd_ (m : Int) (h1 : 1 ≤ m) (h2 : m ≤ 1000) : PureCall Tryz.prog 27 [.int m] (.bool (dvB m)) := by
 have e : (55440 : Int).tmod m = 55440 % m := Int.tmod_eq_emod_of_nonneg (by omega)
 have b1 := Int.emod_nonneg 55440 (show m ≠ 0 by omega)
 have b2 := Int.emod_lt_of_pos 55440 (show 0 < m by omega)
 unfold dvB
 generalize (55440 : Int) % m = d at *
 refine gPC 10 [.tmp 2] Tryz.call27 Tryz.func27 fun cx hcx => gE ?_
 refine gB ?_
 (repeat refine xb_ ?_); refine xx_ (xO_ hcx) fun K hK => ?_; simp only [go_sem, seval, e]
 refine And.intro (fun _ => ⟨by omega, by omega, by omega⟩) ?_
 refine hK _ ?_; clear hK K
 refine xf_ (yu_ rfl ?_)
 rw [decide_eq_true (show (1 : Int) ≤ m by omega), Bool.true_and]
theorem ak2 (m : Int) (h1 : 1 ≤ m) (h2 : m ≤ 1000) : PureCall Tryz.prog 31 [.int m] (.bool (dvB m)) := by
 have e : (55440 : Int).tmod m = 55440 % m := Int.tmod_eq_emod_of_nonneg (by omega)
 have b1 := Int.emod_nonneg 55440 (show m ≠ 0 by omega)
 have b2 := Int.emod_lt_of_pos 55440 (show 0 < m by omega)
 unfold dvB
 generalize (55440 : Int) % m = d at *
 refine gPC 10 [.tmp 2] Tryz.call31 Tryz.func31 fun cx hcx => gE ?_
 refine gB ?_
 (repeat refine xb_ ?_); refine xx_ (xO_ hcx) fun K hK => ?_; simp only [go_sem, seval, e]
 refine And.intro (fun _ => ⟨by omega, by omega, by omega⟩) ?_
 refine hK _ ?_; clear hK K
 refine xf_ (yu_ rfl ?_)
 rw [decide_eq_true (show (1 : Int) ≤ m by omega), Bool.true_and]
theorem Ze_ (o : List Int) (hp : PosO o) (h8 : xA_ o ≤ 8) (hl : o.length ≤ 1048576) : PureCall Tryz.prog 26 [.l1 o] (.bool (grB o)) := by
 have hA := zA_ o 2 16
 have hG := yv_ o
 have p1 := yk_ hp
 have eg : gsz o = xA_ o := by
  unfold gsz
  rw [if_pos (xS_ hp)]
  unfold yG_
  rw [if_pos (by omega)]
 rw [eg] at hG
 have hW := yf_ (xA_ o) 2 16
 unfold grB
 have h2 := aw0 hp
 generalize (o.any fun n => !(decide (2 ≤ n) && decide (n ≤ 16))) = b at *
 by_cases h4 : o.length ≤ 4
 ·have f4 : ((o.length : Int) ≤ 4) = True := eq_true (by omega)
  cases b with
  | true =>
   refine gPC 15 [.tmp 2] Tryz.call26 Tryz.func26 fun cx hcx => gE ?_
   refine gB ?_
   (repeat refine xb_ ?_); refine xx_ (xO_ hcx) fun K hK => ?_; simp only [go_sem, seval, f4, decide_true]
   first | refine xd_ (fun _ => xa_ (hA) rfl) ?_ | refine xd_ (xa_ (hA) rfl) ?_
   refine gV ?_
   (try simp only [go_sem, seval, f4, decide_true])
   refine xd_ (v := .int 0) (by first | trivial | (intro h; cases h)) ?_
   refine gV ?_
   refine xd_ (v := .bool false) (by first | trivial | (intro h; cases h)) ?_
   refine gV ?_
   refine hK _ ?_; clear hK K
   refine xf_ (yu_ rfl ?_)
   simp
  | false =>
   have q := h2 rfl
   rw [decide_eq_true q, decide_eq_true (show xA_ o ≤ 16 by omega)] at hW
   refine gPC 15 [.tmp 2] Tryz.call26 Tryz.func26 fun cx hcx => gE ?_
   refine gB ?_
   (repeat refine xb_ ?_); refine xx_ (xO_ hcx) fun K hK => ?_; simp only [go_sem, seval, f4, decide_true]
   first | refine xd_ (fun _ => xa_ (hA) rfl) ?_ | refine xd_ (xa_ (hA) rfl) ?_
   refine gV ?_
   (try simp only [go_sem, seval, f4, decide_true])
   first | refine xd_ (fun _ => xa_ (hG) rfl) ?_ | refine xd_ (xa_ (hG) rfl) ?_
   refine gV ?_
   (try simp only [go_sem, seval])
   first | refine xd_ (fun _ => xa_ (hW) rfl) ?_ | refine xd_ (xa_ (hW) rfl) ?_
   refine gV ?_
   (try simp only [go_sem, seval])
   refine hK _ ?_; clear hK K
   refine xf_ (yu_ rfl ?_)
   simp [h4]
 ·have f4 : ((o.length : Int) ≤ 4) = False := eq_false (by omega)
  refine gPC 15 [.tmp 2] Tryz.call26 Tryz.func26 fun cx hcx => gE ?_
  refine gB ?_
  (repeat refine xb_ ?_); refine xx_ (xO_ hcx) fun K hK => ?_; simp only [go_sem, seval, f4, decide_false]
  refine xd_ (v := .bool false) (by first | trivial | (intro h; cases h)) ?_
  refine gV ?_
  refine xd_ (v := .int 0) (by first | trivial | (intro h; cases h)) ?_
  refine gV ?_
  refine xd_ (v := .bool false) (by first | trivial | (intro h; cases h)) ?_
  refine gV ?_
  refine hK _ ?_; clear hK K
  refine xf_ (yu_ rfl ?_)
  simp [h4]
theorem TG_ {o : List Int} (hp : PosO o) {i : Nat} (hi : i ≤ o.length) : 1 ≤ frP o i ∧ frP o i ≤ xA_ o := by
 have h := Wx_ (o := o) (j := o.length) hp.2 i hi
 rw [wp_] at h
 exact h
theorem VO_ (o : List Int) (hp : PosO o) (h8 : xA_ o ≤ 8) : PureCall Tryz.prog 65 [.l1 o, .int 16] (.bool (grB o)) := by
 have h0 := hp.1
 by_cases h4 : o.length ≤ 4
 ·cases hb : (o.any fun n => !(decide (2 ≤ n) && decide (n ≤ 16))) with
  | true =>
   obtain ⟨j, hj, hjb, hmin⟩ : ∃ j, j < o.length ∧ (decide (2 ≤ o.getD j 0) && decide (o.getD j 0 ≤ 16)) = false ∧ ∀ i, i < j → (decide (2 ≤ o.getD i 0) && decide (o.getD i 0 ≤ 16)) = true := by
    have hex : ∃ j, j < o.length ∧ (decide (2 ≤ o.getD j 0) && decide (o.getD j 0 ≤ 16)) = false := by
     refine Classical.byContradiction fun hno => ?_
     have : (o.any fun n => !(decide (2 ≤ n) && decide (n ≤ 16))) = false := (w1_ 0).2 fun i hi => by
      cases hd : (decide (2 ≤ o.getD i 0) && decide (o.getD i 0 ≤ 16)) with
      | true => rfl
      | false => exact absurd ⟨i, hi, hd⟩ hno
     rw [hb] at this
     cases this
    obtain ⟨j, hj, hm⟩ := aD7 (p := fun j => j < o.length ∧ (decide (2 ≤ o.getD j 0) && decide (o.getD j 0 ≤ 16)) = false) _ hex.choose_spec
    refine ⟨j, hj.1, hj.2, fun i hi => ?_⟩
    cases hd : (decide (2 ≤ o.getD i 0) && decide (o.getD i 0 ≤ 16)) with
    | true => rfl
    | false => exact absurd (hm i ⟨by omega, hd⟩) (by omega)
   have er : (AV.bool (grB o)) = .bool false := by unfold grB; rw [hb]; simp
   rw [er]
   refine gPC 36 [.tmp 4] Tryz.call65 Tryz.func65 fun cx hcx => gE ?_
   refine gB ?_
   refine gB ?_
   refine gI (fun hc1 => ?_) fun hc1 => ?_
   ·simp at hc1; omega
   ·refine xe_ ?_
    refine gB ?_
    refine gB ?_
    (repeat refine xb_ ?_); refine gLp (fun i : Nat => ⟨[(0, .l1 o), (1, .int 16), (5, .int (frP o i)), (6, .int i)], []⟩) j fun i hi => ?_
    refine gB ?_
    refine gI (fun hc3 => ?_) fun hc3 => ?_
    ·have hI := z3_ (o.getD i 0) 2 16
     by_cases e : i = j
     ·subst e
      rw [hjb] at hI
      refine xe_ ?_
      refine gO ?_
      refine gC fun K hK => ?_
      refine gU ?_
      first | refine xc_ (hI) rfl ?_ | refine xd_ (xa_ (hI) rfl) ?_
      refine gV ?_
      refine hK _ ?_; clear hK K
      refine gR ?_
      refine gB ?_
      refine xf_ (yu_ rfl ?_)
      rfl
     ·have hi2 := hmin i (by omega)
      rw [hi2] at hI
      have fb := TG_ hp (show i ≤ o.length by omega)
      have fb2 := TG_ hp (show i + 1 ≤ o.length by omega)
      have fe : frP o i * o.getD i 0 = frP o (i + 1) := rfl
      refine xe_ ?_
      refine gO ?_
      refine gC fun K hK => ?_
      refine gU ?_
      first | refine xc_ (hI) rfl ?_ | refine xd_ (xa_ (hI) rfl) ?_
      refine gV ?_
      refine hK _ ?_; clear hK K
      refine gQ ?_
      refine xe_ ?_
      (repeat refine xb_ ?_); refine xx_ (xO_ hcx) fun K hK => ?_; simp only [go_sem, seval, fe]
      refine gU ?_
      refine hK _ ?_; clear hK K
      refine gB ?_
      refine ⟨i + 1,  by omega, by omega, .inl ⟨gH,  rfl⟩⟩
    ·omega
  | false =>
   have er : (AV.bool (grB o)) = .bool true := by unfold grB; rw [hb]; simp [h4]
   rw [er]
   refine gPC 36 [.tmp 4] Tryz.call65 Tryz.func65 fun cx hcx => gE ?_
   refine gB ?_
   refine gB ?_
   refine gI (fun hc1 => ?_) fun hc1 => ?_
   ·simp at hc1; omega
   ·refine xe_ ?_
    refine gB ?_
    refine gB ?_
    (repeat refine xb_ ?_); refine gLp (fun i : Nat => ⟨[(0, .l1 o), (1, .int 16), (5, .int (frP o i)), (6, .int i)], []⟩) o.length fun i hi => ?_
    refine gB ?_
    refine gI (fun hc3 => ?_) fun hc3 => ?_
    ·have hI := z3_ (o.getD i 0) 2 16
     have hi2 := (w1_ 0).1 hb i (by omega)
     have hi3 : (decide (2 ≤ o.getD i 0) && decide (o.getD i 0 ≤ 16)) = true := by
      cases hd : (decide (2 ≤ o.getD i 0) && decide (o.getD i 0 ≤ 16)) with
      | true => rfl
      | false => rw [hd] at hi2; cases hi2
     rw [hi3] at hI
     have fb := TG_ hp (show i ≤ o.length by omega)
     have fb2 := TG_ hp (show i + 1 ≤ o.length by omega)
     have fe : frP o i * o.getD i 0 = frP o (i + 1) := rfl
     refine xe_ ?_
     refine gO ?_
     refine gC fun K hK => ?_
     refine gU ?_
     first | refine xc_ (hI) rfl ?_ | refine xd_ (xa_ (hI) rfl) ?_
     refine gV ?_
     refine hK _ ?_; clear hK K
     refine gQ ?_
     refine xe_ ?_
     (repeat refine xb_ ?_); refine xx_ (xO_ hcx) fun K hK => ?_; simp only [go_sem, seval, fe]
     refine gU ?_
     refine hK _ ?_; clear hK K
     refine gB ?_
     refine ⟨i + 1,  by omega, by omega, .inl ⟨gH,  rfl⟩⟩
    ·obtain rfl : i = o.length := by omega
     have ef := wp_ o
     refine xh_ (x9_ ?_)
     refine gB ?_
     refine xf_ (yu_ rfl ?_)
     rw [ef]
     exact (decide_eq_true (by omega))
 ·have er : (AV.bool (grB o)) = .bool false := by unfold grB; simp [h4]
  rw [er]
  refine gPC 36 [.tmp 4] Tryz.call65 Tryz.func65 fun cx hcx => gE ?_
  refine gB ?_
  refine gB ?_
  refine gI (fun hc1 => ?_) fun hc1 => ?_
  ·refine gB ?_
   refine xf_ (yu_ rfl ?_)
   rfl
  ·simp at hc1; omega
theorem VP_ (o : List Int) (hp : PosO o) (h8 : xA_ o ≤ 8) : PureCall Tryz.prog 30 [.l1 o] (.bool (grB o)) := by
 have h := VO_ o hp h8
 generalize grB o = b at *
 refine gPC 5 [.tmp 2] Tryz.call30 Tryz.func30 fun cx hcx => gE ?_
 refine gB ?_
 refine gC fun K hK => ?_
 first | refine xc_ (h) rfl ?_ | refine xd_ (xa_ (h) rfl) ?_
 refine gV ?_
 refine hK _ ?_; clear hK K
 refine xf_ (yu_ rfl ?_)
 rfl
end Go.Proofs.YtjbdiekkjegckaaGreat
namespace Go.Proofs.YtjbdiekkjegckaaGreat
open Go Go.Aw Go.Pl
attribute [local go_sem] y9_ yB_ za_ zb_ wE_ yq_ List.getElem?_toArray List.getElem?_cons_zero List.getElem?_cons_succ
def Wc_ (n : Nat) (c : List (List Int)) : List Int := zo_ n fun x => e2 c x x
noncomputable def fmC (o : List Int) (m : Int) (w : List (List (List Int))) (c : List (List Int)) : Int := if Zl_ o m w c = true then (if grB o = true ∧ dvB m = true then 0 else 5) else 1
noncomputable def fmA (o : List Int) (m : Int) (w : List (List (List Int))) (c : List (List Int)) : AV :=
 if fmC o m w c = 0 then .tup [.agg [.l1 o, .int m, .l1 (Wc_ w.length c)], .int 0] else .tup [.agg [.l1 [], .int 0, .l1 []], .int (fmC o m w c)]
theorem Wv_ {o : List Int} {m : Int} {w : List (List (List Int))} {c : List (List Int)} {k : Int} (h : fmC o m w c = k) (hk : k ≠ 0) : AvLe (.tup [.agg [.nil, .int 0, .nil], .int k]) (fmA o m w c) := by
 unfold fmA
 rw [h, if_neg hk]
 exact Vx_ (zN_ (af0 (zN_ Ya_ (zN_ (ae9 (.int 0)) (zN_ Ya_ (Yb_ _))))) (Yb_ _))
theorem W0_ {o : List Int} {m : Int} {w : List (List (List Int))} {c : List (List Int)} (h : fmC o m w c = 0) : fmA o m w c = .tup [.agg [.l1 o, .int m, .l1 (Wc_ w.length c)], .int 0] := if_pos h
set_option maxRecDepth 100000 in
set_option maxHeartbeats 8000000 in
theorem RX_ (o : List Int) (m : Int) (w : List (List (List Int))) (c : List (List Int)) (hl : o.length ≤ 1048576) : PureCall Tryz.prog 7 [.agg [.l1 o, .int m, .l3 w, .l2 c]] (fmA o m w c) := by
 have hI := TI_ o m w c
 cases hb : Zl_ o m w c with
 | false =>
  rw [hb] at hI
  have hk : fmC o m w c = 1 := by unfold fmC; rw [hb, if_neg (by decide)]
  refine Vy_ ?_ (Wv_ hk (by decide))
  refine gPC 52 [.cell 2 33, .tmp 3] Tryz.call7 Tryz.func7 fun cx hcx => gE ?_
  refine gB ?_
  refine gC fun K hK => ?_
  first | refine xc_ (hI) rfl ?_ | refine xd_ (xa_ (hI) rfl) ?_
  refine gV ?_
  refine hK _ ?_; clear hK K
  refine gR ?_
  refine gB ?_
  exact xf_ (Ur_ (v := .agg [.nil, .int 0, .nil]) (by simp only [go_sem, seval]) trivial rfl)
 | true =>
  rw [hb] at hI
  have hB := isBr_iff.1 hb
  obtain ⟨p1, p2, m1, m2, p5, p6⟩ := hB.coc.1
  have hG := VP_ o p1 p2
  have hD := ak2 m m1 m2
  cases hg : grB o with
  | false =>
   rw [hg] at hG
   have hk : fmC o m w c = 5 := by unfold fmC; rw [hb, if_pos rfl, hg, if_neg (fun h => by cases h.1)]
   refine Vy_ ?_ (Wv_ hk (by decide))
   refine gPC 52 [.cell 2 33, .tmp 3] Tryz.call7 Tryz.func7 fun cx hcx => gE ?_
   refine gB ?_
   refine gC fun K hK => ?_
   first | refine xc_ (hI) rfl ?_ | refine xd_ (xa_ (hI) rfl) ?_
   refine gV ?_
   refine hK _ ?_; clear hK K
   refine gQ ?_
   refine xe_ ?_
   refine gC fun K hK => ?_
   first | refine xc_ (hG) rfl ?_ | refine xd_ (xa_ (hG) rfl) ?_
   refine gV ?_
   refine xd_ (v := .bool false) (by first | trivial | (intro h; cases h)) ?_
   refine gV ?_
   refine hK _ ?_; clear hK K
   refine gR ?_
   refine gB ?_
   exact xf_ (Ur_ (v := .agg [.nil, .int 0, .nil]) (by simp only [go_sem, seval]) trivial rfl)
  | true =>
   rw [hg] at hG
   cases hd : dvB m with
   | false =>
    rw [hd] at hD
    have hk : fmC o m w c = 5 := by unfold fmC; rw [hb, if_pos rfl, hg, hd, if_neg (by decide)]
    refine Vy_ ?_ (Wv_ hk (by decide))
    refine gPC 52 [.cell 2 33, .tmp 3] Tryz.call7 Tryz.func7 fun cx hcx => gE ?_
    refine gB ?_
    refine gC fun K hK => ?_
    first | refine xc_ (hI) rfl ?_ | refine xd_ (xa_ (hI) rfl) ?_
    refine gV ?_
    refine hK _ ?_; clear hK K
    refine gQ ?_
    refine xe_ ?_
    refine gC fun K hK => ?_
    first | refine xc_ (hG) rfl ?_ | refine xd_ (xa_ (hG) rfl) ?_
    refine gV ?_
    first | refine xc_ (hD) rfl ?_ | refine xd_ (xa_ (hD) rfl) ?_
    refine gV ?_
    refine hK _ ?_; clear hK K
    refine gR ?_
    refine gB ?_
    exact xf_ (Ur_ (v := .agg [.nil, .int 0, .nil]) (by simp only [go_sem, seval]) trivial rfl)
   | true =>
    rw [hd] at hD
    have hk : fmC o m w c = 0 := by unfold fmC; rw [hb, if_pos rfl, hg, hd, if_pos ⟨rfl, rfl⟩]
    rw [W0_ hk]
    have hO := Zh_ o (by omega)
    have hc := hB.num.1
    obtain ⟨n, en⟩ : ∃ n, w.length = n := ⟨_, rfl⟩
    rw [en] at hc p5 ⊢
    have lc := hc.1
    have n1 : 1 ≤ n := by have := yk_ p1; omega
    have n8 : n ≤ 8 := by omega
    obtain ⟨f, ef⟩ : ∃ f : Nat → Int, f = fun x => e2 c x x := ⟨_, rfl⟩
    have ev : ∀ i, (c.getD i []).getD i 0 = f i := fun i => by rw [ef]
    have er : Wc_ n c = zo_ n f := by unfold Wc_; rw [ef]
    rw [er]
    refine gPC 52 [.cell 2 33, .tmp 3] Tryz.call7 Tryz.func7 fun cx hcx => gE ?_
    refine gB ?_
    refine gC fun K hK => ?_
    first | refine xc_ (hI) rfl ?_ | refine xd_ (xa_ (hI) rfl) ?_
    refine gV ?_
    refine hK _ ?_; clear hK K
    refine gQ ?_
    refine xe_ ?_
    refine gC fun K hK => ?_
    first | refine xc_ (hG) rfl ?_ | refine xd_ (xa_ (hG) rfl) ?_
    refine gV ?_
    first | refine xc_ (hD) rfl ?_ | refine xd_ (xa_ (hD) rfl) ?_
    refine gV ?_
    refine hK _ ?_; clear hK K
    refine gQ ?_
    refine xe_ ?_
    (repeat refine xb_ ?_)
    refine wh_ [3] (.one 0 (.one 1 (.one 2 (.alt 3 (.one 4 (.one 5 (.one 6 (.one 7 (.alt 8 (.alt 9 .fin .stop) .stop))))) (.alt 4 (.alt 3 (.one 5 (.one 6 (.one 7 (.alt 8 (.alt 9 .fin .stop) .stop)))) (.alt 5 (.alt 3 (.one 6 (.one 7 (.alt 8 (.alt 9 .fin .stop) .stop))) (.alt 6 (.alt 3 (.one 7 (.alt 8 (.alt 9 .fin .stop) .stop)) (.alt 8 (.alt 3 (.one 7 (.alt 9 .fin .stop)) .stop) .stop)) (.alt 8 (.alt 3 (.one 6 (.one 7 (.alt 9 .fin .stop))) (.alt 6 (.alt 3 (.one 7 (.alt 9 .fin .stop)) .stop) .stop)) .stop))) (.alt 8 (.alt 3 (.one 5 (.one 6 (.one 7 (.alt 9 .fin .stop)))) (.alt 5 (.alt 3 (.one 6 (.one 7 (.alt 9 .fin .stop))) (.alt 6 (.alt 3 (.one 7 (.alt 9 .fin .stop)) .stop) .stop)) .stop)) .stop))) (.alt 8 (.alt 3 (.one 4 (.one 5 (.one 6 (.one 7 (.alt 9 .fin .stop))))) (.alt 4 (.alt 3 (.one 5 (.one 6 (.one 7 (.alt 9 .fin .stop)))) (.alt 5 (.alt 3 (.one 6 (.one 7 (.alt 9 .fin .stop))) (.alt 6 (.alt 3 (.one 7 (.alt 9 .fin .stop)) .stop) .stop)) .stop)) .stop)) .stop)))))) ⟨[(1, .bptr 0 0), (2, .bptr 1 0), (4, .bptr 3 0)], [(0, .bx [.l1 o, .int m, .l3 w, .l2 c]), (1, .bx [.nil, .int 0, .nil]), (2, .t1 o), (3, .bx [.ref 2 [], .int m, .nil])]⟩ (xO_ hcx) mixed (by kernel_rfl) (fun K hK => ?_) ?_
    ·simp only [go_sem, seval, Option.getD_some, and_true, true_and, and_self, List.contains_cons, List.contains_nil, Bool.or_false, Bool.or_true]
     repeat' (first | (refine hK _ (xr_ [] ?_ ?_); (focus (simp only [YO_, rnL, rn, rns, sw, xs_, St.get, xg_, List.map_cons, List.map_nil, seval, AV.int.injEq, AV.bool.injEq, AV.l1.injEq, AV.l2.injEq, AV.l3.injEq, true_and, and_true]; done)); (focus (simp only [zf_, YY_, YP_, rnH, rnT, rn, rns, sw, List.map_cons, List.map_nil, seval]; done))) | (refine hK _ (xr_ [(2, 3)] ?_ ?_); (focus (simp only [YO_, rnL, rn, rns, sw, xs_, St.get, xg_, List.map_cons, List.map_nil, seval, AV.int.injEq, AV.bool.injEq, AV.l1.injEq, AV.l2.injEq, AV.l3.injEq, true_and, and_true]; done)); (focus (simp only [zf_, YY_, YP_, rnH, rnT, rn, rns, sw, List.map_cons, List.map_nil, seval]; done))) | with_reducible refine And.intro ?_ ?_ | omega | (refine xq_ rfl (hO) rfl ?_; simp only [go_sem, seval, Option.getD_some, and_true, true_and, and_self, List.contains_cons, List.contains_nil, Bool.or_false, Bool.or_true]))
    refine gB ?_
    (repeat refine xb_ ?_)
    refine xt_ (fun q : Option Nat => match q with
     | none => ⟨[(1, .bptr 0 0), (2, .bptr 1 0), (4, .bptr 3 0), (5, .int 0)], [(0, .bx [.l1 o, .int m, .l3 w, .l2 c]), (1, .bx [.nil, .int 0, .nil]), (2, .t1 o), (3, .bx [.ref 2 [], .int m, .nil])]⟩
     | some i => ⟨[(1, .bptr 0 0), (2, .bptr 1 0), (4, .bptr 3 0), (5, .int i)], [(0, .bx [.l1 o, .int m, .l3 w, .l2 c]), (1, .bx [.nil, .int 0, .nil]), (2, .t1 o), (3, .bx [.ref 2 [], .int m, .ref 5 []]), (5, .t1 (zo_ i f))]⟩) (fun q => match q with
     | none => True
     | some i => 1 ≤ i ∧ i ≤ n) (fun q => match q with
     | none => n + 1
     | some i => n - i) none trivial ⟨by simp only [xs_, St.get, xg_, Nat.reduceEqDiff, ↓reduceIte, true_and, and_true], rfl⟩ (fun q hq => ?_)
    cases q with
    | none =>
     dsimp only at hq ⊢
     (repeat refine xb_ ?_); refine xx_ (by first | exact xO_ hcx | exact wJ_ hcx rfl) fun K hK => ?_; simp only [go_sem, seval, lc]
     refine gU ?_
     refine hK _ ?_; clear hK K
     refine gI (fun hli => ?_) fun hli => ?_
     ·have ri := hc.row (show 0 < n by omega)
      have v0 := ev 0
      refine xe_ ?_
      refine gO ?_
      skip
      (repeat refine xb_ ?_)
      refine xZ_ [] (.one 0 (.one 1 (.one 2 (.one 3 (.one 4 (.one 5 (.one 6 (.one 7 (.one 8 (.one 9 (.alt 10 (.alt 11 (.one 12 (.alt 13 .fin .stop)) .stop) .stop))))))))))) ⟨[(1, .bptr 0 0), (2, .bptr 1 0), (4, .bptr 3 0), (5, .int 0)], [(0, .bx [.l1 o, .int m, .l3 w, .l2 c]), (1, .bx [.nil, .int 0, .nil]), (2, .t1 o), (3, .bx [.ref 2 [], .int m, .ref 5 []]), (4, .t1 [(c.getD 0 []).getD 0 0]), (5, .t1 [(c.getD 0 []).getD 0 0])]⟩ (xO_ hcx) mixed (by kernel_rfl) (fun K hK => ?_) ?_
      ·simp only [go_sem, seval, Option.getD_some, and_true, true_and, and_self, List.contains_cons, List.contains_nil, Bool.or_false, Bool.or_true]
       repeat' (first | exact hK _ gM  | with_reducible refine And.intro ?_ ?_ | omega)
      rw [v0]
      (repeat refine xb_ ?_); refine AT.ghost (st' := ⟨[(1, .bptr 0 0), (2, .bptr 1 0), (4, .bptr 3 0), (5, .int 0)], [(0, .bx [.l1 o, .int m, .l3 w, .l2 c]), (1, .bx [.nil, .int 0, .nil]), (2, .t1 o), (3, .bx [.ref 2 [], .int m, .ref 5 []]), (5, .t1 [f 0])]⟩) (xm_ [4] []) ?_
      refine gB ?_
      refine ⟨some 1, ⟨by omega, by omega⟩, (show n - 1 < n + 1 by omega), .inl ⟨?_, ?_⟩⟩
      ·simp only [xs_, St.get, xg_, Nat.reduceEqDiff, ↓reduceIte, AV.int.injEq, true_and, and_true]
       try omega
      ·rfl
     ·omega
    | some i =>
     dsimp only at hq ⊢
     (repeat refine xb_ ?_); refine xx_ (by first | exact xO_ hcx | exact wJ_ hcx rfl) fun K hK => ?_; simp only [go_sem, seval, lc]
     refine gU ?_
     refine hK _ ?_; clear hK K
     refine gI (fun hli => ?_) fun hli => ?_
     ·have hi : i < n := by omega
      have ri := hc.row hi
      have v0 := ev i
      have lr := xT_ i f
      refine xe_ ?_
      refine gO ?_
      skip
      (repeat refine xb_ ?_)
      refine xZ_ [] (.one 0 (.one 1 (.one 2 (.one 3 (.one 4 (.one 5 (.one 6 (.one 7 (.one 8 (.one 9 (.alt 10 (.alt 11 (.one 12 (.alt 13 .fin .stop)) .stop) .stop))))))))))) ⟨[(1, .bptr 0 0), (2, .bptr 1 0), (4, .bptr 3 0), (5, .int i)], [(0, .bx [.l1 o, .int m, .l3 w, .l2 c]), (1, .bx [.nil, .int 0, .nil]), (2, .t1 o), (3, .bx [.ref 2 [], .int m, .ref 5 []]), (5, .t1 (zo_ i f ++ [(c.getD i []).getD i 0])), (6, .t1 [(c.getD i []).getD i 0])]⟩ (xO_ hcx) mixed (by kernel_rfl) (fun K hK => ?_) ?_
      ·simp only [go_sem, seval, Option.getD_some, and_true, true_and, and_self, List.contains_cons, List.contains_nil, Bool.or_false, Bool.or_true]
       repeat' (first | exact hK _ gM  | with_reducible refine And.intro ?_ ?_ | omega)
      rw [v0, ← yR_]
      (repeat refine xb_ ?_); refine AT.ghost (st' := ⟨[(1, .bptr 0 0), (2, .bptr 1 0), (4, .bptr 3 0), (5, .int i)], [(0, .bx [.l1 o, .int m, .l3 w, .l2 c]), (1, .bx [.nil, .int 0, .nil]), (2, .t1 o), (3, .bx [.ref 2 [], .int m, .ref 5 []]), (5, .t1 (zo_ (i + 1) f))]⟩) (xm_ [6] []) ?_
      refine gB ?_
      refine ⟨some (i + 1), ⟨by omega, by omega⟩, (show n - (i + 1) < n - i by omega), .inl ⟨?_, ?_⟩⟩
      ·simp only [xs_, St.get, xg_, Nat.reduceEqDiff, ↓reduceIte, AV.int.injEq, true_and, and_true]
       try omega
      ·rfl
     ·obtain rfl : i = n := by omega
      refine xh_ (x9_ ?_)
      refine gB ?_
      exact xf_ (Ur_ (v := .agg [.ref 2 [], .int m, .ref 5 []]) (by simp only [go_sem, seval]) trivial rfl)
set_option maxRecDepth 100000 in
set_option maxHeartbeats 8000000 in
theorem Zf_ (o : List Int) (m : Int) (w : List (List (List Int))) (c : List (List Int)) (hl : o.length ≤ 1048576) : FreshCall Tryz.prog 6 [.agg [.l1 o, .int m, .l3 w, .l2 c]] (fmA o m w c) := by
 have hI := y3_ o m w c
 cases hb : Zl_ o m w c with
 | false =>
  rw [hb] at hI
  have hk : fmC o m w c = 1 := by unfold fmC; rw [hb, if_neg (by decide)]
  refine Y9_ ?_ (Wv_ hk (by decide))
  refine gFC 51 [.cell 2 33, .tmp 3] Tryz.call6 Tryz.func6 fun cx hcx => gE ?_
  refine gB ?_
  refine gC fun K hK => ?_
  first | refine xc_ (hI) rfl ?_ | refine xd_ (xa_ (hI) rfl) ?_
  refine gV ?_
  refine hK _ ?_; clear hK K
  refine gR ?_
  refine gB ?_
  exact xf_ (Wj_ (v := .agg [.nil, .int 0, .nil]) (by simp only [go_sem, seval]) trivial rfl (by simp))
 | true =>
  rw [hb] at hI
  have hB := isBr_iff.1 hb
  obtain ⟨p1, p2, m1, m2, p5, p6⟩ := hB.coc.1
  have hG := Ze_ o p1 p2 hl
  have hD := Zd_ m m1 m2
  cases hg : grB o with
  | false =>
   rw [hg] at hG
   have hk : fmC o m w c = 5 := by unfold fmC; rw [hb, if_pos rfl, hg, if_neg (fun h => by cases h.1)]
   refine Y9_ ?_ (Wv_ hk (by decide))
   refine gFC 51 [.cell 2 33, .tmp 3] Tryz.call6 Tryz.func6 fun cx hcx => gE ?_
   refine gB ?_
   refine gC fun K hK => ?_
   first | refine xc_ (hI) rfl ?_ | refine xd_ (xa_ (hI) rfl) ?_
   refine gV ?_
   refine hK _ ?_; clear hK K
   refine gQ ?_
   refine xe_ ?_
   refine gC fun K hK => ?_
   first | refine xc_ (hG) rfl ?_ | refine xd_ (xa_ (hG) rfl) ?_
   refine gV ?_
   refine xd_ (v := .bool false) (by first | trivial | (intro h; cases h)) ?_
   refine gV ?_
   refine hK _ ?_; clear hK K
   refine gR ?_
   refine gB ?_
   exact xf_ (Wj_ (v := .agg [.nil, .int 0, .nil]) (by simp only [go_sem, seval]) trivial rfl (by simp))
  | true =>
   rw [hg] at hG
   cases hd : dvB m with
   | false =>
    rw [hd] at hD
    have hk : fmC o m w c = 5 := by unfold fmC; rw [hb, if_pos rfl, hg, hd, if_neg (by decide)]
    refine Y9_ ?_ (Wv_ hk (by decide))
    refine gFC 51 [.cell 2 33, .tmp 3] Tryz.call6 Tryz.func6 fun cx hcx => gE ?_
    refine gB ?_
    refine gC fun K hK => ?_
    first | refine xc_ (hI) rfl ?_ | refine xd_ (xa_ (hI) rfl) ?_
    refine gV ?_
    refine hK _ ?_; clear hK K
    refine gQ ?_
    refine xe_ ?_
    refine gC fun K hK => ?_
    first | refine xc_ (hG) rfl ?_ | refine xd_ (xa_ (hG) rfl) ?_
    refine gV ?_
    first | refine xc_ (hD) rfl ?_ | refine xd_ (xa_ (hD) rfl) ?_
    refine gV ?_
    refine hK _ ?_; clear hK K
    refine gR ?_
    refine gB ?_
    exact xf_ (Wj_ (v := .agg [.nil, .int 0, .nil]) (by simp only [go_sem, seval]) trivial rfl (by simp))
   | true =>
    rw [hd] at hD
    have hk : fmC o m w c = 0 := by unfold fmC; rw [hb, if_pos rfl, hg, hd, if_pos ⟨rfl, rfl⟩]
    rw [W0_ hk]
    have hO := XK_ o p1.1 (by omega)
    have hc := hB.num.1
    obtain ⟨n, en⟩ : ∃ n, w.length = n := ⟨_, rfl⟩
    rw [en] at hc p5 ⊢
    have lc := hc.1
    have n1 : 1 ≤ n := by have := yk_ p1; omega
    have n8 : n ≤ 8 := by omega
    obtain ⟨f, ef⟩ : ∃ f : Nat → Int, f = fun x => e2 c x x := ⟨_, rfl⟩
    have ev : ∀ i, (c.getD i []).getD i 0 = f i := fun i => by rw [ef]
    have er : Wc_ n c = zo_ n f := by unfold Wc_; rw [ef]
    rw [er]
    refine gFC 51 [.cell 2 33, .tmp 3] Tryz.call6 Tryz.func6 fun cx hcx => gE ?_
    refine gB ?_
    refine gC fun K hK => ?_
    first | refine xc_ (hI) rfl ?_ | refine xd_ (xa_ (hI) rfl) ?_
    refine gV ?_
    refine hK _ ?_; clear hK K
    refine gQ ?_
    refine xe_ ?_
    refine gC fun K hK => ?_
    first | refine xc_ (hG) rfl ?_ | refine xd_ (xa_ (hG) rfl) ?_
    refine gV ?_
    first | refine xc_ (hD) rfl ?_ | refine xd_ (xa_ (hD) rfl) ?_
    refine gV ?_
    refine hK _ ?_; clear hK K
    refine gQ ?_
    refine xe_ ?_
    (repeat refine xb_ ?_)
    refine wh_ [3] (.one 0 (.one 1 (.one 2 (.alt 3 (.one 4 (.one 5 (.one 6 (.one 7 (.alt 8 (.alt 9 .fin .stop) .stop))))) (.alt 4 (.alt 3 (.one 5 (.one 6 (.one 7 (.alt 8 (.alt 9 .fin .stop) .stop)))) (.alt 5 (.alt 3 (.one 6 (.one 7 (.alt 8 (.alt 9 .fin .stop) .stop))) (.alt 6 (.alt 3 (.one 7 (.alt 8 (.alt 9 .fin .stop) .stop)) (.alt 8 (.alt 3 (.one 7 (.alt 9 .fin .stop)) .stop) .stop)) (.alt 8 (.alt 3 (.one 6 (.one 7 (.alt 9 .fin .stop))) (.alt 6 (.alt 3 (.one 7 (.alt 9 .fin .stop)) .stop) .stop)) .stop))) (.alt 8 (.alt 3 (.one 5 (.one 6 (.one 7 (.alt 9 .fin .stop)))) (.alt 5 (.alt 3 (.one 6 (.one 7 (.alt 9 .fin .stop))) (.alt 6 (.alt 3 (.one 7 (.alt 9 .fin .stop)) .stop) .stop)) .stop)) .stop))) (.alt 8 (.alt 3 (.one 4 (.one 5 (.one 6 (.one 7 (.alt 9 .fin .stop))))) (.alt 4 (.alt 3 (.one 5 (.one 6 (.one 7 (.alt 9 .fin .stop)))) (.alt 5 (.alt 3 (.one 6 (.one 7 (.alt 9 .fin .stop))) (.alt 6 (.alt 3 (.one 7 (.alt 9 .fin .stop)) .stop) .stop)) .stop)) .stop)) .stop)))))) ⟨[(1, .bptr 0 0), (2, .bptr 1 0), (4, .bptr 3 0)], [(0, .bx [.l1 o, .int m, .l3 w, .l2 c]), (1, .bx [.nil, .int 0, .nil]), (2, .t1 o), (3, .bx [.ref 2 [], .int m, .nil])]⟩ (xO_ hcx) mixed (by kernel_rfl) (fun K hK => ?_) ?_
    ·simp only [go_sem, seval, Option.getD_some, and_true, true_and, and_self, List.contains_cons, List.contains_nil, Bool.or_false, Bool.or_true]
     repeat' (first | (refine hK _ (xr_ [] ?_ ?_); (focus (simp only [YO_, rnL, rn, rns, sw, xs_, St.get, xg_, List.map_cons, List.map_nil, seval, AV.int.injEq, AV.bool.injEq, AV.l1.injEq, AV.l2.injEq, AV.l3.injEq, true_and, and_true]; done)); (focus (simp only [zf_, YY_, YP_, rnH, rnT, rn, rns, sw, List.map_cons, List.map_nil, seval]; done))) | (refine hK _ (xr_ [(2, 3)] ?_ ?_); (focus (simp only [YO_, rnL, rn, rns, sw, xs_, St.get, xg_, List.map_cons, List.map_nil, seval, AV.int.injEq, AV.bool.injEq, AV.l1.injEq, AV.l2.injEq, AV.l3.injEq, true_and, and_true]; done)); (focus (simp only [zf_, YY_, YP_, rnH, rnT, rn, rns, sw, List.map_cons, List.map_nil, seval]; done))) | with_reducible refine And.intro ?_ ?_ | omega | (refine xq_ rfl (hO) rfl ?_; simp only [go_sem, seval, Option.getD_some, and_true, true_and, and_self, List.contains_cons, List.contains_nil, Bool.or_false, Bool.or_true]))
    (repeat refine xb_ ?_); refine xx_ (xO_ hcx) fun K hK => ?_; simp only [go_sem, seval, lc]
    refine gU ?_
    refine hK _ ?_; clear hK K
    (repeat refine xb_ ?_)
    refine xt_ (fun q : Option Nat => match q with
     | none => ⟨[(2, .bptr 1 0), (4, .bptr 3 0), (33, .l2 c), (34, .int n), (35, .int 0)], [(0, .bx [.l1 o, .int m, .l3 w, .l2 c]), (1, .bx [.nil, .int 0, .nil]), (2, .t1 o), (3, .bx [.ref 2 [], .int m, .nil])]⟩
     | some i => ⟨[(2, .bptr 1 0), (4, .bptr 3 0), (33, .l2 c), (34, .int n), (35, .int i)], [(0, .bx [.l1 o, .int m, .l3 w, .l2 c]), (1, .bx [.nil, .int 0, .nil]), (2, .t1 o), (3, .bx [.ref 2 [], .int m, .ref 5 []]), (5, .t1 (zo_ i f))]⟩) (fun q => match q with
     | none => True
     | some i => 1 ≤ i ∧ i ≤ n) (fun q => match q with
     | none => n + 1
     | some i => n - i) none trivial ⟨by simp only [xs_, St.get, xg_, Nat.reduceEqDiff, ↓reduceIte, true_and, and_true], rfl⟩ (fun q hq => ?_)
    cases q with
    | none =>
     dsimp only at hq ⊢
     (repeat refine xb_ ?_); refine xx_ (xO_ hcx) fun K hK => ?_; simp only [go_sem, seval, lc]
     refine gU ?_
     refine hK _ ?_; clear hK K
     refine gI (fun hli => ?_) fun hli => ?_
     ·have ri := hc.row (show 0 < n by omega)
      have v0 := ev 0
      refine xe_ ?_
      refine gO ?_
      (repeat refine xb_ ?_); refine xx_ (xO_ hcx) fun K hK => ?_; simp only [go_sem, seval, lc]
      refine gU ?_
      refine hK _ ?_; clear hK K
      (repeat refine xb_ ?_)
      refine xZ_ [] (.one 0 (.one 1 (.one 2 (.one 3 (.one 4 (.one 5 (.alt 6 (.alt 7 (.one 8 (.alt 9 .fin .stop)) .stop) .stop))))))) ⟨[(2, .bptr 1 0), (4, .bptr 3 0), (33, .l2 c), (34, .int n), (35, .int 0)], [(0, .bx [.l1 o, .int m, .l3 w, .l2 c]), (1, .bx [.nil, .int 0, .nil]), (2, .t1 o), (3, .bx [.ref 2 [], .int m, .ref 5 []]), (4, .t1 [(c.getD 0 []).getD 0 0]), (5, .t1 [(c.getD 0 []).getD 0 0])]⟩ (xO_ hcx) mixed (by kernel_rfl) (fun K hK => ?_) ?_
      ·simp only [go_sem, seval, Option.getD_some, and_true, true_and, and_self, List.contains_cons, List.contains_nil, Bool.or_false, Bool.or_true]
       repeat' (first | exact hK _ gM  | with_reducible refine And.intro ?_ ?_ | omega)
      rw [v0]
      (repeat refine xb_ ?_); refine AT.ghost (st' := ⟨[(2, .bptr 1 0), (4, .bptr 3 0), (33, .l2 c), (34, .int n), (35, .int 0)], [(0, .bx [.l1 o, .int m, .l3 w, .l2 c]), (1, .bx [.nil, .int 0, .nil]), (2, .t1 o), (3, .bx [.ref 2 [], .int m, .ref 5 []]), (5, .t1 [f 0])]⟩) (xm_ [4] []) ?_
      refine gB ?_
      refine ⟨some 1, ⟨by omega, by omega⟩, (show n - 1 < n + 1 by omega), .inl ⟨?_, ?_⟩⟩
      ·simp only [xs_, St.get, xg_, Nat.reduceEqDiff, ↓reduceIte, AV.int.injEq, true_and, and_true]
       try omega
      ·rfl
     ·omega
    | some i =>
     dsimp only at hq ⊢
     (repeat refine xb_ ?_); refine xx_ (xO_ hcx) fun K hK => ?_; simp only [go_sem, seval, lc]
     refine gU ?_
     refine hK _ ?_; clear hK K
     refine gI (fun hli => ?_) fun hli => ?_
     ·have hi : i < n := by omega
      have ri := hc.row hi
      have v0 := ev i
      have lr := xT_ i f
      refine xe_ ?_
      refine gO ?_
      (repeat refine xb_ ?_); refine xx_ (xO_ hcx) fun K hK => ?_; simp only [go_sem, seval, lc]
      refine gU ?_
      refine hK _ ?_; clear hK K
      (repeat refine xb_ ?_)
      refine xZ_ [] (.one 0 (.one 1 (.one 2 (.one 3 (.one 4 (.one 5 (.alt 6 (.alt 7 (.one 8 (.alt 9 .fin .stop)) .stop) .stop))))))) ⟨[(2, .bptr 1 0), (4, .bptr 3 0), (33, .l2 c), (34, .int n), (35, .int i)], [(0, .bx [.l1 o, .int m, .l3 w, .l2 c]), (1, .bx [.nil, .int 0, .nil]), (2, .t1 o), (3, .bx [.ref 2 [], .int m, .ref 5 []]), (5, .t1 (zo_ i f ++ [(c.getD i []).getD i 0])), (6, .t1 [(c.getD i []).getD i 0])]⟩ (xO_ hcx) mixed (by kernel_rfl) (fun K hK => ?_) ?_
      ·simp only [go_sem, seval, Option.getD_some, and_true, true_and, and_self, List.contains_cons, List.contains_nil, Bool.or_false, Bool.or_true]
       repeat' (first | exact hK _ gM  | with_reducible refine And.intro ?_ ?_ | omega)
      rw [v0, ← yR_]
      (repeat refine xb_ ?_); refine AT.ghost (st' := ⟨[(2, .bptr 1 0), (4, .bptr 3 0), (33, .l2 c), (34, .int n), (35, .int i)], [(0, .bx [.l1 o, .int m, .l3 w, .l2 c]), (1, .bx [.nil, .int 0, .nil]), (2, .t1 o), (3, .bx [.ref 2 [], .int m, .ref 5 []]), (5, .t1 (zo_ (i + 1) f))]⟩) (xm_ [6] []) ?_
      refine gB ?_
      refine ⟨some (i + 1), ⟨by omega, by omega⟩, (show n - (i + 1) < n - i by omega), .inl ⟨?_, ?_⟩⟩
      ·simp only [xs_, St.get, xg_, Nat.reduceEqDiff, ↓reduceIte, AV.int.injEq, true_and, and_true]
       try omega
      ·rfl
     ·obtain rfl : i = n := by omega
      refine xh_ (x9_ ?_)
      refine gB ?_
      exact xf_ (Wj_ (v := .agg [.ref 2 [], .int m, .ref 5 []]) (by simp only [go_sem, seval]) trivial rfl (by simp))
end Go.Proofs.YtjbdiekkjegckaaGreat
namespace Go.Proofs.YtjbdiekkjegckaaGreat
open Go Go.Aw Go.Pl
attribute [local go_sem] y9_ yB_ za_ zb_ wE_ yq_ List.getElem?_toArray List.getElem?_cons_zero List.getElem?_cons_succ
def Zg_ (m : Int) (c : List (List Int)) (x y : Nat) : Int := (e2 c x y + e2 c y x) % m
def tlG (m : Int) (c : List (List Int)) (x y : Nat) : Bool := (List.range y).all fun z => decide (Zg_ m c x z = 0)
theorem Y1_ {m : Int} {c : List (List Int)} {x y : Nat} : tlG m c x (y + 1) = (tlG m c x y && decide (Zg_ m c x y = 0)) := by
 unfold tlG
 rw [List.range_succ, List.all_append]
 simp
theorem VQ_ {m : Int} {c : List (List Int)} {x y : Nat} (h : tlG m c x y = false) : ∀ d, tlG m c x (y + d) = false
 | 0 => h
 | d + 1 => by
  have := VQ_ h d
  show tlG m c x (y + d + 1) = false
  rw [Y1_, this, Bool.false_and]
def tlL (n : Nat) (m : Int) (c : List (List Int)) (k : Nat) : List Int := ((List.range k).filter fun x => tlG m c x n).map fun x => ((x : Nat) : Int)
theorem UO_ {n : Nat} {m : Int} {c : List (List Int)} {k : Nat} (h : tlG m c k n = true) : tlL n m c (k + 1) = tlL n m c k ++ [(k : Int)] := by
 unfold tlL
 rw [List.range_succ, List.filter_append, List.map_append]
 simp [h]
theorem RY_ {n : Nat} {m : Int} {c : List (List Int)} {k : Nat} (h : tlG m c k n = false) : tlL n m c (k + 1) = tlL n m c k := by
 unfold tlL
 rw [List.range_succ, List.filter_append, List.map_append]
 simp [h]
theorem UP_ {n : Nat} {m : Int} {c : List (List Int)} {k : Nat} : (tlL n m c k).length ≤ k := by
 unfold tlL
 rw [List.length_map]
 have := List.length_filter_le (fun x => tlG m c x n) (List.range k)
 rw [List.length_range] at this
 exact this
theorem XI_ {m : Int} {n : Nat} {c : List (List Int)} (hc : GridB n m c) (m1 : 1 ≤ m) {x y : Nat} (hx : x < n) (hy : y < n) : 0 ≤ e2 c x y + e2 c y x ∧ e2 c x y + e2 c y x ≤ 2 * m ∧ (e2 c x y + e2 c y x).tmod m = Zg_ m c x y ∧ 0 ≤ Zg_ m c x y ∧ Zg_ m c x y < m := by
 have a := hc.bd hx hy
 have b := hc.bd hy hx
 refine ⟨by omega, by omega, Int.tmod_eq_emod_of_nonneg (by omega), Int.emod_nonneg _ (by omega), Int.emod_lt_of_pos _ (by omega)⟩
theorem RZ_ (o : List Int) (m : Int) (w : List (List (List Int))) (c : List (List Int)) (n : Nat) (hc : GridB n m c) (m1 : 1 ≤ m) (m2 : m ≤ 1000) (x y : Nat) (hx : x < n) (hy : y < n) :
  PureCall Tryz.prog 34 [.agg [.l1 o, .int m, .l3 w, .l2 c], .int x, .int y] (.int (Zg_ m c x y)) := by
 obtain ⟨b1, b2, b3, b4, b5⟩ := XI_ hc m1 hx hy
 have lc := hc.1
 have rx := hc.row hx
 have ry := hc.row hy
 have v1 := hc.bd hx hy
 have v2 := hc.bd hy hx
 simp only [e2] at b1 b2 b3 v1 v2
 generalize Zg_ m c x y = M at *
 refine gPC 28 [.tmp 6] Tryz.call34 Tryz.func34 fun cx hcx => gE ?_
 refine gB ?_
 (repeat refine xb_ ?_); refine xI_ (xO_ hcx) mixed (by kernel_rfl) fun K hK => ?_; simp only [go_sem, seval, lc, rx, ry, b3]
 refine gU ?_
 refine hK _ ?_; clear hK K
 refine xf_ (zY_ rfl ?_)
 rfl
theorem R0_ (o : List Int) (m : Int) (w : List (List (List Int))) (c : List (List Int)) (n : Nat) (hc : GridB n m c) (m1 : 1 ≤ m) (m2 : m ≤ 1000) (x y : Nat) (hx : x < n) (hy : y < n) :
  PureCall Tryz.prog 33 [.agg [.l1 o, .int m, .l3 w, .l2 c], .int x, .int y] (.int (Zg_ m c x y)) := by
 obtain ⟨b1, b2, b3, b4, b5⟩ := XI_ hc m1 hx hy
 have lc := hc.1
 have rx := hc.row hx
 have ry := hc.row hy
 have v1 := hc.bd hx hy
 have v2 := hc.bd hy hx
 have hR := zB_ o m w (e2 c x y + e2 c y x) m1 m2
 have eM : (e2 c x y + e2 c y x) % m = Zg_ m c x y := rfl
 rw [eM] at hR
 simp only [e2] at b1 b2 v1 v2 hR
 generalize Zg_ m c x y = M at *
 refine gPC 27 [.tmp 6] Tryz.call33 Tryz.func33 fun cx hcx => gE ?_
 refine gB ?_
 (repeat refine xb_ ?_); refine xI_ (xO_ hcx) mixed (by kernel_rfl) fun K hK => ?_; simp only [go_sem, seval, lc, rx, ry]
 refine gU ?_
 first | refine xc_ (hR) rfl ?_ | refine xd_ (xa_ (hR) rfl) ?_
 refine gW ?_
 refine hK _ ?_; clear hK K
 refine xf_ (zY_ rfl ?_)
 rfl
noncomputable def trA (o : List Int) (m : Int) (w : List (List (List Int))) (c : List (List Int)) : AV := if Zl_ o m w c = true then .tup [.l1 (tlL w.length m c w.length), .int 0] else .tup [.l1 [], .int 1]
set_option maxHeartbeats 4000000 in
theorem R1_ (o : List Int) (m : Int) (w : List (List (List Int))) (c : List (List Int)) : PureCall Tryz.prog 9 [.agg [.l1 o, .int m, .l3 w, .l2 c]] (trA o m w c) := by
 have hI := TI_ o m w c
 unfold trA
 cases hb : Zl_ o m w c with
 | false =>
  rw [hb] at hI
  rw [if_neg (by decide)]
  refine Vy_ (a := .tup [.nil, .int 1]) ?_ (Vx_ (zN_ Ya_ (Yb_ _)))
  refine gPC 40 [.tmp 2, .tmp 3] Tryz.call9 Tryz.func9 fun cx hcx => gE ?_
  refine gB ?_
  refine gC fun K hK => ?_
  first | refine xc_ (hI) rfl ?_ | refine xd_ (xa_ (hI) rfl) ?_
  refine gV ?_
  refine hK _ ?_; clear hK K
  refine gR ?_
  refine gB ?_
  exact xf_ (av2 trivial trivial rfl)
 | true =>
  rw [hb] at hI
  rw [if_pos rfl]
  have hB := isBr_iff.1 hb
  obtain ⟨p1, p2, m1, m2, p5, p6⟩ := hB.coc.1
  have hc := hB.num.1
  obtain ⟨n, en⟩ : ∃ n, w.length = n := ⟨_, rfl⟩
  rw [en] at hc p5 ⊢
  have lc := hc.1
  have n8 : n ≤ 8 := by omega
  have hMon := fun x y hx hy => RZ_ o m w c n hc m1 m2 x y hx hy
  have hb4 := fun x y hx hy => (XI_ hc m1 (x := x) (y := y) hx hy).2.2.2
  refine gPC 40 [.tmp 2, .tmp 3] Tryz.call9 Tryz.func9 fun cx hcx => gE ?_
  refine gB ?_
  refine gC fun K hK => ?_
  first | refine xc_ (hI) rfl ?_ | refine xd_ (xa_ (hI) rfl) ?_
  refine gV ?_
  refine hK _ ?_; clear hK K
  refine gQ ?_
  refine xe_ ?_
  (repeat refine xb_ ?_)
  refine xZ_ [] (.one 1 (.one 2 (.one 3 (.alt 0 (.one 4 (.one 5 .fin)) .stop)))) ⟨[(1, .bptr 0 0), (4, .ref 1 []), (5, .int c.length)], [(0, .bx [.l1 o, .int m, .l3 w, .l2 c]), (1, .t1 [])]⟩ (xO_ hcx) mixed (by kernel_rfl) (fun K hK => ?_) ?_
  ·simp only [go_sem, seval, Option.getD_some, and_true, true_and, and_self, List.contains_cons, List.contains_nil, Bool.or_false, Bool.or_true]
   repeat' (first | exact hK _ gM  | with_reducible refine And.intro ?_ ?_ | omega)
  rw [lc]
  refine gB ?_
  (repeat refine xb_ ?_); refine gLp (fun x : Nat => ⟨[(1, .bptr 0 0), (4, .ref 1 []), (5, .int n), (6, .int x)], [(0, .bx [.l1 o, .int m, .l3 w, .l2 c]), (1, .t1 (tlL n m c x))]⟩) n fun x hx => ?_
  refine gB ?_
  refine gI (fun hx2 => ?_) fun hx2 => ?_
  ·have hx : x < n := by omega
   have lt := UP_ (n := n) (m := m) (c := c) (k := x)
   refine xe_ ?_
   refine gO ?_
   refine gB ?_
   refine gB ?_
   (repeat refine xb_ ?_)
   refine Xh_ ⟨[(1, .bptr 0 0), (4, .ref 1 []), (5, .int n), (6, .int x), (7, .bool (tlG m c x n))], [(0, .bx [.l1 o, .int m, .l3 w, .l2 c]), (1, .t1 (tlL n m c x))]⟩ ?_ ?_
   ·(repeat refine xb_ ?_); refine xt_ (fun y : Nat => ⟨[(1, .bptr 0 0), (4, .ref 1 []), (5, .int n), (6, .int x), (7, .bool (tlG m c x y)), (8, .int y)], [(0, .bx [.l1 o, .int m, .l3 w, .l2 c]), (1, .t1 (tlL n m c x))]⟩) (fun y => y ≤ n) (fun y => n - y) 0 (Nat.zero_le _) (by
     refine And.intro ?_ rfl; simp only [leS, Nat.reduceEqDiff, ↓reduceIte, true_and, and_true]
     first | exact ⟨rfl, rfl⟩ | rfl) (fun y hy => ?_)
    have sc := Y1_ (m := m) (c := c) (x := x) (y := y)
    cases hG : tlG m c x y with
    | false =>
     have hf := VQ_ hG (n - y)
     rw [show y + (n - y) = n by omega] at hf
     by_cases hyn : y < n
     ·have f1 : ((y : Int) < (n : Int)) = True := eq_true (by omega)
      (repeat refine xb_ ?_); refine xx_ (xO_ hcx) fun K hK => ?_; simp only [go_sem, seval, f1, decide_true]
      refine gU ?_
      refine hK _ ?_; clear hK K
      refine gQ ?_
      rw [hf]
      refine xh_ (x9_ ?_)
      refine xJ_ ?_; refine Or.inl ⟨rfl, xm_ [] []⟩
     ·have f1 : ((y : Int) < (n : Int)) = False := eq_false (by omega)
      (repeat refine xb_ ?_); refine xx_ (xO_ hcx) fun K hK => ?_; simp only [go_sem, seval, f1, decide_false]
      refine gU ?_
      refine hK _ ?_; clear hK K
      refine gQ ?_
      rw [hf]
      refine xh_ (x9_ ?_)
      refine xJ_ ?_; refine Or.inl ⟨rfl, xm_ [] []⟩
    | true =>
     by_cases hyn : y < n
     ·have f1 : ((y : Int) < (n : Int)) = True := eq_true (by omega)
      have hM := hMon x y hx hyn
      have bM := hb4 x y hx hyn
      rw [hG, Bool.true_and] at sc
      generalize Zg_ m c x y = M at *
      (repeat refine xb_ ?_); refine xx_ (xO_ hcx) fun K hK => ?_; simp only [go_sem, seval, f1, decide_true]
      refine gU ?_
      refine hK _ ?_; clear hK K
      refine gR ?_
      refine xe_ ?_
      refine gO ?_
      refine gC fun K hK => ?_
      refine gU ?_
      first | refine xc_ (hM) rfl ?_ | refine xd_ (xa_ (hM) rfl) ?_
      refine gW ?_
      refine hK _ ?_; clear hK K
      rw [← sc]
      refine gB ?_
      refine ⟨y + 1,  by omega, by omega, .inl ⟨gH,  rfl⟩⟩
     ·have f1 : ((y : Int) < (n : Int)) = False := eq_false (by omega)
      obtain rfl : y = n := by omega
      (repeat refine xb_ ?_); refine xx_ (xO_ hcx) fun K hK => ?_; simp only [go_sem, seval, f1, decide_false]
      refine gU ?_
      refine hK _ ?_; clear hK K
      refine gQ ?_
      rw [hG]
      refine xh_ (x9_ ?_)
      refine xJ_ ?_; refine Or.inl ⟨rfl, xm_ [] []⟩
   cases hG : tlG m c x n with
   | true =>
    refine gB ?_
    refine gR ?_
    refine gB ?_
    rw [← UO_ hG]
    refine gB ?_
    refine ⟨x + 1, by omega, by omega, .inr ⟨[2], gK1, av1⟩⟩
   | false =>
    have e := RY_ hG
    rw [← e]
    refine gB ?_
    refine gQ ?_
    refine xe_ ?_
    refine gB ?_
    refine ⟨x + 1,  by omega, by omega, .inl ⟨gH,  rfl⟩⟩
  ·obtain rfl : x = n := by omega
   refine xh_ (x9_ ?_)
   refine gB ?_
   exact xf_ (av2 trivial trivial rfl)
set_option maxHeartbeats 4000000 in
theorem R2_ (o : List Int) (m : Int) (w : List (List (List Int))) (c : List (List Int)) : FreshCall Tryz.prog 8 [.agg [.l1 o, .int m, .l3 w, .l2 c]] (trA o m w c) := by
 have hI := y3_ o m w c
 unfold trA
 cases hb : Zl_ o m w c with
 | false =>
  rw [hb] at hI
  rw [if_neg (by decide)]
  refine Y9_ (a := .tup [.nil, .int 1]) ?_ (Vx_ (zN_ Ya_ (Yb_ _)))
  refine gFC 40 [.tmp 2, .tmp 3] Tryz.call8 Tryz.func8 fun cx hcx => gE ?_
  refine gB ?_
  refine gC fun K hK => ?_
  first | refine xc_ (hI) rfl ?_ | refine xd_ (xa_ (hI) rfl) ?_
  refine gV ?_
  refine hK _ ?_; clear hK K
  refine gR ?_
  refine gB ?_
  exact xf_ (bf4 (is := []) trivial trivial rfl (by simp))
 | true =>
  rw [hb] at hI
  rw [if_pos rfl]
  have hB := isBr_iff.1 hb
  obtain ⟨p1, p2, m1, m2, p5, p6⟩ := hB.coc.1
  have hc := hB.num.1
  obtain ⟨n, en⟩ : ∃ n, w.length = n := ⟨_, rfl⟩
  rw [en] at hc p5 ⊢
  have lc := hc.1
  have n8 : n ≤ 8 := by omega
  have hMon := fun x y hx hy => R0_ o m w c n hc m1 m2 x y hx hy
  have hb4 := fun x y hx hy => (XI_ hc m1 (x := x) (y := y) hx hy).2.2.2
  refine gFC 40 [.tmp 2, .tmp 3] Tryz.call8 Tryz.func8 fun cx hcx => gE ?_
  refine gB ?_
  refine gC fun K hK => ?_
  first | refine xc_ (hI) rfl ?_ | refine xd_ (xa_ (hI) rfl) ?_
  refine gV ?_
  refine hK _ ?_; clear hK K
  refine gQ ?_
  refine xe_ ?_
  refine gB ?_
  (repeat refine xb_ ?_); refine xx_ (xO_ hcx) fun K hK => ?_; simp only [go_sem, seval, lc]
  refine gU ?_
  refine hK _ ?_; clear hK K
  (repeat refine xb_ ?_); refine gLp (fun x : Nat => ⟨[(1, .bptr 0 0), (4, .ref 1 []), (14, .int n), (15, .int x)], [(0, .bx [.l1 o, .int m, .l3 w, .l2 c]), (1, .t1 (tlL n m c x))]⟩) n fun x hx => ?_
  refine gB ?_
  refine gI (fun hx2 => ?_) fun hx2 => ?_
  ·have hx : x < n := by omega
   have lt := UP_ (n := n) (m := m) (c := c) (k := x)
   refine xe_ ?_
   refine gO ?_
   refine gB ?_
   refine gB ?_
   (repeat refine xb_ ?_); refine xx_ (xO_ hcx) fun K hK => ?_; simp only [go_sem, seval, lc]
   refine gU ?_
   refine hK _ ?_; clear hK K
   (repeat refine xb_ ?_); refine gLp (fun y : Nat => ⟨[(1, .bptr 0 0), (4, .ref 1 []), (5, .int x), (6, .bool (tlG m c x y)), (14, .int n), (15, .int x), (20, .int n), (21, .int y)], [(0, .bx [.l1 o, .int m, .l3 w, .l2 c]), (1, .t1 (tlL n m c x))]⟩) n fun y hy => ?_
   refine gB ?_
   refine gI (fun hy2 => ?_) fun hy2 => ?_
   ·have hy : y < n := by omega
    have sc := Y1_ (m := m) (c := c) (x := x) (y := y)
    have hM := hMon x y hx hy
    have bM := hb4 x y hx hy
    generalize Zg_ m c x y = M at *
    refine xe_ ?_
    refine gO ?_
    refine gB ?_
    cases hG : tlG m c x y with
    | true =>
     rw [hG, Bool.true_and] at sc
     refine gC fun K hK => ?_
     first | refine xc_ (hM) rfl ?_ | refine xd_ (xa_ (hM) rfl) ?_
     refine gW ?_
     refine hK _ ?_; clear hK K
     rw [← sc]
     refine gB ?_
     refine ⟨y + 1,  by omega, by omega, .inl ⟨gH,  rfl⟩⟩
    | false =>
     rw [hG, Bool.false_and] at sc
     refine gC fun K hK => ?_
     refine xd_ (v := .int 0) (by first | trivial | (intro h; cases h)) ?_
     refine gV ?_
     refine hK _ ?_; clear hK K
     refine gB ?_
     refine ⟨y + 1,  by omega, by omega, .inl ⟨by simp only [leS, Nat.reduceEqDiff, ↓reduceIte, true_and, and_true]; (rw [sc]; (first | omega | (refine ⟨rfl, ?_⟩; omega) | (refine ⟨rfl, ?_, ?_⟩ <;> omega) | simp)),  rfl⟩⟩
   ·obtain rfl : y = n := by omega
    refine xh_ (x9_ ?_)
    cases hG : tlG m c x y with
    | true =>
     refine gB ?_
     refine gR ?_
     refine gB ?_
     rw [← UO_ hG]
     refine gB ?_
     refine ⟨x + 1, by omega, by omega, .inr ⟨[2], gK1, av1⟩⟩
    | false =>
     have e := RY_ hG
     rw [← e]
     refine gB ?_
     refine gQ ?_
     refine xe_ ?_
     refine gB ?_
     refine ⟨x + 1,  by omega, by omega, .inl ⟨gH,  rfl⟩⟩
  ·obtain rfl : x = n := by omega
   refine xh_ (x9_ ?_)
   refine gB ?_
   exact xf_ (bf4 (is := [1]) trivial trivial rfl (by simp))
theorem R3_ (o : List Int) (m : Int) (w : List (List (List Int))) (c : List (List Int)) (x y : Nat) (hb : Zl_ o m w c = true) (hx : x < w.length) (hy : y < w.length) (hE : ∀ k : Nat, k < w.length → PureCall Tryz.prog 42 [.agg [.l1 o, .int m, .l3 w], .int k] (.bool true)) :
  PureCall Tryz.prog 16 [.agg [.l1 o, .int m, .l3 w, .l2 c], .int x, .int y] (.tup [.int (Zg_ m c x y), .int 0]) := by
 have hI := y3_ o m w c
 rw [hb] at hI
 have hB := isBr_iff.1 hb
 obtain ⟨p1, p2, m1, m2, p5, p6⟩ := hB.coc.1
 have e1 := hE x hx
 have e2 := hE y hy
 have hM := R0_ o m w c w.length hB.num.1 m1 m2 x y hx hy
 generalize Zg_ m c x y = M at *
 refine gPC 27 [.tmp 6, .tmp 7] Tryz.call16 Tryz.func16 fun cx hcx => gE ?_
 refine gB ?_
 refine gC fun K hK => ?_
 first | refine xc_ (hI) rfl ?_ | refine xd_ (xa_ (hI) rfl) ?_
 refine gV ?_
 refine hK _ ?_; clear hK K
 refine gQ ?_
 refine xe_ ?_
 refine gC fun K hK => ?_
 first | refine xc_ (e1) rfl ?_ | refine xd_ (xa_ (e1) rfl) ?_
 refine gV ?_
 first | refine xc_ (e2) rfl ?_ | refine xd_ (xa_ (e2) rfl) ?_
 refine gV ?_
 refine hK _ ?_; clear hK K
 refine gQ ?_
 refine xe_ ?_
 refine gC fun K hK => ?_
 first | refine xc_ (hM) rfl ?_ | refine xd_ (xa_ (hM) rfl) ?_
 refine gV ?_
 refine hK _ ?_; clear hK K
 exact xf_ (av2 trivial trivial rfl)
end Go.Proofs.YtjbdiekkjegckaaGreat
