import Derived.Test.YtlngnhbochmcoaaPlIb
set_option linter.unusedSimpArgs false
set_option linter.unusedVariables false
namespace Go.Pl
open Go.Aw
theorem Cg.trans {a b c : Int} (h : Cg a b) (h2 : Cg b c) : Cg a c := Eq.trans h h2
structure ChkP (S : List (List Nat)) (t : List Nat) (N : Nat → Nat → Nat → Bool) : Prop where
 n1 : 1 ≤ t.length
 n16 : t.length ≤ 16
 len : S.length = t.length
 row : ∀ i, i < t.length → (S.getD i []).length = t.length
 lt : ∀ i, i < t.length → ∀ j, j < t.length → (S.getD i []).getD j 0 < 55441
 tlt : ∀ i, i < t.length → t.getD i 0 < 55441
 sym : ∀ i, i < t.length → ∀ j, j < t.length → (S.getD i []).getD j 0 = (S.getD j []).getD i 0
 s00 : (S.getD 0 []).getD 0 0 = 1
 t0 : t.getD 0 0 = 1
 s0 : ∀ i, i < t.length → 0 < (S.getD 0 []).getD i 0
 tp : ∀ i, i < t.length → 0 < t.getD i 0
 w : 0 < wN S
 r : ∀ i, i < t.length → aZ9 S t N (gN S t) i (S.getD i []) = true
section
variable {S : List (List Nat)} {t : List Nat} {N : Nat → Nat → Nat → Bool}
theorem av2 : (cL1 t).length = t.length := List.length_map ..
theorem ChkP.whole (h : ChkP S t N) : y7_ (cL2 S) t.length = (wN S : Int) := by
 unfold y7_ wN
 rw [Int.natCast_emod, Ya_ t.length _ _ (h.row 0 h.n1) (h.row 0 h.n1)]
 rw [show ((55441 : Nat) : Int) = 55441 from rfl]
 congr 1
 exact xs_ fun k _ => by unfold wG; rw [zR_]
theorem ChkP.gauss (h : ChkP S t N) : Jp_ (cL2 S) (cL1 t) t.length = (gN S t : Int) := by
 unfold Jp_ gN
 rw [Int.natCast_emod, Ya_ t.length _ _ (Yb_ (h.row 0 h.n1) (h.row 0 h.n1)) rfl]
 rw [show ((55441 : Nat) : Int) = 55441 from rfl]
 congr 1
 exact xs_ fun k hk => by
  unfold gG
  rw [zR_, z7_, Xb_ (by rw [h.row 0 h.n1]; exact hk) (by rw [h.row 0 h.n1]; exact hk), Int.natCast_emod, Int.natCast_mul]
  rfl
theorem ChkP.sq (h : ChkP S t N) {i j : Nat} (hi : i < t.length) (hj : j < t.length) : e2 (sqD (cL2 S) t.length) i j = if i = j then (wN S : Int) else 0 := by
 have hr := h.r i hi
 unfold aZ9 at hr
 simp only [Bool.and_eq_true] at hr
 have h1 := congrArg (fun l => ((l.getD j 0 : Nat) : Int)) (Rb_ hr.1.1)
 rw [JY_ (by rw [h.len]; exact hj), JZ_ hj, Int.natCast_emod, Ya_ t.length _ _ (h.row i hi) (h.row j hj)] at h1
 unfold sqD wz_
 rw [zN_ hi hj]
 have e : sumTo (pG (cL2 S) (cL2 S) i j) t.length = sumTo (fun k => (((S.getD i []).getD k 0 : Nat) : Int) * (((S.getD j []).getD k 0 : Nat) : Int)) t.length := xs_ fun k hk => by
  unfold pG
  rw [zR_, zR_, h.sym k hk j hj]
 rw [e]
 refine h1.trans ?_
 split <;> rfl
theorem ChkP.sts (h : ChkP S t N) {i j : Nat} (hi : i < t.length) (hj : j < t.length) :
  Cg (sumTo (fun k => e2 (uD (cL2 S) (cL1 t) t.length) i k * e2 (cL2 S) k j) t.length * (cL1 t).getD j 0 * (cL1 t).getD i 0) ((gN S t : Int) * e2 (cL2 S) i j) := by
 have hr := h.r i hi
 unfold aZ9 at hr
 simp only [Bool.and_eq_true] at hr
 have h1 := congrArg (fun l => ((l.getD j 0 : Nat) : Int)) (Rb_ hr.1.2)
 have hz : (Ra_ (fun a b => a * b % 55441) (S.getD i []) t).length = t.length := Yb_ (h.row i hi) rfl
 have hm := JX_ (r := Ra_ (fun a b => a * b % 55441) (S.getD i []) t) h.len (rfl : t.length = t.length)
 rw [T9_ (by rw [hm]; exact hj), T9_ (by rw [h.row i hi]; exact hj), JW_ (by rw [h.len]; exact hj) hj, Int.natCast_emod, Int.natCast_emod, Int.natCast_mul, Int.natCast_mul, Int.natCast_emod, Int.natCast_mul, Int.natCast_emod,
  Ya_ t.length _ _ hz (h.row j hj)] at h1
 rw [show ((55441 : Nat) : Int) = 55441 from rfl] at h1
 have e : sumTo (fun k => (((Ra_ (fun a b => a * b % 55441) (S.getD i []) t).getD k 0 : Nat) : Int) * (((S.getD j []).getD k 0 : Nat) : Int)) t.length = sumTo (fun k => e2 (uD (cL2 S) (cL1 t) t.length) i k * e2 (cL2 S) k j) t.length := xs_ fun k hk => by
  unfold uD
  rw [zN_ hi hk, zR_, zR_, z7_, Xb_ (by rw [h.row i hi]; exact hk) hk, Int.natCast_emod, Int.natCast_mul, h.sym k hk j hj]
  rfl
 rw [e] at h1
 rw [z7_, z7_, zR_]
 refine Cg.trans ?_ (h1.trans ?_)
 ·exact Cg.mul (Cg.trans (Cg.mul (Cg.md _).symm rfl) (Cg.md _).symm) rfl
 ·rw [Int.mul_comm]
theorem ChkP.turn (h : ChkP S t N) {i j : Nat} (hi : i < t.length) (hj : j < t.length) : e2 (T1_ (cL2 S) (cL1 t) t.length) i j = if i = j then ((gN S t * wN S % 55441 : Nat) : Int) else 0 := by
 have hp : InP ((cL1 t).getD i 0) := by
  rw [z7_]
  have := h.tlt i hi
  exact ⟨by omega, by omega⟩
 have hne : (cL1 t).getD i 0 ≠ 0 := by
  rw [z7_]
  have := h.tp i hi
  omega
 have hR : InP (if i = j then ((gN S t * wN S % 55441 : Nat) : Int) else 0) := by
  split
  ·exact ⟨by omega, by omega⟩
  ·exact ⟨by omega, by omega⟩
 have hL : InP (e2 (T1_ (cL2 S) (cL1 t) t.length) i j) := by
  unfold T1_
  exact (wN_ _ _ _).inP hi hj
 refine Cg.eq hL hR (Cg.cancel hp hne ?_)
 -- e2 T1_ i j = sum_m (u u)_im u_mj, (u u)_im = STS_im t_m
 have c1 : ∀ m, m < t.length → Cg ((cL1 t).getD i 0 * e2 (wz_ (uD (cL2 S) (cL1 t) t.length) (uD (cL2 S) (cL1 t) t.length) t.length) i m) ((gN S t : Int) * e2 (cL2 S) i m) := by
  intro m hm
  refine Cg.trans ?_ (h.sts hi hm)
  unfold wz_
  rw [zN_ hi hm, Int.mul_comm]
  refine Cg.mul ((Cg.md _).trans ?_) rfl
  rw [← sum_mul]
  refine Cg.sum fun k hk => ?_
  unfold pG
  rw [Int.mul_assoc]
  refine Cg.mul rfl ?_
  conv => lhs; unfold uD
  rw [zN_ hk hm]
  exact Cg.md _
 have c2 : Cg ((cL1 t).getD i 0 * e2 (T1_ (cL2 S) (cL1 t) t.length) i j) (sumTo (fun m => (gN S t : Int) * e2 (cL2 S) i m * e2 (uD (cL2 S) (cL1 t) t.length) m j) t.length) := by
  unfold T1_
  conv => lhs; unfold wz_
  rw [zN_ hi hj]
  refine (Cg.mul rfl (Cg.md _)).trans ?_
  rw [← mul_sum]
  refine Cg.sum fun m hm => ?_
  unfold pG
  rw [← Int.mul_assoc]
  exact Cg.mul (c1 m hm) rfl
 refine c2.trans ?_
 have c3 : Cg (sumTo (fun m => (gN S t : Int) * e2 (cL2 S) i m * e2 (uD (cL2 S) (cL1 t) t.length) m j) t.length) ((gN S t : Int) * (sumTo (fun m => e2 (cL2 S) i m * e2 (cL2 S) m j) t.length) * (cL1 t).getD j 0) := by
  rw [← mul_sum, ← sum_mul]
  refine Cg.sum fun m hm => ?_
  unfold uD
  rw [zN_ hm hj, Int.mul_assoc, Int.mul_assoc, Int.mul_assoc]
  exact Cg.mul rfl (Cg.mul rfl (Cg.md _))
 refine c3.trans ?_
 have c4 : Cg (sumTo (fun m => e2 (cL2 S) i m * e2 (cL2 S) m j) t.length) (if i = j then (wN S : Int) else 0) := by
  rw [← h.sq hi hj]
  unfold sqD wz_
  rw [zN_ hi hj]
  exact (Cg.md _).symm
 refine (Cg.mul (Cg.mul rfl c4) rfl).trans ?_
 by_cases e : i = j
 ·subst e
  rw [if_pos rfl, if_pos rfl, Int.natCast_emod, Int.natCast_mul, Int.mul_comm]
  exact Cg.mul rfl (Cg.md _).symm
 ·rw [if_neg e, if_neg e]
  simp only [Int.mul_zero, Int.zero_mul]
  rfl
theorem ChkP.ver (h : ChkP S t N) (hR : RingP (UR_ t.length fun i j k => if N i j k then 1 else 0)) (htri : ∀ j, j + 1 < t.length → N j 1 (j + 1) = true ∧ ∀ c, c < t.length → j + 1 < c → N j 1 c = false) : VerP (cL2 S) (cL1 t) (fun i j k => if N i j k then 1 else 0) := by
 have hl := av2 (t := t)
 have hrows : ∀ r ∈ S, r.length = t.length := by
  intro r hr
  obtain ⟨i, hi, rfl⟩ := List.mem_iff_getElem.1 hr
  have := h.row i (by rw [← h.len]; exact hi)
  rwa [List.getD_eq_getElem?_getD, List.getElem?_eq_getElem hi] at this
 have hcl : (UR_ t.length fun i j k => if N i j k then (1 : Int) else 0).length = t.length := T2_ ..
 have hs : Jo_ (cL2 S) (cL1 t) := by
  refine ⟨fun i hi j hj => ?_, ?_, ?_, fun i hi => ?_, fun i hi => ?_⟩
  ·rw [hl] at hi hj
   rw [zR_, zR_, h.sym i hi j hj]
  ·rw [zR_, h.s00]; rfl
  ·rw [z7_, h.t0]; rfl
  ·rw [hl] at hi
   rw [zR_]
   have := h.s0 i hi
   omega
  ·rw [hl] at hi
   rw [z7_]
   have := h.tp i hi
   omega
 refine ⟨⟨by rw [hl]; exact h.n1, by rw [hl]; exact h.n16, ?_, fun i hi => ?_⟩, hs, ?_, fun i hi j hj => ?_, fun i hi j hj => ?_, fun i _ j _ k _ => ?_, fun i hi j hj l hx => ?_⟩
 ·rw [hl]
  refine ⟨by rw [← h.len]; exact List.length_map .., fun i hi => ⟨?_, fun j hj => ?_⟩⟩
  ·rw [JV_]
   exact (av2 (t := S.getD i [])).trans (h.row i hi)
  ·rw [zR_]
   have := h.lt i hi j hj
   exact ⟨by omega, by omega⟩
 ·rw [hl] at hi
  rw [z7_]
  have := h.tlt i hi
  exact ⟨by omega, by omega⟩
 ·rw [hl, h.whole]
  have := h.w
  omega
 ·rw [hl] at hi hj ⊢
  rw [h.sq hi hj, h.whole]
 ·rw [hl] at hi hj ⊢
  rw [h.turn hi hj, h.sq hi hj, h.gauss]
  split
  ·rw [Int.natCast_emod, Int.natCast_mul]; rfl
  ·rw [Int.mul_zero]; rfl
 ·show InP (if N i j k then 1 else 0)
  split
  ·exact ⟨by omega, by omega⟩
  ·exact ⟨by omega, by omega⟩
 ·rw [hl] at hi hj hx ⊢
  have hu : ∀ i, i < t.length → ∀ k, k < t.length → (if N i 0 k then (1 : Int) else 0) = dl i k := fun i hi k hk => by
   have := hR.right i (by rw [hcl]; exact hi) k (by rw [hcl]; exact hk)
   rwa [Wf_ hi h.n1 hk] at this
  have h0p : InP (e2 (cL2 S) 0 l) := by
   rw [zR_]
   have := h.lt 0 h.n1 l hx
   exact ⟨by omega, by omega⟩
  have h0n : e2 (cL2 S) 0 l ≠ 0 := by
   rw [zR_]
   have := h.s0 l hx
   omega
  by_cases h1n : 1 < t.length
  ·refine aH4 (x := fun a => e2 (cL2 S) a l) (N := fun i j k => if N i j k then 1 else 0) h1n h0p h0n hu (fun i hi j hj d hd => ?_) (fun j hj => ?_) (fun i hi => ?_) j hj i hi
   ·have := hR.brack i (by rw [hcl]; exact hi) j (by rw [hcl]; exact hj) 1 (by rw [hcl]; exact h1n) d (by rw [hcl]; exact hd)
    rw [hcl] at this
    have e1 : sumTo (brL (UR_ t.length fun i j k => if N i j k then (1 : Int) else 0) i j 1 d) t.length = sumTo (fun m => (if N i j m then (1 : Int) else 0) * (if N m 1 d then 1 else 0)) t.length := xs_ fun m hm => by
     unfold brL
     rw [Wf_ hi hj hm, Wf_ hm h1n hd]
    have e2 : sumTo (brR (UR_ t.length fun i j k => if N i j k then (1 : Int) else 0) i j 1 d) t.length = sumTo (fun m => (if N j 1 m then (1 : Int) else 0) * (if N i m d then 1 else 0)) t.length := xs_ fun m hm => by
     unfold brR
     rw [Wf_ hj h1n hm, Wf_ hi hm hd]
    rw [← e1, ← e2]
    exact this
   ·obtain ⟨a, b⟩ := htri j hj
    exact ⟨by rw [a]; rfl, fun c hc hlt => by rw [b c hc hlt]; rfl⟩
   ·have hr := h.r i hi
    unfold aZ9 at hr
    simp only [Bool.and_eq_true, Bool.or_eq_true, Nat.ble_eq] at hr
    have hr2 := hr.2.resolve_left (by omega)
    have h1 := congrArg (fun q => ((q.getD l 0 : Nat) : Int)) (Rb_ hr2)
    have hsl : (av3 (N i 1) 0 (List.replicate t.length 0) S).length = t.length := Rc_ (List.length_replicate ..) hrows
    rw [Xb_ (by rw [h.row i hi]; exact hx) (by rw [h.row 1 h1n]; exact hx), Xb_ (by rw [h.row 0 h.n1]; exact hx) (by rw [hsl]; exact hx), Int.natCast_emod, Int.natCast_emod, Int.natCast_mul, Int.natCast_mul,
     VU_ hx (List.length_replicate ..) hrows, h.len] at h1
    have hz : (List.replicate t.length 0).getD l 0 = 0 := by
     rw [List.getD_eq_getElem?_getD, List.getElem?_replicate, if_pos hx]; rfl
    rw [hz] at h1
    unfold Cg
    simp only [zR_]
    refine h1.trans ?_
    congr 2
    rw [show ((0 : Nat) : Int) = 0 from rfl, Int.zero_add]
    exact xs_ fun k _ => by rw [Nat.zero_add]
  ·obtain rfl : i = 0 := by omega
   obtain rfl : j = 0 := by omega
   obtain rfl : l = 0 := by omega
   have e1 : t.length = 1 := by have := h.n1; omega
   rw [e1]
   have := hu 0 h.n1 0 h.n1
   simp only [sumTo]
   rw [this, av4, if_pos rfl, Int.one_mul, Int.zero_add]
   rfl
end
end Go.Pl
