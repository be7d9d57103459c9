import Derived.Test.YtmjcbgpbhlheoaaDoorLib7
import Derived.Test.YtmjcbgpbhlheoaaDoorTy
import Derived.Test.YtmjcbgpbhlheoaaDoorRows
import Derived.Test.YtmjcbgpbhlheoaaDoorQd4
import Derived.Laws.Externs
import Derived.Laws.BitsAllLaws
import Derived.Test.YtmjcbgpbhlheoaaDoorEx1
import Derived.Test.YtmjcbgpbhlheoaaDoorQd3
set_option linter.unusedSimpArgs false
set_option linter.unusedVariables false
namespace Go.Proofs.YtmjcbgpbhlheoaaDoor
open Go Go.Aw Go.RowKit
theorem run_f64bits (b : Nat) (w : World) : (callFunc 78 #[.float .f64 b]).run Tryd.prog w = .ok (.value (.int .u64 b)) w := by
 rw [run_callFunc_extern Tryd.func78 (by kernel_rfl) (by kernel_rfl) (by kernel_rfl) (e := Extern.MathFloatBits.float64bits) (by kernel_rfl)]
 rfl
theorem run_f64frombits (n : Int) (w : World) : (callFunc 79 #[.int .u64 n]).run Tryd.prog w = .ok (.value (.float .f64 n.toNat)) w := by
 rw [run_callFunc_extern Tryd.func79 (by kernel_rfl) (by kernel_rfl) (by kernel_rfl) (e := Extern.MathFloatBits.float64frombits) (by kernel_rfl)]
 rfl
attribute [local go_sem] run_f64bits run_f64frombits
set_option maxRecDepth 100000 in
theorem round_a (b e : Nat) (w : World) (h1 : bits BinOp.and IntKind.u64 ((b : Int) / 4503599627370496) 2047 = (e : Int)) (he : e < 1023) (he2 : (e : Int) ≠ 1022) (h2 : bits BinOp.and IntKind.u64 (b : Int) 9223372036854775808 = 0) :
  Calls Tryd.prog 68 #[.float .f64 b] w fun e w' => e = .returned (.float .f64 0) ∧ w' = w := by
 go_enter Tryd.func68, Tryd.ntmps68
 have c1 : ((e : Int) < 1023) := by omega
 go_wp2_with (simp only [h1, h2, c1, he2])
 go_ret
 exact ⟨rfl, rfl⟩
set_option maxRecDepth 100000 in
theorem round_b (b : Nat) (w : World) (h1 : bits BinOp.and IntKind.u64 ((b : Int) / 4503599627370496) 2047 = 1022) (h2 : bits BinOp.and IntKind.u64 (b : Int) 9223372036854775808 = 0) (h3 : bits BinOp.or IntKind.u64 0 4607182418800017408 = 4607182418800017408) :
  Calls Tryd.prog 68 #[.float .f64 b] w fun e w' => e = .returned (.float .f64 4607182418800017408) ∧ w' = w := by
 go_enter Tryd.func68, Tryd.ntmps68
 go_wp2_with (simp only [h1, h2, h3])
 go_ret
 exact ⟨rfl, rfl⟩
set_option maxRecDepth 100000 in
theorem round_c (b e : Nat) (w : World) (h1 : bits BinOp.and IntKind.u64 ((b : Int) / 4503599627370496) 2047 = (e : Int)) (he : 1023 ≤ e) (he2 : e < 1075) :
  Calls Tryd.prog 68 #[.float .f64 b] w fun x w' => x = .returned (.float .f64 (bits BinOp.andNot IntKind.u64 (((b : Int) + 2251799813685248 / 2 ^ ((e - 1023) % 18446744073709551616)) % 18446744073709551616) (4503599627370495 / 2 ^ ((e - 1023) % 18446744073709551616))).toNat) ∧ w' = w := by
 go_enter Tryd.func68, Tryd.ntmps68
 have c1 : ¬ ((e : Int) < 1023) := by omega
 have c2 : ((e : Int) < 1075) := by omega
 go_wp2_with (simp only [h1, c1, c2])
 go_ret
 exact ⟨rfl, rfl⟩
theorem clear_low (a t : Nat) (ha : a < 18446744073709551616) (ht : t ≤ 64) : a &&& (18446744073709551615 - (2 ^ t - 1)) = a / 2 ^ t * 2 ^ t := by
 have hp := Nat.two_pow_pos t
 have hle : 2 ^ t ≤ 2 ^ 64 := Nat.pow_le_pow_right (by decide) ht
 have e : 18446744073709551615 - (2 ^ t - 1) = 2 ^ 64 - ((2 ^ t - 1) + 1) := by omega
 rw [e]
 apply Nat.eq_of_testBit_eq
 intro i
 rw [Nat.testBit_and, Nat.testBit_two_pow_sub_succ (by omega), Nat.testBit_two_pow_sub_one, Nat.mul_comm, Nat.testBit_two_pow_mul, Nat.testBit_div_two_pow]
 by_cases h1 : t ≤ i
 ·have e1 : decide (t ≤ i) = true := decide_eq_true h1
  have e2 : decide (i < t) = false := decide_eq_false (by omega)
  rw [e1, e2, Bool.not_false, Bool.and_true, Bool.true_and, Nat.sub_add_cancel h1]
  by_cases h2 : i < 64
  ·rw [decide_eq_true h2, Bool.and_true]
  ·rw [decide_eq_false h2, Bool.and_false]
   symm
   exact Nat.testBit_lt_two_pow (Nat.lt_of_lt_of_le (show a < 2 ^ 64 from ha) (Nat.pow_le_pow_right (by decide) (by omega)))
 ·have e1 : decide (t ≤ i) = false := decide_eq_false h1
  have e2 : decide (i < t) = true := decide_eq_true (by omega)
  rw [e1, e2, Bool.not_true, Bool.and_false, Bool.and_false, Bool.false_and]
theorem round_key {b e : Nat} (h : b / 4503599627370496 = e) (he : 1023 ≤ e) (he2 : e < 1075) :
  (bits BinOp.andNot IntKind.u64 (((b : Int) + 2251799813685248 / 2 ^ ((e - 1023) % 18446744073709551616)) % 18446744073709551616) (4503599627370495 / 2 ^ ((e - 1023) % 18446744073709551616))).toNat = Fl.frnd b := by
 have e0 : (e - 1023) % 18446744073709551616 = e - 1023 := Nat.mod_eq_of_lt (by omega)
 obtain ⟨s, hs⟩ : ∃ s, e - 1023 = s := ⟨_, rfl⟩
 have hs2 : s < 52 := by omega
 have hp := Nat.two_pow_pos s
 have c1 : (4503599627370495 : Int) / 2 ^ s = ((2 ^ (52 - s) - 1 : Nat) : Int) := by
  have a1 : 2 ^ (52 - s) * 2 ^ s = 4503599627370496 := by rw [← Nat.pow_add, show 52 - s + s = 52 by omega]
  have a2 : 4503599627370495 / 2 ^ s = 2 ^ (52 - s) - 1 := by
   have hq := Nat.two_pow_pos (52 - s)
   generalize 2 ^ (52 - s) = q at *
   generalize 2 ^ s = p at *
   obtain ⟨q', rfl⟩ : ∃ q', q = q' + 1 := ⟨q - 1, by omega⟩
   rw [Nat.add_sub_cancel]
   refine Nat.div_eq_of_lt_le ?_ ?_
   ·rw [Nat.add_mul] at a1; omega
   ·rw [a1]; omega
  have a3 : ((4503599627370495 / 2 ^ s : Nat) : Int) = (4503599627370495 : Int) / 2 ^ s := by
   rw [Int.natCast_ediv, Int.natCast_pow]; rfl
  rw [← a3, a2]
 have c2 : (2251799813685248 : Int) / 2 ^ s = ((2251799813685248 / 2 ^ s : Nat) : Int) := by
  rw [Int.natCast_ediv, Int.natCast_pow]; rfl
 rw [e0, hs, c1, c2]
 have hle : 2251799813685248 / 2 ^ s ≤ 2251799813685248 := Nat.div_le_self _ _
 have hsum : b + 2251799813685248 / 2 ^ s < 18446744073709551616 := by
  generalize 2251799813685248 / 2 ^ s = x at hle
  omega
 have c3 : ((b : Int) + ((2251799813685248 / 2 ^ s : Nat) : Int)) % 18446744073709551616 = ((b + 2251799813685248 / 2 ^ s : Nat) : Int) := by
  generalize 2251799813685248 / 2 ^ s = x at *
  omega
 have hm : 2 ^ (52 - s) - 1 < 18446744073709551616 := by
  have : 2 ^ (52 - s) ≤ 2 ^ 52 := Nat.pow_le_pow_right (by decide) (by omega)
  have : (2 : Nat) ^ 52 = 4503599627370496 := by decide
  omega
 rw [c3, u64_andNot_nat _ _ hsum hm, Int.toNat_natCast, clear_low _ _ hsum (by omega)]
 unfold Fl.frnd
 rw [h, if_neg (by omega), if_pos he2, hs, show 1075 - e = 52 - s by omega]
theorem round_ok (b : Nat) (h : b / 4503599627370496 < 1075) : PureCall Tryd.prog 68 [.flt b] (.flt (Fl.frnd b)) := by
 refine ⟨Tryd.call68, fun vs w S hS hd => ?_⟩
 match vs, hd with
 | [v], hd =>
  obtain rfl : v = .float .f64 b := by have := hd.1; simpa only [Rd, rep] using this
  have hb : b < 2 ^ 63 := by omega
  have k1 : bits BinOp.and IntKind.u64 ((b : Int) / 4503599627370496) 2047 = ((b / 4503599627370496 : Nat) : Int) := by
   have a1 : (b : Int) / 4503599627370496 = ((b / 4503599627370496 : Nat) : Int) := by omega
   have a2 := u64_and_nat (b / 4503599627370496) 2047 (by omega) (by decide)
   have a3 : b / 4503599627370496 &&& 2047 = b / 4503599627370496 := by
    have := Nat.and_two_pow_sub_one_eq_mod (b / 4503599627370496) 11
    rw [Nat.mod_eq_of_lt (by omega)] at this
    exact this
   rw [a3] at a2
   rw [a1]
   exact a2
  have k2 : bits BinOp.and IntKind.u64 (b : Int) 9223372036854775808 = 0 := by
   have a2 := u64_and_nat b 9223372036854775808 (by omega) (by decide)
   have a3 : b &&& 9223372036854775808 = 0 := by
    show b &&& 2 ^ 63 = 0
    apply Nat.eq_of_testBit_eq
    intro i
    rw [Nat.testBit_and, Nat.testBit_two_pow, Nat.zero_testBit]
    by_cases hi : 63 = i
    ·subst hi
     rw [Nat.testBit_lt_two_pow hb, Bool.false_and]
    ·rw [decide_eq_false hi, Bool.and_false]
   rw [a3] at a2
   exact a2
  have key : Calls Tryd.prog 68 #[.float .f64 b] w fun e w' => e = .returned (.float .f64 (Fl.frnd b)) ∧ w' = w := by
   by_cases h1 : b / 4503599627370496 < 1023
   ·by_cases h2 : b / 4503599627370496 = 1022
    ·have := round_b b w (by rw [k1, h2]; rfl) k2 (by decide)
     have e : Fl.frnd b = 4607182418800017408 := by unfold Fl.frnd; rw [if_pos h1, if_pos h2]
     rw [e]
     exact this
    ·have := round_a b _ w k1 h1 (by omega) k2
     have e : Fl.frnd b = 0 := by unfold Fl.frnd; rw [if_pos h1, if_neg h2]
     rw [e]
     exact this
   ·have := round_c b _ w k1 (by omega) h
    rw [round_key rfl (by omega) h] at this
    exact this
  refine key.mono ?_
  rintro e w' ⟨rfl, rfl⟩
  exact ⟨_, rfl, Below.refl _ _, by simp only [Rd, rep]⟩
end Go.Proofs.YtmjcbgpbhlheoaaDoor
namespace Go.Aw
def fl (n : Nat) (f : Nat → Nat) : List AV := (List.range n).map fun j => .flt (f j)
theorem fl_length (n : Nat) (f : Nat → Nat) : (fl n f).length = n := by simp [fl]
theorem fl_get {n : Nat} {f : Nat → Nat} {j : Nat} (h : j < n) : (fl n f).getD j .junk = .flt (f j) := by
 simp [fl, List.getD, h]
theorem fl_set {n : Nat} {f : Nat → Nat} {j v : Nat} (h : j < n) : (fl n f).set j (.flt v) = fl n fun i => if i = j then v else f i := by
 apply List.ext_getElem?
 intro i
 rw [List.getElem?_set]
 unfold fl
 simp only [List.getElem?_map, List.length_map, List.length_range]
 by_cases hi : i < n
 ·rw [List.getElem?_range hi]
  by_cases e : j = i
  ·subst e
   simp [h]
  ·rw [if_neg e]
   simp [show ¬ i = j from fun h => e h.symm]
 ·have : (List.range n)[i]? = none := List.getElem?_eq_none (by simp; omega)
  rw [this]
  by_cases e : j = i
  ·omega
  ·rw [if_neg e]; simp
theorem areData_map (l : List Nat) (f : Nat → Nat) : areData (l.map fun j => .flt (f j)) = true := by
 induction l with
 | nil => rfl
 | cons a l ih => simp only [List.map_cons, areData, isData, Bool.true_and, ih]
theorem fl_data (n : Nat) (f : Nat → Nat) : areData (fl n f) = true := areData_map _ f
theorem fl_kill (q : Nat → List Nat → Bool) (n : Nat) (f : Nat → Nat) : killAs q (fl n f) = fl n f := killAs_data (fl_data n f)
theorem fl_rep (n v : Nat) : List.replicate n (AV.flt v) = fl n fun _ => v := by
 apply List.ext_getElem?
 intro i
 unfold fl
 rw [List.getElem?_replicate, List.getElem?_map]
 by_cases hi : i < n
 ·rw [if_pos hi, List.getElem?_range hi]; rfl
 ·rw [if_neg hi, List.getElem?_eq_none (by simp; omega)]; rfl
theorem fl_congr {n : Nat} {f f' : Nat → Nat} (h : ∀ j, j < n → f j = f' j) : fl n f = fl n f' := by
 unfold fl
 refine List.map_congr_left fun j hj => ?_
 rw [h j (List.mem_range.1 hj)]
end Go.Aw
namespace Go.Proofs.YtmjcbgpbhlheoaaDoor
open Go Go.Aw Go.Pl
attribute [local go_sem] pl_fin pl_stop pl_one pl_alt PK_ap pickO List.getElem?_toArray List.getElem?_cons_zero List.getElem?_cons_succ
def rpV (m k v : Nat) : List AV := List.replicate k (.flt v) ++ List.replicate (m - k) (.flt 0)
theorem rpV_length {m k v : Nat} (h : k ≤ m) : (rpV m k v).length = m := by simp [rpV]; omega
theorem rpV_take {m k v : Nat} : (rpV m k v).take k = List.replicate k (.flt v) := by simp [rpV]
theorem rpV_step {m k v : Nat} (h : k ≤ m) : cpL (rpV m k v) (((rpV m k v).take k).drop 0) k m = rpV m (k + min (m - k) k) v := by
 rw [rpV_take, List.drop_zero]
 unfold cpL
 rw [rpV_take, List.take_replicate, List.length_replicate]
 unfold rpV
 rw [List.drop_append, List.drop_replicate, List.drop_replicate, List.length_replicate, List.replicate_append_replicate]
 have e1 : k - (k + min (m - k) k) = 0 := by omega
 have e2 : m - k - (k + min (m - k) k - k) = m - (k + min (m - k) k) := by omega
 rw [e1, e2, List.replicate_zero, List.nil_append]
theorem areData_rep (k v : Nat) : areData (List.replicate k (.flt v)) = true := by rw [fl_rep]; exact fl_data k _
theorem areData_app {a b : List AV} (ha : areData a = true) (hb : areData b = true) : areData (a ++ b) = true := by
 induction a with
 | nil => exact hb
 | cons x a ih =>
  simp only [areData, Bool.and_eq_true, List.cons_append] at ha ⊢
  exact ⟨ha.1, ih ha.2⟩
theorem rpV_data (m k v : Nat) : areData (rpV m k v) = true := areData_app (areData_rep _ _) (areData_rep _ _)
theorem rpV_mem {m k v : Nat} {y : AV} (h : y ∈ rpV m k v) : ∃ b, y = .flt b := by
 unfold rpV at h
 rcases List.mem_append.1 h with h | h
 ·exact ⟨_, List.eq_of_mem_replicate h⟩
 ·exact ⟨_, List.eq_of_mem_replicate h⟩
theorem repeatF_ok (m v : Nat) (h1 : 1 ≤ m) (hm : m ≤ 16) : PureCall Tryd.prog 67 [.lv [.flt v], .int m] (.lv (fl m fun _ => v)) := by
 have h := mul_ok m hm
 have hw : (m : Int) % 18446744073709551616 = m := by omega
 refine PureCall.intro (n := 48) (rs := [.tmp 4]) Tryd.call67 Tryd.func67 rfl rfl rfl (by simp only [List.length_cons, List.length_nil]; omega) (fun cx hcx => ats_of ?_); simp only [argSlots, Nat.zero_add, Nat.reduceAdd]
 refine gB ?_
 refine gB ?_
 refine gI (fun hc1 => ?_) fun hc1 => ?_
 ·omega
 ·refine ats_skip ?_
  refine gC fun K hK => ?_
  simp only [hw]
  first | refine fcall_data (h) rfl ?_ | refine YR_intro (acall_data (h) rfl) ?_
  simp only [go_sem, seval]
  (repeat refine aI (hb := ?_))
  refine hK _ ?_; clear hK K
  refine gB ?_
  refine gI (fun hc2 => ?_) fun hc2 => ?_
  ·omega
  ·refine ats_skip ?_
   have e0 : cpL (List.replicate m (.flt 0)) [.flt v] 0 m = rpV m 1 v := by
    obtain ⟨k, rfl⟩ : ∃ k, m = k + 1 := ⟨m - 1, by omega⟩
    simp [cpL, rpV, List.replicate_succ]
   have em : min m 1 = 1 := by omega
   refine gB ?_
   refine gC fun K hK => ?_
   simp only [e0, em, List.length_replicate, List.length_cons, List.length_nil, Nat.zero_add]
   (repeat refine aI (hb := ?_))
   refine ⟨fun y hy => by rw [List.mem_singleton.1 hy]; rfl, fun y hy => by rw [List.mem_singleton.1 hy]; rfl, ?_⟩
   refine hK _ ?_; clear hK K
   (repeat refine ats_seq ?_); refine ats_loop (fun k : Nat => ⟨[(7, .ref 0 []), (8, .int k)], [(0, .lv (rpV m k v))]⟩) (fun k => 1 ≤ k ∧ k ≤ m) (fun k => m - k) 1 ⟨by omega, by omega⟩ (by
    refine And.intro ?_ rfl; simp only [leS, Nat.reduceEqDiff, ↓reduceIte, true_and, and_true]
    done) (fun k hk => ?_)
   have lk := rpV_length (m := m) (k := k) (v := v) (by omega)
   have ld : (((rpV m k v).take k).drop 0).length = k := by rw [rpV_take]; simp
   have sk := rpV_step (m := m) (k := k) (v := v) (by omega)
   have sd := rpV_data m k v
   have hy : ∀ hi, ∀ y ∈ ((rpV m k v).take hi).drop 0, ∃ b, y = .flt b := fun hi y hy => rpV_mem (List.mem_of_mem_take (by rw [List.drop_zero] at hy; exact hy))
   have sm : ∀ hi, memFrees (((rpV m k v).take hi).drop 0) := fun hi y h => by obtain ⟨b, rfl⟩ := hy hi y h; rfl
   have so : ∀ hi (H : List (Nat × Tree)), ∀ y ∈ ((rpV m k v).take hi).drop 0, oneA H y = true := fun hi H y h => by obtain ⟨b, rfl⟩ := hy hi y h; rfl
   refine gB ?_
   refine gI (fun hl => ?_) fun hl => ?_
   ·refine ats_skip ?_
    (repeat refine ats_seq ?_); refine ats_block ?_
    (repeat refine ats_seq ?_)
    refine ats_plan [] (.one 1 (.one 2 (.one 3 (.one 4 (.one 5 (.one 6 (.alt 0 (.alt 7 (.one 8 (.one 9 .fin)) .stop) (.alt 7 (.one 0 (.one 8 (.one 9 .fin))) .stop)))))))) ⟨[(7, .ref 0 []), (8, .int ((k : Int) + (min (m - k) k : Nat)))], [(0, .lv (rpV m (k + min (m - k) k) v))]⟩ (fix0 hcx) mixed (by kernel_rfl) (fun K hK => ?_) ?_
    ·simp only [go_sem, seval, Option.getD_some, and_true, true_and, and_self, List.contains_cons, List.contains_nil, Bool.or_false, Bool.or_true]
     repeat' (first | exact hK _ (by refine And.intro ?_ rfl; simp only [leS, Nat.reduceEqDiff, ↓reduceIte, true_and, and_true])  | with_reducible refine And.intro ?_ ?_ | omega | ((simp only [lk, ld, sk, sd, if_true, cutData, isL1, Option.bind_some, isLv])) | ((exact sm k)) | ((exact so k _)))
    refine ⟨k + min (m - k) k,  by omega, by omega, .inl ⟨by simp only [leS, Nat.reduceEqDiff, ↓reduceIte, true_and, and_true]; omega,  rfl⟩⟩
   ·obtain rfl : k = m := by omega
    refine ats_exit (lq_x ?_)
    refine gB ?_
    have er : rpV k k v = fl k fun _ => v := by simp [rpV, fl_rep]
    exact ats_ret (finV rfl ⟨rfl, trivial⟩ (by simp only [go_sem, er, fl_data, if_true]))
end Go.Proofs.YtmjcbgpbhlheoaaDoor
namespace Go.Pl
open Go.Aw Go.Fl
variable {t : Cu}
def gT (t : Cu) (i j k : Nat) : Nat := (e3 t i j k).toNat
theorem gT_eq (h : RingP t) {i j k : Nat} (hi : i < t.length) (hj : j < t.length) (hk : k < t.length) : e3 t i j k = (gT t i j k : Nat) := by
 have := h.nn hi hj hk
 unfold gT
 omega
theorem gT_ok (h : RingP t) : GOk (gT t) t.length 1000 := by
 have h16 := h.cube.2.1
 refine ⟨h.pos, ?_, by decide, fun i hi j hj k hk => ?_, fun j hj k hk => ?_⟩
 ·have : t.length * t.length ≤ 16 * 16 := Nat.mul_le_mul h16 h16
  omega
 ·have := h.cube.inM hi hj hk
  unfold InM at this
  have e := gT_eq h hi hj hk
  omega
 ·obtain ⟨i, hi, ho⟩ := h.oc_some hk (h.dlt hj)
  have := (h.oc_t2 hi hj hk).2 ho
  unfold Oc at this
  have e := gT_eq h hi hj hk
  exact ⟨i, hi, by omega⟩
def nj (t : Cu) (w : Nat → Nat) (i j : Nat) : Nat → Nat := fun a => if a < j then aj (gT t) w t.length a (i + 1) else aj (gT t) w t.length a i
def nk (t : Cu) (w : Nat → Nat) (i j k : Nat) : Nat → Nat := fun a => if a = j then ak (gT t) w i j (aj (gT t) w t.length j i) k else nj t w i j a
def nd (t : Cu) (w : Nat → Nat) (j : Nat) : Nat → Nat := fun a => if a < j then stp (gT t) t.length w a else aj (gT t) w t.length a t.length
theorem nj_zero (w : Nat → Nat) (i : Nat) : nj t w i 0 = fun a => aj (gT t) w t.length a i := by
 funext a; unfold nj; rw [if_neg (Nat.not_lt_zero a)]
theorem nk_zero (w : Nat → Nat) (i j : Nat) : nk t w i j 0 = nj t w i j := by
 funext a; unfold nk
 split
 ·rename_i e; subst e; unfold nj; rw [if_neg (Nat.lt_irrefl a)]; rfl
 ·rfl
theorem nk_done (w : Nat → Nat) (i j : Nat) : nk t w i j t.length = nj t w i (j + 1) := by
 funext a; unfold nk nj
 by_cases e : a = j
 ·subst e; rw [if_pos rfl, if_pos (Nat.lt_succ_self a)]; rfl
 ·rw [if_neg e]
  by_cases h : a < j
  ·rw [if_pos h, if_pos (by omega)]
  ·rw [if_neg h, if_neg (by omega)]
theorem nk_step (w : Nat → Nat) (i j k : Nat) : (fun a => if a = j then fA (ak (gT t) w i j (aj (gT t) w t.length j i) k) (Fl.pr (gT t) w i j k) else nk t w i j k a) = nk t w i j (k + 1) := by
 funext a; unfold nk
 by_cases e : a = j
 ·rw [if_pos e, if_pos e]; rfl
 ·rw [if_neg e, if_neg e, if_neg e]
theorem fl_end {n : Nat} {w : Nat → Nat} (i : Nat) (hn : t.length = n) : fl n (nj t w i n) = fl n fun a => aj (gT t) w t.length a (i + 1) :=
 fl_congr fun a ha => by unfold nj; rw [if_pos ha]
theorem nd_zero (w : Nat → Nat) : nd t w 0 = fun a => aj (gT t) w t.length a t.length := by
 funext a; unfold nd; rw [if_neg (Nat.not_lt_zero a)]
theorem nd_step (w : Nat → Nat) (j : Nat) : (fun a => if a = j then stp (gT t) t.length w j else nd t w j a) = nd t w (j + 1) := by
 funext a; unfold nd
 by_cases e : a = j
 ·subst e; rw [if_pos rfl, if_pos (Nat.lt_succ_self a)]
 ·rw [if_neg e]
  by_cases h : a < j
  ·rw [if_pos h, if_pos (by omega)]
  ·rw [if_neg h, if_neg (by omega)]
theorem fl_done {n : Nat} {w : Nat → Nat} (hn : t.length = n) : fl n (nd t w n) = fl n (stp (gT t) t.length w) :=
 fl_congr fun a ha => by unfold nd; rw [if_pos ha]
end Go.Pl
namespace Go.Proofs.YtmjcbgpbhlheoaaDoor
open Go Go.Aw Go.Pl Go.Fl
theorem fb_add (a b : Nat) : fbin .add a b = fA a b := rfl
theorem fb_mul (a b : Nat) : fbin .mul a b = fM a b := rfl
theorem fb_quo (a b : Nat) : fbin .quo a b = fQ a b := rfl
theorem fm_max (a b : Nat) : fmax a b = fX a b := rfl
theorem fto_I (a : Nat) : ftoI a = ftI a := rfl
attribute [local go_sem] fl_kill fl_length fb_add fb_mul fb_quo fm_max fto_I
theorem near_ok (t : Cu) (h : RingP t) : FreshCall Tryd.prog 54 [.agg [.l3 t]] (.l1 ((List.range t.length).map fun j => (dn (gT t) t.length j : Int))) := by
 have hG := gT_ok h
 have hc := h.cube
 have h16 := hc.2.1
 have h1 := hc.1
 have hR := repeatF_ok t.length 4607182418800017408 h1 h16
 refine FreshCall.intro (n := 110) (rs := [.tmp 2]) Tryd.call54 Tryd.func54 rfl rfl rfl (by simp only [List.length_cons, List.length_nil]; omega) (fun cx hcx => ats_of ?_); simp only [argSlots, Nat.zero_add, Nat.reduceAdd]
 refine gB ?_
 refine gB ?_
 refine gC fun K hK => ?_
 (repeat refine aI (hb := ?_))
 refine fcall_gone [1] (hR) (by simp [frzAs, frzA, find, killAs, killA]) rfl ?_; simp only [go_sem, seval]
 (repeat refine aI (hb := ?_))
 refine hK _ ?_; clear hK K
 refine gB ?_
 (repeat refine ats_seq ?_); refine ats_loop (fun s : Nat => ⟨[(1, .bptr 0 0), (3, .int t.length), (4, .lv (fl t.length (ww (gT t) t.length s))), (25, .int s)], [(0, .bx [.l3 t])]⟩) (fun s => s ≤ 3000) (fun s => 3000 - s) 0 (Nat.zero_le _) (by
  refine And.intro ?_ rfl; simp only [leS, Nat.reduceEqDiff, ↓reduceIte, true_and, and_true]
  exact ⟨rfl, rfl⟩) (fun s hs => ?_)
 have hW := ww_ok hG s
 have hS := step_ok hG hW
 generalize hw : ww (gT t) t.length s = w at *
 refine gB ?_
 generalize hN3 : (3000 : Int) = N3
 refine gI (fun hl => ?_) fun hl => ?_
 ·refine ats_skip ?_
  (repeat refine ats_seq ?_); refine ats_block ?_
  refine gB ?_
  rw [fl_rep]
  refine gB ?_
  (repeat refine ats_seq ?_); refine ats_loop (fun i : Nat => ⟨[(1, .bptr 0 0), (3, .int t.length), (4, .lv (fl t.length w)), (5, .ref 1 []), (6, .flt 0), (25, .int s), (30, .l3 t), (31, .int t.length), (32, .int i)], [(0, .bx [.l3 t]), (1, .lv (fl t.length fun a => aj (gT t) w t.length a i))]⟩) (fun i => i ≤ t.length) (fun i => t.length - i) 0 (Nat.zero_le _) (by
   refine And.intro ?_ rfl; simp only [leS, Nat.reduceEqDiff, ↓reduceIte, true_and, and_true]
   first | done | rfl) (fun i hi => ?_)
  refine gB ?_
  refine gI (fun hl2 => ?_) fun hl2 => ?_
  ·have hin : i < t.length := by omega
   have rl := (hc.2.2 i hin).1
   refine ats_skip ?_
   (repeat refine ats_seq ?_); refine ats_block ?_
   refine gB ?_
   refine gB ?_
   (repeat refine ats_seq ?_); refine ats_loop (fun j : Nat => ⟨[(1, .bptr 0 0), (3, .int t.length), (4, .lv (fl t.length w)), (5, .ref 1 []), (6, .flt 0), (25, .int s), (30, .l3 t), (31, .int t.length), (32, .int i), (36, .l2 (t.getD i [])), (37, .int t.length), (38, .int j)], [(0, .bx [.l3 t]), (1, .lv (fl t.length (nj t w i j)))]⟩) (fun j => j ≤ t.length) (fun j => t.length - j) 0 (Nat.zero_le _) (by
    rw [nj_zero]
    refine And.intro ?_ rfl; simp only [leS, Nat.reduceEqDiff, ↓reduceIte, true_and, and_true, rl]
    rfl) (fun j hj => ?_)
   refine gB ?_
   refine gI (fun hl3 => ?_) fun hl3 => ?_
   ·have hjn : j < t.length := by omega
    have rl2 : ((t.getD i []).getD j []).length = t.length := ((hc.2.2 i hin).2 j hjn).1
    refine ats_skip ?_
    (repeat refine ats_seq ?_); refine ats_block ?_
    refine gB ?_
    refine gB ?_
    (repeat refine ats_seq ?_); refine ats_loop (fun k : Nat => ⟨[(1, .bptr 0 0), (3, .int t.length), (4, .lv (fl t.length w)), (5, .ref 1 []), (6, .flt 0), (9, .int j), (25, .int s), (30, .l3 t), (31, .int t.length), (32, .int i), (36, .l2 (t.getD i [])), (37, .int t.length), (38, .int j), (43, .l1 ((t.getD i []).getD j [])), (44, .int t.length), (45, .int k)], [(0, .bx [.l3 t]), (1, .lv (fl t.length (nk t w i j k)))]⟩) (fun k => k ≤ t.length) (fun k => t.length - k) 0 (Nat.zero_le _) (by
     rw [nk_zero]
     refine And.intro ?_ rfl; simp only [leS, Nat.reduceEqDiff, ↓reduceIte, true_and, and_true, rl2]
     rfl) (fun k hk => ?_)
    refine gB ?_
    refine gI (fun hl4 => ?_) fun hl4 => ?_
    ·have hkn : k < t.length := by omega
     have eg := gT_eq h hin hjn hkn
     obtain ⟨p1, p2, p3⟩ := pr_ok hG hW hin hjn hkn
     obtain ⟨a1, a2⟩ := aj_ok hG hW hjn i (by omega)
     obtain ⟨a3, a4⟩ := ak_ok hG hW hin hjn a1 a2 k (by omega)
     obtain ⟨a5, -⟩ := fA_eq a3 p2
     have g1 : (fl t.length (nk t w i j k)).getD j .junk = .flt (ak (gT t) w i j (aj (gT t) w t.length j i) k) := by
      rw [fl_get hjn]
      unfold nk
      rw [if_pos rfl]
     have g2 : (fl t.length w).getD k .junk = .flt (w k) := fl_get hkn
     have g3 : (fl t.length (nk t w i j k)).set j (.flt (fA (ak (gT t) w i j (aj (gT t) w t.length j i) k) (Fl.pr (gT t) w i j k))) = fl t.length (nk t w i j (k + 1)) := by
      rw [fl_set hjn, nk_step]
     have g4 : fM (floatOfInt .f64 (gT t i j k : Int)) (w k) = Fl.pr (gT t) w i j k := rfl
     refine ats_skip ?_
     (repeat refine ats_seq ?_); refine ats_block ?_
     refine gB ?_
     (repeat refine ats_seq ?_); refine ats_pick (fix0 hcx) mixed (by kernel_rfl) fun K hK => ?_; simp only [go_sem, seval, g1, g2, eg, Int.toNat_natCast]
     rw [g4, g3]
     (repeat refine And.intro (by first | exact p1 | exact a5 | omega) ?_)
     refine hK _ ?_; clear hK K
     refine gB ?_
     refine ⟨k + 1,  by omega, by omega, .inl ⟨by simp only [leS, Nat.reduceEqDiff, ↓reduceIte, true_and, and_true]; omega,  rfl⟩⟩
    ·obtain rfl : k = t.length := by omega
     refine ats_exit (lq_x ?_)
     refine gB ?_
     refine ⟨j + 1,  by omega, by omega, .inl ⟨by simp only [leS, Nat.reduceEqDiff, ↓reduceIte, true_and, and_true]; omega,  (by rw [nk_done])⟩⟩
   ·obtain rfl : j = t.length := by omega
    refine ats_exit (lq_x ?_)
    refine gB ?_
    refine ⟨i + 1,  by omega, by omega, .inl ⟨by simp only [leS, Nat.reduceEqDiff, ↓reduceIte, true_and, and_true]; omega,  (by rw [fl_end i rfl])⟩⟩
  ·obtain rfl : i = t.length := by omega
   refine ats_exit (lq_x ?_)
   refine gB ?_
   obtain ⟨f, hf⟩ : ∃ f : Nat → Nat, (fun a => aj (gT t) w t.length a t.length) = f := ⟨_, rfl⟩
   have hfj : ∀ j, aj (gT t) w t.length j t.length = f j := fun j => congrFun hf j
   obtain ⟨m, hm1, hm2, hm3⟩ := aj_rng hG hW
   have hff : ∀ j, j < t.length → FinW (f j) ∧ 1 ≤ fv (f j) := fun j hj => by
    obtain ⟨q1, q2⟩ := hm3 j hj
    rw [← hfj]
    exact ⟨(aj_ok hG hW hj t.length (Nat.le_refl _)).1, (rng_in hm1 hm2 q1 q2).2.2⟩
   have hq := hS.quo
   have hst : ∀ j, stp (gT t) t.length w j = fQ (f j) (Fl.mx f t.length) := fun j => by unfold stp; rw [hf, hfj]
   simp only [hf, hfj] at hq
   rw [hf]
   (repeat refine ats_seq ?_); refine ats_loop (fun j : Nat => ⟨[(1, .bptr 0 0), (3, .int t.length), (5, .ref 1 []), (6, .flt (Fl.mx f j)), (25, .int s), (66, .ref 1 []), (67, .int t.length), (68, .int j)], [(0, .bx [.l3 t]), (1, .lv (fl t.length f))]⟩) (fun j => j ≤ t.length) (fun j => t.length - j) 0 (Nat.zero_le _) (by
    refine And.intro ?_ rfl; simp only [leS, Nat.reduceEqDiff, ↓reduceIte, true_and, and_true]
    exact ⟨rfl, rfl⟩) (fun j hj => ?_)
   refine gB ?_
   refine gI (fun hl3 => ?_) fun hl3 => ?_
   ·have hjn : j < t.length := by omega
    have g1 : (fl t.length f).getD j .junk = .flt (f j) := fl_get hjn
    obtain ⟨b1, -, -⟩ := mx_ok (f := f) j fun a ha => hff a (by omega)
    obtain ⟨b4, -⟩ := fX_eq b1 (hff j hjn).1
    refine ats_skip ?_
    (repeat refine ats_seq ?_); refine ats_block ?_
    (repeat refine ats_seq ?_); refine ats_go (fix0 hcx) fun K hK => ?_; simp only [go_sem, seval, g1, Int.toNat_natCast]
    (repeat refine aI (hb := ?_))
    refine hK _ ?_; clear hK K
    refine gC fun K hK => ?_
    (repeat refine And.intro (by first | exact b4 | omega) ?_)
    refine hK _ ?_; clear hK K
    refine gB ?_
    refine ⟨j + 1,  by omega, by omega, .inl ⟨by simp only [leS, Nat.reduceEqDiff, ↓reduceIte, true_and, and_true]; (exact ⟨rfl, rfl⟩),  rfl⟩⟩
   ·obtain rfl : j = t.length := by omega
    refine ats_exit (lq_x ?_)
    refine gB ?_
    have hnd : nd t w 0 = f := by rw [nd_zero, hf]
    (repeat refine ats_seq ?_); refine ats_loop (fun j : Nat => ⟨[(1, .bptr 0 0), (3, .int t.length), (5, .ref 1 []), (6, .flt (Fl.mx f t.length)), (25, .int s), (77, .int t.length), (78, .int j)], [(0, .bx [.l3 t]), (1, .lv (fl t.length (nd t w j)))]⟩) (fun j => j ≤ t.length) (fun j => t.length - j) 0 (Nat.zero_le _) (by
     rw [hnd]
     refine And.intro ?_ rfl; simp only [leS, Nat.reduceEqDiff, ↓reduceIte, true_and, and_true]
     rfl) (fun j hj => ?_)
    refine gB ?_
    refine gI (fun hl4 => ?_) fun hl4 => ?_
    ·have hjn : j < t.length := by omega
     have g1 : (fl t.length (nd t w j)).getD j .junk = .flt (f j) := by
      rw [fl_get hjn]
      unfold nd
      rw [if_neg (Nat.lt_irrefl j), hfj]
     have g3 : (fl t.length (nd t w j)).set j (.flt (fQ (f j) (Fl.mx f t.length))) = fl t.length (nd t w (j + 1)) := by
      rw [fl_set hjn, ← hst, nd_step]
     have b4 := hq j hjn
     refine ats_skip ?_
     (repeat refine ats_seq ?_); refine ats_block ?_
     refine gB ?_
     (repeat refine ats_seq ?_); refine ats_go (fix0 hcx) fun K hK => ?_; simp only [go_sem, seval, g1, Int.toNat_natCast]
     rw [g3]
     (repeat refine And.intro (by first | exact b4 | omega) ?_)
     refine hK _ ?_; clear hK K
     refine gB ?_
     refine ⟨j + 1,  by omega, by omega, .inl ⟨by simp only [leS, Nat.reduceEqDiff, ↓reduceIte, true_and, and_true]; omega,  rfl⟩⟩
    ·obtain rfl : j = t.length := by omega
     refine ats_exit (lq_x ?_)
     rw [fl_done rfl]
     refine gB ?_
     (repeat refine ats_seq ?_); refine AT.ghost (ghost_frz [1]) ?_; simp only [frzV, find, killA, killAs, qOf, rmT, killH, killT, List.map_cons, List.map_nil, List.filter_cons, List.filter_nil, List.contains_cons, List.contains_nil, Bool.or_false, Bool.or_true, Bool.false_and, Bool.not_true, Bool.not_false, Bool.false_eq_true, if_true, if_false, seval]
     simp only [fl_kill]
     refine gB ?_
     refine ⟨s + 1,  by omega, by omega, .inl ⟨by simp only [leS, Nat.reduceEqDiff, ↓reduceIte, true_and, and_true]; (rw [← hw]; exact ⟨rfl, rfl⟩),  rfl⟩⟩
 ·obtain rfl : s = 3000 := by omega
  refine ats_exit (lq_x ?_)
  refine gB ?_
  have hd : ∀ j, j < t.length → dq w j / 4503599627370496 < 1075 ∧ (floatToIntVal .f64 (frnd (dq w j)) .i64).isSome = true ∧ ftI (frnd (dq w j)) = (dn (gT t) t.length j : Nat) ∧ dn (gT t) t.length j ≤ 536870912 ∧ (floatBits .quo .f64 (w j) (w 0)).isSome = true := fun j hj => by
   obtain ⟨q1, q2, q3, q4⟩ := dq_ok h1 hW hj
   have q5 := dn_ok hG hj
   rw [hw] at q5
   exact ⟨lt_1075 (Nat.lt_of_le_of_lt q4 (Nat.pow_lt_pow_right (by decide) (by omega))), q5.1, q5.2.1, q5.2.2, q1⟩
  refine gB ?_
  (repeat refine ats_seq ?_); refine ats_loop (fun j : Nat => ⟨[(4, .lv (fl t.length w)), (16, .ref 1 []), (92, .lv (fl t.length w)), (93, .int t.length), (94, .int j)], [(0, .bx [.l3 t]), (1, .t1 ((List.range j).map fun a => (dn (gT t) t.length a : Int)))]⟩) (fun j => j ≤ t.length) (fun j => t.length - j) 0 (Nat.zero_le _) (by
   refine And.intro ?_ rfl; simp only [leS, Nat.reduceEqDiff, ↓reduceIte, true_and, and_true]
   rfl) (fun j hj => ?_)
  refine gB ?_
  refine gI (fun hl3 => ?_) fun hl3 => ?_
  ·have hjn : j < t.length := by omega
   have g1 : (fl t.length w).getD j .junk = .flt (w j) := fl_get hjn
   have g2 : (fl t.length w).getD 0 .junk = .flt (w 0) := fl_get h1
   obtain ⟨r1, r2, r3, r4, r5⟩ := hd j hjn
   have r6 : fQ (w j) (w 0) = dq w j := rfl
   refine ats_skip ?_
   (repeat refine ats_seq ?_); refine ats_block ?_
   (repeat refine ats_seq ?_); refine ats_go (fix0 hcx) fun K hK => ?_; simp only [go_sem, seval, g1, Int.toNat_natCast]
   (repeat refine aI (hb := ?_))
   refine hK _ ?_; clear hK K
   (repeat refine ats_seq ?_); refine ats_go (fix0 hcx) fun K hK => ?_; simp only [go_sem, seval, g2]
   (repeat refine And.intro (by first | exact r5 | omega) ?_)
   obtain ⟨x, hx⟩ : ∃ x, fQ (w j) (w 0) = x := ⟨_, rfl⟩
   have hxd : dq w j = x := hx
   rw [hxd] at r1 r2 r3
   rw [hx]
   first | refine fcall_data (round_ok x r1) rfl ?_ | refine YR_intro (acall_data (round_ok x r1) rfl) ?_
   simp only [go_sem, seval]
   rw [r3]
   have hr : ((List.range j).map fun a => (dn (gT t) t.length a : Int)) ++ [(dn (gT t) t.length j : Int)] = (List.range (j + 1)).map fun a => (dn (gT t) t.length a : Int) := by
    rw [List.range_succ, List.map_append]; rfl
   have hll : ((List.range j).map fun a => (dn (gT t) t.length a : Int)).length = j := by simp
   try rw [hr]
   refine And.intro (by kernel_rfl) ?_
   (repeat refine And.intro (by first | omega | (simp only [hll, List.length_cons, List.length_nil]; omega) | exact r2) ?_)
   refine hK _ ?_; clear hK K
   refine gB ?_
   refine ⟨j + 1, by omega, by omega, .inr ⟨[2], by simp only [killL, List.map_cons, List.map_nil, killA, killAs, qOf, rmT, killH, killT, List.filter_cons, List.filter_nil, List.contains_cons, List.contains_nil, SlotsLe, St.get, slotGet, Nat.reduceEqDiff, Nat.reduceBEq, Bool.or_false, Bool.or_true, Bool.false_and, Bool.not_true, Bool.not_false, Bool.false_eq_true, ↓reduceIte, if_true, if_false, AV.int.injEq, AV.bool.injEq, AV.l1.injEq, AV.l2.injEq, AV.l3.injEq, true_and, and_true]; (simp only [fl_kill, true_and]; omega), by simp only [killL, List.map_cons, List.map_nil, killA, killAs, qOf, rmT, killH, killT, List.filter_cons, List.filter_nil, List.contains_cons, List.contains_nil, SlotsLe, St.get, slotGet, Nat.reduceEqDiff, Nat.reduceBEq, Bool.or_false, Bool.or_true, Bool.false_and, Bool.not_true, Bool.not_false, Bool.false_eq_true, ↓reduceIte, if_true, if_false, AV.int.injEq, AV.bool.injEq, AV.l1.injEq, AV.l2.injEq, AV.l3.injEq, true_and, and_true]; (rw [List.range_succ])⟩⟩
  ·obtain rfl : j = t.length := by omega
   refine ats_exit (lq_x ?_)
   refine gB ?_
   exact ats_ret (ownV (is := [1]) rfl ⟨rfl, trivial⟩ rfl (by simp))
end Go.Proofs.YtmjcbgpbhlheoaaDoor
namespace Go.Pl
open Go.Aw Go.Fl
variable {t : Cu}
def mnL (xs : List Int) : Nat → Int
 | 0 => xs.getD 0 0
 | k + 1 => min (mnL xs k) (xs.getD (k + 1) 0)
theorem mnL_pos {xs : List Int} : ∀ {k : Nat}, 0 < mnL xs k ↔ ∀ j, j ≤ k → 0 < xs.getD j 0
 | 0 => ⟨fun h j hj => by
   obtain rfl : j = 0 := by omega
   exact h, fun h => h 0 (Nat.le_refl 0)⟩
 | k + 1 => by
  have ih := mnL_pos (xs := xs) (k := k)
  constructor
  ·intro h j hj
   have h' : 0 < min (mnL xs k) (xs.getD (k + 1) 0) := h
   by_cases e : j = k + 1
   ·subst e; omega
   ·exact ih.1 (by omega) j (by omega)
  ·intro h
   show 0 < min (mnL xs k) (xs.getD (k + 1) 0)
   have h1 := ih.2 fun j hj => h j (by omega)
   have h2 := h (k + 1) (Nat.le_refl _)
   omega
def dsum (t : Cu) (L : List Int) (i j : Nat) : Nat → Int := sumTo fun k => e3 t i j k * L.getD k 0
def DimP (t : Cu) (L : List Int) : Prop := (∀ i, i < t.length → ∀ j, j < t.length → dsum t L i j t.length = L.getD i 0 * L.getD j 0) ∧ ∀ j, j < t.length → 0 < L.getD j 0
def VB29 (n : Nat) (L : List Int) : Prop := L.length = n ∧ ∀ j, j < n → 0 ≤ L.getD j 0 ∧ L.getD j 0 ≤ 536870912
theorem dsum_le (hc : Cube t) {L : List Int} (hL : VB29 t.length L) {i j : Nat} (hi : i < t.length) (hj : j < t.length) {k : Nat} (hk : k ≤ t.length) : 0 ≤ dsum t L i j k ∧ dsum t L i j k ≤ k * 536870912000 := by
 unfold dsum
 refine sumTo_le fun a ha => ?_
 have h1 : 0 ≤ e3 t i j a ∧ e3 t i j a ≤ 1000 := hc.inM hi hj (show a < t.length by omega)
 have h2 := hL.2 a (by omega)
 refine ⟨Int.mul_nonneg h1.1 h2.1, ?_⟩
 have : e3 t i j a * L.getD a 0 ≤ 1000 * 536870912 := Int.mul_le_mul h1.2 h2.2 h2.1 (by decide)
 omega
theorem term_bd (hc : Cube t) {L : List Int} (hL : VB29 t.length L) {i j k : Nat} (hi : i < t.length) (hj : j < t.length) (hk : k < t.length) : 0 ≤ e3 t i j k * L.getD k 0 ∧ e3 t i j k * L.getD k 0 ≤ 536870912000 := by
 have h1 : 0 ≤ e3 t i j k ∧ e3 t i j k ≤ 1000 := hc.inM hi hj hk
 have h2 := hL.2 k hk
 refine ⟨Int.mul_nonneg h1.1 h2.1, ?_⟩
 have : e3 t i j k * L.getD k 0 ≤ 1000 * 536870912 := Int.mul_le_mul h1.2 h2.2 h2.1 (by decide)
 omega
theorem prod_bd {n : Nat} {L : List Int} (hL : VB29 n L) {i j : Nat} (hi : i < n) (hj : j < n) : 0 ≤ L.getD i 0 * L.getD j 0 ∧ L.getD i 0 * L.getD j 0 ≤ 288230376151711744 := by
 have h1 := hL.2 i hi
 have h2 := hL.2 j hj
 refine ⟨Int.mul_nonneg h1.1 h2.1, ?_⟩
 have : L.getD i 0 * L.getD j 0 ≤ 536870912 * 536870912 := Int.mul_le_mul h1.2 h2.2 h2.1 (by decide)
 omega
end Go.Pl
namespace Go.Proofs.YtmjcbgpbhlheoaaDoor
open Go Go.Aw Go.Pl Go.Fl
theorem min_ok (xs : List Int) (h : 1 ≤ xs.length) : PureCall Tryd.prog 69 [.l1 xs] (.int (mnL xs (xs.length - 1))) := by
 refine PureCall.intro (n := 25) (rs := [.tmp 2]) Tryd.call69 Tryd.func69 rfl rfl rfl (by simp only [List.length_cons, List.length_nil]; omega) (fun cx hcx => ats_of ?_); simp only [argSlots, Nat.zero_add, Nat.reduceAdd]
 refine gB ?_
 refine ats_know 0 fun h0 => ?_; simp only [St.get, slotGet, Nat.reduceEqDiff, ↓reduceIte, if_true, fact, facts] at h0
 have hlen := h0.1
 refine gB ?_
 refine gI (fun hc1 => ?_) fun hc1 => ?_
 ·omega
 ·refine ats_skip ?_
  refine gB ?_
  refine gB ?_
  (repeat refine ats_seq ?_); refine ats_loop (fun k : Nat => ⟨[(0, .l1 xs), (3, .int (mnL xs k)), (4, .int ((k : Int) + 1))], []⟩) (fun k => k + 1 ≤ xs.length) (fun k => xs.length - k) 0 (by omega) (by
   refine And.intro ?_ rfl; simp only [leS, Nat.reduceEqDiff, ↓reduceIte, true_and, and_true]
   exact ⟨rfl, rfl⟩) (fun k hk => ?_)
  refine gB ?_
  refine gI (fun hc3 => ?_) fun hc3 => ?_
  ·have tn : ((k : Int) + 1).toNat = k + 1 := by omega
   have em : (if xs.getD (k + 1) 0 < mnL xs k then xs.getD (k + 1) 0 else mnL xs k) = mnL xs (k + 1) := by
    show _ = min (mnL xs k) (xs.getD (k + 1) 0)
    split <;> omega
   refine ats_skip ?_
   (repeat refine ats_seq ?_); refine ats_block ?_
   refine gC fun K hK => ?_
   simp only [tn]
   first | rw [em] | (try rw [show min (mnL xs k) (xs.getD (k + 1) 0) = mnL xs (k + 1) from rfl])
   (repeat refine aI (hb := ?_))
   refine hK _ ?_; clear hK K
   refine gB ?_
   refine ⟨k + 1,  by omega, by omega, .inl ⟨?_, rfl⟩⟩; simp only [leS, Nat.reduceEqDiff, ↓reduceIte, true_and, and_true]
   omega
  ·have e : k = xs.length - 1 := by omega
   refine ats_exit (lq_x ?_)
   refine gB ?_
   refine ats_ret (finI rfl ?_)
   rw [e]
theorem isDim_ok (t : Cu) (hc : Cube t) (L : List Int) (hL : VB29 t.length L) : PureCall Tryd.prog 55 [.agg [.l3 t], .l1 L] (.bool (bd (DimP t L))) := by
 have h16 := hc.2.1
 have h1 := hc.1
 have hM := min_ok L (by rw [hL.1]; exact h1)
 refine PureCall.intro (n := 59) (rs := [.tmp 4]) Tryd.call55 Tryd.func55 rfl rfl rfl (by simp only [List.length_cons, List.length_nil]; omega) (fun cx hcx => ats_of ?_); simp only [argSlots, Nat.zero_add, Nat.reduceAdd]
 refine gB ?_
 refine gB ?_
 (repeat refine ats_seq ?_); refine ats_loop (fun i : Nat => ⟨[(1, .l1 L), (13, .l3 t), (14, .int t.length), (15, .int i)], [(0, .bx [.l3 t])]⟩) (fun i => i ≤ t.length ∧ ∀ a, a < i → ∀ b, b < t.length → dsum t L a b t.length = L.getD a 0 * L.getD b 0) (fun i => t.length - i) 0 ⟨Nat.zero_le _, fun a h => absurd h (Nat.not_lt_zero a)⟩ (by
  refine And.intro ?_ rfl; simp only [leS, Nat.reduceEqDiff, ↓reduceIte, true_and, and_true]
  rfl) (fun i hi => ?_)
 obtain ⟨hi, hI⟩ := hi
 refine gB ?_
 refine gI (fun hc2 => ?_) fun hc2 => ?_
 ·have hin : i < t.length := by omega
  have rl := (hc.2.2 i hin).1
  refine ats_skip ?_
  (repeat refine ats_seq ?_); refine ats_block ?_
  refine gB ?_
  refine gB ?_
  (repeat refine ats_seq ?_); refine ats_loop (fun j : Nat => ⟨[(1, .l1 L), (5, .int i), (13, .l3 t), (14, .int t.length), (15, .int i), (20, .l2 (t.getD i [])), (21, .int t.length), (22, .int j)], [(0, .bx [.l3 t])]⟩) (fun j => j ≤ t.length ∧ ∀ b, b < j → dsum t L i b t.length = L.getD i 0 * L.getD b 0) (fun j => t.length - j) 0 ⟨Nat.zero_le _, fun a h => absurd h (Nat.not_lt_zero a)⟩ (by
   refine And.intro ?_ rfl; simp only [leS, Nat.reduceEqDiff, ↓reduceIte, true_and, and_true, rl]
   rfl) (fun j hj => ?_)
  obtain ⟨hj, hJ⟩ := hj
  refine gB ?_
  refine gI (fun hc4 => ?_) fun hc4 => ?_
  ·have hjn : j < t.length := by omega
   have rl2 : ((t.getD i []).getD j []).length = t.length := ((hc.2.2 i hin).2 j hjn).1
   refine ats_skip ?_
   (repeat refine ats_seq ?_); refine ats_block ?_
   refine gB ?_
   refine gB ?_
   refine gB ?_
   (repeat refine ats_seq ?_); refine ats_loop (fun k : Nat => ⟨[(1, .l1 L), (5, .int i), (7, .int j), (9, .int (dsum t L i j k)), (13, .l3 t), (14, .int t.length), (15, .int i), (20, .l2 (t.getD i [])), (21, .int t.length), (22, .int j), (27, .l1 ((t.getD i []).getD j [])), (28, .int t.length), (29, .int k)], [(0, .bx [.l3 t])]⟩) (fun k => k ≤ t.length) (fun k => t.length - k) 0 (Nat.zero_le _) (by
    refine And.intro ?_ rfl; simp only [leS, Nat.reduceEqDiff, ↓reduceIte, true_and, and_true, rl2]
    exact ⟨rfl, rfl⟩) (fun k hk => ?_)
   refine gB ?_
   refine gI (fun hc6 => ?_) fun hc6 => ?_
   ·have hkn : k < t.length := by omega
    have b1 := dsum_le hc hL hin hjn hk
    have b2 : 0 ≤ ((t.getD i []).getD j []).getD k 0 * L.getD k 0 ∧ ((t.getD i []).getD j []).getD k 0 * L.getD k 0 ≤ 536870912000 := term_bd hc hL hin hjn hkn
    have lL := hL.1
    have es : dsum t L i j k + e3 t i j k * L.getD k 0 = dsum t L i j (k + 1) := rfl
    refine ats_skip ?_
    (repeat refine ats_seq ?_); refine ats_block ?_
    refine gB ?_
    refine gC fun K hK => ?_
    (repeat refine aI (hb := ?_))
    refine hK _ ?_; clear hK K
    refine gB ?_
    refine ⟨k + 1,  by omega, by omega, .inl ⟨by simp only [leS, Nat.reduceEqDiff, ↓reduceIte, true_and, and_true]; (exact ⟨es, rfl⟩),  rfl⟩⟩
   ·obtain rfl : k = t.length := by omega
    have b1 := dsum_le hc hL hin hjn (Nat.le_refl t.length)
    have b2 := prod_bd hL hin hjn
    have lL := hL.1
    refine ats_exit (lq_x ?_)
    (repeat refine ats_seq ?_); refine ats_pick (fix0 hcx) mixed (by kernel_rfl) fun K hK => ?_; simp only [go_sem, seval]; (repeat refine aI (hb := ?_)); refine hK _ ?_; clear hK K
    refine gI (fun hc7 => ?_) fun hc7 => ?_
    ·refine gB ?_
     refine ats_ret (finB rfl ?_)
     symm
     refine bd_false fun hd => ?_
     have := hd.1 i hin j hjn
     first | exact hc7 this | omega
    ·refine ats_skip ?_
     refine gB ?_
     refine ⟨j + 1,  ⟨by omega, fun b hb => by rcases Nat.lt_succ_iff_lt_or_eq.1 hb with h | rfl; exact hJ b h; first | exact Decidable.not_not.1 hc7 | omega⟩, by omega, .inl ⟨by simp only [leS, Nat.reduceEqDiff, ↓reduceIte, true_and, and_true]; omega,  rfl⟩⟩
  ·obtain rfl : j = t.length := by omega
   refine ats_exit (lq_x ?_)
   refine gB ?_
   refine ⟨i + 1,  ⟨by omega, fun a ha => by rcases Nat.lt_succ_iff_lt_or_eq.1 ha with h | rfl; exact hI a h; exact hJ⟩, by omega, .inl ⟨by simp only [leS, Nat.reduceEqDiff, ↓reduceIte, true_and, and_true]; omega,  rfl⟩⟩
 ·obtain rfl : i = t.length := by omega
  refine ats_exit (lq_x ?_)
  refine gC fun K hK => ?_
  (repeat refine aI (hb := ?_))
  first | refine fcall_data (hM) rfl ?_ | refine YR_intro (acall_data (hM) rfl) ?_
  simp only [go_sem, seval]
  (repeat refine aI (hb := ?_))
  refine hK _ ?_; clear hK K
  refine ats_ret (finB rfl ?_)
  have lL := hL.1
  by_cases hd : DimP t L
  ·rw [bd_true hd]
   exact decide_eq_true (mnL_pos.2 fun j hj => hd.2 j (by omega))
  ·rw [bd_false hd]
   exact decide_eq_false fun hp => hd ⟨hI, fun j hj => mnL_pos.1 hp j (by omega)⟩
def dnL (t : Cu) : List Int := (List.range t.length).map fun j => (dn (gT t) t.length j : Int)
theorem dnL_get {t : Cu} {j : Nat} (h : j < t.length) : (dnL t).getD j 0 = (dn (gT t) t.length j : Int) := by
 simp [dnL, List.getD, h]
theorem dnL_bd {t : Cu} (h : RingP t) : VB29 t.length (dnL t) := by
 refine ⟨by simp [dnL], fun j hj => ?_⟩
 rw [dnL_get hj]
 have := (dn_ok (gT_ok h) hj).2.2
 omega
noncomputable def idF (t : Cu) : Option (List Int) := if bd (DimP t (dnL t)) = true then some (dnL t) else none
theorem intDim_ok (t : Cu) (h : RingP t) : FreshCall Tryd.prog 35 [.agg [.l3 t]] (optA (idF t)) := by
 have hN := near_ok t h
 have hD := isDim_ok t h.cube (dnL t) (dnL_bd h)
 rw [show ((List.range t.length).map fun j => (dn (gT t) t.length j : Int)) = dnL t from rfl] at hN
 cases hb : bd (DimP t (dnL t)) with
 | true =>
  rw [hb] at hD
  have e : idF t = some (dnL t) := by unfold idF; rw [hb]; rfl
  rw [e]
  refine FreshCall.intro (n := 11) (rs := [.tmp 2]) Tryd.call35 Tryd.func35 rfl rfl rfl (by simp only [List.length_cons, List.length_nil]; omega) (fun cx hcx => ats_of ?_); simp only [argSlots, Nat.zero_add, Nat.reduceAdd]
  refine gB ?_
  refine gC fun K hK => ?_
  refine fcall_own rfl (hN) rfl ?_; simp only [go_sem, seval]
  (repeat refine aI (hb := ?_))
  refine hK _ ?_; clear hK K
  refine gC fun K hK => ?_
  first | refine fcall_free rfl rfl (hD) ?_ | refine YR_intro (acall_free rfl rfl (hD)) ?_
  simp only [go_sem, seval]
  (repeat refine aI (hb := ?_))
  refine hK _ ?_; clear hK K
  (repeat refine ats_seq ?_); refine ats_no rfl trivial ?_
  refine ats_skip ?_
  refine gB ?_
  exact ats_ret (ownV (is := [1]) rfl ⟨rfl, trivial⟩ rfl (by simp))
 | false =>
  rw [hb] at hD
  have e : idF t = none := by unfold idF; rw [hb]; rfl
  rw [e]
  refine FreshCall.intro (n := 11) (rs := [.tmp 2]) Tryd.call35 Tryd.func35 rfl rfl rfl (by simp only [List.length_cons, List.length_nil]; omega) (fun cx hcx => ats_of ?_); simp only [argSlots, Nat.zero_add, Nat.reduceAdd]
  refine gB ?_
  refine gC fun K hK => ?_
  refine fcall_own rfl (hN) rfl ?_; simp only [go_sem, seval]
  (repeat refine aI (hb := ?_))
  refine hK _ ?_; clear hK K
  refine gC fun K hK => ?_
  first | refine fcall_free rfl rfl (hD) ?_ | refine YR_intro (acall_free rfl rfl (hD)) ?_
  simp only [go_sem, seval]
  (repeat refine aI (hb := ?_))
  refine hK _ ?_; clear hK K
  (repeat refine ats_seq ?_); refine ats_yes rfl trivial ?_
  refine gB ?_
  exact ats_ret (ownV (is := []) rfl ⟨rfl, trivial⟩ rfl (by simp))
noncomputable def idR (t : Cu) : Option (List Int) × Int := if isRing t = true then (if bd (DimP t (dnL t)) = true then (some (dnL t), 0) else (none, 4)) else (none, 1)
theorem implId_ok (t : Cu) : FreshCall Tryd.prog 17 [.agg [.l3 t]] (.tup [optA (idR t).1, .int (idR t).2]) := by
 have h0 := IsRing_ok t
 cases hr : isRing t with
 | false =>
  rw [hr] at h0
  have e : idR t = (none, 1) := by unfold idR; rw [hr]; rfl
  rw [e]
  refine FreshCall.intro (n := 13) (rs := [.tmp 2, .tmp 3]) Tryd.call17 Tryd.func17 rfl rfl rfl (by simp only [List.length_cons, List.length_nil]; omega) (fun cx hcx => ats_of ?_); simp only [argSlots, Nat.zero_add, Nat.reduceAdd]
  refine gB ?_
  refine gC fun K hK => ?_
  first | refine fcall_data (h0) rfl ?_ | refine YR_intro (acall_data (h0) rfl) ?_
  simp only [go_sem, seval]
  refine hK _ ?_; clear hK K
  (repeat refine ats_seq ?_); refine ats_yes rfl trivial ?_
  refine gB ?_
  exact ats_ret (own2 (is := []) trivial trivial rfl (by simp))
 | true =>
  rw [hr] at h0
  have h := isRing_P hr
  have hI := intDim_ok t h
  have hl := (dnL_bd h).1
  have hp := h.pos
  cases hb : bd (DimP t (dnL t)) with
  | true =>
   have e1 : idF t = some (dnL t) := by unfold idF; rw [hb]; rfl
   rw [e1] at hI
   have e : idR t = (some (dnL t), 0) := by unfold idR; rw [hr, hb]; rfl
   rw [e]
   refine FreshCall.intro (n := 13) (rs := [.tmp 2, .tmp 3]) Tryd.call17 Tryd.func17 rfl rfl rfl (by simp only [List.length_cons, List.length_nil]; omega) (fun cx hcx => ats_of ?_); simp only [argSlots, Nat.zero_add, Nat.reduceAdd]
   refine gB ?_
   refine gC fun K hK => ?_
   first | refine fcall_data (h0) rfl ?_ | refine YR_intro (acall_data (h0) rfl) ?_
   simp only [go_sem, seval]
   refine hK _ ?_; clear hK K
   (repeat refine ats_seq ?_); refine ats_no rfl trivial ?_
   refine ats_skip ?_
   refine gC fun K hK => ?_
   refine fcall_own rfl (hI) rfl ?_; simp only [go_sem, seval]
   (repeat refine aI (hb := ?_))
   refine hK _ ?_; clear hK K
   refine gB ?_
   (repeat refine ats_seq ?_); refine ats_no rfl trivial ?_
   refine ats_skip ?_
   refine gB ?_
   exact ats_ret (own2 (is := [1]) trivial trivial rfl (by simp))
  | false =>
   have e1 : idF t = none := by unfold idF; rw [hb]; rfl
   rw [e1] at hI
   have e : idR t = (none, 4) := by unfold idR; rw [hr, hb]; rfl
   rw [e]
   refine FreshCall.intro (n := 13) (rs := [.tmp 2, .tmp 3]) Tryd.call17 Tryd.func17 rfl rfl rfl (by simp only [List.length_cons, List.length_nil]; omega) (fun cx hcx => ats_of ?_); simp only [argSlots, Nat.zero_add, Nat.reduceAdd]
   refine gB ?_
   refine gC fun K hK => ?_
   first | refine fcall_data (h0) rfl ?_ | refine YR_intro (acall_data (h0) rfl) ?_
   simp only [go_sem, seval]
   refine hK _ ?_; clear hK K
   (repeat refine ats_seq ?_); refine ats_no rfl trivial ?_
   refine ats_skip ?_
   refine gC fun K hK => ?_
   refine fcall_own rfl (hI) rfl ?_; simp only [go_sem, seval]
   (repeat refine aI (hb := ?_))
   refine hK _ ?_; clear hK K
   refine gB ?_
   (repeat refine ats_seq ?_); refine ats_yes rfl trivial ?_
   refine gB ?_
   exact ats_ret (own2 (is := []) trivial trivial rfl (by simp))
end Go.Proofs.YtmjcbgpbhlheoaaDoor
