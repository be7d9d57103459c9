import Derived.Test.YtmjcbgpbhlheoaaDoorQd3
import Derived.Test.YtmjcbgpbhlheoaaDoorQd1
import Derived.Test.YtmjcbgpbhlheoaaDoorPl5
set_option linter.unusedSimpArgs false
set_option linter.unusedVariables false
namespace Go.Pl
open Go.Aw
variable {t : Cu}
def nxW (t : Cu) (W : Nat → Int) (j : Nat) : Int := sumTo (fun i => sumTo (fun k => e3 t i j k * W k) t.length) t.length
def rsW (t : Cu) (i : Nat) (W : Nat → Int) (j : Nat) : Int := sumTo (fun k => e3 t i j k * W k) t.length
theorem DimF.row (h : RingP t) {d : Nat → Int} (hd : DimF t d) {i : Nat} (hi : i < t.length) (W : Nat → Int) :
  sumTo (fun j => d j * rsW t i W j) t.length = d i * sumTo (fun k => d k * W k) t.length := by
 have e1 : sumTo (fun j => d j * rsW t i W j) t.length = sumTo (fun j => sumTo (fun k => d j * (e3 t i j k * W k)) t.length) t.length := sum_congr fun j _ => cmul.symm
 rw [e1, sum_comm, ← cmul]
 refine sum_congr fun k hk => ?_
 have e2 : sumTo (fun j => d j * (e3 t i j k * W k)) t.length = sumTo (fun j => e3 t (dN t i) k j * d j) t.length * W k := by
  rw [← sum_mul]
  refine sum_congr fun j hj => ?_
  have := h.turn i hi j hj k hk
  rw [this, ← Int.mul_assoc, Int.mul_comm (d j)]
  rfl
 rw [e2, hd.mul _ (h.dlt hi) k hk, hd.dual h hi, Int.mul_assoc]
end Go.Pl
namespace Go.Pl
open Go.Aw
variable {t : Cu}
end Go.Pl
