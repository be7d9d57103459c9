import Derived.Test.YtaijdhkjemffhaaHq
set_option linter.unusedSimpArgs false
set_option linter.unusedVariables false
namespace Go.Proofs.Ytaijdhkjemffhaa
open Go Go.Aw Go.Pl
def szK (o : List Int) (_m : Int) (w : List (List (List Int))) (l : Int) : Int := szC o w l
def totK (o : List Int) (_m : Int) (w : List (List (List Int))) : Nat := totC o w
def SmallK (o : List Int) (w : List (List (List Int))) : Prop := o.length ≤ 1048576 ∧ Small3 w
theorem szK_ok (o : List Int) (m : Int) (w : List (List (List Int))) (l : Int) (hl : 0 ≤ l) : szK o m w l = -1 ∨ (0 ≤ szK o m w l ∧ szK o m w l ≤ l) := szC_ok o w l hl
theorem szK_small {o : List Int} {m : Int} {w : List (List (List Int))} {l : Int} (hl : l ≤ 1048576) (h : ¬ szK o m w l < 0) (h0 : 0 ≤ l) : SmallK o w ∧ (totK o m w : Nat) ≤ l := by
  have hC := szC_ok o w l h0
  have h' : ¬ szC o w l < 0 := h
  obtain ⟨⟨a1, a2, -⟩, a3⟩ := szB_small (m := m) (c := []) hl (by
    unfold szB
    rw [if_neg h']
    show ¬ sz2 [] (szC o w l) < 0
    have e : sz2 [] (szC o w l) = szC o w l := by
      unfold sz2
      simp [sz0, szs] <;> omega
    rw [e]; exact h') h0
  refine ⟨⟨a1, a2⟩, ?_⟩
  unfold totB at a3
  unfold totK
  omega
theorem szCoc_ok (o : List Int) (m : Int) (w : List (List (List Int))) (l : Int) (hl : 0 ≤ l) : PureCall Try.prog 5 [.agg [.l1 o, .int m, .l3 w], .int l] (.int (szK o m w l)) := szCocycle_ok o m w l hl
theorem toCoc_ok (o : List Int) (m : Int) (w : List (List (List Int))) (h : SmallK o w) : FreshCall Try.prog 7 [.agg [.l1 o, .int m, .l3 w]] (.agg [.l1 o, .int m, .l3 w]) := toCocycle_ok o m w h.1 h.2
theorem markCoc_ok (o : List Int) (m : Int) (w : List (List (List Int))) (k : Int) (h0 : 0 ≤ k) (h1 : k + (totK o m w : Nat) ≤ 9223372036854775807) : TurnCall Try.prog 13 [.agg [.ref 0 [], .int m, .ref 1 []], .int k] [(0, .t1 o), (1, .t3 w)] [(0, .t1 (mrk1 o k)), (1, .t3 (mrk3 w (k + (o.length : Nat))))] (.int (k + (totK o m w : Nat))) := markCocycle_ok o m w k h0 h1
section
variable {H : Type} {enc : TypeId × Value → H} {W : World} {base : Nat} {v : Value} {d : DataW H} {p : List MemPlace}
open Go.ChangeShapes Go.WideShapes Go.ChangeAt Go.RowKit
set_option maxRecDepth 100000 in
theorem rdCocycle (hv : Value.okWide Try.prog W .any base 25 v) (h : DataW.Trod enc Try.prog W 0 (fun _ => true) true 25 v d p) : ∃ o m w, Rd W (lower W) (.agg [.l1 o, .int m, .l3 w]) v := by
  obtain ⟨us, rfl, hl, n, hf⟩ := rdStruct Try.underlying25 hv h
  rw [show Go.Program.cellsOf Try.prog 25 = 3 by kernel_rfl] at hl
  match us, hl with
  | [a, b, c], _ =>
    obtain ⟨z0, g0⟩ := hf 0 _ rfl
    obtain ⟨z1, g1⟩ := hf 1 _ rfl
    obtain ⟨z2, g2⟩ := hf 2 _ rfl
    replace g0 : DataW.trod enc Try.prog W 0 (fun _ => true) true n 22 (([a, b, c].drop 0).take (Go.Program.cellsOf Try.prog 22)) = some z0 := g0
    replace g1 : DataW.trod enc Try.prog W 0 (fun _ => true) true n 2 (([a, b, c].drop 1).take (Go.Program.cellsOf Try.prog 2)) = some z1 := g1
    replace g2 : DataW.trod enc Try.prog W 0 (fun _ => true) true n 23 (([a, b, c].drop 2).take (Go.Program.cellsOf Try.prog 23)) = some z2 := g2
    rw [ck22] at g0
    rw [ck2] at g1
    rw [ck23] at g2
    obtain ⟨o, ho⟩ := rd1 Try.underlying22 Try.underlying2 ck2 n a z0 g0
    obtain ⟨m, hm, _, hw⟩ := DataW.trod_int Try.underlying2 g1
    obtain ⟨w, hw3⟩ := rd3 Try.underlying23 ck33 Try.underlying33 ck22 Try.underlying22 Try.underlying2 ck2 n c z2 g2
    have em : b = .int .i64 m := List.singleton_inj.1 hm
    refine ⟨o, m, w, ?_⟩
    simp only [Rd, rep]
    exact ⟨[a, b, c], rfl, by simp only [reps, rep]; exact ⟨a, _, rfl, ho, b, _, rfl, ⟨em, inR_of hw⟩, c, _, rfl, hw3, rfl⟩⟩
end
end Go.Proofs.Ytaijdhkjemffhaa
