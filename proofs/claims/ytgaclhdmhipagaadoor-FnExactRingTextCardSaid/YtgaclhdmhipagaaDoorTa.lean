/-
  strings.Join and strconv.FormatInt as contracts: the shelf's own walks at this program.
-/
import Derived.Test.YtgaclhdmhipagaaDoorLib7
import Derived.Test.YtgaclhdmhipagaaDoorTy
import Derived.Test.YtgaclhdmhipagaaDoorPlHa
import Derived.Shelf.LaysM
import Derived.Shelf.Strings.OnBuilder
import Derived.Shelf.Strconv.Itoa4
import Derived.Lib.LaidTab
set_option linter.unusedSimpArgs false
set_option linter.unusedVariables false
namespace Go.Proofs
open Go.Shelf
def Tryd.lays156_ren : Go.Shelf.Ren := ⟨fun | 156 => 25 | 165 => 40 | 166 => 41 | 169 => 42 | 240 => 52 | 241 => 53 | 276 => 56 | 277 => 57 | n => n, fun | 31 => 45 | 9 => 9 | 3 => 3 | 4 => 4 | 0 => 0 | 20 => 20 | 72 => 62 | 76 => 66 | 70 => 60 | 37 => 53 | 75 => 65 | 127 => 78 | 164 => 80 | 5 => 5 | 80 => 68 | n => n, fun | n => n⟩
theorem Tryd.lays156 : Go.Proofs.Lays.n156 Tryd.prog Tryd.lays156_ren := {
  mixed := by kernel_rfl
  f156 := Tryd.func25.trans (congrArg some (by kernel_rfl))
  f165 := Tryd.func40.trans (congrArg some (by kernel_rfl))
  f166 := Tryd.func41.trans (congrArg some (by kernel_rfl))
  f169 := Tryd.func42.trans (congrArg some (by kernel_rfl))
  f240 := Tryd.func52.trans (congrArg some (by kernel_rfl))
  f241 := Tryd.func53.trans (congrArg some (by kernel_rfl))
  f276 := Tryd.func56.trans (congrArg some (by kernel_rfl))
  f277 := Tryd.func57.trans (congrArg some (by kernel_rfl))
  t0 := Tryd.underlying0
  a0 := Tryd.isAgg0
  z0 := Tryd.sizeOf0
  v0 := Tryd.zeroValue0
  t3 := Tryd.underlying3
  a3 := Tryd.isAgg3
  z3 := Tryd.sizeOf3
  v3 := Tryd.zeroValue3
  t4 := Tryd.underlying4
  a4 := Tryd.isAgg4
  z4 := Tryd.sizeOf4
  v4 := Tryd.zeroValue4
  t9 := Tryd.underlying9
  a9 := Tryd.isAgg9
  z9 := Tryd.sizeOf9
  v9 := Tryd.zeroValue9
  t20 := Tryd.underlying20
  a20 := Tryd.isAgg20
  z20 := Tryd.sizeOf20
  v20 := Tryd.zeroValue20
  t31 := Tryd.underlying45
  a31 := Tryd.isAgg45
  z31 := Tryd.sizeOf45
  v31 := Tryd.zeroValue45
  t37 := Tryd.underlying53
  a37 := Tryd.isAgg53
  z37 := Tryd.sizeOf53
  v37 := Tryd.zeroValue53
  t70 := Tryd.underlying60
  a70 := Tryd.isAgg60
  z70 := Tryd.sizeOf60
  v70 := Tryd.zeroValue60
  t72 := Tryd.underlying62
  a72 := Tryd.isAgg62
  z72 := Tryd.sizeOf62
  v72 := Tryd.zeroValue62
  t75 := Tryd.underlying65
  a75 := Tryd.isAgg65
  z75 := Tryd.sizeOf65
  v75 := Tryd.zeroValue65
  t76 := Tryd.underlying66
  a76 := Tryd.isAgg66
  z76 := Tryd.sizeOf66
  v76 := Tryd.zeroValue66
  t127 := Tryd.underlying78
  a127 := Tryd.isAgg78
  z127 := Tryd.sizeOf78
  v127 := Tryd.zeroValue78
  t164 := Tryd.underlying80
  a164 := Tryd.isAgg80
  z164 := Tryd.sizeOf80
  v164 := Tryd.zeroValue80 }
theorem Tryd.Builder_Extra_156 : Builder.Extra Tryd.prog Tryd.lays156_ren := {
  sizeBuilder := by kernel_rfl
  liesBuilder := by kernel_rfl
  t5 := Tryd.underlying5
  a5 := Tryd.isAgg5
  z5 := Tryd.sizeOf5
  v5 := Tryd.zeroValue5
  infoByte := by kernel_rfl
  cellsByte := by kernel_rfl
  sizeByte := by kernel_rfl
  neB5 := by decide }
def Tryd.laysM173_ren : Go.Shelf.Ren := ⟨fun | 173 => 51 | 246 => 55 | 283 => 58 | 284 => 59 | 285 => 60 | 286 => 61 | 129 => 63 | 317 => 62 | 318 => 64 | 319 => 65 | 320 => 66 | 337 => 67 | 338 => 68 | n => n, fun | 2 => 2 | 3 => 3 | 9 => 9 | 4 => 4 | 171 => 84 | 0 => 0 | 53 => 85 | 37 => 53 | 5 => 5 | 173 => 88 | 212 => 91 | 51 => 92 | 20 => 20 | 213 => 93 | 46 => 95 | 232 => 98 | 233 => 99 | n => n, fun | 17 => 1 | 18 => 2 | 19 => 3 | n => n⟩
theorem Tryd.laysM173 : Go.Proofs.LaysM.n173 Tryd.prog Tryd.laysM173_ren := {
  mixed := by kernel_rfl
  f129 := Tryd.func63.trans (congrArg some (by kernel_rfl))
  f173 := Tryd.func51.trans (congrArg some (by kernel_rfl))
  f246 := Tryd.func55.trans (congrArg some (by kernel_rfl))
  f283 := Tryd.func58.trans (congrArg some (by kernel_rfl))
  f284 := Tryd.func59.trans (congrArg some (by kernel_rfl))
  f285 := Tryd.func60.trans (congrArg some (by kernel_rfl))
  f286 := Tryd.func61.trans (congrArg some (by kernel_rfl))
  f317 := Tryd.func62.trans (congrArg some (by kernel_rfl))
  f318 := Tryd.func64.trans (congrArg some (by kernel_rfl))
  f319 := Tryd.func65.trans (congrArg some (by kernel_rfl))
  f320 := Tryd.func66.trans (congrArg some (by kernel_rfl))
  f337 := Tryd.func67.trans (congrArg some (by kernel_rfl))
  f338 := Tryd.func68.trans (congrArg some (by kernel_rfl))
  t0 := Tryd.underlying0
  a0 := Tryd.isAgg0
  z0 := Tryd.sizeOf0
  v0 := Tryd.zeroValue0
  t2 := Tryd.underlying2
  a2 := Tryd.isAgg2
  z2 := Tryd.sizeOf2
  v2 := Tryd.zeroValue2
  t3 := Tryd.underlying3
  a3 := Tryd.isAgg3
  z3 := Tryd.sizeOf3
  v3 := Tryd.zeroValue3
  t4 := Tryd.underlying4
  a4 := Tryd.isAgg4
  z4 := Tryd.sizeOf4
  v4 := Tryd.zeroValue4
  t5 := Tryd.underlying5
  a5 := Tryd.isAgg5
  z5 := Tryd.sizeOf5
  v5 := Tryd.zeroValue5
  t9 := Tryd.underlying9
  a9 := Tryd.isAgg9
  z9 := Tryd.sizeOf9
  v9 := Tryd.zeroValue9
  t20 := Tryd.underlying20
  a20 := Tryd.isAgg20
  z20 := Tryd.sizeOf20
  v20 := Tryd.zeroValue20
  t37 := Tryd.underlying53
  a37 := Tryd.isAgg53
  z37 := Tryd.sizeOf53
  v37 := Tryd.zeroValue53
  t46 := Tryd.underlying95
  a46 := Tryd.isAgg95
  z46 := Tryd.sizeOf95
  v46 := Tryd.zeroValue95
  t51 := Tryd.underlying92
  a51 := Tryd.isAgg92
  z51 := Tryd.sizeOf92
  v51 := Tryd.zeroValue92
  t53 := Tryd.underlying85
  a53 := Tryd.isAgg85
  z53 := Tryd.sizeOf85
  v53 := Tryd.zeroValue85
  t171 := Tryd.underlying84
  a171 := Tryd.isAgg84
  z171 := Tryd.sizeOf84
  v171 := Tryd.zeroValue84
  t173 := Tryd.underlying88
  a173 := Tryd.isAgg88
  z173 := Tryd.sizeOf88
  v173 := Tryd.zeroValue88
  t212 := Tryd.underlying91
  a212 := Tryd.isAgg91
  z212 := Tryd.sizeOf91
  v212 := Tryd.zeroValue91
  t213 := Tryd.underlying93
  a213 := Tryd.isAgg93
  z213 := Tryd.sizeOf93
  t232 := Tryd.underlying98
  a232 := Tryd.isAgg98
  z232 := Tryd.sizeOf98
  v232 := Tryd.zeroValue98
  t233 := Tryd.underlying99
  a233 := Tryd.isAgg99
  z233 := Tryd.sizeOf99
  v233 := Tryd.zeroValue99
  g17 := by kernel_rfl
  g18 := by kernel_rfl
  g19 := by kernel_rfl
  i0 := by kernel_rfl
  i2 := by kernel_rfl
  i3 := by kernel_rfl
  i4 := by kernel_rfl
  i5 := by kernel_rfl
  i9 := by kernel_rfl
  i20 := by kernel_rfl
  i37 := by kernel_rfl
  i46 := by kernel_rfl
  i51 := by kernel_rfl
  i53 := by kernel_rfl
  i171 := by kernel_rfl
  i173 := by kernel_rfl
  i212 := by kernel_rfl
  i232 := by kernel_rfl
  i233 := by kernel_rfl
  m17 := by kernel_rfl
  m18 := by kernel_rfl
  m19 := by kernel_rfl }
end Go.Proofs
namespace Go.Proofs.YtgaclhdmhipagaaDoor
open Go Go.Aw Go.Pl Go.RowKit Go.Shelf Go.Lib Go.Sort
theorem ten_heap {w : World} (h : GlobOk w) : w.var? Tryd.prog "internal/strconv.uint64pow10" = some ((Lib.pow10Tab.map fun z => Value.int .u64 z).toArray) := by
  have _seat := (51 : Nat)
  obtain ⟨e, x, h1⟩ := h (1, Lib.pow10Tab.map fun z => Value.int .u64 z) (by
    have : glC = [(1, Lib.pow10Tab.map fun z => Value.int .u64 z)] := by kernel_rfl
    rw [this]; exact List.mem_singleton.2 rfl)
  have hg : Tryd.prog.globalNamed "internal/strconv.uint64pow10" = some 1 := by kernel_rfl
  unfold World.var?
  rw [hg]
  simp only [Option.bind_some, h1]
theorem grown_ext (w : World) (q : Nat) (os : Array Obj) : Below w.heap.size w (grow (w.drewN q) os) :=
  ⟨rfl, rfl, rfl, by first | (simp [grow]; done) | (simp [grow]; omega), fun i hi => by
    show ((w.drewN q).heap ++ os)[i]? = _
    rw [Array.getElem?_append_left (by show i < w.heap.size; omega)]
    rfl⟩
theorem formatInt_ok (n : Int) (h0 : 0 ≤ n) (h1 : n ≤ 1000) : PureCall Tryd.prog 51 [.int n, .int 10] (.str (bs (dec n))) := by
  refine ⟨Tryd.call51, fun vs w S hS hd => ?_⟩
  match vs, hd with
  | [v, u], hd =>
    obtain ⟨rfl, _⟩ : v = .int .i64 n ∧ InR n := by have := hd.1; simpa only [Rd, rep] using this
    obtain ⟨rfl, _⟩ : u = .int .i64 10 ∧ InR 10 := by have := hd.2.1; simpa only [Rd, rep] using this
    refine (Any.strconv_FormatInt_10 Tryd.laysM173 n (by omega) (by omega) w (ten_heap hS.2)).mono ?_
    rintro e w' ⟨rfl, k, os, rfl⟩
    refine ⟨_, rfl, grown_ext w k os, ?_⟩
    simp only [Rd, rep]
    refine ⟨rfl, ?_⟩
    rw [bs_size]
    obtain ⟨m, rfl⟩ : ∃ m : Nat, n = m := ⟨n.toNat, by omega⟩
    have := dec_len 3 m (Nat.lt_of_le_of_lt (show m ≤ 1000 by omega) (by decide))
    unfold maxLen
    omega
theorem strs_rep {m : Mem} : ∀ {l : List (List UInt8)} {us : List Value}, reps m (l.map fun x => AV.str (bs x)) us → us = l.map fun x => Value.string (bs x)
  | [], us, h => by simpa only [List.map_nil, reps] using h
  | x :: l, us, h => by
    simp only [List.map_cons, reps, rep] at h
    obtain ⟨u, us', rfl, ⟨rfl, _⟩, h⟩ := h
    rw [strs_rep h]; rfl
theorem strs_data : ∀ l : List (List UInt8), areData (l.map fun x => AV.str (bs x)) = true
  | [] => rfl
  | x :: l => by simp only [List.map_cons, areData, isData, strs_data l, Bool.and_self]
theorem bs_map (l : List (List UInt8)) : (l.map bs).map (·.data.toList) = l := by
  rw [List.map_map]
  exact (List.map_congr_left fun x _ => bs_list x).trans (List.map_id' l)
theorem join_ok (l : List (List UInt8)) (sep : List UInt8) (hl : l.length ≤ 1048576) (hj : (Lib.join l sep).length ≤ 1099511627776) :
    PureCall Tryd.prog 25 [.lv (l.map fun x => .str (bs x)), .str (bs sep)] (.str (bs (Lib.join l sep))) := by
  refine ⟨Tryd.call25, fun vs w S hS hd => ?_⟩
  match vs, hd with
  | [v, u], hd =>
    have h1 := hd.1
    simp only [Rd, rep] at h1
    obtain ⟨us, hs, hr⟩ := h1
    obtain rfl := strs_rep hr
    obtain ⟨rfl, _⟩ : u = .string (bs sep) ∧ (bs sep).size ≤ maxLen := by have := hd.2.1; simpa only [Rd, rep] using this
    have hz : (bs (Lib.join l sep)).size ≤ maxLen := by rw [bs_size]; unfold maxLen; omega
    rcases hs with ⟨⟨a, rfl⟩, hn⟩ | ⟨b, off, cap, rfl, hc1, hc2, hb, hc⟩
    · obtain rfl : l = [] := by simpa using hn
      refine (Any.strings_Join_none Tryd.lays156 Tryd.Builder_Extra_156 a 0 (bs sep) w).mono ?_
      rintro e w' ⟨rfl, rfl⟩
      refine ⟨_, rfl, Below.refl _ _, ?_⟩
      simp only [Rd, rep]
      exact ⟨rfl, hz⟩
    · rw [List.length_map] at hc1 ⊢
      have hq := Any.strings_Join Tryd.lays156 Tryd.Builder_Extra_156 b off cap (l.map bs) (bs sep) w (fun j x hx => hc j _ (by
        rw [List.getElem?_map] at hx ⊢
        obtain ⟨y, hy, rfl⟩ := Option.map_eq_some_iff.1 hx
        rw [hy]; rfl)) (hS.1 b hb) (by rw [List.length_map]; omega) (by rw [List.length_map]; exact hc1) (by rw [bs_map, bs_list]; omega)
      rw [List.length_map, bs_map, bs_list] at hq
      refine hq.mono ?_
      rintro e w' ⟨rfl, hw⟩
      refine ⟨_, rfl, hw, ?_⟩
      simp only [Rd, rep]
      exact ⟨rfl, hz⟩
end Go.Proofs.YtgaclhdmhipagaaDoor
