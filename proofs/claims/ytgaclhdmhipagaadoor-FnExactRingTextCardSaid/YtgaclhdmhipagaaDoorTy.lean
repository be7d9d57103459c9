/-
  What the operations ask of the types of this program. Printed by program.
-/
import Derived.Test.YtgaclhdmhipagaaDoorLib3
import Derived.Test.YtgaclhdmhipagaaDoorRows
import Derived.KernelRfl
set_option linter.unusedSimpArgs false
namespace Go.Proofs.YtgaclhdmhipagaaDoor
open Go Go.Aw
theorem tk1 : tkOf Tryd.prog 1 = .cell := by kernel_rfl
theorem ck1 : Tryd.prog.cellsOf 1 = 1 := by kernel_rfl
theorem za1 : zeroAVs Tryd.prog 1 = some [.nilfn] := by kernel_rfl
theorem oe1 : okElem Tryd.prog 1 = true := by kernel_rfl
theorem mk1 : mkOk Tryd.prog 1 = true := by kernel_rfl
theorem ek1 : elemKind Tryd.prog 1 = 0 := by kernel_rfl
theorem tk2 : tkOf Tryd.prog 2 = .int := by kernel_rfl
theorem ck2 : Tryd.prog.cellsOf 2 = 1 := by kernel_rfl
theorem za2 : zeroAVs Tryd.prog 2 = some [.int 0] := by kernel_rfl
theorem oe2 : okElem Tryd.prog 2 = true := by kernel_rfl
theorem mk2 : mkOk Tryd.prog 2 = true := by kernel_rfl
theorem ek2 : elemKind Tryd.prog 2 = 1 := by kernel_rfl
theorem tk3 : tkOf Tryd.prog 3 = .int := by kernel_rfl
theorem ck3 : Tryd.prog.cellsOf 3 = 1 := by kernel_rfl
theorem za3 : zeroAVs Tryd.prog 3 = some [.int 0] := by kernel_rfl
theorem oe3 : okElem Tryd.prog 3 = true := by kernel_rfl
theorem mk3 : mkOk Tryd.prog 3 = true := by kernel_rfl
theorem ek3 : elemKind Tryd.prog 3 = 1 := by kernel_rfl
theorem tk4 : tkOf Tryd.prog 4 = .bool := by kernel_rfl
theorem ck4 : Tryd.prog.cellsOf 4 = 1 := by kernel_rfl
theorem za4 : zeroAVs Tryd.prog 4 = some [.bool false] := by kernel_rfl
theorem oe4 : okElem Tryd.prog 4 = true := by kernel_rfl
theorem mk4 : mkOk Tryd.prog 4 = true := by kernel_rfl
theorem ek4 : elemKind Tryd.prog 4 = 0 := by kernel_rfl
theorem tk5 : tkOf Tryd.prog 5 = .ik .u8 := by kernel_rfl
theorem ck5 : Tryd.prog.cellsOf 5 = 1 := by kernel_rfl
theorem za5 : zeroAVs Tryd.prog 5 = some [.ik .u8 0] := by kernel_rfl
theorem oe5 : okElem Tryd.prog 5 = true := by kernel_rfl
theorem mk5 : mkOk Tryd.prog 5 = true := by kernel_rfl
theorem ek5 : elemKind Tryd.prog 5 = 0 := by kernel_rfl
theorem tk7 : tkOf Tryd.prog 7 = .st [(0, 1), (1, 1), (2, 1), (3, 1)] 4 := by kernel_rfl
theorem ck7 : Tryd.prog.cellsOf 7 = 4 := by kernel_rfl
theorem bs7 : bdOf Tryd.prog 7 = some [(0, 1), (1, 1), (2, 1), (3, 1)] := by kernel_rfl
theorem za7 : zeroAVs Tryd.prog 7 = some [.int 0, .int 0, .bool false, .ik .u8 0] := by kernel_rfl
theorem tk9 : tkOf Tryd.prog 9 = .str := by kernel_rfl
theorem ck9 : Tryd.prog.cellsOf 9 = 1 := by kernel_rfl
theorem za9 : zeroAVs Tryd.prog 9 = some [.str ByteArray.empty] := by kernel_rfl
theorem oe9 : okElem Tryd.prog 9 = true := by kernel_rfl
theorem mk9 : mkOk Tryd.prog 9 = true := by kernel_rfl
theorem ek9 : elemKind Tryd.prog 9 = 0 := by kernel_rfl
theorem tk12 : tkOf Tryd.prog 12 = .ik .u64 := by kernel_rfl
theorem ck12 : Tryd.prog.cellsOf 12 = 1 := by kernel_rfl
theorem za12 : zeroAVs Tryd.prog 12 = some [.ik .u64 0] := by kernel_rfl
theorem oe12 : okElem Tryd.prog 12 = true := by kernel_rfl
theorem mk12 : mkOk Tryd.prog 12 = true := by kernel_rfl
theorem ek12 : elemKind Tryd.prog 12 = 0 := by kernel_rfl
theorem tk13 : tkOf Tryd.prog 13 = .st [(0, 1), (1, 1)] 2 := by kernel_rfl
theorem ck13 : Tryd.prog.cellsOf 13 = 2 := by kernel_rfl
theorem bs13 : bdOf Tryd.prog 13 = some [(0, 1), (1, 1)] := by kernel_rfl
theorem za13 : zeroAVs Tryd.prog 13 = some [.str ByteArray.empty, .ik .u64 0] := by kernel_rfl
theorem tk15 : tkOf Tryd.prog 15 = .cell := by kernel_rfl
theorem ck15 : Tryd.prog.cellsOf 15 = 1 := by kernel_rfl
theorem za15 : zeroAVs Tryd.prog 15 = some [.junk] := by kernel_rfl
theorem oe15 : okElem Tryd.prog 15 = true := by kernel_rfl
theorem mk15 : mkOk Tryd.prog 15 = true := by kernel_rfl
theorem ek15 : elemKind Tryd.prog 15 = 0 := by kernel_rfl
theorem tk16 : tkOf Tryd.prog 16 = .cell := by kernel_rfl
theorem ck16 : Tryd.prog.cellsOf 16 = 1 := by kernel_rfl
theorem za16 : zeroAVs Tryd.prog 16 = some [.junk] := by kernel_rfl
theorem oe16 : okElem Tryd.prog 16 = true := by kernel_rfl
theorem mk16 : mkOk Tryd.prog 16 = true := by kernel_rfl
theorem ek16 : elemKind Tryd.prog 16 = 0 := by kernel_rfl
theorem tk17 : tkOf Tryd.prog 17 = .cell := by kernel_rfl
theorem ck17 : Tryd.prog.cellsOf 17 = 1 := by kernel_rfl
theorem za17 : zeroAVs Tryd.prog 17 = some [.junk] := by kernel_rfl
theorem oe17 : okElem Tryd.prog 17 = true := by kernel_rfl
theorem mk17 : mkOk Tryd.prog 17 = true := by kernel_rfl
theorem ek17 : elemKind Tryd.prog 17 = 0 := by kernel_rfl
theorem tk18 : tkOf Tryd.prog 18 = .st [(0, 1)] 1 := by kernel_rfl
theorem ck18 : Tryd.prog.cellsOf 18 = 1 := by kernel_rfl
theorem bs18 : bdOf Tryd.prog 18 = some [(0, 1)] := by kernel_rfl
theorem za18 : zeroAVs Tryd.prog 18 = some [.junk] := by kernel_rfl
theorem tk21 : tkOf Tryd.prog 21 = .ik .i32 := by kernel_rfl
theorem ck21 : Tryd.prog.cellsOf 21 = 1 := by kernel_rfl
theorem za21 : zeroAVs Tryd.prog 21 = some [.ik .i32 0] := by kernel_rfl
theorem oe21 : okElem Tryd.prog 21 = true := by kernel_rfl
theorem mk21 : mkOk Tryd.prog 21 = true := by kernel_rfl
theorem ek21 : elemKind Tryd.prog 21 = 0 := by kernel_rfl
theorem tk22 : tkOf Tryd.prog 22 = .sl 38 := by kernel_rfl
theorem ck22 : Tryd.prog.cellsOf 22 = 1 := by kernel_rfl
theorem za22 : zeroAVs Tryd.prog 22 = some [.nil] := by kernel_rfl
theorem oe22 : okElem Tryd.prog 22 = true := by kernel_rfl
theorem mk22 : mkOk Tryd.prog 22 = true := by kernel_rfl
theorem ek22 : elemKind Tryd.prog 22 = 0 := by kernel_rfl
theorem tk23 : tkOf Tryd.prog 23 = .st [(0, 1)] 1 := by kernel_rfl
theorem ck23 : Tryd.prog.cellsOf 23 = 1 := by kernel_rfl
theorem bs23 : bdOf Tryd.prog 23 = some [(0, 1)] := by kernel_rfl
theorem za23 : zeroAVs Tryd.prog 23 = some [.nil] := by kernel_rfl
theorem tk24 : tkOf Tryd.prog 24 = .st [(0, 1)] 1 := by kernel_rfl
theorem ck24 : Tryd.prog.cellsOf 24 = 1 := by kernel_rfl
theorem bs24 : bdOf Tryd.prog 24 = some [(0, 1)] := by kernel_rfl
theorem za24 : zeroAVs Tryd.prog 24 = some [.nil] := by kernel_rfl
theorem tk25 : tkOf Tryd.prog 25 = .cell := by kernel_rfl
theorem ck25 : Tryd.prog.cellsOf 25 = 1 := by kernel_rfl
theorem za25 : zeroAVs Tryd.prog 25 = some [.nilfn] := by kernel_rfl
theorem oe25 : okElem Tryd.prog 25 = true := by kernel_rfl
theorem mk25 : mkOk Tryd.prog 25 = true := by kernel_rfl
theorem ek25 : elemKind Tryd.prog 25 = 0 := by kernel_rfl
theorem tk27 : tkOf Tryd.prog 27 = .cell := by kernel_rfl
theorem ck27 : Tryd.prog.cellsOf 27 = 1 := by kernel_rfl
theorem za27 : zeroAVs Tryd.prog 27 = some [.nilfn] := by kernel_rfl
theorem oe27 : okElem Tryd.prog 27 = true := by kernel_rfl
theorem mk27 : mkOk Tryd.prog 27 = true := by kernel_rfl
theorem ek27 : elemKind Tryd.prog 27 = 0 := by kernel_rfl
theorem tk28 : tkOf Tryd.prog 28 = .st [(0, 1)] 1 := by kernel_rfl
theorem ck28 : Tryd.prog.cellsOf 28 = 1 := by kernel_rfl
theorem bs28 : bdOf Tryd.prog 28 = some [(0, 1)] := by kernel_rfl
theorem za28 : zeroAVs Tryd.prog 28 = some [.nil] := by kernel_rfl
theorem tk29 : tkOf Tryd.prog 29 = .cell := by kernel_rfl
theorem ck29 : Tryd.prog.cellsOf 29 = 1 := by kernel_rfl
theorem za29 : zeroAVs Tryd.prog 29 = some [.nilfn] := by kernel_rfl
theorem oe29 : okElem Tryd.prog 29 = true := by kernel_rfl
theorem mk29 : mkOk Tryd.prog 29 = true := by kernel_rfl
theorem ek29 : elemKind Tryd.prog 29 = 0 := by kernel_rfl
theorem tk30 : tkOf Tryd.prog 30 = .cell := by kernel_rfl
theorem ck30 : Tryd.prog.cellsOf 30 = 1 := by kernel_rfl
theorem za30 : zeroAVs Tryd.prog 30 = some [.nilfn] := by kernel_rfl
theorem oe30 : okElem Tryd.prog 30 = true := by kernel_rfl
theorem mk30 : mkOk Tryd.prog 30 = true := by kernel_rfl
theorem ek30 : elemKind Tryd.prog 30 = 0 := by kernel_rfl
theorem tk31 : tkOf Tryd.prog 31 = .cell := by kernel_rfl
theorem ck31 : Tryd.prog.cellsOf 31 = 1 := by kernel_rfl
theorem za31 : zeroAVs Tryd.prog 31 = some [.nilfn] := by kernel_rfl
theorem oe31 : okElem Tryd.prog 31 = true := by kernel_rfl
theorem mk31 : mkOk Tryd.prog 31 = true := by kernel_rfl
theorem ek31 : elemKind Tryd.prog 31 = 0 := by kernel_rfl
theorem tk32 : tkOf Tryd.prog 32 = .cell := by kernel_rfl
theorem ck32 : Tryd.prog.cellsOf 32 = 1 := by kernel_rfl
theorem za32 : zeroAVs Tryd.prog 32 = some [.nilfn] := by kernel_rfl
theorem oe32 : okElem Tryd.prog 32 = true := by kernel_rfl
theorem mk32 : mkOk Tryd.prog 32 = true := by kernel_rfl
theorem ek32 : elemKind Tryd.prog 32 = 0 := by kernel_rfl
theorem tk33 : tkOf Tryd.prog 33 = .cell := by kernel_rfl
theorem ck33 : Tryd.prog.cellsOf 33 = 1 := by kernel_rfl
theorem za33 : zeroAVs Tryd.prog 33 = some [.nilfn] := by kernel_rfl
theorem oe33 : okElem Tryd.prog 33 = true := by kernel_rfl
theorem mk33 : mkOk Tryd.prog 33 = true := by kernel_rfl
theorem ek33 : elemKind Tryd.prog 33 = 0 := by kernel_rfl
theorem tk34 : tkOf Tryd.prog 34 = .cell := by kernel_rfl
theorem ck34 : Tryd.prog.cellsOf 34 = 1 := by kernel_rfl
theorem za34 : zeroAVs Tryd.prog 34 = some [.nilfn] := by kernel_rfl
theorem oe34 : okElem Tryd.prog 34 = true := by kernel_rfl
theorem mk34 : mkOk Tryd.prog 34 = true := by kernel_rfl
theorem ek34 : elemKind Tryd.prog 34 = 0 := by kernel_rfl
theorem tk35 : tkOf Tryd.prog 35 = .cell := by kernel_rfl
theorem ck35 : Tryd.prog.cellsOf 35 = 1 := by kernel_rfl
theorem za35 : zeroAVs Tryd.prog 35 = some [.nilfn] := by kernel_rfl
theorem oe35 : okElem Tryd.prog 35 = true := by kernel_rfl
theorem mk35 : mkOk Tryd.prog 35 = true := by kernel_rfl
theorem ek35 : elemKind Tryd.prog 35 = 0 := by kernel_rfl
theorem tk36 : tkOf Tryd.prog 36 = .cell := by kernel_rfl
theorem ck36 : Tryd.prog.cellsOf 36 = 1 := by kernel_rfl
theorem za36 : zeroAVs Tryd.prog 36 = some [.nilfn] := by kernel_rfl
theorem oe36 : okElem Tryd.prog 36 = true := by kernel_rfl
theorem mk36 : mkOk Tryd.prog 36 = true := by kernel_rfl
theorem ek36 : elemKind Tryd.prog 36 = 0 := by kernel_rfl
theorem tk37 : tkOf Tryd.prog 37 = .cell := by kernel_rfl
theorem ck37 : Tryd.prog.cellsOf 37 = 1 := by kernel_rfl
theorem za37 : zeroAVs Tryd.prog 37 = some [.nilfn] := by kernel_rfl
theorem oe37 : okElem Tryd.prog 37 = true := by kernel_rfl
theorem mk37 : mkOk Tryd.prog 37 = true := by kernel_rfl
theorem ek37 : elemKind Tryd.prog 37 = 0 := by kernel_rfl
theorem tk38 : tkOf Tryd.prog 38 = .sl 40 := by kernel_rfl
theorem ck38 : Tryd.prog.cellsOf 38 = 1 := by kernel_rfl
theorem za38 : zeroAVs Tryd.prog 38 = some [.nil] := by kernel_rfl
theorem oe38 : okElem Tryd.prog 38 = true := by kernel_rfl
theorem mk38 : mkOk Tryd.prog 38 = true := by kernel_rfl
theorem ek38 : elemKind Tryd.prog 38 = 3 := by kernel_rfl
theorem tk39 : tkOf Tryd.prog 39 = .cell := by kernel_rfl
theorem ck39 : Tryd.prog.cellsOf 39 = 1 := by kernel_rfl
theorem za39 : zeroAVs Tryd.prog 39 = some [.nilfn] := by kernel_rfl
theorem oe39 : okElem Tryd.prog 39 = true := by kernel_rfl
theorem mk39 : mkOk Tryd.prog 39 = true := by kernel_rfl
theorem ek39 : elemKind Tryd.prog 39 = 0 := by kernel_rfl
theorem tk40 : tkOf Tryd.prog 40 = .sl 2 := by kernel_rfl
theorem ck40 : Tryd.prog.cellsOf 40 = 1 := by kernel_rfl
theorem za40 : zeroAVs Tryd.prog 40 = some [.nil] := by kernel_rfl
theorem oe40 : okElem Tryd.prog 40 = true := by kernel_rfl
theorem mk40 : mkOk Tryd.prog 40 = true := by kernel_rfl
theorem ek40 : elemKind Tryd.prog 40 = 2 := by kernel_rfl
theorem tk41 : tkOf Tryd.prog 41 = .cell := by kernel_rfl
theorem ck41 : Tryd.prog.cellsOf 41 = 1 := by kernel_rfl
theorem za41 : zeroAVs Tryd.prog 41 = some [.nilfn] := by kernel_rfl
theorem oe41 : okElem Tryd.prog 41 = true := by kernel_rfl
theorem mk41 : mkOk Tryd.prog 41 = true := by kernel_rfl
theorem ek41 : elemKind Tryd.prog 41 = 0 := by kernel_rfl
theorem tk42 : tkOf Tryd.prog 42 = .cell := by kernel_rfl
theorem ck42 : Tryd.prog.cellsOf 42 = 1 := by kernel_rfl
theorem za42 : zeroAVs Tryd.prog 42 = some [.nilfn] := by kernel_rfl
theorem oe42 : okElem Tryd.prog 42 = true := by kernel_rfl
theorem mk42 : mkOk Tryd.prog 42 = true := by kernel_rfl
theorem ek42 : elemKind Tryd.prog 42 = 0 := by kernel_rfl
theorem tk43 : tkOf Tryd.prog 43 = .cell := by kernel_rfl
theorem ck43 : Tryd.prog.cellsOf 43 = 1 := by kernel_rfl
theorem za43 : zeroAVs Tryd.prog 43 = some [.nilfn] := by kernel_rfl
theorem oe43 : okElem Tryd.prog 43 = true := by kernel_rfl
theorem mk43 : mkOk Tryd.prog 43 = true := by kernel_rfl
theorem ek43 : elemKind Tryd.prog 43 = 0 := by kernel_rfl
theorem tk44 : tkOf Tryd.prog 44 = .cell := by kernel_rfl
theorem ck44 : Tryd.prog.cellsOf 44 = 1 := by kernel_rfl
theorem za44 : zeroAVs Tryd.prog 44 = some [.nilfn] := by kernel_rfl
theorem oe44 : okElem Tryd.prog 44 = true := by kernel_rfl
theorem mk44 : mkOk Tryd.prog 44 = true := by kernel_rfl
theorem ek44 : elemKind Tryd.prog 44 = 0 := by kernel_rfl
theorem tk45 : tkOf Tryd.prog 45 = .sl 9 := by kernel_rfl
theorem ck45 : Tryd.prog.cellsOf 45 = 1 := by kernel_rfl
theorem za45 : zeroAVs Tryd.prog 45 = some [.nil] := by kernel_rfl
theorem oe45 : okElem Tryd.prog 45 = true := by kernel_rfl
theorem mk45 : mkOk Tryd.prog 45 = true := by kernel_rfl
theorem ek45 : elemKind Tryd.prog 45 = 0 := by kernel_rfl
theorem tk46 : tkOf Tryd.prog 46 = .cell := by kernel_rfl
theorem ck46 : Tryd.prog.cellsOf 46 = 1 := by kernel_rfl
theorem za46 : zeroAVs Tryd.prog 46 = some [.nilfn] := by kernel_rfl
theorem oe46 : okElem Tryd.prog 46 = true := by kernel_rfl
theorem mk46 : mkOk Tryd.prog 46 = true := by kernel_rfl
theorem ek46 : elemKind Tryd.prog 46 = 0 := by kernel_rfl
theorem tk47 : tkOf Tryd.prog 47 = .cell := by kernel_rfl
theorem ck47 : Tryd.prog.cellsOf 47 = 1 := by kernel_rfl
theorem za47 : zeroAVs Tryd.prog 47 = some [.nilfn] := by kernel_rfl
theorem oe47 : okElem Tryd.prog 47 = true := by kernel_rfl
theorem mk47 : mkOk Tryd.prog 47 = true := by kernel_rfl
theorem ek47 : elemKind Tryd.prog 47 = 0 := by kernel_rfl
theorem tk48 : tkOf Tryd.prog 48 = .cell := by kernel_rfl
theorem ck48 : Tryd.prog.cellsOf 48 = 1 := by kernel_rfl
theorem za48 : zeroAVs Tryd.prog 48 = some [.nilfn] := by kernel_rfl
theorem oe48 : okElem Tryd.prog 48 = true := by kernel_rfl
theorem mk48 : mkOk Tryd.prog 48 = true := by kernel_rfl
theorem ek48 : elemKind Tryd.prog 48 = 0 := by kernel_rfl
theorem tk49 : tkOf Tryd.prog 49 = .cell := by kernel_rfl
theorem ck49 : Tryd.prog.cellsOf 49 = 1 := by kernel_rfl
theorem za49 : zeroAVs Tryd.prog 49 = some [.nilfn] := by kernel_rfl
theorem oe49 : okElem Tryd.prog 49 = true := by kernel_rfl
theorem mk49 : mkOk Tryd.prog 49 = true := by kernel_rfl
theorem ek49 : elemKind Tryd.prog 49 = 0 := by kernel_rfl
theorem tk50 : tkOf Tryd.prog 50 = .cell := by kernel_rfl
theorem ck50 : Tryd.prog.cellsOf 50 = 1 := by kernel_rfl
theorem za50 : zeroAVs Tryd.prog 50 = some [.nilfn] := by kernel_rfl
theorem oe50 : okElem Tryd.prog 50 = true := by kernel_rfl
theorem mk50 : mkOk Tryd.prog 50 = true := by kernel_rfl
theorem ek50 : elemKind Tryd.prog 50 = 0 := by kernel_rfl
theorem tk51 : tkOf Tryd.prog 51 = .cell := by kernel_rfl
theorem ck51 : Tryd.prog.cellsOf 51 = 1 := by kernel_rfl
theorem za51 : zeroAVs Tryd.prog 51 = some [.nilfn] := by kernel_rfl
theorem oe51 : okElem Tryd.prog 51 = true := by kernel_rfl
theorem mk51 : mkOk Tryd.prog 51 = true := by kernel_rfl
theorem ek51 : elemKind Tryd.prog 51 = 0 := by kernel_rfl
theorem tk52 : tkOf Tryd.prog 52 = .cell := by kernel_rfl
theorem ck52 : Tryd.prog.cellsOf 52 = 1 := by kernel_rfl
theorem za52 : zeroAVs Tryd.prog 52 = some [.nilfn] := by kernel_rfl
theorem oe52 : okElem Tryd.prog 52 = true := by kernel_rfl
theorem mk52 : mkOk Tryd.prog 52 = true := by kernel_rfl
theorem ek52 : elemKind Tryd.prog 52 = 0 := by kernel_rfl
theorem tk53 : tkOf Tryd.prog 53 = .sl 5 := by kernel_rfl
theorem ck53 : Tryd.prog.cellsOf 53 = 1 := by kernel_rfl
theorem za53 : zeroAVs Tryd.prog 53 = some [.nil] := by kernel_rfl
theorem oe53 : okElem Tryd.prog 53 = true := by kernel_rfl
theorem mk53 : mkOk Tryd.prog 53 = true := by kernel_rfl
theorem ek53 : elemKind Tryd.prog 53 = 0 := by kernel_rfl
theorem tk54 : tkOf Tryd.prog 54 = .cell := by kernel_rfl
theorem ck54 : Tryd.prog.cellsOf 54 = 1 := by kernel_rfl
theorem za54 : zeroAVs Tryd.prog 54 = some [.nilfn] := by kernel_rfl
theorem oe54 : okElem Tryd.prog 54 = true := by kernel_rfl
theorem mk54 : mkOk Tryd.prog 54 = true := by kernel_rfl
theorem ek54 : elemKind Tryd.prog 54 = 0 := by kernel_rfl
theorem tk55 : tkOf Tryd.prog 55 = .cell := by kernel_rfl
theorem ck55 : Tryd.prog.cellsOf 55 = 1 := by kernel_rfl
theorem za55 : zeroAVs Tryd.prog 55 = some [.nilfn] := by kernel_rfl
theorem oe55 : okElem Tryd.prog 55 = true := by kernel_rfl
theorem mk55 : mkOk Tryd.prog 55 = true := by kernel_rfl
theorem ek55 : elemKind Tryd.prog 55 = 0 := by kernel_rfl
theorem tk56 : tkOf Tryd.prog 56 = .cell := by kernel_rfl
theorem ck56 : Tryd.prog.cellsOf 56 = 1 := by kernel_rfl
theorem za56 : zeroAVs Tryd.prog 56 = some [.nilfn] := by kernel_rfl
theorem oe56 : okElem Tryd.prog 56 = true := by kernel_rfl
theorem mk56 : mkOk Tryd.prog 56 = true := by kernel_rfl
theorem ek56 : elemKind Tryd.prog 56 = 0 := by kernel_rfl
theorem tk57 : tkOf Tryd.prog 57 = .cell := by kernel_rfl
theorem ck57 : Tryd.prog.cellsOf 57 = 1 := by kernel_rfl
theorem za57 : zeroAVs Tryd.prog 57 = some [.nilfn] := by kernel_rfl
theorem oe57 : okElem Tryd.prog 57 = true := by kernel_rfl
theorem mk57 : mkOk Tryd.prog 57 = true := by kernel_rfl
theorem ek57 : elemKind Tryd.prog 57 = 0 := by kernel_rfl
theorem tk58 : tkOf Tryd.prog 58 = .cell := by kernel_rfl
theorem ck58 : Tryd.prog.cellsOf 58 = 1 := by kernel_rfl
theorem za58 : zeroAVs Tryd.prog 58 = some [.nilfn] := by kernel_rfl
theorem oe58 : okElem Tryd.prog 58 = true := by kernel_rfl
theorem mk58 : mkOk Tryd.prog 58 = true := by kernel_rfl
theorem ek58 : elemKind Tryd.prog 58 = 0 := by kernel_rfl
theorem tk59 : tkOf Tryd.prog 59 = .cell := by kernel_rfl
theorem ck59 : Tryd.prog.cellsOf 59 = 1 := by kernel_rfl
theorem za59 : zeroAVs Tryd.prog 59 = some [.nilfn] := by kernel_rfl
theorem oe59 : okElem Tryd.prog 59 = true := by kernel_rfl
theorem mk59 : mkOk Tryd.prog 59 = true := by kernel_rfl
theorem ek59 : elemKind Tryd.prog 59 = 0 := by kernel_rfl
theorem tk60 : tkOf Tryd.prog 60 = .cell := by kernel_rfl
theorem ck60 : Tryd.prog.cellsOf 60 = 1 := by kernel_rfl
theorem za60 : zeroAVs Tryd.prog 60 = some [.junk] := by kernel_rfl
theorem oe60 : okElem Tryd.prog 60 = true := by kernel_rfl
theorem mk60 : mkOk Tryd.prog 60 = true := by kernel_rfl
theorem ek60 : elemKind Tryd.prog 60 = 0 := by kernel_rfl
theorem tk61 : tkOf Tryd.prog 61 = .st [(0, 1), (1, 1)] 2 := by kernel_rfl
theorem ck61 : Tryd.prog.cellsOf 61 = 2 := by kernel_rfl
theorem bs61 : bdOf Tryd.prog 61 = some [(0, 1), (1, 1)] := by kernel_rfl
theorem za61 : zeroAVs Tryd.prog 61 = some [.junk, .nil] := by kernel_rfl
theorem tk63 : tkOf Tryd.prog 63 = .cell := by kernel_rfl
theorem ck63 : Tryd.prog.cellsOf 63 = 1 := by kernel_rfl
theorem za63 : zeroAVs Tryd.prog 63 = some [.nilfn] := by kernel_rfl
theorem oe63 : okElem Tryd.prog 63 = true := by kernel_rfl
theorem mk63 : mkOk Tryd.prog 63 = true := by kernel_rfl
theorem ek63 : elemKind Tryd.prog 63 = 0 := by kernel_rfl
theorem tk67 : tkOf Tryd.prog 67 = .cell := by kernel_rfl
theorem ck67 : Tryd.prog.cellsOf 67 = 1 := by kernel_rfl
theorem za67 : zeroAVs Tryd.prog 67 = some [.nilfn] := by kernel_rfl
theorem oe67 : okElem Tryd.prog 67 = true := by kernel_rfl
theorem mk67 : mkOk Tryd.prog 67 = true := by kernel_rfl
theorem ek67 : elemKind Tryd.prog 67 = 0 := by kernel_rfl
theorem tk68 : tkOf Tryd.prog 68 = .cell := by kernel_rfl
theorem ck68 : Tryd.prog.cellsOf 68 = 1 := by kernel_rfl
theorem za68 : zeroAVs Tryd.prog 68 = some [.nilfn] := by kernel_rfl
theorem oe68 : okElem Tryd.prog 68 = true := by kernel_rfl
theorem mk68 : mkOk Tryd.prog 68 = true := by kernel_rfl
theorem ek68 : elemKind Tryd.prog 68 = 0 := by kernel_rfl
theorem tk69 : tkOf Tryd.prog 69 = .cell := by kernel_rfl
theorem ck69 : Tryd.prog.cellsOf 69 = 1 := by kernel_rfl
theorem za69 : zeroAVs Tryd.prog 69 = some [.nilfn] := by kernel_rfl
theorem oe69 : okElem Tryd.prog 69 = true := by kernel_rfl
theorem mk69 : mkOk Tryd.prog 69 = true := by kernel_rfl
theorem ek69 : elemKind Tryd.prog 69 = 0 := by kernel_rfl
theorem tk70 : tkOf Tryd.prog 70 = .cell := by kernel_rfl
theorem ck70 : Tryd.prog.cellsOf 70 = 1 := by kernel_rfl
theorem za70 : zeroAVs Tryd.prog 70 = some [.nilfn] := by kernel_rfl
theorem oe70 : okElem Tryd.prog 70 = true := by kernel_rfl
theorem mk70 : mkOk Tryd.prog 70 = true := by kernel_rfl
theorem ek70 : elemKind Tryd.prog 70 = 0 := by kernel_rfl
theorem tk71 : tkOf Tryd.prog 71 = .cell := by kernel_rfl
theorem ck71 : Tryd.prog.cellsOf 71 = 1 := by kernel_rfl
theorem za71 : zeroAVs Tryd.prog 71 = some [.nilfn] := by kernel_rfl
theorem oe71 : okElem Tryd.prog 71 = true := by kernel_rfl
theorem mk71 : mkOk Tryd.prog 71 = true := by kernel_rfl
theorem ek71 : elemKind Tryd.prog 71 = 0 := by kernel_rfl
theorem tk72 : tkOf Tryd.prog 72 = .cell := by kernel_rfl
theorem ck72 : Tryd.prog.cellsOf 72 = 1 := by kernel_rfl
theorem za72 : zeroAVs Tryd.prog 72 = some [.nilfn] := by kernel_rfl
theorem oe72 : okElem Tryd.prog 72 = true := by kernel_rfl
theorem mk72 : mkOk Tryd.prog 72 = true := by kernel_rfl
theorem ek72 : elemKind Tryd.prog 72 = 0 := by kernel_rfl
theorem tk73 : tkOf Tryd.prog 73 = .cell := by kernel_rfl
theorem ck73 : Tryd.prog.cellsOf 73 = 1 := by kernel_rfl
theorem za73 : zeroAVs Tryd.prog 73 = some [.nilfn] := by kernel_rfl
theorem oe73 : okElem Tryd.prog 73 = true := by kernel_rfl
theorem mk73 : mkOk Tryd.prog 73 = true := by kernel_rfl
theorem ek73 : elemKind Tryd.prog 73 = 0 := by kernel_rfl
theorem tk74 : tkOf Tryd.prog 74 = .cell := by kernel_rfl
theorem ck74 : Tryd.prog.cellsOf 74 = 1 := by kernel_rfl
theorem za74 : zeroAVs Tryd.prog 74 = some [.nilfn] := by kernel_rfl
theorem oe74 : okElem Tryd.prog 74 = true := by kernel_rfl
theorem mk74 : mkOk Tryd.prog 74 = true := by kernel_rfl
theorem ek74 : elemKind Tryd.prog 74 = 0 := by kernel_rfl
theorem tk75 : tkOf Tryd.prog 75 = .sl 3 := by kernel_rfl
theorem ck75 : Tryd.prog.cellsOf 75 = 1 := by kernel_rfl
theorem za75 : zeroAVs Tryd.prog 75 = some [.nil] := by kernel_rfl
theorem oe75 : okElem Tryd.prog 75 = true := by kernel_rfl
theorem mk75 : mkOk Tryd.prog 75 = true := by kernel_rfl
theorem ek75 : elemKind Tryd.prog 75 = 2 := by kernel_rfl
theorem tk76 : tkOf Tryd.prog 76 = .cell := by kernel_rfl
theorem ck76 : Tryd.prog.cellsOf 76 = 1 := by kernel_rfl
theorem za76 : zeroAVs Tryd.prog 76 = some [.nilfn] := by kernel_rfl
theorem oe76 : okElem Tryd.prog 76 = true := by kernel_rfl
theorem mk76 : mkOk Tryd.prog 76 = true := by kernel_rfl
theorem ek76 : elemKind Tryd.prog 76 = 0 := by kernel_rfl
theorem tk77 : tkOf Tryd.prog 77 = .cell := by kernel_rfl
theorem ck77 : Tryd.prog.cellsOf 77 = 1 := by kernel_rfl
theorem za77 : zeroAVs Tryd.prog 77 = some [.nilfn] := by kernel_rfl
theorem oe77 : okElem Tryd.prog 77 = true := by kernel_rfl
theorem mk77 : mkOk Tryd.prog 77 = true := by kernel_rfl
theorem ek77 : elemKind Tryd.prog 77 = 0 := by kernel_rfl
theorem tk78 : tkOf Tryd.prog 78 = .cell := by kernel_rfl
theorem ck78 : Tryd.prog.cellsOf 78 = 1 := by kernel_rfl
theorem za78 : zeroAVs Tryd.prog 78 = some [.junk] := by kernel_rfl
theorem oe78 : okElem Tryd.prog 78 = true := by kernel_rfl
theorem mk78 : mkOk Tryd.prog 78 = true := by kernel_rfl
theorem ek78 : elemKind Tryd.prog 78 = 0 := by kernel_rfl
theorem tk79 : tkOf Tryd.prog 79 = .cell := by kernel_rfl
theorem ck79 : Tryd.prog.cellsOf 79 = 1 := by kernel_rfl
theorem za79 : zeroAVs Tryd.prog 79 = some [.nilfn] := by kernel_rfl
theorem oe79 : okElem Tryd.prog 79 = true := by kernel_rfl
theorem mk79 : mkOk Tryd.prog 79 = true := by kernel_rfl
theorem ek79 : elemKind Tryd.prog 79 = 0 := by kernel_rfl
theorem tk81 : tkOf Tryd.prog 81 = .cell := by kernel_rfl
theorem ck81 : Tryd.prog.cellsOf 81 = 1 := by kernel_rfl
theorem za81 : zeroAVs Tryd.prog 81 = some [.nilfn] := by kernel_rfl
theorem oe81 : okElem Tryd.prog 81 = true := by kernel_rfl
theorem mk81 : mkOk Tryd.prog 81 = true := by kernel_rfl
theorem ek81 : elemKind Tryd.prog 81 = 0 := by kernel_rfl
theorem tk82 : tkOf Tryd.prog 82 = .cell := by kernel_rfl
theorem ck82 : Tryd.prog.cellsOf 82 = 1 := by kernel_rfl
theorem za82 : zeroAVs Tryd.prog 82 = some [.nilfn] := by kernel_rfl
theorem oe82 : okElem Tryd.prog 82 = true := by kernel_rfl
theorem mk82 : mkOk Tryd.prog 82 = true := by kernel_rfl
theorem ek82 : elemKind Tryd.prog 82 = 0 := by kernel_rfl
theorem tk83 : tkOf Tryd.prog 83 = .cell := by kernel_rfl
theorem ck83 : Tryd.prog.cellsOf 83 = 1 := by kernel_rfl
theorem za83 : zeroAVs Tryd.prog 83 = some [.nilfn] := by kernel_rfl
theorem oe83 : okElem Tryd.prog 83 = true := by kernel_rfl
theorem mk83 : mkOk Tryd.prog 83 = true := by kernel_rfl
theorem ek83 : elemKind Tryd.prog 83 = 0 := by kernel_rfl
theorem tk85 : tkOf Tryd.prog 85 = .ik .u64 := by kernel_rfl
theorem ck85 : Tryd.prog.cellsOf 85 = 1 := by kernel_rfl
theorem za85 : zeroAVs Tryd.prog 85 = some [.ik .u64 0] := by kernel_rfl
theorem oe85 : okElem Tryd.prog 85 = true := by kernel_rfl
theorem mk85 : mkOk Tryd.prog 85 = true := by kernel_rfl
theorem ek85 : elemKind Tryd.prog 85 = 0 := by kernel_rfl
theorem tk86 : tkOf Tryd.prog 86 = .cell := by kernel_rfl
theorem ck86 : Tryd.prog.cellsOf 86 = 1 := by kernel_rfl
theorem za86 : zeroAVs Tryd.prog 86 = some [.nilfn] := by kernel_rfl
theorem oe86 : okElem Tryd.prog 86 = true := by kernel_rfl
theorem mk86 : mkOk Tryd.prog 86 = true := by kernel_rfl
theorem ek86 : elemKind Tryd.prog 86 = 0 := by kernel_rfl
theorem tk87 : tkOf Tryd.prog 87 = .cell := by kernel_rfl
theorem ck87 : Tryd.prog.cellsOf 87 = 1 := by kernel_rfl
theorem za87 : zeroAVs Tryd.prog 87 = some [.nilfn] := by kernel_rfl
theorem oe87 : okElem Tryd.prog 87 = true := by kernel_rfl
theorem mk87 : mkOk Tryd.prog 87 = true := by kernel_rfl
theorem ek87 : elemKind Tryd.prog 87 = 0 := by kernel_rfl
theorem tk89 : tkOf Tryd.prog 89 = .cell := by kernel_rfl
theorem ck89 : Tryd.prog.cellsOf 89 = 1 := by kernel_rfl
theorem za89 : zeroAVs Tryd.prog 89 = some [.nilfn] := by kernel_rfl
theorem oe89 : okElem Tryd.prog 89 = true := by kernel_rfl
theorem mk89 : mkOk Tryd.prog 89 = true := by kernel_rfl
theorem ek89 : elemKind Tryd.prog 89 = 0 := by kernel_rfl
theorem tk90 : tkOf Tryd.prog 90 = .cell := by kernel_rfl
theorem ck90 : Tryd.prog.cellsOf 90 = 1 := by kernel_rfl
theorem za90 : zeroAVs Tryd.prog 90 = some [.nilfn] := by kernel_rfl
theorem oe90 : okElem Tryd.prog 90 = true := by kernel_rfl
theorem mk90 : mkOk Tryd.prog 90 = true := by kernel_rfl
theorem ek90 : elemKind Tryd.prog 90 = 0 := by kernel_rfl
theorem tk92 : tkOf Tryd.prog 92 = .ik .u32 := by kernel_rfl
theorem ck92 : Tryd.prog.cellsOf 92 = 1 := by kernel_rfl
theorem za92 : zeroAVs Tryd.prog 92 = some [.ik .u32 0] := by kernel_rfl
theorem oe92 : okElem Tryd.prog 92 = true := by kernel_rfl
theorem mk92 : mkOk Tryd.prog 92 = true := by kernel_rfl
theorem ek92 : elemKind Tryd.prog 92 = 0 := by kernel_rfl
theorem tk94 : tkOf Tryd.prog 94 = .cell := by kernel_rfl
theorem ck94 : Tryd.prog.cellsOf 94 = 1 := by kernel_rfl
theorem za94 : zeroAVs Tryd.prog 94 = some [.nilfn] := by kernel_rfl
theorem oe94 : okElem Tryd.prog 94 = true := by kernel_rfl
theorem mk94 : mkOk Tryd.prog 94 = true := by kernel_rfl
theorem ek94 : elemKind Tryd.prog 94 = 0 := by kernel_rfl
theorem tk95 : tkOf Tryd.prog 95 = .ik .u64 := by kernel_rfl
theorem ck95 : Tryd.prog.cellsOf 95 = 1 := by kernel_rfl
theorem za95 : zeroAVs Tryd.prog 95 = some [.ik .u64 0] := by kernel_rfl
theorem oe95 : okElem Tryd.prog 95 = true := by kernel_rfl
theorem mk95 : mkOk Tryd.prog 95 = true := by kernel_rfl
theorem ek95 : elemKind Tryd.prog 95 = 0 := by kernel_rfl
theorem tk96 : tkOf Tryd.prog 96 = .cell := by kernel_rfl
theorem ck96 : Tryd.prog.cellsOf 96 = 1 := by kernel_rfl
theorem za96 : zeroAVs Tryd.prog 96 = some [.nilfn] := by kernel_rfl
theorem oe96 : okElem Tryd.prog 96 = true := by kernel_rfl
theorem mk96 : mkOk Tryd.prog 96 = true := by kernel_rfl
theorem ek96 : elemKind Tryd.prog 96 = 0 := by kernel_rfl
theorem tk97 : tkOf Tryd.prog 97 = .cell := by kernel_rfl
theorem ck97 : Tryd.prog.cellsOf 97 = 1 := by kernel_rfl
theorem za97 : zeroAVs Tryd.prog 97 = some [.nilfn] := by kernel_rfl
theorem oe97 : okElem Tryd.prog 97 = true := by kernel_rfl
theorem mk97 : mkOk Tryd.prog 97 = true := by kernel_rfl
theorem ek97 : elemKind Tryd.prog 97 = 0 := by kernel_rfl
theorem tk100 : tkOf Tryd.prog 100 = .st [(0, 1), (1, 1), (2, 1), (3, 1)] 4 := by kernel_rfl
theorem ck100 : Tryd.prog.cellsOf 100 = 4 := by kernel_rfl
theorem bs100 : bdOf Tryd.prog 100 = some [(0, 1), (1, 1), (2, 1), (3, 1)] := by kernel_rfl
theorem za100 : zeroAVs Tryd.prog 100 = some [.junk, .junk, .junk, .str ByteArray.empty] := by kernel_rfl
theorem tk103 : tkOf Tryd.prog 103 = .st [(0, 0)] 0 := by kernel_rfl
theorem ck103 : Tryd.prog.cellsOf 103 = 0 := by kernel_rfl
theorem za103 : zeroAVs Tryd.prog 103 = some [] := by kernel_rfl
theorem tk107 : tkOf Tryd.prog 107 = .cell := by kernel_rfl
theorem ck107 : Tryd.prog.cellsOf 107 = 1 := by kernel_rfl
theorem za107 : zeroAVs Tryd.prog 107 = some [.nilfn] := by kernel_rfl
theorem oe107 : okElem Tryd.prog 107 = true := by kernel_rfl
theorem mk107 : mkOk Tryd.prog 107 = true := by kernel_rfl
theorem ek107 : elemKind Tryd.prog 107 = 0 := by kernel_rfl
theorem tk110 : tkOf Tryd.prog 110 = .st [(0, 1), (1, 1), (2, 1), (3, 1), (4, 1), (5, 1), (6, 1), (7, 1), (8, 1), (9, 1), (10, 1)] 11 := by kernel_rfl
theorem ck110 : Tryd.prog.cellsOf 110 = 11 := by kernel_rfl
theorem bs110 : bdOf Tryd.prog 110 = some [(0, 1), (1, 1), (2, 1), (3, 1), (4, 1), (5, 1), (6, 1), (7, 1), (8, 1), (9, 1), (10, 1)] := by kernel_rfl
theorem za110 : zeroAVs Tryd.prog 110 = some [.ik .u64 0, .ik .u64 0, .ik .u32 0, .ik .u8 0, .ik .u8 0, .ik .u8 0, .ik .u8 0, .nilfn, .junk, .ik .i32 0, .ik .i32 0] := by kernel_rfl
theorem tk112 : tkOf Tryd.prog 112 = .cell := by kernel_rfl
theorem ck112 : Tryd.prog.cellsOf 112 = 1 := by kernel_rfl
theorem za112 : zeroAVs Tryd.prog 112 = some [.nilfn] := by kernel_rfl
theorem oe112 : okElem Tryd.prog 112 = true := by kernel_rfl
theorem mk112 : mkOk Tryd.prog 112 = true := by kernel_rfl
theorem ek112 : elemKind Tryd.prog 112 = 0 := by kernel_rfl
attribute [go_sem] tk1 ck1 za1 oe1 mk1 ek1 tk2 ck2 za2 oe2 mk2 ek2 tk3 ck3 za3 oe3 mk3 ek3 tk4 ck4 za4 oe4 mk4 ek4 tk5 ck5 za5 oe5 mk5 ek5 tk7 ck7 bs7 za7 tk9 ck9 za9 oe9 mk9 ek9 tk12 ck12 za12 oe12 mk12 ek12 tk13 ck13 bs13 za13 tk15 ck15 za15 oe15 mk15 ek15 tk16 ck16 za16 oe16 mk16 ek16 tk17 ck17 za17 oe17 mk17 ek17 tk18 ck18 bs18 za18 tk21 ck21 za21 oe21 mk21 ek21 tk22 ck22 za22 oe22 mk22 ek22 tk23 ck23 bs23 za23 tk24 ck24 bs24 za24 tk25 ck25 za25 oe25 mk25 ek25 tk27 ck27 za27 oe27 mk27 ek27 tk28 ck28 bs28 za28 tk29 ck29 za29 oe29 mk29 ek29 tk30 ck30 za30 oe30 mk30 ek30 tk31 ck31 za31 oe31 mk31 ek31 tk32 ck32 za32 oe32 mk32 ek32 tk33 ck33 za33 oe33 mk33 ek33 tk34 ck34 za34 oe34 mk34 ek34 tk35 ck35 za35 oe35 mk35 ek35 tk36 ck36 za36 oe36 mk36 ek36 tk37 ck37 za37 oe37 mk37 ek37 tk38 ck38 za38 oe38 mk38 ek38 tk39 ck39 za39 oe39 mk39 ek39 tk40 ck40 za40 oe40 mk40 ek40 tk41 ck41 za41 oe41 mk41 ek41 tk42 ck42 za42 oe42 mk42 ek42 tk43 ck43 za43 oe43 mk43 ek43 tk44 ck44 za44 oe44 mk44 ek44 tk45 ck45 za45 oe45 mk45 ek45 tk46 ck46 za46 oe46 mk46 ek46 tk47 ck47 za47 oe47 mk47 ek47 tk48 ck48 za48 oe48 mk48 ek48 tk49 ck49 za49 oe49 mk49 ek49 tk50 ck50 za50 oe50 mk50 ek50 tk51 ck51 za51 oe51 mk51 ek51 tk52 ck52 za52 oe52 mk52 ek52 tk53 ck53 za53 oe53 mk53 ek53 tk54 ck54 za54 oe54 mk54 ek54 tk55 ck55 za55 oe55 mk55 ek55 tk56 ck56 za56 oe56 mk56 ek56 tk57 ck57 za57 oe57 mk57 ek57 tk58 ck58 za58 oe58 mk58 ek58 tk59 ck59 za59 oe59 mk59 ek59 tk60 ck60 za60 oe60 mk60 ek60 tk61 ck61 bs61 za61 tk63 ck63 za63 oe63 mk63 ek63 tk67 ck67 za67 oe67 mk67 ek67 tk68 ck68 za68 oe68 mk68 ek68 tk69 ck69 za69 oe69 mk69 ek69 tk70 ck70 za70 oe70 mk70 ek70 tk71 ck71 za71 oe71 mk71 ek71 tk72 ck72 za72 oe72 mk72 ek72 tk73 ck73 za73 oe73 mk73 ek73 tk74 ck74 za74 oe74 mk74 ek74 tk75 ck75 za75 oe75 mk75 ek75 tk76 ck76 za76 oe76 mk76 ek76 tk77 ck77 za77 oe77 mk77 ek77 tk78 ck78 za78 oe78 mk78 ek78 tk79 ck79 za79 oe79 mk79 ek79 tk81 ck81 za81 oe81 mk81 ek81 tk82 ck82 za82 oe82 mk82 ek82 tk83 ck83 za83 oe83 mk83 ek83 tk85 ck85 za85 oe85 mk85 ek85 tk86 ck86 za86 oe86 mk86 ek86 tk87 ck87 za87 oe87 mk87 ek87 tk89 ck89 za89 oe89 mk89 ek89 tk90 ck90 za90 oe90 mk90 ek90 tk92 ck92 za92 oe92 mk92 ek92 tk94 ck94 za94 oe94 mk94 ek94 tk95 ck95 za95 oe95 mk95 ek95 tk96 ck96 za96 oe96 mk96 ek96 tk97 ck97 za97 oe97 mk97 ek97 tk100 ck100 bs100 za100 tk103 ck103 za103 tk107 ck107 za107 oe107 mk107 ek107 tk110 ck110 bs110 za110 tk112 ck112 za112 oe112 mk112 ek112
end Go.Proofs.YtgaclhdmhipagaaDoor
