import Derived.Test.YtjpdkdepbkmebaaGreatLib3
import Derived.Test.YtjpdkdepbkmebaaGreatRows
import Derived.KernelRfl
set_option linter.unusedSimpArgs false
namespace Go.Proofs.YtjpdkdepbkmebaaGreat
open Go Go.Aw
theorem tk1 : tkOf Tryz.prog 1 = .cell := by kernel_rfl
theorem ck1 : Tryz.prog.cellsOf 1 = 1 := by kernel_rfl
theorem za1 : zeroAVs Tryz.prog 1 = some [.nilfn] := by kernel_rfl
theorem oe1 : okElem Tryz.prog 1 = true := by kernel_rfl
theorem mk1 : mkOk Tryz.prog 1 = true := by kernel_rfl
theorem ek1 : elemKind Tryz.prog 1 = 0 := by kernel_rfl
theorem tk2 : tkOf Tryz.prog 2 = .int := by kernel_rfl
theorem ck2 : Tryz.prog.cellsOf 2 = 1 := by kernel_rfl
theorem za2 : zeroAVs Tryz.prog 2 = some [.int 0] := by kernel_rfl
theorem oe2 : okElem Tryz.prog 2 = true := by kernel_rfl
theorem mk2 : mkOk Tryz.prog 2 = true := by kernel_rfl
theorem ek2 : elemKind Tryz.prog 2 = 1 := by kernel_rfl
theorem tk3 : tkOf Tryz.prog 3 = .int := by kernel_rfl
theorem ck3 : Tryz.prog.cellsOf 3 = 1 := by kernel_rfl
theorem za3 : zeroAVs Tryz.prog 3 = some [.int 0] := by kernel_rfl
theorem oe3 : okElem Tryz.prog 3 = true := by kernel_rfl
theorem mk3 : mkOk Tryz.prog 3 = true := by kernel_rfl
theorem ek3 : elemKind Tryz.prog 3 = 1 := by kernel_rfl
theorem tk4 : tkOf Tryz.prog 4 = .bool := by kernel_rfl
theorem ck4 : Tryz.prog.cellsOf 4 = 1 := by kernel_rfl
theorem za4 : zeroAVs Tryz.prog 4 = some [.bool false] := by kernel_rfl
theorem oe4 : okElem Tryz.prog 4 = true := by kernel_rfl
theorem mk4 : mkOk Tryz.prog 4 = true := by kernel_rfl
theorem ek4 : elemKind Tryz.prog 4 = 0 := by kernel_rfl
theorem tk5 : tkOf Tryz.prog 5 = .ik .u8 := by kernel_rfl
theorem ck5 : Tryz.prog.cellsOf 5 = 1 := by kernel_rfl
theorem za5 : zeroAVs Tryz.prog 5 = some [.ik .u8 0] := by kernel_rfl
theorem oe5 : okElem Tryz.prog 5 = true := by kernel_rfl
theorem mk5 : mkOk Tryz.prog 5 = true := by kernel_rfl
theorem ek5 : elemKind Tryz.prog 5 = 0 := by kernel_rfl
theorem tk7 : tkOf Tryz.prog 7 = .st [(0, 1), (1, 1), (2, 1), (3, 1)] 4 := by kernel_rfl
theorem ck7 : Tryz.prog.cellsOf 7 = 4 := by kernel_rfl
theorem bs7 : bdOf Tryz.prog 7 = some [(0, 1), (1, 1), (2, 1), (3, 1)] := by kernel_rfl
theorem za7 : zeroAVs Tryz.prog 7 = some [.int 0, .int 0, .bool false, .ik .u8 0] := by kernel_rfl
theorem tk9 : tkOf Tryz.prog 9 = .str := by kernel_rfl
theorem ck9 : Tryz.prog.cellsOf 9 = 1 := by kernel_rfl
theorem za9 : zeroAVs Tryz.prog 9 = some [.str ByteArray.empty] := by kernel_rfl
theorem oe9 : okElem Tryz.prog 9 = true := by kernel_rfl
theorem mk9 : mkOk Tryz.prog 9 = true := by kernel_rfl
theorem ek9 : elemKind Tryz.prog 9 = 0 := by kernel_rfl
theorem tk12 : tkOf Tryz.prog 12 = .ik .u64 := by kernel_rfl
theorem ck12 : Tryz.prog.cellsOf 12 = 1 := by kernel_rfl
theorem za12 : zeroAVs Tryz.prog 12 = some [.ik .u64 0] := by kernel_rfl
theorem oe12 : okElem Tryz.prog 12 = true := by kernel_rfl
theorem mk12 : mkOk Tryz.prog 12 = true := by kernel_rfl
theorem ek12 : elemKind Tryz.prog 12 = 0 := by kernel_rfl
theorem tk13 : tkOf Tryz.prog 13 = .st [(0, 1), (1, 1)] 2 := by kernel_rfl
theorem ck13 : Tryz.prog.cellsOf 13 = 2 := by kernel_rfl
theorem bs13 : bdOf Tryz.prog 13 = some [(0, 1), (1, 1)] := by kernel_rfl
theorem za13 : zeroAVs Tryz.prog 13 = some [.str ByteArray.empty, .ik .u64 0] := by kernel_rfl
theorem tk15 : tkOf Tryz.prog 15 = .cell := by kernel_rfl
theorem ck15 : Tryz.prog.cellsOf 15 = 1 := by kernel_rfl
theorem za15 : zeroAVs Tryz.prog 15 = some [.junk] := by kernel_rfl
theorem oe15 : okElem Tryz.prog 15 = true := by kernel_rfl
theorem mk15 : mkOk Tryz.prog 15 = true := by kernel_rfl
theorem ek15 : elemKind Tryz.prog 15 = 0 := by kernel_rfl
theorem tk16 : tkOf Tryz.prog 16 = .cell := by kernel_rfl
theorem ck16 : Tryz.prog.cellsOf 16 = 1 := by kernel_rfl
theorem za16 : zeroAVs Tryz.prog 16 = some [.junk] := by kernel_rfl
theorem oe16 : okElem Tryz.prog 16 = true := by kernel_rfl
theorem mk16 : mkOk Tryz.prog 16 = true := by kernel_rfl
theorem ek16 : elemKind Tryz.prog 16 = 0 := by kernel_rfl
theorem tk17 : tkOf Tryz.prog 17 = .cell := by kernel_rfl
theorem ck17 : Tryz.prog.cellsOf 17 = 1 := by kernel_rfl
theorem za17 : zeroAVs Tryz.prog 17 = some [.junk] := by kernel_rfl
theorem oe17 : okElem Tryz.prog 17 = true := by kernel_rfl
theorem mk17 : mkOk Tryz.prog 17 = true := by kernel_rfl
theorem ek17 : elemKind Tryz.prog 17 = 0 := by kernel_rfl
theorem tk18 : tkOf Tryz.prog 18 = .st [(0, 1)] 1 := by kernel_rfl
theorem ck18 : Tryz.prog.cellsOf 18 = 1 := by kernel_rfl
theorem bs18 : bdOf Tryz.prog 18 = some [(0, 1)] := by kernel_rfl
theorem za18 : zeroAVs Tryz.prog 18 = some [.junk] := by kernel_rfl
theorem tk21 : tkOf Tryz.prog 21 = .ik .i32 := by kernel_rfl
theorem ck21 : Tryz.prog.cellsOf 21 = 1 := by kernel_rfl
theorem za21 : zeroAVs Tryz.prog 21 = some [.ik .i32 0] := by kernel_rfl
theorem oe21 : okElem Tryz.prog 21 = true := by kernel_rfl
theorem mk21 : mkOk Tryz.prog 21 = true := by kernel_rfl
theorem ek21 : elemKind Tryz.prog 21 = 0 := by kernel_rfl
theorem tk22 : tkOf Tryz.prog 22 = .sl 23 := by kernel_rfl
theorem ck22 : Tryz.prog.cellsOf 22 = 1 := by kernel_rfl
theorem za22 : zeroAVs Tryz.prog 22 = some [.nil] := by kernel_rfl
theorem oe22 : okElem Tryz.prog 22 = true := by kernel_rfl
theorem mk22 : mkOk Tryz.prog 22 = true := by kernel_rfl
theorem ek22 : elemKind Tryz.prog 22 = 3 := by kernel_rfl
theorem tk23 : tkOf Tryz.prog 23 = .sl 2 := by kernel_rfl
theorem ck23 : Tryz.prog.cellsOf 23 = 1 := by kernel_rfl
theorem za23 : zeroAVs Tryz.prog 23 = some [.nil] := by kernel_rfl
theorem oe23 : okElem Tryz.prog 23 = true := by kernel_rfl
theorem mk23 : mkOk Tryz.prog 23 = true := by kernel_rfl
theorem ek23 : elemKind Tryz.prog 23 = 2 := by kernel_rfl
theorem tk24 : tkOf Tryz.prog 24 = .st [(0, 1), (1, 1)] 2 := by kernel_rfl
theorem ck24 : Tryz.prog.cellsOf 24 = 2 := by kernel_rfl
theorem bs24 : bdOf Tryz.prog 24 = some [(0, 1), (1, 1)] := by kernel_rfl
theorem za24 : zeroAVs Tryz.prog 24 = some [.nil, .nil] := by kernel_rfl
theorem tk25 : tkOf Tryz.prog 25 = .st [(0, 1), (1, 1)] 2 := by kernel_rfl
theorem ck25 : Tryz.prog.cellsOf 25 = 2 := by kernel_rfl
theorem bs25 : bdOf Tryz.prog 25 = some [(0, 1), (1, 1)] := by kernel_rfl
theorem za25 : zeroAVs Tryz.prog 25 = some [.nil, .nil] := by kernel_rfl
theorem tk26 : tkOf Tryz.prog 26 = .cell := by kernel_rfl
theorem ck26 : Tryz.prog.cellsOf 26 = 1 := by kernel_rfl
theorem za26 : zeroAVs Tryz.prog 26 = some [.nilfn] := by kernel_rfl
theorem oe26 : okElem Tryz.prog 26 = true := by kernel_rfl
theorem mk26 : mkOk Tryz.prog 26 = true := by kernel_rfl
theorem ek26 : elemKind Tryz.prog 26 = 0 := by kernel_rfl
theorem tk27 : tkOf Tryz.prog 27 = .sl 22 := by kernel_rfl
theorem ck27 : Tryz.prog.cellsOf 27 = 1 := by kernel_rfl
theorem za27 : zeroAVs Tryz.prog 27 = some [.nil] := by kernel_rfl
theorem oe27 : okElem Tryz.prog 27 = true := by kernel_rfl
theorem mk27 : mkOk Tryz.prog 27 = true := by kernel_rfl
theorem ek27 : elemKind Tryz.prog 27 = 0 := by kernel_rfl
theorem tk29 : tkOf Tryz.prog 29 = .cell := by kernel_rfl
theorem ck29 : Tryz.prog.cellsOf 29 = 1 := by kernel_rfl
theorem za29 : zeroAVs Tryz.prog 29 = some [.nilfn] := by kernel_rfl
theorem oe29 : okElem Tryz.prog 29 = true := by kernel_rfl
theorem mk29 : mkOk Tryz.prog 29 = true := by kernel_rfl
theorem ek29 : elemKind Tryz.prog 29 = 0 := by kernel_rfl
theorem tk30 : tkOf Tryz.prog 30 = .st [(0, 1), (1, 1)] 2 := by kernel_rfl
theorem ck30 : Tryz.prog.cellsOf 30 = 2 := by kernel_rfl
theorem bs30 : bdOf Tryz.prog 30 = some [(0, 1), (1, 1)] := by kernel_rfl
theorem za30 : zeroAVs Tryz.prog 30 = some [.nil, .nil] := by kernel_rfl
theorem tk31 : tkOf Tryz.prog 31 = .cell := by kernel_rfl
theorem ck31 : Tryz.prog.cellsOf 31 = 1 := by kernel_rfl
theorem za31 : zeroAVs Tryz.prog 31 = some [.nilfn] := by kernel_rfl
theorem oe31 : okElem Tryz.prog 31 = true := by kernel_rfl
theorem mk31 : mkOk Tryz.prog 31 = true := by kernel_rfl
theorem ek31 : elemKind Tryz.prog 31 = 0 := by kernel_rfl
theorem tk32 : tkOf Tryz.prog 32 = .cell := by kernel_rfl
theorem ck32 : Tryz.prog.cellsOf 32 = 1 := by kernel_rfl
theorem za32 : zeroAVs Tryz.prog 32 = some [.nilfn] := by kernel_rfl
theorem oe32 : okElem Tryz.prog 32 = true := by kernel_rfl
theorem mk32 : mkOk Tryz.prog 32 = true := by kernel_rfl
theorem ek32 : elemKind Tryz.prog 32 = 0 := by kernel_rfl
theorem tk33 : tkOf Tryz.prog 33 = .cell := by kernel_rfl
theorem ck33 : Tryz.prog.cellsOf 33 = 1 := by kernel_rfl
theorem za33 : zeroAVs Tryz.prog 33 = some [.nilfn] := by kernel_rfl
theorem oe33 : okElem Tryz.prog 33 = true := by kernel_rfl
theorem mk33 : mkOk Tryz.prog 33 = true := by kernel_rfl
theorem ek33 : elemKind Tryz.prog 33 = 0 := by kernel_rfl
theorem tk34 : tkOf Tryz.prog 34 = .cell := by kernel_rfl
theorem ck34 : Tryz.prog.cellsOf 34 = 1 := by kernel_rfl
theorem za34 : zeroAVs Tryz.prog 34 = some [.nilfn] := by kernel_rfl
theorem oe34 : okElem Tryz.prog 34 = true := by kernel_rfl
theorem mk34 : mkOk Tryz.prog 34 = true := by kernel_rfl
theorem ek34 : elemKind Tryz.prog 34 = 0 := by kernel_rfl
theorem tk35 : tkOf Tryz.prog 35 = .cell := by kernel_rfl
theorem ck35 : Tryz.prog.cellsOf 35 = 1 := by kernel_rfl
theorem za35 : zeroAVs Tryz.prog 35 = some [.nilfn] := by kernel_rfl
theorem oe35 : okElem Tryz.prog 35 = true := by kernel_rfl
theorem mk35 : mkOk Tryz.prog 35 = true := by kernel_rfl
theorem ek35 : elemKind Tryz.prog 35 = 0 := by kernel_rfl
theorem tk36 : tkOf Tryz.prog 36 = .cell := by kernel_rfl
theorem ck36 : Tryz.prog.cellsOf 36 = 1 := by kernel_rfl
theorem za36 : zeroAVs Tryz.prog 36 = some [.nilfn] := by kernel_rfl
theorem oe36 : okElem Tryz.prog 36 = true := by kernel_rfl
theorem mk36 : mkOk Tryz.prog 36 = true := by kernel_rfl
theorem ek36 : elemKind Tryz.prog 36 = 0 := by kernel_rfl
theorem tk37 : tkOf Tryz.prog 37 = .cell := by kernel_rfl
theorem ck37 : Tryz.prog.cellsOf 37 = 1 := by kernel_rfl
theorem za37 : zeroAVs Tryz.prog 37 = some [.nilfn] := by kernel_rfl
theorem oe37 : okElem Tryz.prog 37 = true := by kernel_rfl
theorem mk37 : mkOk Tryz.prog 37 = true := by kernel_rfl
theorem ek37 : elemKind Tryz.prog 37 = 0 := by kernel_rfl
theorem tk38 : tkOf Tryz.prog 38 = .cell := by kernel_rfl
theorem ck38 : Tryz.prog.cellsOf 38 = 1 := by kernel_rfl
theorem za38 : zeroAVs Tryz.prog 38 = some [.nilfn] := by kernel_rfl
theorem oe38 : okElem Tryz.prog 38 = true := by kernel_rfl
theorem mk38 : mkOk Tryz.prog 38 = true := by kernel_rfl
theorem ek38 : elemKind Tryz.prog 38 = 0 := by kernel_rfl
theorem tk39 : tkOf Tryz.prog 39 = .cell := by kernel_rfl
theorem ck39 : Tryz.prog.cellsOf 39 = 1 := by kernel_rfl
theorem za39 : zeroAVs Tryz.prog 39 = some [.nilfn] := by kernel_rfl
theorem oe39 : okElem Tryz.prog 39 = true := by kernel_rfl
theorem mk39 : mkOk Tryz.prog 39 = true := by kernel_rfl
theorem ek39 : elemKind Tryz.prog 39 = 0 := by kernel_rfl
theorem tk40 : tkOf Tryz.prog 40 = .cell := by kernel_rfl
theorem ck40 : Tryz.prog.cellsOf 40 = 1 := by kernel_rfl
theorem za40 : zeroAVs Tryz.prog 40 = some [.nilfn] := by kernel_rfl
theorem oe40 : okElem Tryz.prog 40 = true := by kernel_rfl
theorem mk40 : mkOk Tryz.prog 40 = true := by kernel_rfl
theorem ek40 : elemKind Tryz.prog 40 = 0 := by kernel_rfl
theorem tk41 : tkOf Tryz.prog 41 = .cell := by kernel_rfl
theorem ck41 : Tryz.prog.cellsOf 41 = 1 := by kernel_rfl
theorem za41 : zeroAVs Tryz.prog 41 = some [.nilfn] := by kernel_rfl
theorem oe41 : okElem Tryz.prog 41 = true := by kernel_rfl
theorem mk41 : mkOk Tryz.prog 41 = true := by kernel_rfl
theorem ek41 : elemKind Tryz.prog 41 = 0 := by kernel_rfl
theorem tk42 : tkOf Tryz.prog 42 = .cell := by kernel_rfl
theorem ck42 : Tryz.prog.cellsOf 42 = 1 := by kernel_rfl
theorem za42 : zeroAVs Tryz.prog 42 = some [.nilfn] := by kernel_rfl
theorem oe42 : okElem Tryz.prog 42 = true := by kernel_rfl
theorem mk42 : mkOk Tryz.prog 42 = true := by kernel_rfl
theorem ek42 : elemKind Tryz.prog 42 = 0 := by kernel_rfl
theorem tk43 : tkOf Tryz.prog 43 = .cell := by kernel_rfl
theorem ck43 : Tryz.prog.cellsOf 43 = 1 := by kernel_rfl
theorem za43 : zeroAVs Tryz.prog 43 = some [.nilfn] := by kernel_rfl
theorem oe43 : okElem Tryz.prog 43 = true := by kernel_rfl
theorem mk43 : mkOk Tryz.prog 43 = true := by kernel_rfl
theorem ek43 : elemKind Tryz.prog 43 = 0 := by kernel_rfl
theorem tk44 : tkOf Tryz.prog 44 = .cell := by kernel_rfl
theorem ck44 : Tryz.prog.cellsOf 44 = 1 := by kernel_rfl
theorem za44 : zeroAVs Tryz.prog 44 = some [.nilfn] := by kernel_rfl
theorem oe44 : okElem Tryz.prog 44 = true := by kernel_rfl
theorem mk44 : mkOk Tryz.prog 44 = true := by kernel_rfl
theorem ek44 : elemKind Tryz.prog 44 = 0 := by kernel_rfl
theorem tk45 : tkOf Tryz.prog 45 = .cell := by kernel_rfl
theorem ck45 : Tryz.prog.cellsOf 45 = 1 := by kernel_rfl
theorem za45 : zeroAVs Tryz.prog 45 = some [.nilfn] := by kernel_rfl
theorem oe45 : okElem Tryz.prog 45 = true := by kernel_rfl
theorem mk45 : mkOk Tryz.prog 45 = true := by kernel_rfl
theorem ek45 : elemKind Tryz.prog 45 = 0 := by kernel_rfl
theorem tk46 : tkOf Tryz.prog 46 = .sp 47 := by kernel_rfl
theorem ck46 : Tryz.prog.cellsOf 46 = 1 := by kernel_rfl
theorem za46 : zeroAVs Tryz.prog 46 = some [.nil] := by kernel_rfl
theorem oe46 : okElem Tryz.prog 46 = true := by kernel_rfl
theorem mk46 : mkOk Tryz.prog 46 = true := by kernel_rfl
theorem ek46 : elemKind Tryz.prog 46 = 0 := by kernel_rfl
theorem tk47 : tkOf Tryz.prog 47 = .ar 2 := by kernel_rfl
theorem ck47 : Tryz.prog.cellsOf 47 = 2 := by kernel_rfl
theorem bs47 : bdOf Tryz.prog 47 = some [(0, 1), (1, 1)] := by kernel_rfl
theorem op47 : okPairE Tryz.prog 47 = true := by kernel_rfl
theorem za47 : zeroAVs Tryz.prog 47 = some [.int 0, .int 0] := by kernel_rfl
theorem tk48 : tkOf Tryz.prog 48 = .cell := by kernel_rfl
theorem ck48 : Tryz.prog.cellsOf 48 = 1 := by kernel_rfl
theorem za48 : zeroAVs Tryz.prog 48 = some [.nilfn] := by kernel_rfl
theorem oe48 : okElem Tryz.prog 48 = true := by kernel_rfl
theorem mk48 : mkOk Tryz.prog 48 = true := by kernel_rfl
theorem ek48 : elemKind Tryz.prog 48 = 0 := by kernel_rfl
theorem tk49 : tkOf Tryz.prog 49 = .cell := by kernel_rfl
theorem ck49 : Tryz.prog.cellsOf 49 = 1 := by kernel_rfl
theorem za49 : zeroAVs Tryz.prog 49 = some [.nilfn] := by kernel_rfl
theorem oe49 : okElem Tryz.prog 49 = true := by kernel_rfl
theorem mk49 : mkOk Tryz.prog 49 = true := by kernel_rfl
theorem ek49 : elemKind Tryz.prog 49 = 0 := by kernel_rfl
theorem tk50 : tkOf Tryz.prog 50 = .cell := by kernel_rfl
theorem ck50 : Tryz.prog.cellsOf 50 = 1 := by kernel_rfl
theorem za50 : zeroAVs Tryz.prog 50 = some [.nilfn] := by kernel_rfl
theorem oe50 : okElem Tryz.prog 50 = true := by kernel_rfl
theorem mk50 : mkOk Tryz.prog 50 = true := by kernel_rfl
theorem ek50 : elemKind Tryz.prog 50 = 0 := by kernel_rfl
theorem tk51 : tkOf Tryz.prog 51 = .cell := by kernel_rfl
theorem ck51 : Tryz.prog.cellsOf 51 = 1 := by kernel_rfl
theorem za51 : zeroAVs Tryz.prog 51 = some [.nilfn] := by kernel_rfl
theorem oe51 : okElem Tryz.prog 51 = true := by kernel_rfl
theorem mk51 : mkOk Tryz.prog 51 = true := by kernel_rfl
theorem ek51 : elemKind Tryz.prog 51 = 0 := by kernel_rfl
theorem tk52 : tkOf Tryz.prog 52 = .cell := by kernel_rfl
theorem ck52 : Tryz.prog.cellsOf 52 = 1 := by kernel_rfl
theorem za52 : zeroAVs Tryz.prog 52 = some [.nilfn] := by kernel_rfl
theorem oe52 : okElem Tryz.prog 52 = true := by kernel_rfl
theorem mk52 : mkOk Tryz.prog 52 = true := by kernel_rfl
theorem ek52 : elemKind Tryz.prog 52 = 0 := by kernel_rfl
theorem tk53 : tkOf Tryz.prog 53 = .cell := by kernel_rfl
theorem ck53 : Tryz.prog.cellsOf 53 = 1 := by kernel_rfl
theorem za53 : zeroAVs Tryz.prog 53 = some [.nilfn] := by kernel_rfl
theorem oe53 : okElem Tryz.prog 53 = true := by kernel_rfl
theorem mk53 : mkOk Tryz.prog 53 = true := by kernel_rfl
theorem ek53 : elemKind Tryz.prog 53 = 0 := by kernel_rfl
theorem tk54 : tkOf Tryz.prog 54 = .cell := by kernel_rfl
theorem ck54 : Tryz.prog.cellsOf 54 = 1 := by kernel_rfl
theorem za54 : zeroAVs Tryz.prog 54 = some [.nilfn] := by kernel_rfl
theorem oe54 : okElem Tryz.prog 54 = true := by kernel_rfl
theorem mk54 : mkOk Tryz.prog 54 = true := by kernel_rfl
theorem ek54 : elemKind Tryz.prog 54 = 0 := by kernel_rfl
theorem tk55 : tkOf Tryz.prog 55 = .cell := by kernel_rfl
theorem ck55 : Tryz.prog.cellsOf 55 = 1 := by kernel_rfl
theorem za55 : zeroAVs Tryz.prog 55 = some [.nilfn] := by kernel_rfl
theorem oe55 : okElem Tryz.prog 55 = true := by kernel_rfl
theorem mk55 : mkOk Tryz.prog 55 = true := by kernel_rfl
theorem ek55 : elemKind Tryz.prog 55 = 0 := by kernel_rfl
theorem tk56 : tkOf Tryz.prog 56 = .cell := by kernel_rfl
theorem ck56 : Tryz.prog.cellsOf 56 = 1 := by kernel_rfl
theorem za56 : zeroAVs Tryz.prog 56 = some [.nilfn] := by kernel_rfl
theorem oe56 : okElem Tryz.prog 56 = true := by kernel_rfl
theorem mk56 : mkOk Tryz.prog 56 = true := by kernel_rfl
theorem ek56 : elemKind Tryz.prog 56 = 0 := by kernel_rfl
theorem tk58 : tkOf Tryz.prog 58 = .cell := by kernel_rfl
theorem ck58 : Tryz.prog.cellsOf 58 = 1 := by kernel_rfl
theorem za58 : zeroAVs Tryz.prog 58 = some [.nilfn] := by kernel_rfl
theorem oe58 : okElem Tryz.prog 58 = true := by kernel_rfl
theorem mk58 : mkOk Tryz.prog 58 = true := by kernel_rfl
theorem ek58 : elemKind Tryz.prog 58 = 0 := by kernel_rfl
theorem tk59 : tkOf Tryz.prog 59 = .cell := by kernel_rfl
theorem ck59 : Tryz.prog.cellsOf 59 = 1 := by kernel_rfl
theorem za59 : zeroAVs Tryz.prog 59 = some [.nilfn] := by kernel_rfl
theorem oe59 : okElem Tryz.prog 59 = true := by kernel_rfl
theorem mk59 : mkOk Tryz.prog 59 = true := by kernel_rfl
theorem ek59 : elemKind Tryz.prog 59 = 0 := by kernel_rfl
theorem tk60 : tkOf Tryz.prog 60 = .cell := by kernel_rfl
theorem ck60 : Tryz.prog.cellsOf 60 = 1 := by kernel_rfl
theorem za60 : zeroAVs Tryz.prog 60 = some [.nilfn] := by kernel_rfl
theorem oe60 : okElem Tryz.prog 60 = true := by kernel_rfl
theorem mk60 : mkOk Tryz.prog 60 = true := by kernel_rfl
theorem ek60 : elemKind Tryz.prog 60 = 0 := by kernel_rfl
theorem tk61 : tkOf Tryz.prog 61 = .cell := by kernel_rfl
theorem ck61 : Tryz.prog.cellsOf 61 = 1 := by kernel_rfl
theorem za61 : zeroAVs Tryz.prog 61 = some [.nilfn] := by kernel_rfl
theorem oe61 : okElem Tryz.prog 61 = true := by kernel_rfl
theorem mk61 : mkOk Tryz.prog 61 = true := by kernel_rfl
theorem ek61 : elemKind Tryz.prog 61 = 0 := by kernel_rfl
theorem tk62 : tkOf Tryz.prog 62 = .cell := by kernel_rfl
theorem ck62 : Tryz.prog.cellsOf 62 = 1 := by kernel_rfl
theorem za62 : zeroAVs Tryz.prog 62 = some [.nilfn] := by kernel_rfl
theorem oe62 : okElem Tryz.prog 62 = true := by kernel_rfl
theorem mk62 : mkOk Tryz.prog 62 = true := by kernel_rfl
theorem ek62 : elemKind Tryz.prog 62 = 0 := by kernel_rfl
theorem tk63 : tkOf Tryz.prog 63 = .cell := by kernel_rfl
theorem ck63 : Tryz.prog.cellsOf 63 = 1 := by kernel_rfl
theorem za63 : zeroAVs Tryz.prog 63 = some [.nilfn] := by kernel_rfl
theorem oe63 : okElem Tryz.prog 63 = true := by kernel_rfl
theorem mk63 : mkOk Tryz.prog 63 = true := by kernel_rfl
theorem ek63 : elemKind Tryz.prog 63 = 0 := by kernel_rfl
theorem tk64 : tkOf Tryz.prog 64 = .cell := by kernel_rfl
theorem ck64 : Tryz.prog.cellsOf 64 = 1 := by kernel_rfl
theorem za64 : zeroAVs Tryz.prog 64 = some [.nilfn] := by kernel_rfl
theorem oe64 : okElem Tryz.prog 64 = true := by kernel_rfl
theorem mk64 : mkOk Tryz.prog 64 = true := by kernel_rfl
theorem ek64 : elemKind Tryz.prog 64 = 0 := by kernel_rfl
theorem tk65 : tkOf Tryz.prog 65 = .cell := by kernel_rfl
theorem ck65 : Tryz.prog.cellsOf 65 = 1 := by kernel_rfl
theorem za65 : zeroAVs Tryz.prog 65 = some [.nilfn] := by kernel_rfl
theorem oe65 : okElem Tryz.prog 65 = true := by kernel_rfl
theorem mk65 : mkOk Tryz.prog 65 = true := by kernel_rfl
theorem ek65 : elemKind Tryz.prog 65 = 0 := by kernel_rfl
theorem tk66 : tkOf Tryz.prog 66 = .cell := by kernel_rfl
theorem ck66 : Tryz.prog.cellsOf 66 = 1 := by kernel_rfl
theorem za66 : zeroAVs Tryz.prog 66 = some [.nilfn] := by kernel_rfl
theorem oe66 : okElem Tryz.prog 66 = true := by kernel_rfl
theorem mk66 : mkOk Tryz.prog 66 = true := by kernel_rfl
theorem ek66 : elemKind Tryz.prog 66 = 0 := by kernel_rfl
theorem tk67 : tkOf Tryz.prog 67 = .st [(0, 1)] 1 := by kernel_rfl
theorem ck67 : Tryz.prog.cellsOf 67 = 1 := by kernel_rfl
theorem bs67 : bdOf Tryz.prog 67 = some [(0, 1)] := by kernel_rfl
theorem za67 : zeroAVs Tryz.prog 67 = some [.nil] := by kernel_rfl
theorem tk68 : tkOf Tryz.prog 68 = .st [(0, 1)] 1 := by kernel_rfl
theorem ck68 : Tryz.prog.cellsOf 68 = 1 := by kernel_rfl
theorem bs68 : bdOf Tryz.prog 68 = some [(0, 1)] := by kernel_rfl
theorem za68 : zeroAVs Tryz.prog 68 = some [.nil] := by kernel_rfl
theorem tk69 : tkOf Tryz.prog 69 = .cell := by kernel_rfl
theorem ck69 : Tryz.prog.cellsOf 69 = 1 := by kernel_rfl
theorem za69 : zeroAVs Tryz.prog 69 = some [.nilfn] := by kernel_rfl
theorem oe69 : okElem Tryz.prog 69 = true := by kernel_rfl
theorem mk69 : mkOk Tryz.prog 69 = true := by kernel_rfl
theorem ek69 : elemKind Tryz.prog 69 = 0 := by kernel_rfl
theorem tk70 : tkOf Tryz.prog 70 = .cell := by kernel_rfl
theorem ck70 : Tryz.prog.cellsOf 70 = 1 := by kernel_rfl
theorem za70 : zeroAVs Tryz.prog 70 = some [.nilfn] := by kernel_rfl
theorem oe70 : okElem Tryz.prog 70 = true := by kernel_rfl
theorem mk70 : mkOk Tryz.prog 70 = true := by kernel_rfl
theorem ek70 : elemKind Tryz.prog 70 = 0 := by kernel_rfl
theorem tk71 : tkOf Tryz.prog 71 = .cell := by kernel_rfl
theorem ck71 : Tryz.prog.cellsOf 71 = 1 := by kernel_rfl
theorem za71 : zeroAVs Tryz.prog 71 = some [.nilfn] := by kernel_rfl
theorem oe71 : okElem Tryz.prog 71 = true := by kernel_rfl
theorem mk71 : mkOk Tryz.prog 71 = true := by kernel_rfl
theorem ek71 : elemKind Tryz.prog 71 = 0 := by kernel_rfl
theorem tk72 : tkOf Tryz.prog 72 = .cell := by kernel_rfl
theorem ck72 : Tryz.prog.cellsOf 72 = 1 := by kernel_rfl
theorem za72 : zeroAVs Tryz.prog 72 = some [.nilfn] := by kernel_rfl
theorem oe72 : okElem Tryz.prog 72 = true := by kernel_rfl
theorem mk72 : mkOk Tryz.prog 72 = true := by kernel_rfl
theorem ek72 : elemKind Tryz.prog 72 = 0 := by kernel_rfl
theorem tk73 : tkOf Tryz.prog 73 = .sl 3 := by kernel_rfl
theorem ck73 : Tryz.prog.cellsOf 73 = 1 := by kernel_rfl
theorem za73 : zeroAVs Tryz.prog 73 = some [.nil] := by kernel_rfl
theorem oe73 : okElem Tryz.prog 73 = true := by kernel_rfl
theorem mk73 : mkOk Tryz.prog 73 = true := by kernel_rfl
theorem ek73 : elemKind Tryz.prog 73 = 2 := by kernel_rfl
theorem tk74 : tkOf Tryz.prog 74 = .cell := by kernel_rfl
theorem ck74 : Tryz.prog.cellsOf 74 = 1 := by kernel_rfl
theorem za74 : zeroAVs Tryz.prog 74 = some [.nilfn] := by kernel_rfl
theorem oe74 : okElem Tryz.prog 74 = true := by kernel_rfl
theorem mk74 : mkOk Tryz.prog 74 = true := by kernel_rfl
theorem ek74 : elemKind Tryz.prog 74 = 0 := by kernel_rfl
theorem tk76 : tkOf Tryz.prog 76 = .cell := by kernel_rfl
theorem ck76 : Tryz.prog.cellsOf 76 = 1 := by kernel_rfl
theorem za76 : zeroAVs Tryz.prog 76 = some [.nilfn] := by kernel_rfl
theorem oe76 : okElem Tryz.prog 76 = true := by kernel_rfl
theorem mk76 : mkOk Tryz.prog 76 = true := by kernel_rfl
theorem ek76 : elemKind Tryz.prog 76 = 0 := by kernel_rfl
theorem tk77 : tkOf Tryz.prog 77 = .cell := by kernel_rfl
theorem ck77 : Tryz.prog.cellsOf 77 = 1 := by kernel_rfl
theorem za77 : zeroAVs Tryz.prog 77 = some [.nilfn] := by kernel_rfl
theorem oe77 : okElem Tryz.prog 77 = true := by kernel_rfl
theorem mk77 : mkOk Tryz.prog 77 = true := by kernel_rfl
theorem ek77 : elemKind Tryz.prog 77 = 0 := by kernel_rfl
theorem tk78 : tkOf Tryz.prog 78 = .cell := by kernel_rfl
theorem ck78 : Tryz.prog.cellsOf 78 = 1 := by kernel_rfl
theorem za78 : zeroAVs Tryz.prog 78 = some [.nilfn] := by kernel_rfl
theorem oe78 : okElem Tryz.prog 78 = true := by kernel_rfl
theorem mk78 : mkOk Tryz.prog 78 = true := by kernel_rfl
theorem ek78 : elemKind Tryz.prog 78 = 0 := by kernel_rfl
theorem tk79 : tkOf Tryz.prog 79 = .cell := by kernel_rfl
theorem ck79 : Tryz.prog.cellsOf 79 = 1 := by kernel_rfl
theorem za79 : zeroAVs Tryz.prog 79 = some [.nilfn] := by kernel_rfl
theorem oe79 : okElem Tryz.prog 79 = true := by kernel_rfl
theorem mk79 : mkOk Tryz.prog 79 = true := by kernel_rfl
theorem ek79 : elemKind Tryz.prog 79 = 0 := by kernel_rfl
theorem tk80 : tkOf Tryz.prog 80 = .cell := by kernel_rfl
theorem ck80 : Tryz.prog.cellsOf 80 = 1 := by kernel_rfl
theorem za80 : zeroAVs Tryz.prog 80 = some [.nilfn] := by kernel_rfl
theorem oe80 : okElem Tryz.prog 80 = true := by kernel_rfl
theorem mk80 : mkOk Tryz.prog 80 = true := by kernel_rfl
theorem ek80 : elemKind Tryz.prog 80 = 0 := by kernel_rfl
theorem tk81 : tkOf Tryz.prog 81 = .cell := by kernel_rfl
theorem ck81 : Tryz.prog.cellsOf 81 = 1 := by kernel_rfl
theorem za81 : zeroAVs Tryz.prog 81 = some [.nilfn] := by kernel_rfl
theorem oe81 : okElem Tryz.prog 81 = true := by kernel_rfl
theorem mk81 : mkOk Tryz.prog 81 = true := by kernel_rfl
theorem ek81 : elemKind Tryz.prog 81 = 0 := by kernel_rfl
theorem tk82 : tkOf Tryz.prog 82 = .cell := by kernel_rfl
theorem ck82 : Tryz.prog.cellsOf 82 = 1 := by kernel_rfl
theorem za82 : zeroAVs Tryz.prog 82 = some [.nilfn] := by kernel_rfl
theorem oe82 : okElem Tryz.prog 82 = true := by kernel_rfl
theorem mk82 : mkOk Tryz.prog 82 = true := by kernel_rfl
theorem ek82 : elemKind Tryz.prog 82 = 0 := by kernel_rfl
theorem tk83 : tkOf Tryz.prog 83 = .cell := by kernel_rfl
theorem ck83 : Tryz.prog.cellsOf 83 = 1 := by kernel_rfl
theorem za83 : zeroAVs Tryz.prog 83 = some [.nilfn] := by kernel_rfl
theorem oe83 : okElem Tryz.prog 83 = true := by kernel_rfl
theorem mk83 : mkOk Tryz.prog 83 = true := by kernel_rfl
theorem ek83 : elemKind Tryz.prog 83 = 0 := by kernel_rfl
theorem tk84 : tkOf Tryz.prog 84 = .cell := by kernel_rfl
theorem ck84 : Tryz.prog.cellsOf 84 = 1 := by kernel_rfl
theorem za84 : zeroAVs Tryz.prog 84 = some [.nilfn] := by kernel_rfl
theorem oe84 : okElem Tryz.prog 84 = true := by kernel_rfl
theorem mk84 : mkOk Tryz.prog 84 = true := by kernel_rfl
theorem ek84 : elemKind Tryz.prog 84 = 0 := by kernel_rfl
theorem tk85 : tkOf Tryz.prog 85 = .cell := by kernel_rfl
theorem ck85 : Tryz.prog.cellsOf 85 = 1 := by kernel_rfl
theorem za85 : zeroAVs Tryz.prog 85 = some [.nilfn] := by kernel_rfl
theorem oe85 : okElem Tryz.prog 85 = true := by kernel_rfl
theorem mk85 : mkOk Tryz.prog 85 = true := by kernel_rfl
theorem ek85 : elemKind Tryz.prog 85 = 0 := by kernel_rfl
theorem tk86 : tkOf Tryz.prog 86 = .cell := by kernel_rfl
theorem ck86 : Tryz.prog.cellsOf 86 = 1 := by kernel_rfl
theorem za86 : zeroAVs Tryz.prog 86 = some [.nilfn] := by kernel_rfl
theorem oe86 : okElem Tryz.prog 86 = true := by kernel_rfl
theorem mk86 : mkOk Tryz.prog 86 = true := by kernel_rfl
theorem ek86 : elemKind Tryz.prog 86 = 0 := by kernel_rfl
theorem tk87 : tkOf Tryz.prog 87 = .cell := by kernel_rfl
theorem ck87 : Tryz.prog.cellsOf 87 = 1 := by kernel_rfl
theorem za87 : zeroAVs Tryz.prog 87 = some [.nilfn] := by kernel_rfl
theorem oe87 : okElem Tryz.prog 87 = true := by kernel_rfl
theorem mk87 : mkOk Tryz.prog 87 = true := by kernel_rfl
theorem ek87 : elemKind Tryz.prog 87 = 0 := by kernel_rfl
theorem tk88 : tkOf Tryz.prog 88 = .cell := by kernel_rfl
theorem ck88 : Tryz.prog.cellsOf 88 = 1 := by kernel_rfl
theorem za88 : zeroAVs Tryz.prog 88 = some [.nilfn] := by kernel_rfl
theorem oe88 : okElem Tryz.prog 88 = true := by kernel_rfl
theorem mk88 : mkOk Tryz.prog 88 = true := by kernel_rfl
theorem ek88 : elemKind Tryz.prog 88 = 0 := by kernel_rfl
theorem tk89 : tkOf Tryz.prog 89 = .cell := by kernel_rfl
theorem ck89 : Tryz.prog.cellsOf 89 = 1 := by kernel_rfl
theorem za89 : zeroAVs Tryz.prog 89 = some [.nilfn] := by kernel_rfl
theorem oe89 : okElem Tryz.prog 89 = true := by kernel_rfl
theorem mk89 : mkOk Tryz.prog 89 = true := by kernel_rfl
theorem ek89 : elemKind Tryz.prog 89 = 0 := by kernel_rfl
theorem tk90 : tkOf Tryz.prog 90 = .cell := by kernel_rfl
theorem ck90 : Tryz.prog.cellsOf 90 = 1 := by kernel_rfl
theorem za90 : zeroAVs Tryz.prog 90 = some [.nilfn] := by kernel_rfl
theorem oe90 : okElem Tryz.prog 90 = true := by kernel_rfl
theorem mk90 : mkOk Tryz.prog 90 = true := by kernel_rfl
theorem ek90 : elemKind Tryz.prog 90 = 0 := by kernel_rfl
theorem tk91 : tkOf Tryz.prog 91 = .cell := by kernel_rfl
theorem ck91 : Tryz.prog.cellsOf 91 = 1 := by kernel_rfl
theorem za91 : zeroAVs Tryz.prog 91 = some [.nilfn] := by kernel_rfl
theorem oe91 : okElem Tryz.prog 91 = true := by kernel_rfl
theorem mk91 : mkOk Tryz.prog 91 = true := by kernel_rfl
theorem ek91 : elemKind Tryz.prog 91 = 0 := by kernel_rfl
theorem tk92 : tkOf Tryz.prog 92 = .cell := by kernel_rfl
theorem ck92 : Tryz.prog.cellsOf 92 = 1 := by kernel_rfl
theorem za92 : zeroAVs Tryz.prog 92 = some [.nilfn] := by kernel_rfl
theorem oe92 : okElem Tryz.prog 92 = true := by kernel_rfl
theorem mk92 : mkOk Tryz.prog 92 = true := by kernel_rfl
theorem ek92 : elemKind Tryz.prog 92 = 0 := by kernel_rfl
theorem tk93 : tkOf Tryz.prog 93 = .cell := by kernel_rfl
theorem ck93 : Tryz.prog.cellsOf 93 = 1 := by kernel_rfl
theorem za93 : zeroAVs Tryz.prog 93 = some [.nilfn] := by kernel_rfl
theorem oe93 : okElem Tryz.prog 93 = true := by kernel_rfl
theorem mk93 : mkOk Tryz.prog 93 = true := by kernel_rfl
theorem ek93 : elemKind Tryz.prog 93 = 0 := by kernel_rfl
theorem tk94 : tkOf Tryz.prog 94 = .cell := by kernel_rfl
theorem ck94 : Tryz.prog.cellsOf 94 = 1 := by kernel_rfl
theorem za94 : zeroAVs Tryz.prog 94 = some [.nilfn] := by kernel_rfl
theorem oe94 : okElem Tryz.prog 94 = true := by kernel_rfl
theorem mk94 : mkOk Tryz.prog 94 = true := by kernel_rfl
theorem ek94 : elemKind Tryz.prog 94 = 0 := by kernel_rfl
theorem tk95 : tkOf Tryz.prog 95 = .cell := by kernel_rfl
theorem ck95 : Tryz.prog.cellsOf 95 = 1 := by kernel_rfl
theorem za95 : zeroAVs Tryz.prog 95 = some [.nilfn] := by kernel_rfl
theorem oe95 : okElem Tryz.prog 95 = true := by kernel_rfl
theorem mk95 : mkOk Tryz.prog 95 = true := by kernel_rfl
theorem ek95 : elemKind Tryz.prog 95 = 0 := by kernel_rfl
theorem tk96 : tkOf Tryz.prog 96 = .cell := by kernel_rfl
theorem ck96 : Tryz.prog.cellsOf 96 = 1 := by kernel_rfl
theorem za96 : zeroAVs Tryz.prog 96 = some [.nilfn] := by kernel_rfl
theorem oe96 : okElem Tryz.prog 96 = true := by kernel_rfl
theorem mk96 : mkOk Tryz.prog 96 = true := by kernel_rfl
theorem ek96 : elemKind Tryz.prog 96 = 0 := by kernel_rfl
theorem tk97 : tkOf Tryz.prog 97 = .cell := by kernel_rfl
theorem ck97 : Tryz.prog.cellsOf 97 = 1 := by kernel_rfl
theorem za97 : zeroAVs Tryz.prog 97 = some [.nilfn] := by kernel_rfl
theorem oe97 : okElem Tryz.prog 97 = true := by kernel_rfl
theorem mk97 : mkOk Tryz.prog 97 = true := by kernel_rfl
theorem ek97 : elemKind Tryz.prog 97 = 0 := by kernel_rfl
theorem tk98 : tkOf Tryz.prog 98 = .cell := by kernel_rfl
theorem ck98 : Tryz.prog.cellsOf 98 = 1 := by kernel_rfl
theorem za98 : zeroAVs Tryz.prog 98 = some [.nilfn] := by kernel_rfl
theorem oe98 : okElem Tryz.prog 98 = true := by kernel_rfl
theorem mk98 : mkOk Tryz.prog 98 = true := by kernel_rfl
theorem ek98 : elemKind Tryz.prog 98 = 0 := by kernel_rfl
theorem tk99 : tkOf Tryz.prog 99 = .cell := by kernel_rfl
theorem ck99 : Tryz.prog.cellsOf 99 = 1 := by kernel_rfl
theorem za99 : zeroAVs Tryz.prog 99 = some [.nilfn] := by kernel_rfl
theorem oe99 : okElem Tryz.prog 99 = true := by kernel_rfl
theorem mk99 : mkOk Tryz.prog 99 = true := by kernel_rfl
theorem ek99 : elemKind Tryz.prog 99 = 0 := by kernel_rfl
theorem tk100 : tkOf Tryz.prog 100 = .cell := by kernel_rfl
theorem ck100 : Tryz.prog.cellsOf 100 = 1 := by kernel_rfl
theorem za100 : zeroAVs Tryz.prog 100 = some [.nilfn] := by kernel_rfl
theorem oe100 : okElem Tryz.prog 100 = true := by kernel_rfl
theorem mk100 : mkOk Tryz.prog 100 = true := by kernel_rfl
theorem ek100 : elemKind Tryz.prog 100 = 0 := by kernel_rfl
theorem tk101 : tkOf Tryz.prog 101 = .cell := by kernel_rfl
theorem ck101 : Tryz.prog.cellsOf 101 = 1 := by kernel_rfl
theorem za101 : zeroAVs Tryz.prog 101 = some [.nilfn] := by kernel_rfl
theorem oe101 : okElem Tryz.prog 101 = true := by kernel_rfl
theorem mk101 : mkOk Tryz.prog 101 = true := by kernel_rfl
theorem ek101 : elemKind Tryz.prog 101 = 0 := by kernel_rfl
theorem tk102 : tkOf Tryz.prog 102 = .cell := by kernel_rfl
theorem ck102 : Tryz.prog.cellsOf 102 = 1 := by kernel_rfl
theorem za102 : zeroAVs Tryz.prog 102 = some [.nilfn] := by kernel_rfl
theorem oe102 : okElem Tryz.prog 102 = true := by kernel_rfl
theorem mk102 : mkOk Tryz.prog 102 = true := by kernel_rfl
theorem ek102 : elemKind Tryz.prog 102 = 0 := by kernel_rfl
theorem tk103 : tkOf Tryz.prog 103 = .cell := by kernel_rfl
theorem ck103 : Tryz.prog.cellsOf 103 = 1 := by kernel_rfl
theorem za103 : zeroAVs Tryz.prog 103 = some [.nilfn] := by kernel_rfl
theorem oe103 : okElem Tryz.prog 103 = true := by kernel_rfl
theorem mk103 : mkOk Tryz.prog 103 = true := by kernel_rfl
theorem ek103 : elemKind Tryz.prog 103 = 0 := by kernel_rfl
theorem tk104 : tkOf Tryz.prog 104 = .cell := by kernel_rfl
theorem ck104 : Tryz.prog.cellsOf 104 = 1 := by kernel_rfl
theorem za104 : zeroAVs Tryz.prog 104 = some [.nilfn] := by kernel_rfl
theorem oe104 : okElem Tryz.prog 104 = true := by kernel_rfl
theorem mk104 : mkOk Tryz.prog 104 = true := by kernel_rfl
theorem ek104 : elemKind Tryz.prog 104 = 0 := by kernel_rfl
theorem tk105 : tkOf Tryz.prog 105 = .st [(0, 1), (1, 1), (2, 1), (3, 1)] 4 := by kernel_rfl
theorem ck105 : Tryz.prog.cellsOf 105 = 4 := by kernel_rfl
theorem bs105 : bdOf Tryz.prog 105 = some [(0, 1), (1, 1), (2, 1), (3, 1)] := by kernel_rfl
theorem za105 : zeroAVs Tryz.prog 105 = some [.junk, .junk, .junk, .str ByteArray.empty] := by kernel_rfl
theorem tk108 : tkOf Tryz.prog 108 = .st [(0, 0)] 0 := by kernel_rfl
theorem ck108 : Tryz.prog.cellsOf 108 = 0 := by kernel_rfl
theorem bs108 : bdOf Tryz.prog 108 = some [(0, 0)] := by kernel_rfl
theorem za108 : zeroAVs Tryz.prog 108 = some [] := by kernel_rfl
theorem tk110 : tkOf Tryz.prog 110 = .ik .u32 := by kernel_rfl
theorem ck110 : Tryz.prog.cellsOf 110 = 1 := by kernel_rfl
theorem za110 : zeroAVs Tryz.prog 110 = some [.ik .u32 0] := by kernel_rfl
theorem oe110 : okElem Tryz.prog 110 = true := by kernel_rfl
theorem mk110 : mkOk Tryz.prog 110 = true := by kernel_rfl
theorem ek110 : elemKind Tryz.prog 110 = 0 := by kernel_rfl
theorem tk113 : tkOf Tryz.prog 113 = .cell := by kernel_rfl
theorem ck113 : Tryz.prog.cellsOf 113 = 1 := by kernel_rfl
theorem za113 : zeroAVs Tryz.prog 113 = some [.nilfn] := by kernel_rfl
theorem oe113 : okElem Tryz.prog 113 = true := by kernel_rfl
theorem mk113 : mkOk Tryz.prog 113 = true := by kernel_rfl
theorem ek113 : elemKind Tryz.prog 113 = 0 := by kernel_rfl
theorem tk114 : tkOf Tryz.prog 114 = .cell := by kernel_rfl
theorem ck114 : Tryz.prog.cellsOf 114 = 1 := by kernel_rfl
theorem za114 : zeroAVs Tryz.prog 114 = some [.junk] := by kernel_rfl
theorem oe114 : okElem Tryz.prog 114 = true := by kernel_rfl
theorem mk114 : mkOk Tryz.prog 114 = true := by kernel_rfl
theorem ek114 : elemKind Tryz.prog 114 = 0 := by kernel_rfl
theorem tk117 : tkOf Tryz.prog 117 = .st [(0, 1), (1, 1), (2, 1), (3, 1), (4, 1), (5, 1), (6, 1), (7, 1), (8, 1), (9, 1), (10, 1)] 11 := by kernel_rfl
theorem ck117 : Tryz.prog.cellsOf 117 = 11 := by kernel_rfl
theorem bs117 : bdOf Tryz.prog 117 = some [(0, 1), (1, 1), (2, 1), (3, 1), (4, 1), (5, 1), (6, 1), (7, 1), (8, 1), (9, 1), (10, 1)] := by kernel_rfl
theorem za117 : zeroAVs Tryz.prog 117 = some [.ik .u64 0, .ik .u64 0, .ik .u32 0, .ik .u8 0, .ik .u8 0, .ik .u8 0, .ik .u8 0, .nilfn, .junk, .ik .i32 0, .ik .i32 0] := by kernel_rfl
attribute [go_sem] tk1 ck1 za1 oe1 mk1 ek1 tk2 ck2 za2 oe2 mk2 ek2 tk3 ck3 za3 oe3 mk3 ek3 tk4 ck4 za4 oe4 mk4 ek4 tk5 ck5 za5 oe5 mk5 ek5 tk7 ck7 bs7 za7 tk9 ck9 za9 oe9 mk9 ek9 tk12 ck12 za12 oe12 mk12 ek12 tk13 ck13 bs13 za13 tk15 ck15 za15 oe15 mk15 ek15 tk16 ck16 za16 oe16 mk16 ek16 tk17 ck17 za17 oe17 mk17 ek17 tk18 ck18 bs18 za18 tk21 ck21 za21 oe21 mk21 ek21 tk22 ck22 za22 oe22 mk22 ek22 tk23 ck23 za23 oe23 mk23 ek23 tk24 ck24 bs24 za24 tk25 ck25 bs25 za25 tk26 ck26 za26 oe26 mk26 ek26 tk27 ck27 za27 oe27 mk27 ek27 tk29 ck29 za29 oe29 mk29 ek29 tk30 ck30 bs30 za30 tk31 ck31 za31 oe31 mk31 ek31 tk32 ck32 za32 oe32 mk32 ek32 tk33 ck33 za33 oe33 mk33 ek33 tk34 ck34 za34 oe34 mk34 ek34 tk35 ck35 za35 oe35 mk35 ek35 tk36 ck36 za36 oe36 mk36 ek36 tk37 ck37 za37 oe37 mk37 ek37 tk38 ck38 za38 oe38 mk38 ek38 tk39 ck39 za39 oe39 mk39 ek39 tk40 ck40 za40 oe40 mk40 ek40 tk41 ck41 za41 oe41 mk41 ek41 tk42 ck42 za42 oe42 mk42 ek42 tk43 ck43 za43 oe43 mk43 ek43 tk44 ck44 za44 oe44 mk44 ek44 tk45 ck45 za45 oe45 mk45 ek45 tk46 ck46 za46 oe46 mk46 ek46 tk47 ck47 bs47 op47 za47 tk48 ck48 za48 oe48 mk48 ek48 tk49 ck49 za49 oe49 mk49 ek49 tk50 ck50 za50 oe50 mk50 ek50 tk51 ck51 za51 oe51 mk51 ek51 tk52 ck52 za52 oe52 mk52 ek52 tk53 ck53 za53 oe53 mk53 ek53 tk54 ck54 za54 oe54 mk54 ek54 tk55 ck55 za55 oe55 mk55 ek55 tk56 ck56 za56 oe56 mk56 ek56 tk58 ck58 za58 oe58 mk58 ek58 tk59 ck59 za59 oe59 mk59 ek59 tk60 ck60 za60 oe60 mk60 ek60 tk61 ck61 za61 oe61 mk61 ek61 tk62 ck62 za62 oe62 mk62 ek62 tk63 ck63 za63 oe63 mk63 ek63 tk64 ck64 za64 oe64 mk64 ek64 tk65 ck65 za65 oe65 mk65 ek65 tk66 ck66 za66 oe66 mk66 ek66 tk67 ck67 bs67 za67 tk68 ck68 bs68 za68 tk69 ck69 za69 oe69 mk69 ek69 tk70 ck70 za70 oe70 mk70 ek70 tk71 ck71 za71 oe71 mk71 ek71 tk72 ck72 za72 oe72 mk72 ek72 tk73 ck73 za73 oe73 mk73 ek73 tk74 ck74 za74 oe74 mk74 ek74 tk76 ck76 za76 oe76 mk76 ek76 tk77 ck77 za77 oe77 mk77 ek77 tk78 ck78 za78 oe78 mk78 ek78 tk79 ck79 za79 oe79 mk79 ek79 tk80 ck80 za80 oe80 mk80 ek80 tk81 ck81 za81 oe81 mk81 ek81 tk82 ck82 za82 oe82 mk82 ek82 tk83 ck83 za83 oe83 mk83 ek83 tk84 ck84 za84 oe84 mk84 ek84 tk85 ck85 za85 oe85 mk85 ek85 tk86 ck86 za86 oe86 mk86 ek86 tk87 ck87 za87 oe87 mk87 ek87 tk88 ck88 za88 oe88 mk88 ek88 tk89 ck89 za89 oe89 mk89 ek89 tk90 ck90 za90 oe90 mk90 ek90 tk91 ck91 za91 oe91 mk91 ek91 tk92 ck92 za92 oe92 mk92 ek92 tk93 ck93 za93 oe93 mk93 ek93 tk94 ck94 za94 oe94 mk94 ek94 tk95 ck95 za95 oe95 mk95 ek95 tk96 ck96 za96 oe96 mk96 ek96 tk97 ck97 za97 oe97 mk97 ek97 tk98 ck98 za98 oe98 mk98 ek98 tk99 ck99 za99 oe99 mk99 ek99 tk100 ck100 za100 oe100 mk100 ek100 tk101 ck101 za101 oe101 mk101 ek101 tk102 ck102 za102 oe102 mk102 ek102 tk103 ck103 za103 oe103 mk103 ek103 tk104 ck104 za104 oe104 mk104 ek104 tk105 ck105 bs105 za105 tk108 ck108 bs108 za108 tk110 ck110 za110 oe110 mk110 ek110 tk113 ck113 za113 oe113 mk113 ek113 tk114 ck114 za114 oe114 mk114 ek114 tk117 ck117 bs117 za117
end Go.Proofs.YtjpdkdepbkmebaaGreat
