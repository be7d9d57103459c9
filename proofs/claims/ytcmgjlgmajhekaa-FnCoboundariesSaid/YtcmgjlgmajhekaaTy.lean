import Derived.Test.YtcmgjlgmajhekaaLib3
import Derived.Test.YtcmgjlgmajhekaaRows
import Derived.KernelRfl
set_option linter.unusedSimpArgs false
namespace Go.Proofs.Ytcmgjlgmajhekaa
open Go Go.Aw
theorem tk1 : tkOf Try.prog 1 = .cell := by kernel_rfl
theorem ck1 : Try.prog.cellsOf 1 = 1 := by kernel_rfl
theorem za1 : zeroAVs Try.prog 1 = some [.nilfn] := by kernel_rfl
theorem oe1 : okElem Try.prog 1 = true := by kernel_rfl
theorem mk1 : mkOk Try.prog 1 = true := by kernel_rfl
theorem ek1 : elemKind Try.prog 1 = 0 := by kernel_rfl
theorem tk2 : tkOf Try.prog 2 = .int := by kernel_rfl
theorem ck2 : Try.prog.cellsOf 2 = 1 := by kernel_rfl
theorem za2 : zeroAVs Try.prog 2 = some [.int 0] := by kernel_rfl
theorem oe2 : okElem Try.prog 2 = true := by kernel_rfl
theorem mk2 : mkOk Try.prog 2 = true := by kernel_rfl
theorem ek2 : elemKind Try.prog 2 = 1 := by kernel_rfl
theorem tk3 : tkOf Try.prog 3 = .int := by kernel_rfl
theorem ck3 : Try.prog.cellsOf 3 = 1 := by kernel_rfl
theorem za3 : zeroAVs Try.prog 3 = some [.int 0] := by kernel_rfl
theorem oe3 : okElem Try.prog 3 = true := by kernel_rfl
theorem mk3 : mkOk Try.prog 3 = true := by kernel_rfl
theorem ek3 : elemKind Try.prog 3 = 1 := by kernel_rfl
theorem tk4 : tkOf Try.prog 4 = .bool := by kernel_rfl
theorem ck4 : Try.prog.cellsOf 4 = 1 := by kernel_rfl
theorem za4 : zeroAVs Try.prog 4 = some [.bool false] := by kernel_rfl
theorem oe4 : okElem Try.prog 4 = true := by kernel_rfl
theorem mk4 : mkOk Try.prog 4 = true := by kernel_rfl
theorem ek4 : elemKind Try.prog 4 = 0 := by kernel_rfl
theorem tk5 : tkOf Try.prog 5 = .ik .u8 := by kernel_rfl
theorem ck5 : Try.prog.cellsOf 5 = 1 := by kernel_rfl
theorem za5 : zeroAVs Try.prog 5 = some [.ik .u8 0] := by kernel_rfl
theorem oe5 : okElem Try.prog 5 = true := by kernel_rfl
theorem mk5 : mkOk Try.prog 5 = true := by kernel_rfl
theorem ek5 : elemKind Try.prog 5 = 0 := by kernel_rfl
theorem tk7 : tkOf Try.prog 7 = .st [(0, 1), (1, 1), (2, 1), (3, 1)] 4 := by kernel_rfl
theorem ck7 : Try.prog.cellsOf 7 = 4 := by kernel_rfl
theorem bs7 : bdOf Try.prog 7 = some [(0, 1), (1, 1), (2, 1), (3, 1)] := by kernel_rfl
theorem za7 : zeroAVs Try.prog 7 = some [.int 0, .int 0, .bool false, .ik .u8 0] := by kernel_rfl
theorem tk9 : tkOf Try.prog 9 = .str := by kernel_rfl
theorem ck9 : Try.prog.cellsOf 9 = 1 := by kernel_rfl
theorem za9 : zeroAVs Try.prog 9 = some [.str ByteArray.empty] := by kernel_rfl
theorem oe9 : okElem Try.prog 9 = true := by kernel_rfl
theorem mk9 : mkOk Try.prog 9 = true := by kernel_rfl
theorem ek9 : elemKind Try.prog 9 = 0 := by kernel_rfl
theorem tk12 : tkOf Try.prog 12 = .ik .u64 := by kernel_rfl
theorem ck12 : Try.prog.cellsOf 12 = 1 := by kernel_rfl
theorem za12 : zeroAVs Try.prog 12 = some [.ik .u64 0] := by kernel_rfl
theorem oe12 : okElem Try.prog 12 = true := by kernel_rfl
theorem mk12 : mkOk Try.prog 12 = true := by kernel_rfl
theorem ek12 : elemKind Try.prog 12 = 0 := by kernel_rfl
theorem tk13 : tkOf Try.prog 13 = .st [(0, 1), (1, 1)] 2 := by kernel_rfl
theorem ck13 : Try.prog.cellsOf 13 = 2 := by kernel_rfl
theorem bs13 : bdOf Try.prog 13 = some [(0, 1), (1, 1)] := by kernel_rfl
theorem za13 : zeroAVs Try.prog 13 = some [.str ByteArray.empty, .ik .u64 0] := by kernel_rfl
theorem tk15 : tkOf Try.prog 15 = .cell := by kernel_rfl
theorem ck15 : Try.prog.cellsOf 15 = 1 := by kernel_rfl
theorem za15 : zeroAVs Try.prog 15 = some [.junk] := by kernel_rfl
theorem oe15 : okElem Try.prog 15 = true := by kernel_rfl
theorem mk15 : mkOk Try.prog 15 = true := by kernel_rfl
theorem ek15 : elemKind Try.prog 15 = 0 := by kernel_rfl
theorem tk16 : tkOf Try.prog 16 = .cell := by kernel_rfl
theorem ck16 : Try.prog.cellsOf 16 = 1 := by kernel_rfl
theorem za16 : zeroAVs Try.prog 16 = some [.junk] := by kernel_rfl
theorem oe16 : okElem Try.prog 16 = true := by kernel_rfl
theorem mk16 : mkOk Try.prog 16 = true := by kernel_rfl
theorem ek16 : elemKind Try.prog 16 = 0 := by kernel_rfl
theorem tk17 : tkOf Try.prog 17 = .cell := by kernel_rfl
theorem ck17 : Try.prog.cellsOf 17 = 1 := by kernel_rfl
theorem za17 : zeroAVs Try.prog 17 = some [.junk] := by kernel_rfl
theorem oe17 : okElem Try.prog 17 = true := by kernel_rfl
theorem mk17 : mkOk Try.prog 17 = true := by kernel_rfl
theorem ek17 : elemKind Try.prog 17 = 0 := by kernel_rfl
theorem tk18 : tkOf Try.prog 18 = .st [(0, 1)] 1 := by kernel_rfl
theorem ck18 : Try.prog.cellsOf 18 = 1 := by kernel_rfl
theorem bs18 : bdOf Try.prog 18 = some [(0, 1)] := by kernel_rfl
theorem za18 : zeroAVs Try.prog 18 = some [.junk] := by kernel_rfl
theorem tk21 : tkOf Try.prog 21 = .ik .i32 := by kernel_rfl
theorem ck21 : Try.prog.cellsOf 21 = 1 := by kernel_rfl
theorem za21 : zeroAVs Try.prog 21 = some [.ik .i32 0] := by kernel_rfl
theorem oe21 : okElem Try.prog 21 = true := by kernel_rfl
theorem mk21 : mkOk Try.prog 21 = true := by kernel_rfl
theorem ek21 : elemKind Try.prog 21 = 0 := by kernel_rfl
theorem tk22 : tkOf Try.prog 22 = .sl 5 := by kernel_rfl
theorem ck22 : Try.prog.cellsOf 22 = 1 := by kernel_rfl
theorem za22 : zeroAVs Try.prog 22 = some [.nil] := by kernel_rfl
theorem oe22 : okElem Try.prog 22 = true := by kernel_rfl
theorem mk22 : mkOk Try.prog 22 = true := by kernel_rfl
theorem ek22 : elemKind Try.prog 22 = 0 := by kernel_rfl
theorem tk23 : tkOf Try.prog 23 = .cell := by kernel_rfl
theorem ck23 : Try.prog.cellsOf 23 = 1 := by kernel_rfl
theorem za23 : zeroAVs Try.prog 23 = some [.nilfn] := by kernel_rfl
theorem oe23 : okElem Try.prog 23 = true := by kernel_rfl
theorem mk23 : mkOk Try.prog 23 = true := by kernel_rfl
theorem ek23 : elemKind Try.prog 23 = 0 := by kernel_rfl
theorem tk24 : tkOf Try.prog 24 = .sl 2 := by kernel_rfl
theorem ck24 : Try.prog.cellsOf 24 = 1 := by kernel_rfl
theorem za24 : zeroAVs Try.prog 24 = some [.nil] := by kernel_rfl
theorem oe24 : okElem Try.prog 24 = true := by kernel_rfl
theorem mk24 : mkOk Try.prog 24 = true := by kernel_rfl
theorem ek24 : elemKind Try.prog 24 = 2 := by kernel_rfl
theorem tk25 : tkOf Try.prog 25 = .sl 24 := by kernel_rfl
theorem ck25 : Try.prog.cellsOf 25 = 1 := by kernel_rfl
theorem za25 : zeroAVs Try.prog 25 = some [.nil] := by kernel_rfl
theorem oe25 : okElem Try.prog 25 = true := by kernel_rfl
theorem mk25 : mkOk Try.prog 25 = true := by kernel_rfl
theorem ek25 : elemKind Try.prog 25 = 3 := by kernel_rfl
theorem tk27 : tkOf Try.prog 27 = .cell := by kernel_rfl
theorem ck27 : Try.prog.cellsOf 27 = 1 := by kernel_rfl
theorem za27 : zeroAVs Try.prog 27 = some [.nilfn] := by kernel_rfl
theorem oe27 : okElem Try.prog 27 = true := by kernel_rfl
theorem mk27 : mkOk Try.prog 27 = true := by kernel_rfl
theorem ek27 : elemKind Try.prog 27 = 0 := by kernel_rfl
theorem tk28 : tkOf Try.prog 28 = .sl 25 := by kernel_rfl
theorem ck28 : Try.prog.cellsOf 28 = 1 := by kernel_rfl
theorem za28 : zeroAVs Try.prog 28 = some [.nil] := by kernel_rfl
theorem oe28 : okElem Try.prog 28 = true := by kernel_rfl
theorem mk28 : mkOk Try.prog 28 = true := by kernel_rfl
theorem ek28 : elemKind Try.prog 28 = 0 := by kernel_rfl
theorem tk29 : tkOf Try.prog 29 = .st [(0, 1), (1, 1), (2, 1)] 3 := by kernel_rfl
theorem ck29 : Try.prog.cellsOf 29 = 3 := by kernel_rfl
theorem bs29 : bdOf Try.prog 29 = some [(0, 1), (1, 1), (2, 1)] := by kernel_rfl
theorem za29 : zeroAVs Try.prog 29 = some [.nil, .int 0, .nil] := by kernel_rfl
theorem tk30 : tkOf Try.prog 30 = .st [(0, 1), (1, 1), (2, 1)] 3 := by kernel_rfl
theorem ck30 : Try.prog.cellsOf 30 = 3 := by kernel_rfl
theorem bs30 : bdOf Try.prog 30 = some [(0, 1), (1, 1), (2, 1)] := by kernel_rfl
theorem za30 : zeroAVs Try.prog 30 = some [.nil, .int 0, .nil] := by kernel_rfl
theorem tk32 : tkOf Try.prog 32 = .cell := by kernel_rfl
theorem ck32 : Try.prog.cellsOf 32 = 1 := by kernel_rfl
theorem za32 : zeroAVs Try.prog 32 = some [.nilfn] := by kernel_rfl
theorem oe32 : okElem Try.prog 32 = true := by kernel_rfl
theorem mk32 : mkOk Try.prog 32 = true := by kernel_rfl
theorem ek32 : elemKind Try.prog 32 = 0 := by kernel_rfl
theorem tk33 : tkOf Try.prog 33 = .cell := by kernel_rfl
theorem ck33 : Try.prog.cellsOf 33 = 1 := by kernel_rfl
theorem za33 : zeroAVs Try.prog 33 = some [.nilfn] := by kernel_rfl
theorem oe33 : okElem Try.prog 33 = true := by kernel_rfl
theorem mk33 : mkOk Try.prog 33 = true := by kernel_rfl
theorem ek33 : elemKind Try.prog 33 = 0 := by kernel_rfl
theorem tk34 : tkOf Try.prog 34 = .cell := by kernel_rfl
theorem ck34 : Try.prog.cellsOf 34 = 1 := by kernel_rfl
theorem za34 : zeroAVs Try.prog 34 = some [.junk] := by kernel_rfl
theorem oe34 : okElem Try.prog 34 = true := by kernel_rfl
theorem mk34 : mkOk Try.prog 34 = true := by kernel_rfl
theorem ek34 : elemKind Try.prog 34 = 0 := by kernel_rfl
theorem tk35 : tkOf Try.prog 35 = .cell := by kernel_rfl
theorem ck35 : Try.prog.cellsOf 35 = 1 := by kernel_rfl
theorem za35 : zeroAVs Try.prog 35 = some [.nilfn] := by kernel_rfl
theorem oe35 : okElem Try.prog 35 = true := by kernel_rfl
theorem mk35 : mkOk Try.prog 35 = true := by kernel_rfl
theorem ek35 : elemKind Try.prog 35 = 0 := by kernel_rfl
theorem tk36 : tkOf Try.prog 36 = .ik .u64 := by kernel_rfl
theorem ck36 : Try.prog.cellsOf 36 = 1 := by kernel_rfl
theorem za36 : zeroAVs Try.prog 36 = some [.ik .u64 0] := by kernel_rfl
theorem oe36 : okElem Try.prog 36 = true := by kernel_rfl
theorem mk36 : mkOk Try.prog 36 = true := by kernel_rfl
theorem ek36 : elemKind Try.prog 36 = 0 := by kernel_rfl
theorem tk37 : tkOf Try.prog 37 = .cell := by kernel_rfl
theorem ck37 : Try.prog.cellsOf 37 = 1 := by kernel_rfl
theorem za37 : zeroAVs Try.prog 37 = some [.nilfn] := by kernel_rfl
theorem oe37 : okElem Try.prog 37 = true := by kernel_rfl
theorem mk37 : mkOk Try.prog 37 = true := by kernel_rfl
theorem ek37 : elemKind Try.prog 37 = 0 := by kernel_rfl
theorem tk39 : tkOf Try.prog 39 = .cell := by kernel_rfl
theorem ck39 : Try.prog.cellsOf 39 = 1 := by kernel_rfl
theorem za39 : zeroAVs Try.prog 39 = some [.nilfn] := by kernel_rfl
theorem oe39 : okElem Try.prog 39 = true := by kernel_rfl
theorem mk39 : mkOk Try.prog 39 = true := by kernel_rfl
theorem ek39 : elemKind Try.prog 39 = 0 := by kernel_rfl
theorem tk41 : tkOf Try.prog 41 = .cell := by kernel_rfl
theorem ck41 : Try.prog.cellsOf 41 = 1 := by kernel_rfl
theorem za41 : zeroAVs Try.prog 41 = some [.nilfn] := by kernel_rfl
theorem oe41 : okElem Try.prog 41 = true := by kernel_rfl
theorem mk41 : mkOk Try.prog 41 = true := by kernel_rfl
theorem ek41 : elemKind Try.prog 41 = 0 := by kernel_rfl
theorem tk42 : tkOf Try.prog 42 = .cell := by kernel_rfl
theorem ck42 : Try.prog.cellsOf 42 = 1 := by kernel_rfl
theorem za42 : zeroAVs Try.prog 42 = some [.nilfn] := by kernel_rfl
theorem oe42 : okElem Try.prog 42 = true := by kernel_rfl
theorem mk42 : mkOk Try.prog 42 = true := by kernel_rfl
theorem ek42 : elemKind Try.prog 42 = 0 := by kernel_rfl
theorem tk43 : tkOf Try.prog 43 = .cell := by kernel_rfl
theorem ck43 : Try.prog.cellsOf 43 = 1 := by kernel_rfl
theorem za43 : zeroAVs Try.prog 43 = some [.nilfn] := by kernel_rfl
theorem oe43 : okElem Try.prog 43 = true := by kernel_rfl
theorem mk43 : mkOk Try.prog 43 = true := by kernel_rfl
theorem ek43 : elemKind Try.prog 43 = 0 := by kernel_rfl
theorem tk44 : tkOf Try.prog 44 = .cell := by kernel_rfl
theorem ck44 : Try.prog.cellsOf 44 = 1 := by kernel_rfl
theorem za44 : zeroAVs Try.prog 44 = some [.nilfn] := by kernel_rfl
theorem oe44 : okElem Try.prog 44 = true := by kernel_rfl
theorem mk44 : mkOk Try.prog 44 = true := by kernel_rfl
theorem ek44 : elemKind Try.prog 44 = 0 := by kernel_rfl
theorem tk46 : tkOf Try.prog 46 = .cell := by kernel_rfl
theorem ck46 : Try.prog.cellsOf 46 = 1 := by kernel_rfl
theorem za46 : zeroAVs Try.prog 46 = some [.nilfn] := by kernel_rfl
theorem oe46 : okElem Try.prog 46 = true := by kernel_rfl
theorem mk46 : mkOk Try.prog 46 = true := by kernel_rfl
theorem ek46 : elemKind Try.prog 46 = 0 := by kernel_rfl
theorem tk47 : tkOf Try.prog 47 = .cell := by kernel_rfl
theorem ck47 : Try.prog.cellsOf 47 = 1 := by kernel_rfl
theorem za47 : zeroAVs Try.prog 47 = some [.nilfn] := by kernel_rfl
theorem oe47 : okElem Try.prog 47 = true := by kernel_rfl
theorem mk47 : mkOk Try.prog 47 = true := by kernel_rfl
theorem ek47 : elemKind Try.prog 47 = 0 := by kernel_rfl
theorem tk48 : tkOf Try.prog 48 = .cell := by kernel_rfl
theorem ck48 : Try.prog.cellsOf 48 = 1 := by kernel_rfl
theorem za48 : zeroAVs Try.prog 48 = some [.junk] := by kernel_rfl
theorem oe48 : okElem Try.prog 48 = true := by kernel_rfl
theorem mk48 : mkOk Try.prog 48 = true := by kernel_rfl
theorem ek48 : elemKind Try.prog 48 = 0 := by kernel_rfl
theorem tk49 : tkOf Try.prog 49 = .cell := by kernel_rfl
theorem ck49 : Try.prog.cellsOf 49 = 1 := by kernel_rfl
theorem za49 : zeroAVs Try.prog 49 = some [.nilfn] := by kernel_rfl
theorem oe49 : okElem Try.prog 49 = true := by kernel_rfl
theorem mk49 : mkOk Try.prog 49 = true := by kernel_rfl
theorem ek49 : elemKind Try.prog 49 = 0 := by kernel_rfl
theorem tk50 : tkOf Try.prog 50 = .cell := by kernel_rfl
theorem ck50 : Try.prog.cellsOf 50 = 1 := by kernel_rfl
theorem za50 : zeroAVs Try.prog 50 = some [.nilfn] := by kernel_rfl
theorem oe50 : okElem Try.prog 50 = true := by kernel_rfl
theorem mk50 : mkOk Try.prog 50 = true := by kernel_rfl
theorem ek50 : elemKind Try.prog 50 = 0 := by kernel_rfl
theorem tk51 : tkOf Try.prog 51 = .cell := by kernel_rfl
theorem ck51 : Try.prog.cellsOf 51 = 1 := by kernel_rfl
theorem za51 : zeroAVs Try.prog 51 = some [.nilfn] := by kernel_rfl
theorem oe51 : okElem Try.prog 51 = true := by kernel_rfl
theorem mk51 : mkOk Try.prog 51 = true := by kernel_rfl
theorem ek51 : elemKind Try.prog 51 = 0 := by kernel_rfl
theorem tk52 : tkOf Try.prog 52 = .cell := by kernel_rfl
theorem ck52 : Try.prog.cellsOf 52 = 1 := by kernel_rfl
theorem za52 : zeroAVs Try.prog 52 = some [.nilfn] := by kernel_rfl
theorem oe52 : okElem Try.prog 52 = true := by kernel_rfl
theorem mk52 : mkOk Try.prog 52 = true := by kernel_rfl
theorem ek52 : elemKind Try.prog 52 = 0 := by kernel_rfl
theorem tk53 : tkOf Try.prog 53 = .cell := by kernel_rfl
theorem ck53 : Try.prog.cellsOf 53 = 1 := by kernel_rfl
theorem za53 : zeroAVs Try.prog 53 = some [.nilfn] := by kernel_rfl
theorem oe53 : okElem Try.prog 53 = true := by kernel_rfl
theorem mk53 : mkOk Try.prog 53 = true := by kernel_rfl
theorem ek53 : elemKind Try.prog 53 = 0 := by kernel_rfl
theorem tk54 : tkOf Try.prog 54 = .cell := by kernel_rfl
theorem ck54 : Try.prog.cellsOf 54 = 1 := by kernel_rfl
theorem za54 : zeroAVs Try.prog 54 = some [.nilfn] := by kernel_rfl
theorem oe54 : okElem Try.prog 54 = true := by kernel_rfl
theorem mk54 : mkOk Try.prog 54 = true := by kernel_rfl
theorem ek54 : elemKind Try.prog 54 = 0 := by kernel_rfl
theorem tk55 : tkOf Try.prog 55 = .cell := by kernel_rfl
theorem ck55 : Try.prog.cellsOf 55 = 1 := by kernel_rfl
theorem za55 : zeroAVs Try.prog 55 = some [.nilfn] := by kernel_rfl
theorem oe55 : okElem Try.prog 55 = true := by kernel_rfl
theorem mk55 : mkOk Try.prog 55 = true := by kernel_rfl
theorem ek55 : elemKind Try.prog 55 = 0 := by kernel_rfl
theorem tk56 : tkOf Try.prog 56 = .cell := by kernel_rfl
theorem ck56 : Try.prog.cellsOf 56 = 1 := by kernel_rfl
theorem za56 : zeroAVs Try.prog 56 = some [.nilfn] := by kernel_rfl
theorem oe56 : okElem Try.prog 56 = true := by kernel_rfl
theorem mk56 : mkOk Try.prog 56 = true := by kernel_rfl
theorem ek56 : elemKind Try.prog 56 = 0 := by kernel_rfl
theorem tk57 : tkOf Try.prog 57 = .cell := by kernel_rfl
theorem ck57 : Try.prog.cellsOf 57 = 1 := by kernel_rfl
theorem za57 : zeroAVs Try.prog 57 = some [.nilfn] := by kernel_rfl
theorem oe57 : okElem Try.prog 57 = true := by kernel_rfl
theorem mk57 : mkOk Try.prog 57 = true := by kernel_rfl
theorem ek57 : elemKind Try.prog 57 = 0 := by kernel_rfl
theorem tk58 : tkOf Try.prog 58 = .cell := by kernel_rfl
theorem ck58 : Try.prog.cellsOf 58 = 1 := by kernel_rfl
theorem za58 : zeroAVs Try.prog 58 = some [.nilfn] := by kernel_rfl
theorem oe58 : okElem Try.prog 58 = true := by kernel_rfl
theorem mk58 : mkOk Try.prog 58 = true := by kernel_rfl
theorem ek58 : elemKind Try.prog 58 = 0 := by kernel_rfl
theorem tk59 : tkOf Try.prog 59 = .cell := by kernel_rfl
theorem ck59 : Try.prog.cellsOf 59 = 1 := by kernel_rfl
theorem za59 : zeroAVs Try.prog 59 = some [.nilfn] := by kernel_rfl
theorem oe59 : okElem Try.prog 59 = true := by kernel_rfl
theorem mk59 : mkOk Try.prog 59 = true := by kernel_rfl
theorem ek59 : elemKind Try.prog 59 = 0 := by kernel_rfl
theorem tk60 : tkOf Try.prog 60 = .cell := by kernel_rfl
theorem ck60 : Try.prog.cellsOf 60 = 1 := by kernel_rfl
theorem za60 : zeroAVs Try.prog 60 = some [.nilfn] := by kernel_rfl
theorem oe60 : okElem Try.prog 60 = true := by kernel_rfl
theorem mk60 : mkOk Try.prog 60 = true := by kernel_rfl
theorem ek60 : elemKind Try.prog 60 = 0 := by kernel_rfl
theorem tk61 : tkOf Try.prog 61 = .st [(0, 1), (1, 1), (2, 1)] 3 := by kernel_rfl
theorem ck61 : Try.prog.cellsOf 61 = 3 := by kernel_rfl
theorem bs61 : bdOf Try.prog 61 = some [(0, 1), (1, 1), (2, 1)] := by kernel_rfl
theorem za61 : zeroAVs Try.prog 61 = some [.nil, .int 0, .ik .u64 0] := by kernel_rfl
theorem tk62 : tkOf Try.prog 62 = .st [(0, 1), (1, 1), (2, 1)] 3 := by kernel_rfl
theorem ck62 : Try.prog.cellsOf 62 = 3 := by kernel_rfl
theorem bs62 : bdOf Try.prog 62 = some [(0, 1), (1, 1), (2, 1)] := by kernel_rfl
theorem za62 : zeroAVs Try.prog 62 = some [.nil, .int 0, .ik .u64 0] := by kernel_rfl
theorem tk63 : tkOf Try.prog 63 = .ik .u64 := by kernel_rfl
theorem ck63 : Try.prog.cellsOf 63 = 1 := by kernel_rfl
theorem za63 : zeroAVs Try.prog 63 = some [.ik .u64 0] := by kernel_rfl
theorem oe63 : okElem Try.prog 63 = true := by kernel_rfl
theorem mk63 : mkOk Try.prog 63 = true := by kernel_rfl
theorem ek63 : elemKind Try.prog 63 = 0 := by kernel_rfl
theorem tk64 : tkOf Try.prog 64 = .cell := by kernel_rfl
theorem ck64 : Try.prog.cellsOf 64 = 1 := by kernel_rfl
theorem za64 : zeroAVs Try.prog 64 = some [.nilfn] := by kernel_rfl
theorem oe64 : okElem Try.prog 64 = true := by kernel_rfl
theorem mk64 : mkOk Try.prog 64 = true := by kernel_rfl
theorem ek64 : elemKind Try.prog 64 = 0 := by kernel_rfl
theorem tk65 : tkOf Try.prog 65 = .cell := by kernel_rfl
theorem ck65 : Try.prog.cellsOf 65 = 1 := by kernel_rfl
theorem za65 : zeroAVs Try.prog 65 = some [.nilfn] := by kernel_rfl
theorem oe65 : okElem Try.prog 65 = true := by kernel_rfl
theorem mk65 : mkOk Try.prog 65 = true := by kernel_rfl
theorem ek65 : elemKind Try.prog 65 = 0 := by kernel_rfl
theorem tk66 : tkOf Try.prog 66 = .cell := by kernel_rfl
theorem ck66 : Try.prog.cellsOf 66 = 1 := by kernel_rfl
theorem za66 : zeroAVs Try.prog 66 = some [.nilfn] := by kernel_rfl
theorem oe66 : okElem Try.prog 66 = true := by kernel_rfl
theorem mk66 : mkOk Try.prog 66 = true := by kernel_rfl
theorem ek66 : elemKind Try.prog 66 = 0 := by kernel_rfl
theorem tk67 : tkOf Try.prog 67 = .cell := by kernel_rfl
theorem ck67 : Try.prog.cellsOf 67 = 1 := by kernel_rfl
theorem za67 : zeroAVs Try.prog 67 = some [.nilfn] := by kernel_rfl
theorem oe67 : okElem Try.prog 67 = true := by kernel_rfl
theorem mk67 : mkOk Try.prog 67 = true := by kernel_rfl
theorem ek67 : elemKind Try.prog 67 = 0 := by kernel_rfl
theorem tk68 : tkOf Try.prog 68 = .cell := by kernel_rfl
theorem ck68 : Try.prog.cellsOf 68 = 1 := by kernel_rfl
theorem za68 : zeroAVs Try.prog 68 = some [.nilfn] := by kernel_rfl
theorem oe68 : okElem Try.prog 68 = true := by kernel_rfl
theorem mk68 : mkOk Try.prog 68 = true := by kernel_rfl
theorem ek68 : elemKind Try.prog 68 = 0 := by kernel_rfl
theorem tk69 : tkOf Try.prog 69 = .cell := by kernel_rfl
theorem ck69 : Try.prog.cellsOf 69 = 1 := by kernel_rfl
theorem za69 : zeroAVs Try.prog 69 = some [.nilfn] := by kernel_rfl
theorem oe69 : okElem Try.prog 69 = true := by kernel_rfl
theorem mk69 : mkOk Try.prog 69 = true := by kernel_rfl
theorem ek69 : elemKind Try.prog 69 = 0 := by kernel_rfl
theorem tk70 : tkOf Try.prog 70 = .cell := by kernel_rfl
theorem ck70 : Try.prog.cellsOf 70 = 1 := by kernel_rfl
theorem za70 : zeroAVs Try.prog 70 = some [.nilfn] := by kernel_rfl
theorem oe70 : okElem Try.prog 70 = true := by kernel_rfl
theorem mk70 : mkOk Try.prog 70 = true := by kernel_rfl
theorem ek70 : elemKind Try.prog 70 = 0 := by kernel_rfl
theorem tk71 : tkOf Try.prog 71 = .cell := by kernel_rfl
theorem ck71 : Try.prog.cellsOf 71 = 1 := by kernel_rfl
theorem za71 : zeroAVs Try.prog 71 = some [.nilfn] := by kernel_rfl
theorem oe71 : okElem Try.prog 71 = true := by kernel_rfl
theorem mk71 : mkOk Try.prog 71 = true := by kernel_rfl
theorem ek71 : elemKind Try.prog 71 = 0 := by kernel_rfl
theorem tk72 : tkOf Try.prog 72 = .cell := by kernel_rfl
theorem ck72 : Try.prog.cellsOf 72 = 1 := by kernel_rfl
theorem za72 : zeroAVs Try.prog 72 = some [.nilfn] := by kernel_rfl
theorem oe72 : okElem Try.prog 72 = true := by kernel_rfl
theorem mk72 : mkOk Try.prog 72 = true := by kernel_rfl
theorem ek72 : elemKind Try.prog 72 = 0 := by kernel_rfl
theorem tk73 : tkOf Try.prog 73 = .cell := by kernel_rfl
theorem ck73 : Try.prog.cellsOf 73 = 1 := by kernel_rfl
theorem za73 : zeroAVs Try.prog 73 = some [.nilfn] := by kernel_rfl
theorem oe73 : okElem Try.prog 73 = true := by kernel_rfl
theorem mk73 : mkOk Try.prog 73 = true := by kernel_rfl
theorem ek73 : elemKind Try.prog 73 = 0 := by kernel_rfl
theorem tk74 : tkOf Try.prog 74 = .cell := by kernel_rfl
theorem ck74 : Try.prog.cellsOf 74 = 1 := by kernel_rfl
theorem za74 : zeroAVs Try.prog 74 = some [.nilfn] := by kernel_rfl
theorem oe74 : okElem Try.prog 74 = true := by kernel_rfl
theorem mk74 : mkOk Try.prog 74 = true := by kernel_rfl
theorem ek74 : elemKind Try.prog 74 = 0 := by kernel_rfl
theorem tk75 : tkOf Try.prog 75 = .cell := by kernel_rfl
theorem ck75 : Try.prog.cellsOf 75 = 1 := by kernel_rfl
theorem za75 : zeroAVs Try.prog 75 = some [.nilfn] := by kernel_rfl
theorem oe75 : okElem Try.prog 75 = true := by kernel_rfl
theorem mk75 : mkOk Try.prog 75 = true := by kernel_rfl
theorem ek75 : elemKind Try.prog 75 = 0 := by kernel_rfl
theorem tk76 : tkOf Try.prog 76 = .st [(0, 1), (1, 1), (2, 1)] 3 := by kernel_rfl
theorem ck76 : Try.prog.cellsOf 76 = 3 := by kernel_rfl
theorem bs76 : bdOf Try.prog 76 = some [(0, 1), (1, 1), (2, 1)] := by kernel_rfl
theorem za76 : zeroAVs Try.prog 76 = some [.nil, .int 0, .ik .u64 0] := by kernel_rfl
theorem tk77 : tkOf Try.prog 77 = .st [(0, 1), (1, 1), (2, 1)] 3 := by kernel_rfl
theorem ck77 : Try.prog.cellsOf 77 = 3 := by kernel_rfl
theorem bs77 : bdOf Try.prog 77 = some [(0, 1), (1, 1), (2, 1)] := by kernel_rfl
theorem za77 : zeroAVs Try.prog 77 = some [.nil, .int 0, .ik .u64 0] := by kernel_rfl
theorem tk78 : tkOf Try.prog 78 = .cell := by kernel_rfl
theorem ck78 : Try.prog.cellsOf 78 = 1 := by kernel_rfl
theorem za78 : zeroAVs Try.prog 78 = some [.nilfn] := by kernel_rfl
theorem oe78 : okElem Try.prog 78 = true := by kernel_rfl
theorem mk78 : mkOk Try.prog 78 = true := by kernel_rfl
theorem ek78 : elemKind Try.prog 78 = 0 := by kernel_rfl
theorem tk79 : tkOf Try.prog 79 = .cell := by kernel_rfl
theorem ck79 : Try.prog.cellsOf 79 = 1 := by kernel_rfl
theorem za79 : zeroAVs Try.prog 79 = some [.nilfn] := by kernel_rfl
theorem oe79 : okElem Try.prog 79 = true := by kernel_rfl
theorem mk79 : mkOk Try.prog 79 = true := by kernel_rfl
theorem ek79 : elemKind Try.prog 79 = 0 := by kernel_rfl
theorem tk80 : tkOf Try.prog 80 = .cell := by kernel_rfl
theorem ck80 : Try.prog.cellsOf 80 = 1 := by kernel_rfl
theorem za80 : zeroAVs Try.prog 80 = some [.nilfn] := by kernel_rfl
theorem oe80 : okElem Try.prog 80 = true := by kernel_rfl
theorem mk80 : mkOk Try.prog 80 = true := by kernel_rfl
theorem ek80 : elemKind Try.prog 80 = 0 := by kernel_rfl
theorem tk81 : tkOf Try.prog 81 = .cell := by kernel_rfl
theorem ck81 : Try.prog.cellsOf 81 = 1 := by kernel_rfl
theorem za81 : zeroAVs Try.prog 81 = some [.nilfn] := by kernel_rfl
theorem oe81 : okElem Try.prog 81 = true := by kernel_rfl
theorem mk81 : mkOk Try.prog 81 = true := by kernel_rfl
theorem ek81 : elemKind Try.prog 81 = 0 := by kernel_rfl
theorem tk82 : tkOf Try.prog 82 = .cell := by kernel_rfl
theorem ck82 : Try.prog.cellsOf 82 = 1 := by kernel_rfl
theorem za82 : zeroAVs Try.prog 82 = some [.nilfn] := by kernel_rfl
theorem oe82 : okElem Try.prog 82 = true := by kernel_rfl
theorem mk82 : mkOk Try.prog 82 = true := by kernel_rfl
theorem ek82 : elemKind Try.prog 82 = 0 := by kernel_rfl
theorem tk83 : tkOf Try.prog 83 = .cell := by kernel_rfl
theorem ck83 : Try.prog.cellsOf 83 = 1 := by kernel_rfl
theorem za83 : zeroAVs Try.prog 83 = some [.nilfn] := by kernel_rfl
theorem oe83 : okElem Try.prog 83 = true := by kernel_rfl
theorem mk83 : mkOk Try.prog 83 = true := by kernel_rfl
theorem ek83 : elemKind Try.prog 83 = 0 := by kernel_rfl
theorem tk84 : tkOf Try.prog 84 = .cell := by kernel_rfl
theorem ck84 : Try.prog.cellsOf 84 = 1 := by kernel_rfl
theorem za84 : zeroAVs Try.prog 84 = some [.nilfn] := by kernel_rfl
theorem oe84 : okElem Try.prog 84 = true := by kernel_rfl
theorem mk84 : mkOk Try.prog 84 = true := by kernel_rfl
theorem ek84 : elemKind Try.prog 84 = 0 := by kernel_rfl
theorem tk85 : tkOf Try.prog 85 = .cell := by kernel_rfl
theorem ck85 : Try.prog.cellsOf 85 = 1 := by kernel_rfl
theorem za85 : zeroAVs Try.prog 85 = some [.nilfn] := by kernel_rfl
theorem oe85 : okElem Try.prog 85 = true := by kernel_rfl
theorem mk85 : mkOk Try.prog 85 = true := by kernel_rfl
theorem ek85 : elemKind Try.prog 85 = 0 := by kernel_rfl
theorem tk86 : tkOf Try.prog 86 = .cell := by kernel_rfl
theorem ck86 : Try.prog.cellsOf 86 = 1 := by kernel_rfl
theorem za86 : zeroAVs Try.prog 86 = some [.nilfn] := by kernel_rfl
theorem oe86 : okElem Try.prog 86 = true := by kernel_rfl
theorem mk86 : mkOk Try.prog 86 = true := by kernel_rfl
theorem ek86 : elemKind Try.prog 86 = 0 := by kernel_rfl
theorem tk87 : tkOf Try.prog 87 = .cell := by kernel_rfl
theorem ck87 : Try.prog.cellsOf 87 = 1 := by kernel_rfl
theorem za87 : zeroAVs Try.prog 87 = some [.nilfn] := by kernel_rfl
theorem oe87 : okElem Try.prog 87 = true := by kernel_rfl
theorem mk87 : mkOk Try.prog 87 = true := by kernel_rfl
theorem ek87 : elemKind Try.prog 87 = 0 := by kernel_rfl
theorem tk88 : tkOf Try.prog 88 = .sl 3 := by kernel_rfl
theorem ck88 : Try.prog.cellsOf 88 = 1 := by kernel_rfl
theorem za88 : zeroAVs Try.prog 88 = some [.nil] := by kernel_rfl
theorem oe88 : okElem Try.prog 88 = true := by kernel_rfl
theorem mk88 : mkOk Try.prog 88 = true := by kernel_rfl
theorem ek88 : elemKind Try.prog 88 = 2 := by kernel_rfl
theorem tk89 : tkOf Try.prog 89 = .cell := by kernel_rfl
theorem ck89 : Try.prog.cellsOf 89 = 1 := by kernel_rfl
theorem za89 : zeroAVs Try.prog 89 = some [.nilfn] := by kernel_rfl
theorem oe89 : okElem Try.prog 89 = true := by kernel_rfl
theorem mk89 : mkOk Try.prog 89 = true := by kernel_rfl
theorem ek89 : elemKind Try.prog 89 = 0 := by kernel_rfl
theorem tk90 : tkOf Try.prog 90 = .cell := by kernel_rfl
theorem ck90 : Try.prog.cellsOf 90 = 1 := by kernel_rfl
theorem za90 : zeroAVs Try.prog 90 = some [.nilfn] := by kernel_rfl
theorem oe90 : okElem Try.prog 90 = true := by kernel_rfl
theorem mk90 : mkOk Try.prog 90 = true := by kernel_rfl
theorem ek90 : elemKind Try.prog 90 = 0 := by kernel_rfl
theorem tk92 : tkOf Try.prog 92 = .cell := by kernel_rfl
theorem ck92 : Try.prog.cellsOf 92 = 1 := by kernel_rfl
theorem za92 : zeroAVs Try.prog 92 = some [.nilfn] := by kernel_rfl
theorem oe92 : okElem Try.prog 92 = true := by kernel_rfl
theorem mk92 : mkOk Try.prog 92 = true := by kernel_rfl
theorem ek92 : elemKind Try.prog 92 = 0 := by kernel_rfl
theorem tk93 : tkOf Try.prog 93 = .cell := by kernel_rfl
theorem ck93 : Try.prog.cellsOf 93 = 1 := by kernel_rfl
theorem za93 : zeroAVs Try.prog 93 = some [.nilfn] := by kernel_rfl
theorem oe93 : okElem Try.prog 93 = true := by kernel_rfl
theorem mk93 : mkOk Try.prog 93 = true := by kernel_rfl
theorem ek93 : elemKind Try.prog 93 = 0 := by kernel_rfl
theorem tk94 : tkOf Try.prog 94 = .cell := by kernel_rfl
theorem ck94 : Try.prog.cellsOf 94 = 1 := by kernel_rfl
theorem za94 : zeroAVs Try.prog 94 = some [.nilfn] := by kernel_rfl
theorem oe94 : okElem Try.prog 94 = true := by kernel_rfl
theorem mk94 : mkOk Try.prog 94 = true := by kernel_rfl
theorem ek94 : elemKind Try.prog 94 = 0 := by kernel_rfl
theorem tk95 : tkOf Try.prog 95 = .cell := by kernel_rfl
theorem ck95 : Try.prog.cellsOf 95 = 1 := by kernel_rfl
theorem za95 : zeroAVs Try.prog 95 = some [.nilfn] := by kernel_rfl
theorem oe95 : okElem Try.prog 95 = true := by kernel_rfl
theorem mk95 : mkOk Try.prog 95 = true := by kernel_rfl
theorem ek95 : elemKind Try.prog 95 = 0 := by kernel_rfl
theorem tk96 : tkOf Try.prog 96 = .cell := by kernel_rfl
theorem ck96 : Try.prog.cellsOf 96 = 1 := by kernel_rfl
theorem za96 : zeroAVs Try.prog 96 = some [.nilfn] := by kernel_rfl
theorem oe96 : okElem Try.prog 96 = true := by kernel_rfl
theorem mk96 : mkOk Try.prog 96 = true := by kernel_rfl
theorem ek96 : elemKind Try.prog 96 = 0 := by kernel_rfl
theorem tk97 : tkOf Try.prog 97 = .cell := by kernel_rfl
theorem ck97 : Try.prog.cellsOf 97 = 1 := by kernel_rfl
theorem za97 : zeroAVs Try.prog 97 = some [.nilfn] := by kernel_rfl
theorem oe97 : okElem Try.prog 97 = true := by kernel_rfl
theorem mk97 : mkOk Try.prog 97 = true := by kernel_rfl
theorem ek97 : elemKind Try.prog 97 = 0 := by kernel_rfl
theorem tk98 : tkOf Try.prog 98 = .cell := by kernel_rfl
theorem ck98 : Try.prog.cellsOf 98 = 1 := by kernel_rfl
theorem za98 : zeroAVs Try.prog 98 = some [.nilfn] := by kernel_rfl
theorem oe98 : okElem Try.prog 98 = true := by kernel_rfl
theorem mk98 : mkOk Try.prog 98 = true := by kernel_rfl
theorem ek98 : elemKind Try.prog 98 = 0 := by kernel_rfl
theorem tk99 : tkOf Try.prog 99 = .cell := by kernel_rfl
theorem ck99 : Try.prog.cellsOf 99 = 1 := by kernel_rfl
theorem za99 : zeroAVs Try.prog 99 = some [.nilfn] := by kernel_rfl
theorem oe99 : okElem Try.prog 99 = true := by kernel_rfl
theorem mk99 : mkOk Try.prog 99 = true := by kernel_rfl
theorem ek99 : elemKind Try.prog 99 = 0 := by kernel_rfl
theorem tk100 : tkOf Try.prog 100 = .cell := by kernel_rfl
theorem ck100 : Try.prog.cellsOf 100 = 1 := by kernel_rfl
theorem za100 : zeroAVs Try.prog 100 = some [.nilfn] := by kernel_rfl
theorem oe100 : okElem Try.prog 100 = true := by kernel_rfl
theorem mk100 : mkOk Try.prog 100 = true := by kernel_rfl
theorem ek100 : elemKind Try.prog 100 = 0 := by kernel_rfl
theorem tk101 : tkOf Try.prog 101 = .cell := by kernel_rfl
theorem ck101 : Try.prog.cellsOf 101 = 1 := by kernel_rfl
theorem za101 : zeroAVs Try.prog 101 = some [.nilfn] := by kernel_rfl
theorem oe101 : okElem Try.prog 101 = true := by kernel_rfl
theorem mk101 : mkOk Try.prog 101 = true := by kernel_rfl
theorem ek101 : elemKind Try.prog 101 = 0 := by kernel_rfl
theorem tk102 : tkOf Try.prog 102 = .cell := by kernel_rfl
theorem ck102 : Try.prog.cellsOf 102 = 1 := by kernel_rfl
theorem za102 : zeroAVs Try.prog 102 = some [.nilfn] := by kernel_rfl
theorem oe102 : okElem Try.prog 102 = true := by kernel_rfl
theorem mk102 : mkOk Try.prog 102 = true := by kernel_rfl
theorem ek102 : elemKind Try.prog 102 = 0 := by kernel_rfl
theorem tk103 : tkOf Try.prog 103 = .cell := by kernel_rfl
theorem ck103 : Try.prog.cellsOf 103 = 1 := by kernel_rfl
theorem za103 : zeroAVs Try.prog 103 = some [.nilfn] := by kernel_rfl
theorem oe103 : okElem Try.prog 103 = true := by kernel_rfl
theorem mk103 : mkOk Try.prog 103 = true := by kernel_rfl
theorem ek103 : elemKind Try.prog 103 = 0 := by kernel_rfl
theorem tk104 : tkOf Try.prog 104 = .cell := by kernel_rfl
theorem ck104 : Try.prog.cellsOf 104 = 1 := by kernel_rfl
theorem za104 : zeroAVs Try.prog 104 = some [.nilfn] := by kernel_rfl
theorem oe104 : okElem Try.prog 104 = true := by kernel_rfl
theorem mk104 : mkOk Try.prog 104 = true := by kernel_rfl
theorem ek104 : elemKind Try.prog 104 = 0 := by kernel_rfl
theorem tk105 : tkOf Try.prog 105 = .cell := by kernel_rfl
theorem ck105 : Try.prog.cellsOf 105 = 1 := by kernel_rfl
theorem za105 : zeroAVs Try.prog 105 = some [.nilfn] := by kernel_rfl
theorem oe105 : okElem Try.prog 105 = true := by kernel_rfl
theorem mk105 : mkOk Try.prog 105 = true := by kernel_rfl
theorem ek105 : elemKind Try.prog 105 = 0 := by kernel_rfl
theorem tk106 : tkOf Try.prog 106 = .cell := by kernel_rfl
theorem ck106 : Try.prog.cellsOf 106 = 1 := by kernel_rfl
theorem za106 : zeroAVs Try.prog 106 = some [.nilfn] := by kernel_rfl
theorem oe106 : okElem Try.prog 106 = true := by kernel_rfl
theorem mk106 : mkOk Try.prog 106 = true := by kernel_rfl
theorem ek106 : elemKind Try.prog 106 = 0 := by kernel_rfl
theorem tk107 : tkOf Try.prog 107 = .st [(0, 1), (1, 1), (2, 1), (3, 1)] 4 := by kernel_rfl
theorem ck107 : Try.prog.cellsOf 107 = 4 := by kernel_rfl
theorem bs107 : bdOf Try.prog 107 = some [(0, 1), (1, 1), (2, 1), (3, 1)] := by kernel_rfl
theorem za107 : zeroAVs Try.prog 107 = some [.junk, .junk, .junk, .str ByteArray.empty] := by kernel_rfl
theorem tk110 : tkOf Try.prog 110 = .st [(0, 0)] 0 := by kernel_rfl
theorem ck110 : Try.prog.cellsOf 110 = 0 := by kernel_rfl
theorem bs110 : bdOf Try.prog 110 = some [(0, 0)] := by kernel_rfl
theorem za110 : zeroAVs Try.prog 110 = some [] := by kernel_rfl
theorem tk112 : tkOf Try.prog 112 = .cell := by kernel_rfl
theorem ck112 : Try.prog.cellsOf 112 = 1 := by kernel_rfl
theorem za112 : zeroAVs Try.prog 112 = some [.nilfn] := by kernel_rfl
theorem oe112 : okElem Try.prog 112 = true := by kernel_rfl
theorem mk112 : mkOk Try.prog 112 = true := by kernel_rfl
theorem ek112 : elemKind Try.prog 112 = 0 := by kernel_rfl
theorem tk113 : tkOf Try.prog 113 = .ik .u32 := by kernel_rfl
theorem ck113 : Try.prog.cellsOf 113 = 1 := by kernel_rfl
theorem za113 : zeroAVs Try.prog 113 = some [.ik .u32 0] := by kernel_rfl
theorem oe113 : okElem Try.prog 113 = true := by kernel_rfl
theorem mk113 : mkOk Try.prog 113 = true := by kernel_rfl
theorem ek113 : elemKind Try.prog 113 = 0 := by kernel_rfl
theorem tk116 : tkOf Try.prog 116 = .cell := by kernel_rfl
theorem ck116 : Try.prog.cellsOf 116 = 1 := by kernel_rfl
theorem za116 : zeroAVs Try.prog 116 = some [.nilfn] := by kernel_rfl
theorem oe116 : okElem Try.prog 116 = true := by kernel_rfl
theorem mk116 : mkOk Try.prog 116 = true := by kernel_rfl
theorem ek116 : elemKind Try.prog 116 = 0 := by kernel_rfl
theorem tk117 : tkOf Try.prog 117 = .cell := by kernel_rfl
theorem ck117 : Try.prog.cellsOf 117 = 1 := by kernel_rfl
theorem za117 : zeroAVs Try.prog 117 = some [.junk] := by kernel_rfl
theorem oe117 : okElem Try.prog 117 = true := by kernel_rfl
theorem mk117 : mkOk Try.prog 117 = true := by kernel_rfl
theorem ek117 : elemKind Try.prog 117 = 0 := by kernel_rfl
theorem tk120 : tkOf Try.prog 120 = .st [(0, 1), (1, 1), (2, 1), (3, 1), (4, 1), (5, 1), (6, 1), (7, 1), (8, 1), (9, 1), (10, 1)] 11 := by kernel_rfl
theorem ck120 : Try.prog.cellsOf 120 = 11 := by kernel_rfl
theorem bs120 : bdOf Try.prog 120 = some [(0, 1), (1, 1), (2, 1), (3, 1), (4, 1), (5, 1), (6, 1), (7, 1), (8, 1), (9, 1), (10, 1)] := by kernel_rfl
theorem za120 : zeroAVs Try.prog 120 = some [.ik .u64 0, .ik .u64 0, .ik .u32 0, .ik .u8 0, .ik .u8 0, .ik .u8 0, .ik .u8 0, .nilfn, .junk, .ik .i32 0, .ik .i32 0] := by kernel_rfl
attribute [go_sem] tk1 ck1 za1 oe1 mk1 ek1 tk2 ck2 za2 oe2 mk2 ek2 tk3 ck3 za3 oe3 mk3 ek3 tk4 ck4 za4 oe4 mk4 ek4 tk5 ck5 za5 oe5 mk5 ek5 tk7 ck7 bs7 za7 tk9 ck9 za9 oe9 mk9 ek9 tk12 ck12 za12 oe12 mk12 ek12 tk13 ck13 bs13 za13 tk15 ck15 za15 oe15 mk15 ek15 tk16 ck16 za16 oe16 mk16 ek16 tk17 ck17 za17 oe17 mk17 ek17 tk18 ck18 bs18 za18 tk21 ck21 za21 oe21 mk21 ek21 tk22 ck22 za22 oe22 mk22 ek22 tk23 ck23 za23 oe23 mk23 ek23 tk24 ck24 za24 oe24 mk24 ek24 tk25 ck25 za25 oe25 mk25 ek25 tk27 ck27 za27 oe27 mk27 ek27 tk28 ck28 za28 oe28 mk28 ek28 tk29 ck29 bs29 za29 tk30 ck30 bs30 za30 tk32 ck32 za32 oe32 mk32 ek32 tk33 ck33 za33 oe33 mk33 ek33 tk34 ck34 za34 oe34 mk34 ek34 tk35 ck35 za35 oe35 mk35 ek35 tk36 ck36 za36 oe36 mk36 ek36 tk37 ck37 za37 oe37 mk37 ek37 tk39 ck39 za39 oe39 mk39 ek39 tk41 ck41 za41 oe41 mk41 ek41 tk42 ck42 za42 oe42 mk42 ek42 tk43 ck43 za43 oe43 mk43 ek43 tk44 ck44 za44 oe44 mk44 ek44 tk46 ck46 za46 oe46 mk46 ek46 tk47 ck47 za47 oe47 mk47 ek47 tk48 ck48 za48 oe48 mk48 ek48 tk49 ck49 za49 oe49 mk49 ek49 tk50 ck50 za50 oe50 mk50 ek50 tk51 ck51 za51 oe51 mk51 ek51 tk52 ck52 za52 oe52 mk52 ek52 tk53 ck53 za53 oe53 mk53 ek53 tk54 ck54 za54 oe54 mk54 ek54 tk55 ck55 za55 oe55 mk55 ek55 tk56 ck56 za56 oe56 mk56 ek56 tk57 ck57 za57 oe57 mk57 ek57 tk58 ck58 za58 oe58 mk58 ek58 tk59 ck59 za59 oe59 mk59 ek59 tk60 ck60 za60 oe60 mk60 ek60 tk61 ck61 bs61 za61 tk62 ck62 bs62 za62 tk63 ck63 za63 oe63 mk63 ek63 tk64 ck64 za64 oe64 mk64 ek64 tk65 ck65 za65 oe65 mk65 ek65 tk66 ck66 za66 oe66 mk66 ek66 tk67 ck67 za67 oe67 mk67 ek67 tk68 ck68 za68 oe68 mk68 ek68 tk69 ck69 za69 oe69 mk69 ek69 tk70 ck70 za70 oe70 mk70 ek70 tk71 ck71 za71 oe71 mk71 ek71 tk72 ck72 za72 oe72 mk72 ek72 tk73 ck73 za73 oe73 mk73 ek73 tk74 ck74 za74 oe74 mk74 ek74 tk75 ck75 za75 oe75 mk75 ek75 tk76 ck76 bs76 za76 tk77 ck77 bs77 za77 tk78 ck78 za78 oe78 mk78 ek78 tk79 ck79 za79 oe79 mk79 ek79 tk80 ck80 za80 oe80 mk80 ek80 tk81 ck81 za81 oe81 mk81 ek81 tk82 ck82 za82 oe82 mk82 ek82 tk83 ck83 za83 oe83 mk83 ek83 tk84 ck84 za84 oe84 mk84 ek84 tk85 ck85 za85 oe85 mk85 ek85 tk86 ck86 za86 oe86 mk86 ek86 tk87 ck87 za87 oe87 mk87 ek87 tk88 ck88 za88 oe88 mk88 ek88 tk89 ck89 za89 oe89 mk89 ek89 tk90 ck90 za90 oe90 mk90 ek90 tk92 ck92 za92 oe92 mk92 ek92 tk93 ck93 za93 oe93 mk93 ek93 tk94 ck94 za94 oe94 mk94 ek94 tk95 ck95 za95 oe95 mk95 ek95 tk96 ck96 za96 oe96 mk96 ek96 tk97 ck97 za97 oe97 mk97 ek97 tk98 ck98 za98 oe98 mk98 ek98 tk99 ck99 za99 oe99 mk99 ek99 tk100 ck100 za100 oe100 mk100 ek100 tk101 ck101 za101 oe101 mk101 ek101 tk102 ck102 za102 oe102 mk102 ek102 tk103 ck103 za103 oe103 mk103 ek103 tk104 ck104 za104 oe104 mk104 ek104 tk105 ck105 za105 oe105 mk105 ek105 tk106 ck106 za106 oe106 mk106 ek106 tk107 ck107 bs107 za107 tk110 ck110 bs110 za110 tk112 ck112 za112 oe112 mk112 ek112 tk113 ck113 za113 oe113 mk113 ek113 tk116 ck116 za116 oe116 mk116 ek116 tk117 ck117 za117 oe117 mk117 ek117 tk120 ck120 bs120 za120
end Go.Proofs.Ytcmgjlgmajhekaa
