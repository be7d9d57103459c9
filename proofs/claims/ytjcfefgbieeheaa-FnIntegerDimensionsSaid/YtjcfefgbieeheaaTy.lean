import Derived.Test.YtjcfefgbieeheaaLib3
import Derived.Test.YtjcfefgbieeheaaRows
import Derived.KernelRfl
set_option linter.unusedSimpArgs false
namespace Go.Proofs.Ytjcfefgbieeheaa
open Go Go.Aw
theorem tk1 : tkOf Try.prog 1 = .cell := by kernel_rfl
theorem ck1 : Try.prog.cellsOf 1 = 1 := by kernel_rfl
theorem za1 : zeroAVs Try.prog 1 = some [.nilfn] := by kernel_rfl
theorem oe1 : okElem Try.prog 1 = true := by kernel_rfl
theorem mk1 : mkOk Try.prog 1 = true := by kernel_rfl
theorem ek1 : elemKind Try.prog 1 = 0 := by kernel_rfl
theorem tk2 : tkOf Try.prog 2 = .int := by kernel_rfl
theorem ck2 : Try.prog.cellsOf 2 = 1 := by kernel_rfl
theorem za2 : zeroAVs Try.prog 2 = some [.int 0] := by kernel_rfl
theorem oe2 : okElem Try.prog 2 = true := by kernel_rfl
theorem mk2 : mkOk Try.prog 2 = true := by kernel_rfl
theorem ek2 : elemKind Try.prog 2 = 1 := by kernel_rfl
theorem tk3 : tkOf Try.prog 3 = .int := by kernel_rfl
theorem ck3 : Try.prog.cellsOf 3 = 1 := by kernel_rfl
theorem za3 : zeroAVs Try.prog 3 = some [.int 0] := by kernel_rfl
theorem oe3 : okElem Try.prog 3 = true := by kernel_rfl
theorem mk3 : mkOk Try.prog 3 = true := by kernel_rfl
theorem ek3 : elemKind Try.prog 3 = 1 := by kernel_rfl
theorem tk4 : tkOf Try.prog 4 = .bool := by kernel_rfl
theorem ck4 : Try.prog.cellsOf 4 = 1 := by kernel_rfl
theorem za4 : zeroAVs Try.prog 4 = some [.bool false] := by kernel_rfl
theorem oe4 : okElem Try.prog 4 = true := by kernel_rfl
theorem mk4 : mkOk Try.prog 4 = true := by kernel_rfl
theorem ek4 : elemKind Try.prog 4 = 0 := by kernel_rfl
theorem tk5 : tkOf Try.prog 5 = .ik .u8 := by kernel_rfl
theorem ck5 : Try.prog.cellsOf 5 = 1 := by kernel_rfl
theorem za5 : zeroAVs Try.prog 5 = some [.ik .u8 0] := by kernel_rfl
theorem oe5 : okElem Try.prog 5 = true := by kernel_rfl
theorem mk5 : mkOk Try.prog 5 = true := by kernel_rfl
theorem ek5 : elemKind Try.prog 5 = 0 := by kernel_rfl
theorem tk7 : tkOf Try.prog 7 = .st [(0, 1), (1, 1), (2, 1), (3, 1)] 4 := by kernel_rfl
theorem ck7 : Try.prog.cellsOf 7 = 4 := by kernel_rfl
theorem bs7 : bdOf Try.prog 7 = some [(0, 1), (1, 1), (2, 1), (3, 1)] := by kernel_rfl
theorem za7 : zeroAVs Try.prog 7 = some [.int 0, .int 0, .bool false, .ik .u8 0] := by kernel_rfl
theorem tk9 : tkOf Try.prog 9 = .str := by kernel_rfl
theorem ck9 : Try.prog.cellsOf 9 = 1 := by kernel_rfl
theorem za9 : zeroAVs Try.prog 9 = some [.str ByteArray.empty] := by kernel_rfl
theorem oe9 : okElem Try.prog 9 = true := by kernel_rfl
theorem mk9 : mkOk Try.prog 9 = true := by kernel_rfl
theorem ek9 : elemKind Try.prog 9 = 0 := by kernel_rfl
theorem tk12 : tkOf Try.prog 12 = .ik .u64 := by kernel_rfl
theorem ck12 : Try.prog.cellsOf 12 = 1 := by kernel_rfl
theorem za12 : zeroAVs Try.prog 12 = some [.ik .u64 0] := by kernel_rfl
theorem oe12 : okElem Try.prog 12 = true := by kernel_rfl
theorem mk12 : mkOk Try.prog 12 = true := by kernel_rfl
theorem ek12 : elemKind Try.prog 12 = 0 := by kernel_rfl
theorem tk13 : tkOf Try.prog 13 = .st [(0, 1), (1, 1)] 2 := by kernel_rfl
theorem ck13 : Try.prog.cellsOf 13 = 2 := by kernel_rfl
theorem bs13 : bdOf Try.prog 13 = some [(0, 1), (1, 1)] := by kernel_rfl
theorem za13 : zeroAVs Try.prog 13 = some [.str ByteArray.empty, .ik .u64 0] := by kernel_rfl
theorem tk15 : tkOf Try.prog 15 = .cell := by kernel_rfl
theorem ck15 : Try.prog.cellsOf 15 = 1 := by kernel_rfl
theorem za15 : zeroAVs Try.prog 15 = some [.junk] := by kernel_rfl
theorem oe15 : okElem Try.prog 15 = true := by kernel_rfl
theorem mk15 : mkOk Try.prog 15 = true := by kernel_rfl
theorem ek15 : elemKind Try.prog 15 = 0 := by kernel_rfl
theorem tk16 : tkOf Try.prog 16 = .cell := by kernel_rfl
theorem ck16 : Try.prog.cellsOf 16 = 1 := by kernel_rfl
theorem za16 : zeroAVs Try.prog 16 = some [.junk] := by kernel_rfl
theorem oe16 : okElem Try.prog 16 = true := by kernel_rfl
theorem mk16 : mkOk Try.prog 16 = true := by kernel_rfl
theorem ek16 : elemKind Try.prog 16 = 0 := by kernel_rfl
theorem tk17 : tkOf Try.prog 17 = .cell := by kernel_rfl
theorem ck17 : Try.prog.cellsOf 17 = 1 := by kernel_rfl
theorem za17 : zeroAVs Try.prog 17 = some [.junk] := by kernel_rfl
theorem oe17 : okElem Try.prog 17 = true := by kernel_rfl
theorem mk17 : mkOk Try.prog 17 = true := by kernel_rfl
theorem ek17 : elemKind Try.prog 17 = 0 := by kernel_rfl
theorem tk18 : tkOf Try.prog 18 = .st [(0, 1)] 1 := by kernel_rfl
theorem ck18 : Try.prog.cellsOf 18 = 1 := by kernel_rfl
theorem bs18 : bdOf Try.prog 18 = some [(0, 1)] := by kernel_rfl
theorem za18 : zeroAVs Try.prog 18 = some [.junk] := by kernel_rfl
theorem tk21 : tkOf Try.prog 21 = .ik .i32 := by kernel_rfl
theorem ck21 : Try.prog.cellsOf 21 = 1 := by kernel_rfl
theorem za21 : zeroAVs Try.prog 21 = some [.ik .i32 0] := by kernel_rfl
theorem oe21 : okElem Try.prog 21 = true := by kernel_rfl
theorem mk21 : mkOk Try.prog 21 = true := by kernel_rfl
theorem ek21 : elemKind Try.prog 21 = 0 := by kernel_rfl
theorem tk22 : tkOf Try.prog 22 = .sl 5 := by kernel_rfl
theorem ck22 : Try.prog.cellsOf 22 = 1 := by kernel_rfl
theorem za22 : zeroAVs Try.prog 22 = some [.nil] := by kernel_rfl
theorem oe22 : okElem Try.prog 22 = true := by kernel_rfl
theorem mk22 : mkOk Try.prog 22 = true := by kernel_rfl
theorem ek22 : elemKind Try.prog 22 = 0 := by kernel_rfl
theorem tk23 : tkOf Try.prog 23 = .cell := by kernel_rfl
theorem ck23 : Try.prog.cellsOf 23 = 1 := by kernel_rfl
theorem za23 : zeroAVs Try.prog 23 = some [.nilfn] := by kernel_rfl
theorem oe23 : okElem Try.prog 23 = true := by kernel_rfl
theorem mk23 : mkOk Try.prog 23 = true := by kernel_rfl
theorem ek23 : elemKind Try.prog 23 = 0 := by kernel_rfl
theorem tk24 : tkOf Try.prog 24 = .sl 91 := by kernel_rfl
theorem ck24 : Try.prog.cellsOf 24 = 1 := by kernel_rfl
theorem za24 : zeroAVs Try.prog 24 = some [.nil] := by kernel_rfl
theorem oe24 : okElem Try.prog 24 = true := by kernel_rfl
theorem mk24 : mkOk Try.prog 24 = true := by kernel_rfl
theorem ek24 : elemKind Try.prog 24 = 0 := by kernel_rfl
theorem tk25 : tkOf Try.prog 25 = .st [(0, 1)] 1 := by kernel_rfl
theorem ck25 : Try.prog.cellsOf 25 = 1 := by kernel_rfl
theorem bs25 : bdOf Try.prog 25 = some [(0, 1)] := by kernel_rfl
theorem za25 : zeroAVs Try.prog 25 = some [.nil] := by kernel_rfl
theorem tk26 : tkOf Try.prog 26 = .st [(0, 1)] 1 := by kernel_rfl
theorem ck26 : Try.prog.cellsOf 26 = 1 := by kernel_rfl
theorem bs26 : bdOf Try.prog 26 = some [(0, 1)] := by kernel_rfl
theorem za26 : zeroAVs Try.prog 26 = some [.nil] := by kernel_rfl
theorem tk27 : tkOf Try.prog 27 = .sl 2 := by kernel_rfl
theorem ck27 : Try.prog.cellsOf 27 = 1 := by kernel_rfl
theorem za27 : zeroAVs Try.prog 27 = some [.nil] := by kernel_rfl
theorem oe27 : okElem Try.prog 27 = true := by kernel_rfl
theorem mk27 : mkOk Try.prog 27 = true := by kernel_rfl
theorem ek27 : elemKind Try.prog 27 = 2 := by kernel_rfl
theorem tk29 : tkOf Try.prog 29 = .cell := by kernel_rfl
theorem ck29 : Try.prog.cellsOf 29 = 1 := by kernel_rfl
theorem za29 : zeroAVs Try.prog 29 = some [.nilfn] := by kernel_rfl
theorem oe29 : okElem Try.prog 29 = true := by kernel_rfl
theorem mk29 : mkOk Try.prog 29 = true := by kernel_rfl
theorem ek29 : elemKind Try.prog 29 = 0 := by kernel_rfl
theorem tk31 : tkOf Try.prog 31 = .cell := by kernel_rfl
theorem ck31 : Try.prog.cellsOf 31 = 1 := by kernel_rfl
theorem za31 : zeroAVs Try.prog 31 = some [.nilfn] := by kernel_rfl
theorem oe31 : okElem Try.prog 31 = true := by kernel_rfl
theorem mk31 : mkOk Try.prog 31 = true := by kernel_rfl
theorem ek31 : elemKind Try.prog 31 = 0 := by kernel_rfl
theorem tk32 : tkOf Try.prog 32 = .cell := by kernel_rfl
theorem ck32 : Try.prog.cellsOf 32 = 1 := by kernel_rfl
theorem za32 : zeroAVs Try.prog 32 = some [.nilfn] := by kernel_rfl
theorem oe32 : okElem Try.prog 32 = true := by kernel_rfl
theorem mk32 : mkOk Try.prog 32 = true := by kernel_rfl
theorem ek32 : elemKind Try.prog 32 = 0 := by kernel_rfl
theorem tk34 : tkOf Try.prog 34 = .cell := by kernel_rfl
theorem ck34 : Try.prog.cellsOf 34 = 1 := by kernel_rfl
theorem za34 : zeroAVs Try.prog 34 = some [.nilfn] := by kernel_rfl
theorem oe34 : okElem Try.prog 34 = true := by kernel_rfl
theorem mk34 : mkOk Try.prog 34 = true := by kernel_rfl
theorem ek34 : elemKind Try.prog 34 = 0 := by kernel_rfl
theorem tk35 : tkOf Try.prog 35 = .cell := by kernel_rfl
theorem ck35 : Try.prog.cellsOf 35 = 1 := by kernel_rfl
theorem za35 : zeroAVs Try.prog 35 = some [.nilfn] := by kernel_rfl
theorem oe35 : okElem Try.prog 35 = true := by kernel_rfl
theorem mk35 : mkOk Try.prog 35 = true := by kernel_rfl
theorem ek35 : elemKind Try.prog 35 = 0 := by kernel_rfl
theorem tk37 : tkOf Try.prog 37 = .cell := by kernel_rfl
theorem ck37 : Try.prog.cellsOf 37 = 1 := by kernel_rfl
theorem za37 : zeroAVs Try.prog 37 = some [.nilfn] := by kernel_rfl
theorem oe37 : okElem Try.prog 37 = true := by kernel_rfl
theorem mk37 : mkOk Try.prog 37 = true := by kernel_rfl
theorem ek37 : elemKind Try.prog 37 = 0 := by kernel_rfl
theorem tk38 : tkOf Try.prog 38 = .cell := by kernel_rfl
theorem ck38 : Try.prog.cellsOf 38 = 1 := by kernel_rfl
theorem za38 : zeroAVs Try.prog 38 = some [.nilfn] := by kernel_rfl
theorem oe38 : okElem Try.prog 38 = true := by kernel_rfl
theorem mk38 : mkOk Try.prog 38 = true := by kernel_rfl
theorem ek38 : elemKind Try.prog 38 = 0 := by kernel_rfl
theorem tk39 : tkOf Try.prog 39 = .cell := by kernel_rfl
theorem ck39 : Try.prog.cellsOf 39 = 1 := by kernel_rfl
theorem za39 : zeroAVs Try.prog 39 = some [.junk] := by kernel_rfl
theorem oe39 : okElem Try.prog 39 = true := by kernel_rfl
theorem mk39 : mkOk Try.prog 39 = true := by kernel_rfl
theorem ek39 : elemKind Try.prog 39 = 0 := by kernel_rfl
theorem tk40 : tkOf Try.prog 40 = .cell := by kernel_rfl
theorem ck40 : Try.prog.cellsOf 40 = 1 := by kernel_rfl
theorem za40 : zeroAVs Try.prog 40 = some [.nilfn] := by kernel_rfl
theorem oe40 : okElem Try.prog 40 = true := by kernel_rfl
theorem mk40 : mkOk Try.prog 40 = true := by kernel_rfl
theorem ek40 : elemKind Try.prog 40 = 0 := by kernel_rfl
theorem tk41 : tkOf Try.prog 41 = .ik .u64 := by kernel_rfl
theorem ck41 : Try.prog.cellsOf 41 = 1 := by kernel_rfl
theorem za41 : zeroAVs Try.prog 41 = some [.ik .u64 0] := by kernel_rfl
theorem oe41 : okElem Try.prog 41 = true := by kernel_rfl
theorem mk41 : mkOk Try.prog 41 = true := by kernel_rfl
theorem ek41 : elemKind Try.prog 41 = 0 := by kernel_rfl
theorem tk42 : tkOf Try.prog 42 = .cell := by kernel_rfl
theorem ck42 : Try.prog.cellsOf 42 = 1 := by kernel_rfl
theorem za42 : zeroAVs Try.prog 42 = some [.nilfn] := by kernel_rfl
theorem oe42 : okElem Try.prog 42 = true := by kernel_rfl
theorem mk42 : mkOk Try.prog 42 = true := by kernel_rfl
theorem ek42 : elemKind Try.prog 42 = 0 := by kernel_rfl
theorem tk43 : tkOf Try.prog 43 = .cell := by kernel_rfl
theorem ck43 : Try.prog.cellsOf 43 = 1 := by kernel_rfl
theorem za43 : zeroAVs Try.prog 43 = some [.nilfn] := by kernel_rfl
theorem oe43 : okElem Try.prog 43 = true := by kernel_rfl
theorem mk43 : mkOk Try.prog 43 = true := by kernel_rfl
theorem ek43 : elemKind Try.prog 43 = 0 := by kernel_rfl
theorem tk44 : tkOf Try.prog 44 = .cell := by kernel_rfl
theorem ck44 : Try.prog.cellsOf 44 = 1 := by kernel_rfl
theorem za44 : zeroAVs Try.prog 44 = some [.nilfn] := by kernel_rfl
theorem oe44 : okElem Try.prog 44 = true := by kernel_rfl
theorem mk44 : mkOk Try.prog 44 = true := by kernel_rfl
theorem ek44 : elemKind Try.prog 44 = 0 := by kernel_rfl
theorem tk46 : tkOf Try.prog 46 = .cell := by kernel_rfl
theorem ck46 : Try.prog.cellsOf 46 = 1 := by kernel_rfl
theorem za46 : zeroAVs Try.prog 46 = some [.nilfn] := by kernel_rfl
theorem oe46 : okElem Try.prog 46 = true := by kernel_rfl
theorem mk46 : mkOk Try.prog 46 = true := by kernel_rfl
theorem ek46 : elemKind Try.prog 46 = 0 := by kernel_rfl
theorem tk47 : tkOf Try.prog 47 = .st [(0, 1), (1, 1), (2, 1), (3, 1)] 4 := by kernel_rfl
theorem ck47 : Try.prog.cellsOf 47 = 4 := by kernel_rfl
theorem bs47 : bdOf Try.prog 47 = some [(0, 1), (1, 1), (2, 1), (3, 1)] := by kernel_rfl
theorem za47 : zeroAVs Try.prog 47 = some [.int 0, .int 0, .int 0, .int 0] := by kernel_rfl
theorem tk48 : tkOf Try.prog 48 = .st [(0, 1), (1, 1), (2, 1), (3, 1)] 4 := by kernel_rfl
theorem ck48 : Try.prog.cellsOf 48 = 4 := by kernel_rfl
theorem bs48 : bdOf Try.prog 48 = some [(0, 1), (1, 1), (2, 1), (3, 1)] := by kernel_rfl
theorem za48 : zeroAVs Try.prog 48 = some [.int 0, .int 0, .int 0, .int 0] := by kernel_rfl
theorem tk50 : tkOf Try.prog 50 = .cell := by kernel_rfl
theorem ck50 : Try.prog.cellsOf 50 = 1 := by kernel_rfl
theorem za50 : zeroAVs Try.prog 50 = some [.nilfn] := by kernel_rfl
theorem oe50 : okElem Try.prog 50 = true := by kernel_rfl
theorem mk50 : mkOk Try.prog 50 = true := by kernel_rfl
theorem ek50 : elemKind Try.prog 50 = 0 := by kernel_rfl
theorem tk51 : tkOf Try.prog 51 = .cell := by kernel_rfl
theorem ck51 : Try.prog.cellsOf 51 = 1 := by kernel_rfl
theorem za51 : zeroAVs Try.prog 51 = some [.nilfn] := by kernel_rfl
theorem oe51 : okElem Try.prog 51 = true := by kernel_rfl
theorem mk51 : mkOk Try.prog 51 = true := by kernel_rfl
theorem ek51 : elemKind Try.prog 51 = 0 := by kernel_rfl
theorem tk52 : tkOf Try.prog 52 = .cell := by kernel_rfl
theorem ck52 : Try.prog.cellsOf 52 = 1 := by kernel_rfl
theorem za52 : zeroAVs Try.prog 52 = some [.nilfn] := by kernel_rfl
theorem oe52 : okElem Try.prog 52 = true := by kernel_rfl
theorem mk52 : mkOk Try.prog 52 = true := by kernel_rfl
theorem ek52 : elemKind Try.prog 52 = 0 := by kernel_rfl
theorem tk53 : tkOf Try.prog 53 = .cell := by kernel_rfl
theorem ck53 : Try.prog.cellsOf 53 = 1 := by kernel_rfl
theorem za53 : zeroAVs Try.prog 53 = some [.nilfn] := by kernel_rfl
theorem oe53 : okElem Try.prog 53 = true := by kernel_rfl
theorem mk53 : mkOk Try.prog 53 = true := by kernel_rfl
theorem ek53 : elemKind Try.prog 53 = 0 := by kernel_rfl
theorem tk54 : tkOf Try.prog 54 = .cell := by kernel_rfl
theorem ck54 : Try.prog.cellsOf 54 = 1 := by kernel_rfl
theorem za54 : zeroAVs Try.prog 54 = some [.nilfn] := by kernel_rfl
theorem oe54 : okElem Try.prog 54 = true := by kernel_rfl
theorem mk54 : mkOk Try.prog 54 = true := by kernel_rfl
theorem ek54 : elemKind Try.prog 54 = 0 := by kernel_rfl
theorem tk56 : tkOf Try.prog 56 = .cell := by kernel_rfl
theorem ck56 : Try.prog.cellsOf 56 = 1 := by kernel_rfl
theorem za56 : zeroAVs Try.prog 56 = some [.nilfn] := by kernel_rfl
theorem oe56 : okElem Try.prog 56 = true := by kernel_rfl
theorem mk56 : mkOk Try.prog 56 = true := by kernel_rfl
theorem ek56 : elemKind Try.prog 56 = 0 := by kernel_rfl
theorem tk57 : tkOf Try.prog 57 = .cell := by kernel_rfl
theorem ck57 : Try.prog.cellsOf 57 = 1 := by kernel_rfl
theorem za57 : zeroAVs Try.prog 57 = some [.nilfn] := by kernel_rfl
theorem oe57 : okElem Try.prog 57 = true := by kernel_rfl
theorem mk57 : mkOk Try.prog 57 = true := by kernel_rfl
theorem ek57 : elemKind Try.prog 57 = 0 := by kernel_rfl
theorem tk58 : tkOf Try.prog 58 = .cell := by kernel_rfl
theorem ck58 : Try.prog.cellsOf 58 = 1 := by kernel_rfl
theorem za58 : zeroAVs Try.prog 58 = some [.nilfn] := by kernel_rfl
theorem oe58 : okElem Try.prog 58 = true := by kernel_rfl
theorem mk58 : mkOk Try.prog 58 = true := by kernel_rfl
theorem ek58 : elemKind Try.prog 58 = 0 := by kernel_rfl
theorem tk59 : tkOf Try.prog 59 = .cell := by kernel_rfl
theorem ck59 : Try.prog.cellsOf 59 = 1 := by kernel_rfl
theorem za59 : zeroAVs Try.prog 59 = some [.nilfn] := by kernel_rfl
theorem oe59 : okElem Try.prog 59 = true := by kernel_rfl
theorem mk59 : mkOk Try.prog 59 = true := by kernel_rfl
theorem ek59 : elemKind Try.prog 59 = 0 := by kernel_rfl
theorem tk60 : tkOf Try.prog 60 = .cell := by kernel_rfl
theorem ck60 : Try.prog.cellsOf 60 = 1 := by kernel_rfl
theorem za60 : zeroAVs Try.prog 60 = some [.nilfn] := by kernel_rfl
theorem oe60 : okElem Try.prog 60 = true := by kernel_rfl
theorem mk60 : mkOk Try.prog 60 = true := by kernel_rfl
theorem ek60 : elemKind Try.prog 60 = 0 := by kernel_rfl
theorem tk61 : tkOf Try.prog 61 = .cell := by kernel_rfl
theorem ck61 : Try.prog.cellsOf 61 = 1 := by kernel_rfl
theorem za61 : zeroAVs Try.prog 61 = some [.nilfn] := by kernel_rfl
theorem oe61 : okElem Try.prog 61 = true := by kernel_rfl
theorem mk61 : mkOk Try.prog 61 = true := by kernel_rfl
theorem ek61 : elemKind Try.prog 61 = 0 := by kernel_rfl
theorem tk62 : tkOf Try.prog 62 = .cell := by kernel_rfl
theorem ck62 : Try.prog.cellsOf 62 = 1 := by kernel_rfl
theorem za62 : zeroAVs Try.prog 62 = some [.junk] := by kernel_rfl
theorem oe62 : okElem Try.prog 62 = true := by kernel_rfl
theorem mk62 : mkOk Try.prog 62 = true := by kernel_rfl
theorem ek62 : elemKind Try.prog 62 = 0 := by kernel_rfl
theorem tk63 : tkOf Try.prog 63 = .cell := by kernel_rfl
theorem ck63 : Try.prog.cellsOf 63 = 1 := by kernel_rfl
theorem za63 : zeroAVs Try.prog 63 = some [.nilfn] := by kernel_rfl
theorem oe63 : okElem Try.prog 63 = true := by kernel_rfl
theorem mk63 : mkOk Try.prog 63 = true := by kernel_rfl
theorem ek63 : elemKind Try.prog 63 = 0 := by kernel_rfl
theorem tk64 : tkOf Try.prog 64 = .cell := by kernel_rfl
theorem ck64 : Try.prog.cellsOf 64 = 1 := by kernel_rfl
theorem za64 : zeroAVs Try.prog 64 = some [.nilfn] := by kernel_rfl
theorem oe64 : okElem Try.prog 64 = true := by kernel_rfl
theorem mk64 : mkOk Try.prog 64 = true := by kernel_rfl
theorem ek64 : elemKind Try.prog 64 = 0 := by kernel_rfl
theorem tk65 : tkOf Try.prog 65 = .cell := by kernel_rfl
theorem ck65 : Try.prog.cellsOf 65 = 1 := by kernel_rfl
theorem za65 : zeroAVs Try.prog 65 = some [.nilfn] := by kernel_rfl
theorem oe65 : okElem Try.prog 65 = true := by kernel_rfl
theorem mk65 : mkOk Try.prog 65 = true := by kernel_rfl
theorem ek65 : elemKind Try.prog 65 = 0 := by kernel_rfl
theorem tk67 : tkOf Try.prog 67 = .cell := by kernel_rfl
theorem ck67 : Try.prog.cellsOf 67 = 1 := by kernel_rfl
theorem za67 : zeroAVs Try.prog 67 = some [.nilfn] := by kernel_rfl
theorem oe67 : okElem Try.prog 67 = true := by kernel_rfl
theorem mk67 : mkOk Try.prog 67 = true := by kernel_rfl
theorem ek67 : elemKind Try.prog 67 = 0 := by kernel_rfl
theorem tk68 : tkOf Try.prog 68 = .cell := by kernel_rfl
theorem ck68 : Try.prog.cellsOf 68 = 1 := by kernel_rfl
theorem za68 : zeroAVs Try.prog 68 = some [.nilfn] := by kernel_rfl
theorem oe68 : okElem Try.prog 68 = true := by kernel_rfl
theorem mk68 : mkOk Try.prog 68 = true := by kernel_rfl
theorem ek68 : elemKind Try.prog 68 = 0 := by kernel_rfl
theorem tk69 : tkOf Try.prog 69 = .cell := by kernel_rfl
theorem ck69 : Try.prog.cellsOf 69 = 1 := by kernel_rfl
theorem za69 : zeroAVs Try.prog 69 = some [.nilfn] := by kernel_rfl
theorem oe69 : okElem Try.prog 69 = true := by kernel_rfl
theorem mk69 : mkOk Try.prog 69 = true := by kernel_rfl
theorem ek69 : elemKind Try.prog 69 = 0 := by kernel_rfl
theorem tk70 : tkOf Try.prog 70 = .cell := by kernel_rfl
theorem ck70 : Try.prog.cellsOf 70 = 1 := by kernel_rfl
theorem za70 : zeroAVs Try.prog 70 = some [.nilfn] := by kernel_rfl
theorem oe70 : okElem Try.prog 70 = true := by kernel_rfl
theorem mk70 : mkOk Try.prog 70 = true := by kernel_rfl
theorem ek70 : elemKind Try.prog 70 = 0 := by kernel_rfl
theorem tk71 : tkOf Try.prog 71 = .cell := by kernel_rfl
theorem ck71 : Try.prog.cellsOf 71 = 1 := by kernel_rfl
theorem za71 : zeroAVs Try.prog 71 = some [.nilfn] := by kernel_rfl
theorem oe71 : okElem Try.prog 71 = true := by kernel_rfl
theorem mk71 : mkOk Try.prog 71 = true := by kernel_rfl
theorem ek71 : elemKind Try.prog 71 = 0 := by kernel_rfl
theorem tk72 : tkOf Try.prog 72 = .cell := by kernel_rfl
theorem ck72 : Try.prog.cellsOf 72 = 1 := by kernel_rfl
theorem za72 : zeroAVs Try.prog 72 = some [.nilfn] := by kernel_rfl
theorem oe72 : okElem Try.prog 72 = true := by kernel_rfl
theorem mk72 : mkOk Try.prog 72 = true := by kernel_rfl
theorem ek72 : elemKind Try.prog 72 = 0 := by kernel_rfl
theorem tk73 : tkOf Try.prog 73 = .st [(0, 1), (1, 1), (2, 1)] 3 := by kernel_rfl
theorem ck73 : Try.prog.cellsOf 73 = 3 := by kernel_rfl
theorem bs73 : bdOf Try.prog 73 = some [(0, 1), (1, 1), (2, 1)] := by kernel_rfl
theorem za73 : zeroAVs Try.prog 73 = some [.nil, .int 0, .ik .u64 0] := by kernel_rfl
theorem tk74 : tkOf Try.prog 74 = .st [(0, 1), (1, 1), (2, 1)] 3 := by kernel_rfl
theorem ck74 : Try.prog.cellsOf 74 = 3 := by kernel_rfl
theorem bs74 : bdOf Try.prog 74 = some [(0, 1), (1, 1), (2, 1)] := by kernel_rfl
theorem za74 : zeroAVs Try.prog 74 = some [.nil, .int 0, .ik .u64 0] := by kernel_rfl
theorem tk75 : tkOf Try.prog 75 = .cell := by kernel_rfl
theorem ck75 : Try.prog.cellsOf 75 = 1 := by kernel_rfl
theorem za75 : zeroAVs Try.prog 75 = some [.nilfn] := by kernel_rfl
theorem oe75 : okElem Try.prog 75 = true := by kernel_rfl
theorem mk75 : mkOk Try.prog 75 = true := by kernel_rfl
theorem ek75 : elemKind Try.prog 75 = 0 := by kernel_rfl
theorem tk76 : tkOf Try.prog 76 = .cell := by kernel_rfl
theorem ck76 : Try.prog.cellsOf 76 = 1 := by kernel_rfl
theorem za76 : zeroAVs Try.prog 76 = some [.nilfn] := by kernel_rfl
theorem oe76 : okElem Try.prog 76 = true := by kernel_rfl
theorem mk76 : mkOk Try.prog 76 = true := by kernel_rfl
theorem ek76 : elemKind Try.prog 76 = 0 := by kernel_rfl
theorem tk77 : tkOf Try.prog 77 = .cell := by kernel_rfl
theorem ck77 : Try.prog.cellsOf 77 = 1 := by kernel_rfl
theorem za77 : zeroAVs Try.prog 77 = some [.nilfn] := by kernel_rfl
theorem oe77 : okElem Try.prog 77 = true := by kernel_rfl
theorem mk77 : mkOk Try.prog 77 = true := by kernel_rfl
theorem ek77 : elemKind Try.prog 77 = 0 := by kernel_rfl
theorem tk78 : tkOf Try.prog 78 = .cell := by kernel_rfl
theorem ck78 : Try.prog.cellsOf 78 = 1 := by kernel_rfl
theorem za78 : zeroAVs Try.prog 78 = some [.nilfn] := by kernel_rfl
theorem oe78 : okElem Try.prog 78 = true := by kernel_rfl
theorem mk78 : mkOk Try.prog 78 = true := by kernel_rfl
theorem ek78 : elemKind Try.prog 78 = 0 := by kernel_rfl
theorem tk79 : tkOf Try.prog 79 = .cell := by kernel_rfl
theorem ck79 : Try.prog.cellsOf 79 = 1 := by kernel_rfl
theorem za79 : zeroAVs Try.prog 79 = some [.nilfn] := by kernel_rfl
theorem oe79 : okElem Try.prog 79 = true := by kernel_rfl
theorem mk79 : mkOk Try.prog 79 = true := by kernel_rfl
theorem ek79 : elemKind Try.prog 79 = 0 := by kernel_rfl
theorem tk80 : tkOf Try.prog 80 = .cell := by kernel_rfl
theorem ck80 : Try.prog.cellsOf 80 = 1 := by kernel_rfl
theorem za80 : zeroAVs Try.prog 80 = some [.nilfn] := by kernel_rfl
theorem oe80 : okElem Try.prog 80 = true := by kernel_rfl
theorem mk80 : mkOk Try.prog 80 = true := by kernel_rfl
theorem ek80 : elemKind Try.prog 80 = 0 := by kernel_rfl
theorem tk81 : tkOf Try.prog 81 = .cell := by kernel_rfl
theorem ck81 : Try.prog.cellsOf 81 = 1 := by kernel_rfl
theorem za81 : zeroAVs Try.prog 81 = some [.nilfn] := by kernel_rfl
theorem oe81 : okElem Try.prog 81 = true := by kernel_rfl
theorem mk81 : mkOk Try.prog 81 = true := by kernel_rfl
theorem ek81 : elemKind Try.prog 81 = 0 := by kernel_rfl
theorem tk82 : tkOf Try.prog 82 = .cell := by kernel_rfl
theorem ck82 : Try.prog.cellsOf 82 = 1 := by kernel_rfl
theorem za82 : zeroAVs Try.prog 82 = some [.nilfn] := by kernel_rfl
theorem oe82 : okElem Try.prog 82 = true := by kernel_rfl
theorem mk82 : mkOk Try.prog 82 = true := by kernel_rfl
theorem ek82 : elemKind Try.prog 82 = 0 := by kernel_rfl
theorem tk83 : tkOf Try.prog 83 = .cell := by kernel_rfl
theorem ck83 : Try.prog.cellsOf 83 = 1 := by kernel_rfl
theorem za83 : zeroAVs Try.prog 83 = some [.nilfn] := by kernel_rfl
theorem oe83 : okElem Try.prog 83 = true := by kernel_rfl
theorem mk83 : mkOk Try.prog 83 = true := by kernel_rfl
theorem ek83 : elemKind Try.prog 83 = 0 := by kernel_rfl
theorem tk84 : tkOf Try.prog 84 = .cell := by kernel_rfl
theorem ck84 : Try.prog.cellsOf 84 = 1 := by kernel_rfl
theorem za84 : zeroAVs Try.prog 84 = some [.nilfn] := by kernel_rfl
theorem oe84 : okElem Try.prog 84 = true := by kernel_rfl
theorem mk84 : mkOk Try.prog 84 = true := by kernel_rfl
theorem ek84 : elemKind Try.prog 84 = 0 := by kernel_rfl
theorem tk85 : tkOf Try.prog 85 = .cell := by kernel_rfl
theorem ck85 : Try.prog.cellsOf 85 = 1 := by kernel_rfl
theorem za85 : zeroAVs Try.prog 85 = some [.nilfn] := by kernel_rfl
theorem oe85 : okElem Try.prog 85 = true := by kernel_rfl
theorem mk85 : mkOk Try.prog 85 = true := by kernel_rfl
theorem ek85 : elemKind Try.prog 85 = 0 := by kernel_rfl
theorem tk86 : tkOf Try.prog 86 = .cell := by kernel_rfl
theorem ck86 : Try.prog.cellsOf 86 = 1 := by kernel_rfl
theorem za86 : zeroAVs Try.prog 86 = some [.nilfn] := by kernel_rfl
theorem oe86 : okElem Try.prog 86 = true := by kernel_rfl
theorem mk86 : mkOk Try.prog 86 = true := by kernel_rfl
theorem ek86 : elemKind Try.prog 86 = 0 := by kernel_rfl
theorem tk87 : tkOf Try.prog 87 = .cell := by kernel_rfl
theorem ck87 : Try.prog.cellsOf 87 = 1 := by kernel_rfl
theorem za87 : zeroAVs Try.prog 87 = some [.nilfn] := by kernel_rfl
theorem oe87 : okElem Try.prog 87 = true := by kernel_rfl
theorem mk87 : mkOk Try.prog 87 = true := by kernel_rfl
theorem ek87 : elemKind Try.prog 87 = 0 := by kernel_rfl
theorem tk88 : tkOf Try.prog 88 = .cell := by kernel_rfl
theorem ck88 : Try.prog.cellsOf 88 = 1 := by kernel_rfl
theorem za88 : zeroAVs Try.prog 88 = some [.nilfn] := by kernel_rfl
theorem oe88 : okElem Try.prog 88 = true := by kernel_rfl
theorem mk88 : mkOk Try.prog 88 = true := by kernel_rfl
theorem ek88 : elemKind Try.prog 88 = 0 := by kernel_rfl
theorem tk89 : tkOf Try.prog 89 = .cell := by kernel_rfl
theorem ck89 : Try.prog.cellsOf 89 = 1 := by kernel_rfl
theorem za89 : zeroAVs Try.prog 89 = some [.nilfn] := by kernel_rfl
theorem oe89 : okElem Try.prog 89 = true := by kernel_rfl
theorem mk89 : mkOk Try.prog 89 = true := by kernel_rfl
theorem ek89 : elemKind Try.prog 89 = 0 := by kernel_rfl
theorem tk90 : tkOf Try.prog 90 = .cell := by kernel_rfl
theorem ck90 : Try.prog.cellsOf 90 = 1 := by kernel_rfl
theorem za90 : zeroAVs Try.prog 90 = some [.nilfn] := by kernel_rfl
theorem oe90 : okElem Try.prog 90 = true := by kernel_rfl
theorem mk90 : mkOk Try.prog 90 = true := by kernel_rfl
theorem ek90 : elemKind Try.prog 90 = 0 := by kernel_rfl
theorem tk91 : tkOf Try.prog 91 = .sl 27 := by kernel_rfl
theorem ck91 : Try.prog.cellsOf 91 = 1 := by kernel_rfl
theorem za91 : zeroAVs Try.prog 91 = some [.nil] := by kernel_rfl
theorem oe91 : okElem Try.prog 91 = true := by kernel_rfl
theorem mk91 : mkOk Try.prog 91 = true := by kernel_rfl
theorem ek91 : elemKind Try.prog 91 = 3 := by kernel_rfl
theorem tk92 : tkOf Try.prog 92 = .cell := by kernel_rfl
theorem ck92 : Try.prog.cellsOf 92 = 1 := by kernel_rfl
theorem za92 : zeroAVs Try.prog 92 = some [.nilfn] := by kernel_rfl
theorem oe92 : okElem Try.prog 92 = true := by kernel_rfl
theorem mk92 : mkOk Try.prog 92 = true := by kernel_rfl
theorem ek92 : elemKind Try.prog 92 = 0 := by kernel_rfl
theorem tk93 : tkOf Try.prog 93 = .cell := by kernel_rfl
theorem ck93 : Try.prog.cellsOf 93 = 1 := by kernel_rfl
theorem za93 : zeroAVs Try.prog 93 = some [.nilfn] := by kernel_rfl
theorem oe93 : okElem Try.prog 93 = true := by kernel_rfl
theorem mk93 : mkOk Try.prog 93 = true := by kernel_rfl
theorem ek93 : elemKind Try.prog 93 = 0 := by kernel_rfl
theorem tk94 : tkOf Try.prog 94 = .cell := by kernel_rfl
theorem ck94 : Try.prog.cellsOf 94 = 1 := by kernel_rfl
theorem za94 : zeroAVs Try.prog 94 = some [.nilfn] := by kernel_rfl
theorem oe94 : okElem Try.prog 94 = true := by kernel_rfl
theorem mk94 : mkOk Try.prog 94 = true := by kernel_rfl
theorem ek94 : elemKind Try.prog 94 = 0 := by kernel_rfl
theorem tk95 : tkOf Try.prog 95 = .cell := by kernel_rfl
theorem ck95 : Try.prog.cellsOf 95 = 1 := by kernel_rfl
theorem za95 : zeroAVs Try.prog 95 = some [.nilfn] := by kernel_rfl
theorem oe95 : okElem Try.prog 95 = true := by kernel_rfl
theorem mk95 : mkOk Try.prog 95 = true := by kernel_rfl
theorem ek95 : elemKind Try.prog 95 = 0 := by kernel_rfl
theorem tk96 : tkOf Try.prog 96 = .cell := by kernel_rfl
theorem ck96 : Try.prog.cellsOf 96 = 1 := by kernel_rfl
theorem za96 : zeroAVs Try.prog 96 = some [.nilfn] := by kernel_rfl
theorem oe96 : okElem Try.prog 96 = true := by kernel_rfl
theorem mk96 : mkOk Try.prog 96 = true := by kernel_rfl
theorem ek96 : elemKind Try.prog 96 = 0 := by kernel_rfl
theorem tk97 : tkOf Try.prog 97 = .cell := by kernel_rfl
theorem ck97 : Try.prog.cellsOf 97 = 1 := by kernel_rfl
theorem za97 : zeroAVs Try.prog 97 = some [.nilfn] := by kernel_rfl
theorem oe97 : okElem Try.prog 97 = true := by kernel_rfl
theorem mk97 : mkOk Try.prog 97 = true := by kernel_rfl
theorem ek97 : elemKind Try.prog 97 = 0 := by kernel_rfl
theorem tk98 : tkOf Try.prog 98 = .cell := by kernel_rfl
theorem ck98 : Try.prog.cellsOf 98 = 1 := by kernel_rfl
theorem za98 : zeroAVs Try.prog 98 = some [.nilfn] := by kernel_rfl
theorem oe98 : okElem Try.prog 98 = true := by kernel_rfl
theorem mk98 : mkOk Try.prog 98 = true := by kernel_rfl
theorem ek98 : elemKind Try.prog 98 = 0 := by kernel_rfl
theorem tk99 : tkOf Try.prog 99 = .st [(0, 1), (1, 1), (2, 1)] 3 := by kernel_rfl
theorem ck99 : Try.prog.cellsOf 99 = 3 := by kernel_rfl
theorem bs99 : bdOf Try.prog 99 = some [(0, 1), (1, 1), (2, 1)] := by kernel_rfl
theorem za99 : zeroAVs Try.prog 99 = some [.nil, .int 0, .ik .u64 0] := by kernel_rfl
theorem tk100 : tkOf Try.prog 100 = .st [(0, 1), (1, 1), (2, 1)] 3 := by kernel_rfl
theorem ck100 : Try.prog.cellsOf 100 = 3 := by kernel_rfl
theorem bs100 : bdOf Try.prog 100 = some [(0, 1), (1, 1), (2, 1)] := by kernel_rfl
theorem za100 : zeroAVs Try.prog 100 = some [.nil, .int 0, .ik .u64 0] := by kernel_rfl
theorem tk101 : tkOf Try.prog 101 = .cell := by kernel_rfl
theorem ck101 : Try.prog.cellsOf 101 = 1 := by kernel_rfl
theorem za101 : zeroAVs Try.prog 101 = some [.nilfn] := by kernel_rfl
theorem oe101 : okElem Try.prog 101 = true := by kernel_rfl
theorem mk101 : mkOk Try.prog 101 = true := by kernel_rfl
theorem ek101 : elemKind Try.prog 101 = 0 := by kernel_rfl
theorem tk102 : tkOf Try.prog 102 = .cell := by kernel_rfl
theorem ck102 : Try.prog.cellsOf 102 = 1 := by kernel_rfl
theorem za102 : zeroAVs Try.prog 102 = some [.nilfn] := by kernel_rfl
theorem oe102 : okElem Try.prog 102 = true := by kernel_rfl
theorem mk102 : mkOk Try.prog 102 = true := by kernel_rfl
theorem ek102 : elemKind Try.prog 102 = 0 := by kernel_rfl
theorem tk103 : tkOf Try.prog 103 = .ik .u64 := by kernel_rfl
theorem ck103 : Try.prog.cellsOf 103 = 1 := by kernel_rfl
theorem za103 : zeroAVs Try.prog 103 = some [.ik .u64 0] := by kernel_rfl
theorem oe103 : okElem Try.prog 103 = true := by kernel_rfl
theorem mk103 : mkOk Try.prog 103 = true := by kernel_rfl
theorem ek103 : elemKind Try.prog 103 = 0 := by kernel_rfl
theorem tk104 : tkOf Try.prog 104 = .cell := by kernel_rfl
theorem ck104 : Try.prog.cellsOf 104 = 1 := by kernel_rfl
theorem za104 : zeroAVs Try.prog 104 = some [.nilfn] := by kernel_rfl
theorem oe104 : okElem Try.prog 104 = true := by kernel_rfl
theorem mk104 : mkOk Try.prog 104 = true := by kernel_rfl
theorem ek104 : elemKind Try.prog 104 = 0 := by kernel_rfl
theorem tk105 : tkOf Try.prog 105 = .cell := by kernel_rfl
theorem ck105 : Try.prog.cellsOf 105 = 1 := by kernel_rfl
theorem za105 : zeroAVs Try.prog 105 = some [.nilfn] := by kernel_rfl
theorem oe105 : okElem Try.prog 105 = true := by kernel_rfl
theorem mk105 : mkOk Try.prog 105 = true := by kernel_rfl
theorem ek105 : elemKind Try.prog 105 = 0 := by kernel_rfl
theorem tk106 : tkOf Try.prog 106 = .cell := by kernel_rfl
theorem ck106 : Try.prog.cellsOf 106 = 1 := by kernel_rfl
theorem za106 : zeroAVs Try.prog 106 = some [.nilfn] := by kernel_rfl
theorem oe106 : okElem Try.prog 106 = true := by kernel_rfl
theorem mk106 : mkOk Try.prog 106 = true := by kernel_rfl
theorem ek106 : elemKind Try.prog 106 = 0 := by kernel_rfl
theorem tk107 : tkOf Try.prog 107 = .cell := by kernel_rfl
theorem ck107 : Try.prog.cellsOf 107 = 1 := by kernel_rfl
theorem za107 : zeroAVs Try.prog 107 = some [.nilfn] := by kernel_rfl
theorem oe107 : okElem Try.prog 107 = true := by kernel_rfl
theorem mk107 : mkOk Try.prog 107 = true := by kernel_rfl
theorem ek107 : elemKind Try.prog 107 = 0 := by kernel_rfl
theorem tk108 : tkOf Try.prog 108 = .cell := by kernel_rfl
theorem ck108 : Try.prog.cellsOf 108 = 1 := by kernel_rfl
theorem za108 : zeroAVs Try.prog 108 = some [.nilfn] := by kernel_rfl
theorem oe108 : okElem Try.prog 108 = true := by kernel_rfl
theorem mk108 : mkOk Try.prog 108 = true := by kernel_rfl
theorem ek108 : elemKind Try.prog 108 = 0 := by kernel_rfl
theorem tk109 : tkOf Try.prog 109 = .cell := by kernel_rfl
theorem ck109 : Try.prog.cellsOf 109 = 1 := by kernel_rfl
theorem za109 : zeroAVs Try.prog 109 = some [.nilfn] := by kernel_rfl
theorem oe109 : okElem Try.prog 109 = true := by kernel_rfl
theorem mk109 : mkOk Try.prog 109 = true := by kernel_rfl
theorem ek109 : elemKind Try.prog 109 = 0 := by kernel_rfl
theorem tk110 : tkOf Try.prog 110 = .cell := by kernel_rfl
theorem ck110 : Try.prog.cellsOf 110 = 1 := by kernel_rfl
theorem za110 : zeroAVs Try.prog 110 = some [.nilfn] := by kernel_rfl
theorem oe110 : okElem Try.prog 110 = true := by kernel_rfl
theorem mk110 : mkOk Try.prog 110 = true := by kernel_rfl
theorem ek110 : elemKind Try.prog 110 = 0 := by kernel_rfl
theorem tk111 : tkOf Try.prog 111 = .cell := by kernel_rfl
theorem ck111 : Try.prog.cellsOf 111 = 1 := by kernel_rfl
theorem za111 : zeroAVs Try.prog 111 = some [.nilfn] := by kernel_rfl
theorem oe111 : okElem Try.prog 111 = true := by kernel_rfl
theorem mk111 : mkOk Try.prog 111 = true := by kernel_rfl
theorem ek111 : elemKind Try.prog 111 = 0 := by kernel_rfl
theorem tk112 : tkOf Try.prog 112 = .cell := by kernel_rfl
theorem ck112 : Try.prog.cellsOf 112 = 1 := by kernel_rfl
theorem za112 : zeroAVs Try.prog 112 = some [.nilfn] := by kernel_rfl
theorem oe112 : okElem Try.prog 112 = true := by kernel_rfl
theorem mk112 : mkOk Try.prog 112 = true := by kernel_rfl
theorem ek112 : elemKind Try.prog 112 = 0 := by kernel_rfl
theorem tk113 : tkOf Try.prog 113 = .cell := by kernel_rfl
theorem ck113 : Try.prog.cellsOf 113 = 1 := by kernel_rfl
theorem za113 : zeroAVs Try.prog 113 = some [.nilfn] := by kernel_rfl
theorem oe113 : okElem Try.prog 113 = true := by kernel_rfl
theorem mk113 : mkOk Try.prog 113 = true := by kernel_rfl
theorem ek113 : elemKind Try.prog 113 = 0 := by kernel_rfl
theorem tk114 : tkOf Try.prog 114 = .cell := by kernel_rfl
theorem ck114 : Try.prog.cellsOf 114 = 1 := by kernel_rfl
theorem za114 : zeroAVs Try.prog 114 = some [.nilfn] := by kernel_rfl
theorem oe114 : okElem Try.prog 114 = true := by kernel_rfl
theorem mk114 : mkOk Try.prog 114 = true := by kernel_rfl
theorem ek114 : elemKind Try.prog 114 = 0 := by kernel_rfl
theorem tk115 : tkOf Try.prog 115 = .cell := by kernel_rfl
theorem ck115 : Try.prog.cellsOf 115 = 1 := by kernel_rfl
theorem za115 : zeroAVs Try.prog 115 = some [.nilfn] := by kernel_rfl
theorem oe115 : okElem Try.prog 115 = true := by kernel_rfl
theorem mk115 : mkOk Try.prog 115 = true := by kernel_rfl
theorem ek115 : elemKind Try.prog 115 = 0 := by kernel_rfl
theorem tk116 : tkOf Try.prog 116 = .cell := by kernel_rfl
theorem ck116 : Try.prog.cellsOf 116 = 1 := by kernel_rfl
theorem za116 : zeroAVs Try.prog 116 = some [.nilfn] := by kernel_rfl
theorem oe116 : okElem Try.prog 116 = true := by kernel_rfl
theorem mk116 : mkOk Try.prog 116 = true := by kernel_rfl
theorem ek116 : elemKind Try.prog 116 = 0 := by kernel_rfl
theorem tk117 : tkOf Try.prog 117 = .cell := by kernel_rfl
theorem ck117 : Try.prog.cellsOf 117 = 1 := by kernel_rfl
theorem za117 : zeroAVs Try.prog 117 = some [.nilfn] := by kernel_rfl
theorem oe117 : okElem Try.prog 117 = true := by kernel_rfl
theorem mk117 : mkOk Try.prog 117 = true := by kernel_rfl
theorem ek117 : elemKind Try.prog 117 = 0 := by kernel_rfl
theorem tk118 : tkOf Try.prog 118 = .cell := by kernel_rfl
theorem ck118 : Try.prog.cellsOf 118 = 1 := by kernel_rfl
theorem za118 : zeroAVs Try.prog 118 = some [.nilfn] := by kernel_rfl
theorem oe118 : okElem Try.prog 118 = true := by kernel_rfl
theorem mk118 : mkOk Try.prog 118 = true := by kernel_rfl
theorem ek118 : elemKind Try.prog 118 = 0 := by kernel_rfl
theorem tk119 : tkOf Try.prog 119 = .cell := by kernel_rfl
theorem ck119 : Try.prog.cellsOf 119 = 1 := by kernel_rfl
theorem za119 : zeroAVs Try.prog 119 = some [.nilfn] := by kernel_rfl
theorem oe119 : okElem Try.prog 119 = true := by kernel_rfl
theorem mk119 : mkOk Try.prog 119 = true := by kernel_rfl
theorem ek119 : elemKind Try.prog 119 = 0 := by kernel_rfl
theorem tk120 : tkOf Try.prog 120 = .cell := by kernel_rfl
theorem ck120 : Try.prog.cellsOf 120 = 1 := by kernel_rfl
theorem za120 : zeroAVs Try.prog 120 = some [.nilfn] := by kernel_rfl
theorem oe120 : okElem Try.prog 120 = true := by kernel_rfl
theorem mk120 : mkOk Try.prog 120 = true := by kernel_rfl
theorem ek120 : elemKind Try.prog 120 = 0 := by kernel_rfl
theorem tk121 : tkOf Try.prog 121 = .cell := by kernel_rfl
theorem ck121 : Try.prog.cellsOf 121 = 1 := by kernel_rfl
theorem za121 : zeroAVs Try.prog 121 = some [.nilfn] := by kernel_rfl
theorem oe121 : okElem Try.prog 121 = true := by kernel_rfl
theorem mk121 : mkOk Try.prog 121 = true := by kernel_rfl
theorem ek121 : elemKind Try.prog 121 = 0 := by kernel_rfl
theorem tk122 : tkOf Try.prog 122 = .sl 124 := by kernel_rfl
theorem ck122 : Try.prog.cellsOf 122 = 1 := by kernel_rfl
theorem za122 : zeroAVs Try.prog 122 = some [.nil] := by kernel_rfl
theorem oe122 : okElem Try.prog 122 = true := by kernel_rfl
theorem mk122 : mkOk Try.prog 122 = true := by kernel_rfl
theorem ek122 : elemKind Try.prog 122 = 0 := by kernel_rfl
theorem tk123 : tkOf Try.prog 123 = .cell := by kernel_rfl
theorem ck123 : Try.prog.cellsOf 123 = 1 := by kernel_rfl
theorem za123 : zeroAVs Try.prog 123 = some [.nilfn] := by kernel_rfl
theorem oe123 : okElem Try.prog 123 = true := by kernel_rfl
theorem mk123 : mkOk Try.prog 123 = true := by kernel_rfl
theorem ek123 : elemKind Try.prog 123 = 0 := by kernel_rfl
theorem tk124 : tkOf Try.prog 124 = .flt := by kernel_rfl
theorem ck124 : Try.prog.cellsOf 124 = 1 := by kernel_rfl
theorem za124 : zeroAVs Try.prog 124 = some [.flt 0] := by kernel_rfl
theorem oe124 : okElem Try.prog 124 = true := by kernel_rfl
theorem mk124 : mkOk Try.prog 124 = true := by kernel_rfl
theorem ek124 : elemKind Try.prog 124 = 0 := by kernel_rfl
theorem tk125 : tkOf Try.prog 125 = .cell := by kernel_rfl
theorem ck125 : Try.prog.cellsOf 125 = 1 := by kernel_rfl
theorem za125 : zeroAVs Try.prog 125 = some [.nilfn] := by kernel_rfl
theorem oe125 : okElem Try.prog 125 = true := by kernel_rfl
theorem mk125 : mkOk Try.prog 125 = true := by kernel_rfl
theorem ek125 : elemKind Try.prog 125 = 0 := by kernel_rfl
theorem tk127 : tkOf Try.prog 127 = .cell := by kernel_rfl
theorem ck127 : Try.prog.cellsOf 127 = 1 := by kernel_rfl
theorem za127 : zeroAVs Try.prog 127 = some [.nilfn] := by kernel_rfl
theorem oe127 : okElem Try.prog 127 = true := by kernel_rfl
theorem mk127 : mkOk Try.prog 127 = true := by kernel_rfl
theorem ek127 : elemKind Try.prog 127 = 0 := by kernel_rfl
theorem tk128 : tkOf Try.prog 128 = .cell := by kernel_rfl
theorem ck128 : Try.prog.cellsOf 128 = 1 := by kernel_rfl
theorem za128 : zeroAVs Try.prog 128 = some [.nilfn] := by kernel_rfl
theorem oe128 : okElem Try.prog 128 = true := by kernel_rfl
theorem mk128 : mkOk Try.prog 128 = true := by kernel_rfl
theorem ek128 : elemKind Try.prog 128 = 0 := by kernel_rfl
theorem tk129 : tkOf Try.prog 129 = .cell := by kernel_rfl
theorem ck129 : Try.prog.cellsOf 129 = 1 := by kernel_rfl
theorem za129 : zeroAVs Try.prog 129 = some [.nilfn] := by kernel_rfl
theorem oe129 : okElem Try.prog 129 = true := by kernel_rfl
theorem mk129 : mkOk Try.prog 129 = true := by kernel_rfl
theorem ek129 : elemKind Try.prog 129 = 0 := by kernel_rfl
theorem tk130 : tkOf Try.prog 130 = .cell := by kernel_rfl
theorem ck130 : Try.prog.cellsOf 130 = 1 := by kernel_rfl
theorem za130 : zeroAVs Try.prog 130 = some [.nilfn] := by kernel_rfl
theorem oe130 : okElem Try.prog 130 = true := by kernel_rfl
theorem mk130 : mkOk Try.prog 130 = true := by kernel_rfl
theorem ek130 : elemKind Try.prog 130 = 0 := by kernel_rfl
theorem tk132 : tkOf Try.prog 132 = .cell := by kernel_rfl
theorem ck132 : Try.prog.cellsOf 132 = 1 := by kernel_rfl
theorem za132 : zeroAVs Try.prog 132 = some [.nilfn] := by kernel_rfl
theorem oe132 : okElem Try.prog 132 = true := by kernel_rfl
theorem mk132 : mkOk Try.prog 132 = true := by kernel_rfl
theorem ek132 : elemKind Try.prog 132 = 0 := by kernel_rfl
theorem tk133 : tkOf Try.prog 133 = .cell := by kernel_rfl
theorem ck133 : Try.prog.cellsOf 133 = 1 := by kernel_rfl
theorem za133 : zeroAVs Try.prog 133 = some [.nilfn] := by kernel_rfl
theorem oe133 : okElem Try.prog 133 = true := by kernel_rfl
theorem mk133 : mkOk Try.prog 133 = true := by kernel_rfl
theorem ek133 : elemKind Try.prog 133 = 0 := by kernel_rfl
theorem tk134 : tkOf Try.prog 134 = .cell := by kernel_rfl
theorem ck134 : Try.prog.cellsOf 134 = 1 := by kernel_rfl
theorem za134 : zeroAVs Try.prog 134 = some [.nilfn] := by kernel_rfl
theorem oe134 : okElem Try.prog 134 = true := by kernel_rfl
theorem mk134 : mkOk Try.prog 134 = true := by kernel_rfl
theorem ek134 : elemKind Try.prog 134 = 0 := by kernel_rfl
theorem tk135 : tkOf Try.prog 135 = .sl 3 := by kernel_rfl
theorem ck135 : Try.prog.cellsOf 135 = 1 := by kernel_rfl
theorem za135 : zeroAVs Try.prog 135 = some [.nil] := by kernel_rfl
theorem oe135 : okElem Try.prog 135 = true := by kernel_rfl
theorem mk135 : mkOk Try.prog 135 = true := by kernel_rfl
theorem ek135 : elemKind Try.prog 135 = 2 := by kernel_rfl
theorem tk136 : tkOf Try.prog 136 = .cell := by kernel_rfl
theorem ck136 : Try.prog.cellsOf 136 = 1 := by kernel_rfl
theorem za136 : zeroAVs Try.prog 136 = some [.nilfn] := by kernel_rfl
theorem oe136 : okElem Try.prog 136 = true := by kernel_rfl
theorem mk136 : mkOk Try.prog 136 = true := by kernel_rfl
theorem ek136 : elemKind Try.prog 136 = 0 := by kernel_rfl
theorem tk137 : tkOf Try.prog 137 = .cell := by kernel_rfl
theorem ck137 : Try.prog.cellsOf 137 = 1 := by kernel_rfl
theorem za137 : zeroAVs Try.prog 137 = some [.nilfn] := by kernel_rfl
theorem oe137 : okElem Try.prog 137 = true := by kernel_rfl
theorem mk137 : mkOk Try.prog 137 = true := by kernel_rfl
theorem ek137 : elemKind Try.prog 137 = 0 := by kernel_rfl
theorem tk138 : tkOf Try.prog 138 = .cell := by kernel_rfl
theorem ck138 : Try.prog.cellsOf 138 = 1 := by kernel_rfl
theorem za138 : zeroAVs Try.prog 138 = some [.nilfn] := by kernel_rfl
theorem oe138 : okElem Try.prog 138 = true := by kernel_rfl
theorem mk138 : mkOk Try.prog 138 = true := by kernel_rfl
theorem ek138 : elemKind Try.prog 138 = 0 := by kernel_rfl
theorem tk139 : tkOf Try.prog 139 = .cell := by kernel_rfl
theorem ck139 : Try.prog.cellsOf 139 = 1 := by kernel_rfl
theorem za139 : zeroAVs Try.prog 139 = some [.nilfn] := by kernel_rfl
theorem oe139 : okElem Try.prog 139 = true := by kernel_rfl
theorem mk139 : mkOk Try.prog 139 = true := by kernel_rfl
theorem ek139 : elemKind Try.prog 139 = 0 := by kernel_rfl
theorem tk140 : tkOf Try.prog 140 = .cell := by kernel_rfl
theorem ck140 : Try.prog.cellsOf 140 = 1 := by kernel_rfl
theorem za140 : zeroAVs Try.prog 140 = some [.nilfn] := by kernel_rfl
theorem oe140 : okElem Try.prog 140 = true := by kernel_rfl
theorem mk140 : mkOk Try.prog 140 = true := by kernel_rfl
theorem ek140 : elemKind Try.prog 140 = 0 := by kernel_rfl
theorem tk141 : tkOf Try.prog 141 = .cell := by kernel_rfl
theorem ck141 : Try.prog.cellsOf 141 = 1 := by kernel_rfl
theorem za141 : zeroAVs Try.prog 141 = some [.nilfn] := by kernel_rfl
theorem oe141 : okElem Try.prog 141 = true := by kernel_rfl
theorem mk141 : mkOk Try.prog 141 = true := by kernel_rfl
theorem ek141 : elemKind Try.prog 141 = 0 := by kernel_rfl
theorem tk142 : tkOf Try.prog 142 = .cell := by kernel_rfl
theorem ck142 : Try.prog.cellsOf 142 = 1 := by kernel_rfl
theorem za142 : zeroAVs Try.prog 142 = some [.nilfn] := by kernel_rfl
theorem oe142 : okElem Try.prog 142 = true := by kernel_rfl
theorem mk142 : mkOk Try.prog 142 = true := by kernel_rfl
theorem ek142 : elemKind Try.prog 142 = 0 := by kernel_rfl
theorem tk143 : tkOf Try.prog 143 = .ik .u32 := by kernel_rfl
theorem ck143 : Try.prog.cellsOf 143 = 1 := by kernel_rfl
theorem za143 : zeroAVs Try.prog 143 = some [.ik .u32 0] := by kernel_rfl
theorem oe143 : okElem Try.prog 143 = true := by kernel_rfl
theorem mk143 : mkOk Try.prog 143 = true := by kernel_rfl
theorem ek143 : elemKind Try.prog 143 = 0 := by kernel_rfl
theorem tk145 : tkOf Try.prog 145 = .cell := by kernel_rfl
theorem ck145 : Try.prog.cellsOf 145 = 1 := by kernel_rfl
theorem za145 : zeroAVs Try.prog 145 = some [.nilfn] := by kernel_rfl
theorem oe145 : okElem Try.prog 145 = true := by kernel_rfl
theorem mk145 : mkOk Try.prog 145 = true := by kernel_rfl
theorem ek145 : elemKind Try.prog 145 = 0 := by kernel_rfl
theorem tk147 : tkOf Try.prog 147 = .cell := by kernel_rfl
theorem ck147 : Try.prog.cellsOf 147 = 1 := by kernel_rfl
theorem za147 : zeroAVs Try.prog 147 = some [.nilfn] := by kernel_rfl
theorem oe147 : okElem Try.prog 147 = true := by kernel_rfl
theorem mk147 : mkOk Try.prog 147 = true := by kernel_rfl
theorem ek147 : elemKind Try.prog 147 = 0 := by kernel_rfl
theorem tk148 : tkOf Try.prog 148 = .cell := by kernel_rfl
theorem ck148 : Try.prog.cellsOf 148 = 1 := by kernel_rfl
theorem za148 : zeroAVs Try.prog 148 = some [.nilfn] := by kernel_rfl
theorem oe148 : okElem Try.prog 148 = true := by kernel_rfl
theorem mk148 : mkOk Try.prog 148 = true := by kernel_rfl
theorem ek148 : elemKind Try.prog 148 = 0 := by kernel_rfl
theorem tk149 : tkOf Try.prog 149 = .cell := by kernel_rfl
theorem ck149 : Try.prog.cellsOf 149 = 1 := by kernel_rfl
theorem za149 : zeroAVs Try.prog 149 = some [.nilfn] := by kernel_rfl
theorem oe149 : okElem Try.prog 149 = true := by kernel_rfl
theorem mk149 : mkOk Try.prog 149 = true := by kernel_rfl
theorem ek149 : elemKind Try.prog 149 = 0 := by kernel_rfl
theorem tk150 : tkOf Try.prog 150 = .cell := by kernel_rfl
theorem ck150 : Try.prog.cellsOf 150 = 1 := by kernel_rfl
theorem za150 : zeroAVs Try.prog 150 = some [.nilfn] := by kernel_rfl
theorem oe150 : okElem Try.prog 150 = true := by kernel_rfl
theorem mk150 : mkOk Try.prog 150 = true := by kernel_rfl
theorem ek150 : elemKind Try.prog 150 = 0 := by kernel_rfl
theorem tk151 : tkOf Try.prog 151 = .st [(0, 1), (1, 1), (2, 1), (3, 1)] 4 := by kernel_rfl
theorem ck151 : Try.prog.cellsOf 151 = 4 := by kernel_rfl
theorem bs151 : bdOf Try.prog 151 = some [(0, 1), (1, 1), (2, 1), (3, 1)] := by kernel_rfl
theorem za151 : zeroAVs Try.prog 151 = some [.junk, .junk, .junk, .str ByteArray.empty] := by kernel_rfl
theorem tk154 : tkOf Try.prog 154 = .st [(0, 0)] 0 := by kernel_rfl
theorem ck154 : Try.prog.cellsOf 154 = 0 := by kernel_rfl
theorem za154 : zeroAVs Try.prog 154 = some [] := by kernel_rfl
theorem tk158 : tkOf Try.prog 158 = .cell := by kernel_rfl
theorem ck158 : Try.prog.cellsOf 158 = 1 := by kernel_rfl
theorem za158 : zeroAVs Try.prog 158 = some [.nilfn] := by kernel_rfl
theorem oe158 : okElem Try.prog 158 = true := by kernel_rfl
theorem mk158 : mkOk Try.prog 158 = true := by kernel_rfl
theorem ek158 : elemKind Try.prog 158 = 0 := by kernel_rfl
theorem tk159 : tkOf Try.prog 159 = .cell := by kernel_rfl
theorem ck159 : Try.prog.cellsOf 159 = 1 := by kernel_rfl
theorem za159 : zeroAVs Try.prog 159 = some [.junk] := by kernel_rfl
theorem oe159 : okElem Try.prog 159 = true := by kernel_rfl
theorem mk159 : mkOk Try.prog 159 = true := by kernel_rfl
theorem ek159 : elemKind Try.prog 159 = 0 := by kernel_rfl
theorem tk162 : tkOf Try.prog 162 = .st [(0, 1), (1, 1), (2, 1), (3, 1), (4, 1), (5, 1), (6, 1), (7, 1), (8, 1), (9, 1), (10, 1)] 11 := by kernel_rfl
theorem ck162 : Try.prog.cellsOf 162 = 11 := by kernel_rfl
theorem bs162 : bdOf Try.prog 162 = some [(0, 1), (1, 1), (2, 1), (3, 1), (4, 1), (5, 1), (6, 1), (7, 1), (8, 1), (9, 1), (10, 1)] := by kernel_rfl
theorem za162 : zeroAVs Try.prog 162 = some [.ik .u64 0, .ik .u64 0, .ik .u32 0, .ik .u8 0, .ik .u8 0, .ik .u8 0, .ik .u8 0, .nilfn, .junk, .ik .i32 0, .ik .i32 0] := by kernel_rfl
theorem tk164 : tkOf Try.prog 164 = .cell := by kernel_rfl
theorem ck164 : Try.prog.cellsOf 164 = 1 := by kernel_rfl
theorem za164 : zeroAVs Try.prog 164 = some [.nilfn] := by kernel_rfl
theorem oe164 : okElem Try.prog 164 = true := by kernel_rfl
theorem mk164 : mkOk Try.prog 164 = true := by kernel_rfl
theorem ek164 : elemKind Try.prog 164 = 0 := by kernel_rfl
theorem tk165 : tkOf Try.prog 165 = .cell := by kernel_rfl
theorem ck165 : Try.prog.cellsOf 165 = 1 := by kernel_rfl
theorem za165 : zeroAVs Try.prog 165 = some [.nilfn] := by kernel_rfl
theorem oe165 : okElem Try.prog 165 = true := by kernel_rfl
theorem mk165 : mkOk Try.prog 165 = true := by kernel_rfl
theorem ek165 : elemKind Try.prog 165 = 0 := by kernel_rfl
attribute [go_sem] tk1 ck1 za1 oe1 mk1 ek1 tk2 ck2 za2 oe2 mk2 ek2 tk3 ck3 za3 oe3 mk3 ek3 tk4 ck4 za4 oe4 mk4 ek4 tk5 ck5 za5 oe5 mk5 ek5 tk7 ck7 bs7 za7 tk9 ck9 za9 oe9 mk9 ek9 tk12 ck12 za12 oe12 mk12 ek12 tk13 ck13 bs13 za13 tk15 ck15 za15 oe15 mk15 ek15 tk16 ck16 za16 oe16 mk16 ek16 tk17 ck17 za17 oe17 mk17 ek17 tk18 ck18 bs18 za18 tk21 ck21 za21 oe21 mk21 ek21 tk22 ck22 za22 oe22 mk22 ek22 tk23 ck23 za23 oe23 mk23 ek23 tk24 ck24 za24 oe24 mk24 ek24 tk25 ck25 bs25 za25 tk26 ck26 bs26 za26 tk27 ck27 za27 oe27 mk27 ek27 tk29 ck29 za29 oe29 mk29 ek29 tk31 ck31 za31 oe31 mk31 ek31 tk32 ck32 za32 oe32 mk32 ek32 tk34 ck34 za34 oe34 mk34 ek34 tk35 ck35 za35 oe35 mk35 ek35 tk37 ck37 za37 oe37 mk37 ek37 tk38 ck38 za38 oe38 mk38 ek38 tk39 ck39 za39 oe39 mk39 ek39 tk40 ck40 za40 oe40 mk40 ek40 tk41 ck41 za41 oe41 mk41 ek41 tk42 ck42 za42 oe42 mk42 ek42 tk43 ck43 za43 oe43 mk43 ek43 tk44 ck44 za44 oe44 mk44 ek44 tk46 ck46 za46 oe46 mk46 ek46 tk47 ck47 bs47 za47 tk48 ck48 bs48 za48 tk50 ck50 za50 oe50 mk50 ek50 tk51 ck51 za51 oe51 mk51 ek51 tk52 ck52 za52 oe52 mk52 ek52 tk53 ck53 za53 oe53 mk53 ek53 tk54 ck54 za54 oe54 mk54 ek54 tk56 ck56 za56 oe56 mk56 ek56 tk57 ck57 za57 oe57 mk57 ek57 tk58 ck58 za58 oe58 mk58 ek58 tk59 ck59 za59 oe59 mk59 ek59 tk60 ck60 za60 oe60 mk60 ek60 tk61 ck61 za61 oe61 mk61 ek61 tk62 ck62 za62 oe62 mk62 ek62 tk63 ck63 za63 oe63 mk63 ek63 tk64 ck64 za64 oe64 mk64 ek64 tk65 ck65 za65 oe65 mk65 ek65 tk67 ck67 za67 oe67 mk67 ek67 tk68 ck68 za68 oe68 mk68 ek68 tk69 ck69 za69 oe69 mk69 ek69 tk70 ck70 za70 oe70 mk70 ek70 tk71 ck71 za71 oe71 mk71 ek71 tk72 ck72 za72 oe72 mk72 ek72 tk73 ck73 bs73 za73 tk74 ck74 bs74 za74 tk75 ck75 za75 oe75 mk75 ek75 tk76 ck76 za76 oe76 mk76 ek76 tk77 ck77 za77 oe77 mk77 ek77 tk78 ck78 za78 oe78 mk78 ek78 tk79 ck79 za79 oe79 mk79 ek79 tk80 ck80 za80 oe80 mk80 ek80 tk81 ck81 za81 oe81 mk81 ek81 tk82 ck82 za82 oe82 mk82 ek82 tk83 ck83 za83 oe83 mk83 ek83 tk84 ck84 za84 oe84 mk84 ek84 tk85 ck85 za85 oe85 mk85 ek85 tk86 ck86 za86 oe86 mk86 ek86 tk87 ck87 za87 oe87 mk87 ek87 tk88 ck88 za88 oe88 mk88 ek88 tk89 ck89 za89 oe89 mk89 ek89 tk90 ck90 za90 oe90 mk90 ek90 tk91 ck91 za91 oe91 mk91 ek91 tk92 ck92 za92 oe92 mk92 ek92 tk93 ck93 za93 oe93 mk93 ek93 tk94 ck94 za94 oe94 mk94 ek94 tk95 ck95 za95 oe95 mk95 ek95 tk96 ck96 za96 oe96 mk96 ek96 tk97 ck97 za97 oe97 mk97 ek97 tk98 ck98 za98 oe98 mk98 ek98 tk99 ck99 bs99 za99 tk100 ck100 bs100 za100 tk101 ck101 za101 oe101 mk101 ek101 tk102 ck102 za102 oe102 mk102 ek102 tk103 ck103 za103 oe103 mk103 ek103 tk104 ck104 za104 oe104 mk104 ek104 tk105 ck105 za105 oe105 mk105 ek105 tk106 ck106 za106 oe106 mk106 ek106 tk107 ck107 za107 oe107 mk107 ek107 tk108 ck108 za108 oe108 mk108 ek108 tk109 ck109 za109 oe109 mk109 ek109 tk110 ck110 za110 oe110 mk110 ek110 tk111 ck111 za111 oe111 mk111 ek111 tk112 ck112 za112 oe112 mk112 ek112 tk113 ck113 za113 oe113 mk113 ek113 tk114 ck114 za114 oe114 mk114 ek114 tk115 ck115 za115 oe115 mk115 ek115 tk116 ck116 za116 oe116 mk116 ek116 tk117 ck117 za117 oe117 mk117 ek117 tk118 ck118 za118 oe118 mk118 ek118 tk119 ck119 za119 oe119 mk119 ek119 tk120 ck120 za120 oe120 mk120 ek120 tk121 ck121 za121 oe121 mk121 ek121 tk122 ck122 za122 oe122 mk122 ek122 tk123 ck123 za123 oe123 mk123 ek123 tk124 ck124 za124 oe124 mk124 ek124 tk125 ck125 za125 oe125 mk125 ek125 tk127 ck127 za127 oe127 mk127 ek127 tk128 ck128 za128 oe128 mk128 ek128 tk129 ck129 za129 oe129 mk129 ek129 tk130 ck130 za130 oe130 mk130 ek130 tk132 ck132 za132 oe132 mk132 ek132 tk133 ck133 za133 oe133 mk133 ek133 tk134 ck134 za134 oe134 mk134 ek134 tk135 ck135 za135 oe135 mk135 ek135 tk136 ck136 za136 oe136 mk136 ek136 tk137 ck137 za137 oe137 mk137 ek137 tk138 ck138 za138 oe138 mk138 ek138 tk139 ck139 za139 oe139 mk139 ek139 tk140 ck140 za140 oe140 mk140 ek140 tk141 ck141 za141 oe141 mk141 ek141 tk142 ck142 za142 oe142 mk142 ek142 tk143 ck143 za143 oe143 mk143 ek143 tk145 ck145 za145 oe145 mk145 ek145 tk147 ck147 za147 oe147 mk147 ek147 tk148 ck148 za148 oe148 mk148 ek148 tk149 ck149 za149 oe149 mk149 ek149 tk150 ck150 za150 oe150 mk150 ek150 tk151 ck151 bs151 za151 tk154 ck154 za154 tk158 ck158 za158 oe158 mk158 ek158 tk159 ck159 za159 oe159 mk159 ek159 tk162 ck162 bs162 za162 tk164 ck164 za164 oe164 mk164 ek164 tk165 ck165 za165 oe165 mk165 ek165
end Go.Proofs.Ytjcfefgbieeheaa
