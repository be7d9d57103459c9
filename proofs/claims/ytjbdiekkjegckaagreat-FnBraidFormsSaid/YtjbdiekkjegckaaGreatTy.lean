import Derived.Test.YtjbdiekkjegckaaGreatLib3
import Derived.Test.YtjbdiekkjegckaaGreatRows
import Derived.KernelRfl
set_option linter.unusedSimpArgs false
namespace Go.Proofs.YtjbdiekkjegckaaGreat
open Go Go.Aw
theorem tk1 : xy_ Tryz.prog 1 = .cell := by kernel_rfl
theorem ck1 : Tryz.prog.cellsOf 1 = 1 := by kernel_rfl
theorem za1 : xj_ Tryz.prog 1 = some [.nilfn] := by kernel_rfl
theorem oe1 : xo_ Tryz.prog 1 = true := by kernel_rfl
theorem mk1 : yd_ Tryz.prog 1 = true := by kernel_rfl
theorem ek1 : xi_ Tryz.prog 1 = 0 := by kernel_rfl
theorem tk2 : xy_ Tryz.prog 2 = .int := by kernel_rfl
theorem ck2 : Tryz.prog.cellsOf 2 = 1 := by kernel_rfl
theorem za2 : xj_ Tryz.prog 2 = some [.int 0] := by kernel_rfl
theorem oe2 : xo_ Tryz.prog 2 = true := by kernel_rfl
theorem mk2 : yd_ Tryz.prog 2 = true := by kernel_rfl
theorem ek2 : xi_ Tryz.prog 2 = 1 := by kernel_rfl
theorem tk3 : xy_ Tryz.prog 3 = .int := by kernel_rfl
theorem ck3 : Tryz.prog.cellsOf 3 = 1 := by kernel_rfl
theorem za3 : xj_ Tryz.prog 3 = some [.int 0] := by kernel_rfl
theorem oe3 : xo_ Tryz.prog 3 = true := by kernel_rfl
theorem mk3 : yd_ Tryz.prog 3 = true := by kernel_rfl
theorem ek3 : xi_ Tryz.prog 3 = 1 := by kernel_rfl
theorem tk4 : xy_ Tryz.prog 4 = .bool := by kernel_rfl
theorem ck4 : Tryz.prog.cellsOf 4 = 1 := by kernel_rfl
theorem za4 : xj_ Tryz.prog 4 = some [.bool false] := by kernel_rfl
theorem oe4 : xo_ Tryz.prog 4 = true := by kernel_rfl
theorem mk4 : yd_ Tryz.prog 4 = true := by kernel_rfl
theorem ek4 : xi_ Tryz.prog 4 = 0 := by kernel_rfl
theorem tk5 : xy_ Tryz.prog 5 = .ik .u8 := by kernel_rfl
theorem ck5 : Tryz.prog.cellsOf 5 = 1 := by kernel_rfl
theorem za5 : xj_ Tryz.prog 5 = some [.ik .u8 0] := by kernel_rfl
theorem oe5 : xo_ Tryz.prog 5 = true := by kernel_rfl
theorem mk5 : yd_ Tryz.prog 5 = true := by kernel_rfl
theorem ek5 : xi_ Tryz.prog 5 = 0 := by kernel_rfl
theorem tk7 : xy_ Tryz.prog 7 = .st [(0, 1), (1, 1), (2, 1), (3, 1)] 4 := by kernel_rfl
theorem ck7 : Tryz.prog.cellsOf 7 = 4 := by kernel_rfl
theorem bs7 : Uh_ Tryz.prog 7 = some [(0, 1), (1, 1), (2, 1), (3, 1)] := by kernel_rfl
theorem za7 : xj_ Tryz.prog 7 = some [.int 0, .int 0, .bool false, .ik .u8 0] := by kernel_rfl
theorem tk9 : xy_ Tryz.prog 9 = .str := by kernel_rfl
theorem ck9 : Tryz.prog.cellsOf 9 = 1 := by kernel_rfl
theorem za9 : xj_ Tryz.prog 9 = some [.str ByteArray.empty] := by kernel_rfl
theorem oe9 : xo_ Tryz.prog 9 = true := by kernel_rfl
theorem mk9 : yd_ Tryz.prog 9 = true := by kernel_rfl
theorem ek9 : xi_ Tryz.prog 9 = 0 := by kernel_rfl
theorem bh6 : xy_ Tryz.prog 12 = .ik .u64 := by kernel_rfl
theorem bh7 : Tryz.prog.cellsOf 12 = 1 := by kernel_rfl
theorem bh8 : xj_ Tryz.prog 12 = some [.ik .u64 0] := by kernel_rfl
theorem bh9 : xo_ Tryz.prog 12 = true := by kernel_rfl
theorem bi0 : yd_ Tryz.prog 12 = true := by kernel_rfl
theorem bi1 : xi_ Tryz.prog 12 = 0 := by kernel_rfl
theorem bi2 : xy_ Tryz.prog 13 = .st [(0, 1), (1, 1)] 2 := by kernel_rfl
theorem bi3 : Tryz.prog.cellsOf 13 = 2 := by kernel_rfl
theorem bi4 : Uh_ Tryz.prog 13 = some [(0, 1), (1, 1)] := by kernel_rfl
theorem bi5 : xj_ Tryz.prog 13 = some [.str ByteArray.empty, .ik .u64 0] := by kernel_rfl
theorem bi6 : xy_ Tryz.prog 15 = .cell := by kernel_rfl
theorem bi7 : Tryz.prog.cellsOf 15 = 1 := by kernel_rfl
theorem bi8 : xj_ Tryz.prog 15 = some [.junk] := by kernel_rfl
theorem bi9 : xo_ Tryz.prog 15 = true := by kernel_rfl
theorem bj0 : yd_ Tryz.prog 15 = true := by kernel_rfl
theorem bj1 : xi_ Tryz.prog 15 = 0 := by kernel_rfl
theorem bj2 : xy_ Tryz.prog 16 = .cell := by kernel_rfl
theorem bj3 : Tryz.prog.cellsOf 16 = 1 := by kernel_rfl
theorem bj4 : xj_ Tryz.prog 16 = some [.junk] := by kernel_rfl
theorem bj5 : xo_ Tryz.prog 16 = true := by kernel_rfl
theorem bj6 : yd_ Tryz.prog 16 = true := by kernel_rfl
theorem bj7 : xi_ Tryz.prog 16 = 0 := by kernel_rfl
theorem bj8 : xy_ Tryz.prog 17 = .cell := by kernel_rfl
theorem bj9 : Tryz.prog.cellsOf 17 = 1 := by kernel_rfl
theorem bk0 : xj_ Tryz.prog 17 = some [.junk] := by kernel_rfl
theorem bk3 : xo_ Tryz.prog 17 = true := by kernel_rfl
theorem bk4 : yd_ Tryz.prog 17 = true := by kernel_rfl
theorem bk5 : xi_ Tryz.prog 17 = 0 := by kernel_rfl
theorem bk6 : xy_ Tryz.prog 18 = .st [(0, 1)] 1 := by kernel_rfl
theorem bk7 : Tryz.prog.cellsOf 18 = 1 := by kernel_rfl
theorem bk8 : Uh_ Tryz.prog 18 = some [(0, 1)] := by kernel_rfl
theorem bk9 : xj_ Tryz.prog 18 = some [.junk] := by kernel_rfl
theorem bl0 : xy_ Tryz.prog 21 = .ik .i32 := by kernel_rfl
theorem bl1 : Tryz.prog.cellsOf 21 = 1 := by kernel_rfl
theorem bl2 : xj_ Tryz.prog 21 = some [.ik .i32 0] := by kernel_rfl
theorem bl3 : xo_ Tryz.prog 21 = true := by kernel_rfl
theorem bl4 : yd_ Tryz.prog 21 = true := by kernel_rfl
theorem bl5 : xi_ Tryz.prog 21 = 0 := by kernel_rfl
theorem bl6 : xy_ Tryz.prog 22 = .sl 5 := by kernel_rfl
theorem bl7 : Tryz.prog.cellsOf 22 = 1 := by kernel_rfl
theorem bl8 : xj_ Tryz.prog 22 = some [.nil] := by kernel_rfl
theorem bl9 : xo_ Tryz.prog 22 = true := by kernel_rfl
theorem bm0 : yd_ Tryz.prog 22 = true := by kernel_rfl
theorem bm1 : xi_ Tryz.prog 22 = 0 := by kernel_rfl
theorem bm2 : xy_ Tryz.prog 23 = .cell := by kernel_rfl
theorem bm3 : Tryz.prog.cellsOf 23 = 1 := by kernel_rfl
theorem bm4 : xj_ Tryz.prog 23 = some [.nilfn] := by kernel_rfl
theorem bm5 : xo_ Tryz.prog 23 = true := by kernel_rfl
theorem bm6 : yd_ Tryz.prog 23 = true := by kernel_rfl
theorem bm7 : xi_ Tryz.prog 23 = 0 := by kernel_rfl
theorem bm8 : xy_ Tryz.prog 24 = .sl 2 := by kernel_rfl
theorem bm9 : Tryz.prog.cellsOf 24 = 1 := by kernel_rfl
theorem bn0 : xj_ Tryz.prog 24 = some [.nil] := by kernel_rfl
theorem bn1 : xo_ Tryz.prog 24 = true := by kernel_rfl
theorem bn2 : yd_ Tryz.prog 24 = true := by kernel_rfl
theorem bn3 : xi_ Tryz.prog 24 = 2 := by kernel_rfl
theorem bn4 : xy_ Tryz.prog 25 = .sl 28 := by kernel_rfl
theorem bn5 : Tryz.prog.cellsOf 25 = 1 := by kernel_rfl
theorem bn6 : xj_ Tryz.prog 25 = some [.nil] := by kernel_rfl
theorem bn7 : xo_ Tryz.prog 25 = true := by kernel_rfl
theorem mk25 : yd_ Tryz.prog 25 = true := by kernel_rfl
theorem bn8 : xi_ Tryz.prog 25 = 0 := by kernel_rfl
theorem bn9 : xy_ Tryz.prog 26 = .st [(0, 1), (1, 1), (2, 1)] 3 := by kernel_rfl
theorem bo0 : Tryz.prog.cellsOf 26 = 3 := by kernel_rfl
theorem bo1 : Uh_ Tryz.prog 26 = some [(0, 1), (1, 1), (2, 1)] := by kernel_rfl
theorem bo2 : xj_ Tryz.prog 26 = some [.nil, .int 0, .nil] := by kernel_rfl
theorem bo3 : xy_ Tryz.prog 27 = .st [(0, 1), (1, 1), (2, 1)] 3 := by kernel_rfl
theorem bo4 : Tryz.prog.cellsOf 27 = 3 := by kernel_rfl
theorem bo5 : Uh_ Tryz.prog 27 = some [(0, 1), (1, 1), (2, 1)] := by kernel_rfl
theorem bo6 : xj_ Tryz.prog 27 = some [.nil, .int 0, .nil] := by kernel_rfl
theorem bo7 : xy_ Tryz.prog 28 = .sl 24 := by kernel_rfl
theorem bo8 : Tryz.prog.cellsOf 28 = 1 := by kernel_rfl
theorem bo9 : xj_ Tryz.prog 28 = some [.nil] := by kernel_rfl
theorem bp0 : xo_ Tryz.prog 28 = true := by kernel_rfl
theorem bp2 : yd_ Tryz.prog 28 = true := by kernel_rfl
theorem bp3 : xi_ Tryz.prog 28 = 3 := by kernel_rfl
theorem bp4 : xy_ Tryz.prog 29 = .st [(0, 3), (3, 1)] 4 := by kernel_rfl
theorem bp5 : Tryz.prog.cellsOf 29 = 4 := by kernel_rfl
theorem bp6 : Uh_ Tryz.prog 29 = some [(0, 3), (3, 1)] := by kernel_rfl
theorem bp7 : xj_ Tryz.prog 29 = some [.nil, .int 0, .nil, .nil] := by kernel_rfl
theorem bp8 : xy_ Tryz.prog 30 = .st [(0, 3), (3, 1)] 4 := by kernel_rfl
theorem bp9 : Tryz.prog.cellsOf 30 = 4 := by kernel_rfl
theorem bq0 : Uh_ Tryz.prog 30 = some [(0, 3), (3, 1)] := by kernel_rfl
theorem bq1 : xj_ Tryz.prog 30 = some [.nil, .int 0, .nil, .nil] := by kernel_rfl
theorem bq2 : xy_ Tryz.prog 31 = .cell := by kernel_rfl
theorem bq3 : Tryz.prog.cellsOf 31 = 1 := by kernel_rfl
theorem bq4 : xj_ Tryz.prog 31 = some [.nilfn] := by kernel_rfl
theorem bq5 : xo_ Tryz.prog 31 = true := by kernel_rfl
theorem bq6 : yd_ Tryz.prog 31 = true := by kernel_rfl
theorem bq7 : xi_ Tryz.prog 31 = 0 := by kernel_rfl
theorem bq8 : xy_ Tryz.prog 32 = .st [(0, 1), (1, 1), (2, 1)] 3 := by kernel_rfl
theorem bq9 : Tryz.prog.cellsOf 32 = 3 := by kernel_rfl
theorem br0 : Uh_ Tryz.prog 32 = some [(0, 1), (1, 1), (2, 1)] := by kernel_rfl
theorem br3 : xj_ Tryz.prog 32 = some [.nil, .int 0, .nil] := by kernel_rfl
theorem br4 : xy_ Tryz.prog 33 = .st [(0, 1), (1, 1), (2, 1)] 3 := by kernel_rfl
theorem br5 : Tryz.prog.cellsOf 33 = 3 := by kernel_rfl
theorem br6 : Uh_ Tryz.prog 33 = some [(0, 1), (1, 1), (2, 1)] := by kernel_rfl
theorem br7 : xj_ Tryz.prog 33 = some [.nil, .int 0, .nil] := by kernel_rfl
theorem br8 : xy_ Tryz.prog 35 = .cell := by kernel_rfl
theorem br9 : Tryz.prog.cellsOf 35 = 1 := by kernel_rfl
theorem bs0 : xj_ Tryz.prog 35 = some [.nilfn] := by kernel_rfl
theorem bs2 : xo_ Tryz.prog 35 = true := by kernel_rfl
theorem bs3 : yd_ Tryz.prog 35 = true := by kernel_rfl
theorem bs4 : xi_ Tryz.prog 35 = 0 := by kernel_rfl
theorem bs5 : xy_ Tryz.prog 37 = .cell := by kernel_rfl
theorem bs6 : Tryz.prog.cellsOf 37 = 1 := by kernel_rfl
theorem bs8 : xj_ Tryz.prog 37 = some [.nilfn] := by kernel_rfl
theorem bs9 : xo_ Tryz.prog 37 = true := by kernel_rfl
theorem bt0 : yd_ Tryz.prog 37 = true := by kernel_rfl
theorem bt3 : xi_ Tryz.prog 37 = 0 := by kernel_rfl
theorem bt4 : xy_ Tryz.prog 38 = .cell := by kernel_rfl
theorem bt5 : Tryz.prog.cellsOf 38 = 1 := by kernel_rfl
theorem bt6 : xj_ Tryz.prog 38 = some [.nilfn] := by kernel_rfl
theorem bt7 : xo_ Tryz.prog 38 = true := by kernel_rfl
theorem bt8 : yd_ Tryz.prog 38 = true := by kernel_rfl
theorem bt9 : xi_ Tryz.prog 38 = 0 := by kernel_rfl
theorem bu0 : xy_ Tryz.prog 39 = .cell := by kernel_rfl
theorem bu1 : Tryz.prog.cellsOf 39 = 1 := by kernel_rfl
theorem bu2 : xj_ Tryz.prog 39 = some [.nilfn] := by kernel_rfl
theorem bu3 : xo_ Tryz.prog 39 = true := by kernel_rfl
theorem bu4 : yd_ Tryz.prog 39 = true := by kernel_rfl
theorem bu5 : xi_ Tryz.prog 39 = 0 := by kernel_rfl
theorem bu6 : xy_ Tryz.prog 40 = .cell := by kernel_rfl
theorem bu7 : Tryz.prog.cellsOf 40 = 1 := by kernel_rfl
theorem bu8 : xj_ Tryz.prog 40 = some [.nilfn] := by kernel_rfl
theorem bu9 : xo_ Tryz.prog 40 = true := by kernel_rfl
theorem bv0 : yd_ Tryz.prog 40 = true := by kernel_rfl
theorem bv1 : xi_ Tryz.prog 40 = 0 := by kernel_rfl
theorem bv2 : xy_ Tryz.prog 41 = .cell := by kernel_rfl
theorem bv3 : Tryz.prog.cellsOf 41 = 1 := by kernel_rfl
theorem bv4 : xj_ Tryz.prog 41 = some [.nilfn] := by kernel_rfl
theorem bv5 : xo_ Tryz.prog 41 = true := by kernel_rfl
theorem bv6 : yd_ Tryz.prog 41 = true := by kernel_rfl
theorem bv7 : xi_ Tryz.prog 41 = 0 := by kernel_rfl
theorem bv8 : xy_ Tryz.prog 42 = .cell := by kernel_rfl
theorem bv9 : Tryz.prog.cellsOf 42 = 1 := by kernel_rfl
theorem bw0 : xj_ Tryz.prog 42 = some [.junk] := by kernel_rfl
theorem bw1 : xo_ Tryz.prog 42 = true := by kernel_rfl
theorem bw2 : yd_ Tryz.prog 42 = true := by kernel_rfl
theorem bw3 : xi_ Tryz.prog 42 = 0 := by kernel_rfl
theorem bw4 : xy_ Tryz.prog 43 = .cell := by kernel_rfl
theorem bw5 : Tryz.prog.cellsOf 43 = 1 := by kernel_rfl
theorem bw6 : xj_ Tryz.prog 43 = some [.nilfn] := by kernel_rfl
theorem bw7 : xo_ Tryz.prog 43 = true := by kernel_rfl
theorem bw8 : yd_ Tryz.prog 43 = true := by kernel_rfl
theorem bw9 : xi_ Tryz.prog 43 = 0 := by kernel_rfl
theorem bx0 : xy_ Tryz.prog 44 = .ik .u64 := by kernel_rfl
theorem bx2 : Tryz.prog.cellsOf 44 = 1 := by kernel_rfl
theorem bx3 : xj_ Tryz.prog 44 = some [.ik .u64 0] := by kernel_rfl
theorem bx4 : xo_ Tryz.prog 44 = true := by kernel_rfl
theorem bx5 : yd_ Tryz.prog 44 = true := by kernel_rfl
theorem bx6 : xi_ Tryz.prog 44 = 0 := by kernel_rfl
theorem bx7 : xy_ Tryz.prog 46 = .cell := by kernel_rfl
theorem bx8 : Tryz.prog.cellsOf 46 = 1 := by kernel_rfl
theorem bx9 : xj_ Tryz.prog 46 = some [.nilfn] := by kernel_rfl
theorem by0 : xo_ Tryz.prog 46 = true := by kernel_rfl
theorem by1 : yd_ Tryz.prog 46 = true := by kernel_rfl
theorem by2 : xi_ Tryz.prog 46 = 0 := by kernel_rfl
theorem by3 : xy_ Tryz.prog 47 = .cell := by kernel_rfl
theorem by4 : Tryz.prog.cellsOf 47 = 1 := by kernel_rfl
theorem by5 : xj_ Tryz.prog 47 = some [.nilfn] := by kernel_rfl
theorem by6 : xo_ Tryz.prog 47 = true := by kernel_rfl
theorem by7 : yd_ Tryz.prog 47 = true := by kernel_rfl
theorem by9 : xi_ Tryz.prog 47 = 0 := by kernel_rfl
theorem bz0 : xy_ Tryz.prog 48 = .cell := by kernel_rfl
theorem bz1 : Tryz.prog.cellsOf 48 = 1 := by kernel_rfl
theorem bz2 : xj_ Tryz.prog 48 = some [.nilfn] := by kernel_rfl
theorem bz3 : xo_ Tryz.prog 48 = true := by kernel_rfl
theorem bz4 : yd_ Tryz.prog 48 = true := by kernel_rfl
theorem bz5 : xi_ Tryz.prog 48 = 0 := by kernel_rfl
theorem bz6 : xy_ Tryz.prog 50 = .cell := by kernel_rfl
theorem bz7 : Tryz.prog.cellsOf 50 = 1 := by kernel_rfl
theorem bz8 : xj_ Tryz.prog 50 = some [.nilfn] := by kernel_rfl
theorem bz9 : xo_ Tryz.prog 50 = true := by kernel_rfl
theorem bA0 : yd_ Tryz.prog 50 = true := by kernel_rfl
theorem bA1 : xi_ Tryz.prog 50 = 0 := by kernel_rfl
theorem bA2 : xy_ Tryz.prog 51 = .cell := by kernel_rfl
theorem bA3 : Tryz.prog.cellsOf 51 = 1 := by kernel_rfl
theorem bA4 : xj_ Tryz.prog 51 = some [.nilfn] := by kernel_rfl
theorem bA5 : xo_ Tryz.prog 51 = true := by kernel_rfl
theorem bA6 : yd_ Tryz.prog 51 = true := by kernel_rfl
theorem bA7 : xi_ Tryz.prog 51 = 0 := by kernel_rfl
theorem bA8 : xy_ Tryz.prog 52 = .cell := by kernel_rfl
theorem bA9 : Tryz.prog.cellsOf 52 = 1 := by kernel_rfl
theorem bB0 : xj_ Tryz.prog 52 = some [.nilfn] := by kernel_rfl
theorem bB1 : xo_ Tryz.prog 52 = true := by kernel_rfl
theorem bB2 : yd_ Tryz.prog 52 = true := by kernel_rfl
theorem bB3 : xi_ Tryz.prog 52 = 0 := by kernel_rfl
theorem bB4 : xy_ Tryz.prog 53 = .cell := by kernel_rfl
theorem bB5 : Tryz.prog.cellsOf 53 = 1 := by kernel_rfl
theorem bB6 : xj_ Tryz.prog 53 = some [.nilfn] := by kernel_rfl
theorem bB7 : xo_ Tryz.prog 53 = true := by kernel_rfl
theorem bB8 : yd_ Tryz.prog 53 = true := by kernel_rfl
theorem bB9 : xi_ Tryz.prog 53 = 0 := by kernel_rfl
theorem bC0 : xy_ Tryz.prog 54 = .cell := by kernel_rfl
theorem bC1 : Tryz.prog.cellsOf 54 = 1 := by kernel_rfl
theorem bC2 : xj_ Tryz.prog 54 = some [.nilfn] := by kernel_rfl
theorem bC3 : xo_ Tryz.prog 54 = true := by kernel_rfl
theorem bC4 : yd_ Tryz.prog 54 = true := by kernel_rfl
theorem bC5 : xi_ Tryz.prog 54 = 0 := by kernel_rfl
theorem bC6 : xy_ Tryz.prog 55 = .cell := by kernel_rfl
theorem bC7 : Tryz.prog.cellsOf 55 = 1 := by kernel_rfl
theorem bC8 : xj_ Tryz.prog 55 = some [.nilfn] := by kernel_rfl
theorem bC9 : xo_ Tryz.prog 55 = true := by kernel_rfl
theorem bD0 : yd_ Tryz.prog 55 = true := by kernel_rfl
theorem bD1 : xi_ Tryz.prog 55 = 0 := by kernel_rfl
theorem bD2 : xy_ Tryz.prog 56 = .cell := by kernel_rfl
theorem bD3 : Tryz.prog.cellsOf 56 = 1 := by kernel_rfl
theorem bD4 : xj_ Tryz.prog 56 = some [.junk] := by kernel_rfl
theorem bD5 : xo_ Tryz.prog 56 = true := by kernel_rfl
theorem bD6 : yd_ Tryz.prog 56 = true := by kernel_rfl
theorem bD7 : xi_ Tryz.prog 56 = 0 := by kernel_rfl
theorem bD8 : xy_ Tryz.prog 57 = .cell := by kernel_rfl
theorem bD9 : Tryz.prog.cellsOf 57 = 1 := by kernel_rfl
theorem bE0 : xj_ Tryz.prog 57 = some [.nilfn] := by kernel_rfl
theorem bE1 : xo_ Tryz.prog 57 = true := by kernel_rfl
theorem bE2 : yd_ Tryz.prog 57 = true := by kernel_rfl
theorem bE3 : xi_ Tryz.prog 57 = 0 := by kernel_rfl
theorem bE4 : xy_ Tryz.prog 58 = .cell := by kernel_rfl
theorem bE5 : Tryz.prog.cellsOf 58 = 1 := by kernel_rfl
theorem bE6 : xj_ Tryz.prog 58 = some [.nilfn] := by kernel_rfl
theorem bE7 : xo_ Tryz.prog 58 = true := by kernel_rfl
theorem bE8 : yd_ Tryz.prog 58 = true := by kernel_rfl
theorem bE9 : xi_ Tryz.prog 58 = 0 := by kernel_rfl
theorem bF0 : xy_ Tryz.prog 59 = .cell := by kernel_rfl
theorem bF1 : Tryz.prog.cellsOf 59 = 1 := by kernel_rfl
theorem bF2 : xj_ Tryz.prog 59 = some [.nilfn] := by kernel_rfl
theorem bF3 : xo_ Tryz.prog 59 = true := by kernel_rfl
theorem bF4 : yd_ Tryz.prog 59 = true := by kernel_rfl
theorem bF5 : xi_ Tryz.prog 59 = 0 := by kernel_rfl
theorem bF6 : xy_ Tryz.prog 60 = .cell := by kernel_rfl
theorem bF7 : Tryz.prog.cellsOf 60 = 1 := by kernel_rfl
theorem bF8 : xj_ Tryz.prog 60 = some [.nilfn] := by kernel_rfl
theorem bF9 : xo_ Tryz.prog 60 = true := by kernel_rfl
theorem bG0 : yd_ Tryz.prog 60 = true := by kernel_rfl
theorem bG1 : xi_ Tryz.prog 60 = 0 := by kernel_rfl
theorem bG2 : xy_ Tryz.prog 61 = .cell := by kernel_rfl
theorem bG3 : Tryz.prog.cellsOf 61 = 1 := by kernel_rfl
theorem bG4 : xj_ Tryz.prog 61 = some [.nilfn] := by kernel_rfl
theorem bG5 : xo_ Tryz.prog 61 = true := by kernel_rfl
theorem bG6 : yd_ Tryz.prog 61 = true := by kernel_rfl
theorem bG7 : xi_ Tryz.prog 61 = 0 := by kernel_rfl
theorem bG8 : xy_ Tryz.prog 62 = .cell := by kernel_rfl
theorem bG9 : Tryz.prog.cellsOf 62 = 1 := by kernel_rfl
theorem bH0 : xj_ Tryz.prog 62 = some [.nilfn] := by kernel_rfl
theorem bH1 : xo_ Tryz.prog 62 = true := by kernel_rfl
theorem bH2 : yd_ Tryz.prog 62 = true := by kernel_rfl
theorem bH3 : xi_ Tryz.prog 62 = 0 := by kernel_rfl
theorem bH4 : xy_ Tryz.prog 63 = .cell := by kernel_rfl
theorem bH5 : Tryz.prog.cellsOf 63 = 1 := by kernel_rfl
theorem bH6 : xj_ Tryz.prog 63 = some [.nilfn] := by kernel_rfl
theorem bH7 : xo_ Tryz.prog 63 = true := by kernel_rfl
theorem bH8 : yd_ Tryz.prog 63 = true := by kernel_rfl
theorem bH9 : xi_ Tryz.prog 63 = 0 := by kernel_rfl
theorem bI0 : xy_ Tryz.prog 64 = .cell := by kernel_rfl
theorem bI1 : Tryz.prog.cellsOf 64 = 1 := by kernel_rfl
theorem bI2 : xj_ Tryz.prog 64 = some [.nilfn] := by kernel_rfl
theorem bI3 : xo_ Tryz.prog 64 = true := by kernel_rfl
theorem bI4 : yd_ Tryz.prog 64 = true := by kernel_rfl
theorem bI5 : xi_ Tryz.prog 64 = 0 := by kernel_rfl
theorem bI6 : xy_ Tryz.prog 65 = .cell := by kernel_rfl
theorem bI7 : Tryz.prog.cellsOf 65 = 1 := by kernel_rfl
theorem bI8 : xj_ Tryz.prog 65 = some [.nilfn] := by kernel_rfl
theorem bI9 : xo_ Tryz.prog 65 = true := by kernel_rfl
theorem bJ0 : yd_ Tryz.prog 65 = true := by kernel_rfl
theorem bJ1 : xi_ Tryz.prog 65 = 0 := by kernel_rfl
theorem bJ2 : xy_ Tryz.prog 66 = .cell := by kernel_rfl
theorem bJ3 : Tryz.prog.cellsOf 66 = 1 := by kernel_rfl
theorem bJ4 : xj_ Tryz.prog 66 = some [.nilfn] := by kernel_rfl
theorem bJ5 : xo_ Tryz.prog 66 = true := by kernel_rfl
theorem bJ6 : yd_ Tryz.prog 66 = true := by kernel_rfl
theorem bJ7 : xi_ Tryz.prog 66 = 0 := by kernel_rfl
theorem bJ8 : xy_ Tryz.prog 67 = .cell := by kernel_rfl
theorem bJ9 : Tryz.prog.cellsOf 67 = 1 := by kernel_rfl
theorem bK0 : xj_ Tryz.prog 67 = some [.nilfn] := by kernel_rfl
theorem bK1 : xo_ Tryz.prog 67 = true := by kernel_rfl
theorem bK2 : yd_ Tryz.prog 67 = true := by kernel_rfl
theorem bK3 : xi_ Tryz.prog 67 = 0 := by kernel_rfl
theorem bK4 : xy_ Tryz.prog 68 = .cell := by kernel_rfl
theorem bK5 : Tryz.prog.cellsOf 68 = 1 := by kernel_rfl
theorem bK6 : xj_ Tryz.prog 68 = some [.nilfn] := by kernel_rfl
theorem bK7 : xo_ Tryz.prog 68 = true := by kernel_rfl
theorem bK8 : yd_ Tryz.prog 68 = true := by kernel_rfl
theorem bK9 : xi_ Tryz.prog 68 = 0 := by kernel_rfl
theorem bL0 : xy_ Tryz.prog 69 = .st [(0, 1), (1, 1), (2, 1)] 3 := by kernel_rfl
theorem bL1 : Tryz.prog.cellsOf 69 = 3 := by kernel_rfl
theorem bL2 : Uh_ Tryz.prog 69 = some [(0, 1), (1, 1), (2, 1)] := by kernel_rfl
theorem bL3 : xj_ Tryz.prog 69 = some [.nil, .int 0, .ik .u64 0] := by kernel_rfl
theorem bL4 : xy_ Tryz.prog 70 = .st [(0, 1), (1, 1), (2, 1)] 3 := by kernel_rfl
theorem bL5 : Tryz.prog.cellsOf 70 = 3 := by kernel_rfl
theorem bL6 : Uh_ Tryz.prog 70 = some [(0, 1), (1, 1), (2, 1)] := by kernel_rfl
theorem bL7 : xj_ Tryz.prog 70 = some [.nil, .int 0, .ik .u64 0] := by kernel_rfl
theorem bL8 : xy_ Tryz.prog 71 = .cell := by kernel_rfl
theorem bL9 : Tryz.prog.cellsOf 71 = 1 := by kernel_rfl
theorem bM0 : xj_ Tryz.prog 71 = some [.nilfn] := by kernel_rfl
theorem bM1 : xo_ Tryz.prog 71 = true := by kernel_rfl
theorem bM2 : yd_ Tryz.prog 71 = true := by kernel_rfl
theorem bM3 : xi_ Tryz.prog 71 = 0 := by kernel_rfl
theorem bM4 : xy_ Tryz.prog 72 = .ik .u64 := by kernel_rfl
theorem bM5 : Tryz.prog.cellsOf 72 = 1 := by kernel_rfl
theorem bM6 : xj_ Tryz.prog 72 = some [.ik .u64 0] := by kernel_rfl
theorem bM7 : xo_ Tryz.prog 72 = true := by kernel_rfl
theorem bM8 : yd_ Tryz.prog 72 = true := by kernel_rfl
theorem bM9 : xi_ Tryz.prog 72 = 0 := by kernel_rfl
theorem bN0 : xy_ Tryz.prog 73 = .cell := by kernel_rfl
theorem bN1 : Tryz.prog.cellsOf 73 = 1 := by kernel_rfl
theorem bN2 : xj_ Tryz.prog 73 = some [.nilfn] := by kernel_rfl
theorem bN3 : xo_ Tryz.prog 73 = true := by kernel_rfl
theorem bN4 : yd_ Tryz.prog 73 = true := by kernel_rfl
theorem bN5 : xi_ Tryz.prog 73 = 0 := by kernel_rfl
theorem bN6 : xy_ Tryz.prog 74 = .cell := by kernel_rfl
theorem bN7 : Tryz.prog.cellsOf 74 = 1 := by kernel_rfl
theorem bN8 : xj_ Tryz.prog 74 = some [.nilfn] := by kernel_rfl
theorem bN9 : xo_ Tryz.prog 74 = true := by kernel_rfl
theorem bO0 : yd_ Tryz.prog 74 = true := by kernel_rfl
theorem bO1 : xi_ Tryz.prog 74 = 0 := by kernel_rfl
theorem bO2 : xy_ Tryz.prog 75 = .cell := by kernel_rfl
theorem bO3 : Tryz.prog.cellsOf 75 = 1 := by kernel_rfl
theorem bO4 : xj_ Tryz.prog 75 = some [.nilfn] := by kernel_rfl
theorem bO5 : xo_ Tryz.prog 75 = true := by kernel_rfl
theorem bO6 : yd_ Tryz.prog 75 = true := by kernel_rfl
theorem bO7 : xi_ Tryz.prog 75 = 0 := by kernel_rfl
theorem bO8 : xy_ Tryz.prog 76 = .cell := by kernel_rfl
theorem bO9 : Tryz.prog.cellsOf 76 = 1 := by kernel_rfl
theorem bP2 : xj_ Tryz.prog 76 = some [.nilfn] := by kernel_rfl
theorem bP3 : xo_ Tryz.prog 76 = true := by kernel_rfl
theorem bP4 : yd_ Tryz.prog 76 = true := by kernel_rfl
theorem bP5 : xi_ Tryz.prog 76 = 0 := by kernel_rfl
theorem bP6 : xy_ Tryz.prog 77 = .cell := by kernel_rfl
theorem bP7 : Tryz.prog.cellsOf 77 = 1 := by kernel_rfl
theorem bP8 : xj_ Tryz.prog 77 = some [.nilfn] := by kernel_rfl
theorem bP9 : xo_ Tryz.prog 77 = true := by kernel_rfl
theorem bQ0 : yd_ Tryz.prog 77 = true := by kernel_rfl
theorem bQ1 : xi_ Tryz.prog 77 = 0 := by kernel_rfl
theorem bQ2 : xy_ Tryz.prog 78 = .cell := by kernel_rfl
theorem bQ3 : Tryz.prog.cellsOf 78 = 1 := by kernel_rfl
theorem bQ4 : xj_ Tryz.prog 78 = some [.nilfn] := by kernel_rfl
theorem bQ5 : xo_ Tryz.prog 78 = true := by kernel_rfl
theorem bQ6 : yd_ Tryz.prog 78 = true := by kernel_rfl
theorem bQ7 : xi_ Tryz.prog 78 = 0 := by kernel_rfl
theorem bQ8 : xy_ Tryz.prog 79 = .cell := by kernel_rfl
theorem bQ9 : Tryz.prog.cellsOf 79 = 1 := by kernel_rfl
theorem bR0 : xj_ Tryz.prog 79 = some [.nilfn] := by kernel_rfl
theorem bR1 : xo_ Tryz.prog 79 = true := by kernel_rfl
theorem bR2 : yd_ Tryz.prog 79 = true := by kernel_rfl
theorem bR3 : xi_ Tryz.prog 79 = 0 := by kernel_rfl
theorem bR4 : xy_ Tryz.prog 80 = .cell := by kernel_rfl
theorem bR5 : Tryz.prog.cellsOf 80 = 1 := by kernel_rfl
theorem bR6 : xj_ Tryz.prog 80 = some [.nilfn] := by kernel_rfl
theorem bR7 : xo_ Tryz.prog 80 = true := by kernel_rfl
theorem bR8 : yd_ Tryz.prog 80 = true := by kernel_rfl
theorem bR9 : xi_ Tryz.prog 80 = 0 := by kernel_rfl
theorem bS0 : xy_ Tryz.prog 81 = .cell := by kernel_rfl
theorem bS1 : Tryz.prog.cellsOf 81 = 1 := by kernel_rfl
theorem bS2 : xj_ Tryz.prog 81 = some [.nilfn] := by kernel_rfl
theorem bS3 : xo_ Tryz.prog 81 = true := by kernel_rfl
theorem bS4 : yd_ Tryz.prog 81 = true := by kernel_rfl
theorem bS5 : xi_ Tryz.prog 81 = 0 := by kernel_rfl
theorem bS6 : xy_ Tryz.prog 82 = .cell := by kernel_rfl
theorem bS7 : Tryz.prog.cellsOf 82 = 1 := by kernel_rfl
theorem bS8 : xj_ Tryz.prog 82 = some [.nilfn] := by kernel_rfl
theorem bS9 : xo_ Tryz.prog 82 = true := by kernel_rfl
theorem bT0 : yd_ Tryz.prog 82 = true := by kernel_rfl
theorem bT1 : xi_ Tryz.prog 82 = 0 := by kernel_rfl
theorem bT2 : xy_ Tryz.prog 83 = .cell := by kernel_rfl
theorem bT3 : Tryz.prog.cellsOf 83 = 1 := by kernel_rfl
theorem bT4 : xj_ Tryz.prog 83 = some [.nilfn] := by kernel_rfl
theorem bT5 : xo_ Tryz.prog 83 = true := by kernel_rfl
theorem bT6 : yd_ Tryz.prog 83 = true := by kernel_rfl
theorem bT7 : xi_ Tryz.prog 83 = 0 := by kernel_rfl
theorem bT8 : xy_ Tryz.prog 84 = .cell := by kernel_rfl
theorem bT9 : Tryz.prog.cellsOf 84 = 1 := by kernel_rfl
theorem bU0 : xj_ Tryz.prog 84 = some [.nilfn] := by kernel_rfl
theorem bU1 : xo_ Tryz.prog 84 = true := by kernel_rfl
theorem bU2 : yd_ Tryz.prog 84 = true := by kernel_rfl
theorem bU3 : xi_ Tryz.prog 84 = 0 := by kernel_rfl
theorem bU4 : xy_ Tryz.prog 85 = .cell := by kernel_rfl
theorem bU5 : Tryz.prog.cellsOf 85 = 1 := by kernel_rfl
theorem bU6 : xj_ Tryz.prog 85 = some [.nilfn] := by kernel_rfl
theorem bU7 : xo_ Tryz.prog 85 = true := by kernel_rfl
theorem bU8 : yd_ Tryz.prog 85 = true := by kernel_rfl
theorem bU9 : xi_ Tryz.prog 85 = 0 := by kernel_rfl
theorem bV0 : xy_ Tryz.prog 86 = .st [(0, 1), (1, 1), (2, 1)] 3 := by kernel_rfl
theorem bV1 : Tryz.prog.cellsOf 86 = 3 := by kernel_rfl
theorem bV2 : Uh_ Tryz.prog 86 = some [(0, 1), (1, 1), (2, 1)] := by kernel_rfl
theorem bV3 : xj_ Tryz.prog 86 = some [.nil, .int 0, .ik .u64 0] := by kernel_rfl
theorem bV4 : xy_ Tryz.prog 87 = .st [(0, 1), (1, 1), (2, 1)] 3 := by kernel_rfl
theorem bV5 : Tryz.prog.cellsOf 87 = 3 := by kernel_rfl
theorem bV6 : Uh_ Tryz.prog 87 = some [(0, 1), (1, 1), (2, 1)] := by kernel_rfl
theorem bV7 : xj_ Tryz.prog 87 = some [.nil, .int 0, .ik .u64 0] := by kernel_rfl
theorem bV8 : xy_ Tryz.prog 88 = .cell := by kernel_rfl
theorem bV9 : Tryz.prog.cellsOf 88 = 1 := by kernel_rfl
theorem bW0 : xj_ Tryz.prog 88 = some [.nilfn] := by kernel_rfl
theorem bW1 : xo_ Tryz.prog 88 = true := by kernel_rfl
theorem bW2 : yd_ Tryz.prog 88 = true := by kernel_rfl
theorem bW3 : xi_ Tryz.prog 88 = 0 := by kernel_rfl
theorem bW4 : xy_ Tryz.prog 89 = .cell := by kernel_rfl
theorem bW5 : Tryz.prog.cellsOf 89 = 1 := by kernel_rfl
theorem bW6 : xj_ Tryz.prog 89 = some [.nilfn] := by kernel_rfl
theorem bW7 : xo_ Tryz.prog 89 = true := by kernel_rfl
theorem bW8 : yd_ Tryz.prog 89 = true := by kernel_rfl
theorem bW9 : xi_ Tryz.prog 89 = 0 := by kernel_rfl
theorem bX0 : xy_ Tryz.prog 90 = .cell := by kernel_rfl
theorem bX1 : Tryz.prog.cellsOf 90 = 1 := by kernel_rfl
theorem bX2 : xj_ Tryz.prog 90 = some [.nilfn] := by kernel_rfl
theorem bX3 : xo_ Tryz.prog 90 = true := by kernel_rfl
theorem bX4 : yd_ Tryz.prog 90 = true := by kernel_rfl
theorem bX5 : xi_ Tryz.prog 90 = 0 := by kernel_rfl
theorem bX6 : xy_ Tryz.prog 91 = .cell := by kernel_rfl
theorem bX7 : Tryz.prog.cellsOf 91 = 1 := by kernel_rfl
theorem bX8 : xj_ Tryz.prog 91 = some [.nilfn] := by kernel_rfl
theorem bX9 : xo_ Tryz.prog 91 = true := by kernel_rfl
theorem bY0 : yd_ Tryz.prog 91 = true := by kernel_rfl
theorem bY2 : xi_ Tryz.prog 91 = 0 := by kernel_rfl
theorem bY3 : xy_ Tryz.prog 92 = .cell := by kernel_rfl
theorem bY4 : Tryz.prog.cellsOf 92 = 1 := by kernel_rfl
theorem bY5 : xj_ Tryz.prog 92 = some [.nilfn] := by kernel_rfl
theorem bY6 : xo_ Tryz.prog 92 = true := by kernel_rfl
theorem bY7 : yd_ Tryz.prog 92 = true := by kernel_rfl
theorem bY8 : xi_ Tryz.prog 92 = 0 := by kernel_rfl
theorem bY9 : xy_ Tryz.prog 93 = .cell := by kernel_rfl
theorem bZ0 : Tryz.prog.cellsOf 93 = 1 := by kernel_rfl
theorem bZ1 : xj_ Tryz.prog 93 = some [.nilfn] := by kernel_rfl
theorem bZ2 : xo_ Tryz.prog 93 = true := by kernel_rfl
theorem bZ3 : yd_ Tryz.prog 93 = true := by kernel_rfl
theorem bZ4 : xi_ Tryz.prog 93 = 0 := by kernel_rfl
theorem bZ5 : xy_ Tryz.prog 94 = .cell := by kernel_rfl
theorem bZ6 : Tryz.prog.cellsOf 94 = 1 := by kernel_rfl
theorem bZ7 : xj_ Tryz.prog 94 = some [.nilfn] := by kernel_rfl
theorem bZ8 : xo_ Tryz.prog 94 = true := by kernel_rfl
theorem bZ9 : yd_ Tryz.prog 94 = true := by kernel_rfl
theorem ca0 : xi_ Tryz.prog 94 = 0 := by kernel_rfl
theorem ca1 : xy_ Tryz.prog 95 = .cell := by kernel_rfl
theorem ca2 : Tryz.prog.cellsOf 95 = 1 := by kernel_rfl
theorem ca3 : xj_ Tryz.prog 95 = some [.nilfn] := by kernel_rfl
theorem ca4 : xo_ Tryz.prog 95 = true := by kernel_rfl
theorem ca5 : yd_ Tryz.prog 95 = true := by kernel_rfl
theorem ca6 : xi_ Tryz.prog 95 = 0 := by kernel_rfl
theorem ca7 : xy_ Tryz.prog 96 = .cell := by kernel_rfl
theorem ca8 : Tryz.prog.cellsOf 96 = 1 := by kernel_rfl
theorem ca9 : xj_ Tryz.prog 96 = some [.nilfn] := by kernel_rfl
theorem cb0 : xo_ Tryz.prog 96 = true := by kernel_rfl
theorem cb1 : yd_ Tryz.prog 96 = true := by kernel_rfl
theorem cb2 : xi_ Tryz.prog 96 = 0 := by kernel_rfl
theorem cb3 : xy_ Tryz.prog 97 = .cell := by kernel_rfl
theorem cb4 : Tryz.prog.cellsOf 97 = 1 := by kernel_rfl
theorem cb5 : xj_ Tryz.prog 97 = some [.nilfn] := by kernel_rfl
theorem cb6 : xo_ Tryz.prog 97 = true := by kernel_rfl
theorem cb7 : yd_ Tryz.prog 97 = true := by kernel_rfl
theorem cb8 : xi_ Tryz.prog 97 = 0 := by kernel_rfl
theorem cb9 : xy_ Tryz.prog 98 = .cell := by kernel_rfl
theorem cc0 : Tryz.prog.cellsOf 98 = 1 := by kernel_rfl
theorem cc1 : xj_ Tryz.prog 98 = some [.nilfn] := by kernel_rfl
theorem cc2 : xo_ Tryz.prog 98 = true := by kernel_rfl
theorem cc3 : yd_ Tryz.prog 98 = true := by kernel_rfl
theorem cc4 : xi_ Tryz.prog 98 = 0 := by kernel_rfl
theorem cc5 : xy_ Tryz.prog 99 = .cell := by kernel_rfl
theorem cc6 : Tryz.prog.cellsOf 99 = 1 := by kernel_rfl
theorem cc7 : xj_ Tryz.prog 99 = some [.nilfn] := by kernel_rfl
theorem cc8 : xo_ Tryz.prog 99 = true := by kernel_rfl
theorem cc9 : yd_ Tryz.prog 99 = true := by kernel_rfl
theorem cd0 : xi_ Tryz.prog 99 = 0 := by kernel_rfl
theorem aL6 : xy_ Tryz.prog 100 = .cell := by kernel_rfl
theorem aL7 : Tryz.prog.cellsOf 100 = 1 := by kernel_rfl
theorem aL8 : xj_ Tryz.prog 100 = some [.nilfn] := by kernel_rfl
theorem aL9 : xo_ Tryz.prog 100 = true := by kernel_rfl
theorem aM0 : yd_ Tryz.prog 100 = true := by kernel_rfl
theorem aM1 : xi_ Tryz.prog 100 = 0 := by kernel_rfl
theorem aM2 : xy_ Tryz.prog 101 = .cell := by kernel_rfl
theorem aM3 : Tryz.prog.cellsOf 101 = 1 := by kernel_rfl
theorem aM4 : xj_ Tryz.prog 101 = some [.nilfn] := by kernel_rfl
theorem aM5 : xo_ Tryz.prog 101 = true := by kernel_rfl
theorem aM6 : yd_ Tryz.prog 101 = true := by kernel_rfl
theorem aM7 : xi_ Tryz.prog 101 = 0 := by kernel_rfl
theorem aM8 : xy_ Tryz.prog 102 = .cell := by kernel_rfl
theorem aM9 : Tryz.prog.cellsOf 102 = 1 := by kernel_rfl
theorem aN0 : xj_ Tryz.prog 102 = some [.nilfn] := by kernel_rfl
theorem aN1 : xo_ Tryz.prog 102 = true := by kernel_rfl
theorem aN2 : yd_ Tryz.prog 102 = true := by kernel_rfl
theorem aN3 : xi_ Tryz.prog 102 = 0 := by kernel_rfl
theorem aN4 : xy_ Tryz.prog 103 = .cell := by kernel_rfl
theorem aN5 : Tryz.prog.cellsOf 103 = 1 := by kernel_rfl
theorem aN6 : xj_ Tryz.prog 103 = some [.nilfn] := by kernel_rfl
theorem aN7 : xo_ Tryz.prog 103 = true := by kernel_rfl
theorem aN8 : yd_ Tryz.prog 103 = true := by kernel_rfl
theorem aN9 : xi_ Tryz.prog 103 = 0 := by kernel_rfl
theorem aO0 : xy_ Tryz.prog 104 = .cell := by kernel_rfl
theorem aO1 : Tryz.prog.cellsOf 104 = 1 := by kernel_rfl
theorem aO2 : xj_ Tryz.prog 104 = some [.nilfn] := by kernel_rfl
theorem aO3 : xo_ Tryz.prog 104 = true := by kernel_rfl
theorem aO4 : yd_ Tryz.prog 104 = true := by kernel_rfl
theorem aO5 : xi_ Tryz.prog 104 = 0 := by kernel_rfl
theorem aO6 : xy_ Tryz.prog 105 = .cell := by kernel_rfl
theorem aO7 : Tryz.prog.cellsOf 105 = 1 := by kernel_rfl
theorem aO8 : xj_ Tryz.prog 105 = some [.nilfn] := by kernel_rfl
theorem aO9 : xo_ Tryz.prog 105 = true := by kernel_rfl
theorem aP0 : yd_ Tryz.prog 105 = true := by kernel_rfl
theorem aP1 : xi_ Tryz.prog 105 = 0 := by kernel_rfl
theorem aP2 : xy_ Tryz.prog 106 = .cell := by kernel_rfl
theorem aP3 : Tryz.prog.cellsOf 106 = 1 := by kernel_rfl
theorem aP4 : xj_ Tryz.prog 106 = some [.nilfn] := by kernel_rfl
theorem aP5 : xo_ Tryz.prog 106 = true := by kernel_rfl
theorem aP6 : yd_ Tryz.prog 106 = true := by kernel_rfl
theorem aP7 : xi_ Tryz.prog 106 = 0 := by kernel_rfl
theorem aP8 : xy_ Tryz.prog 107 = .cell := by kernel_rfl
theorem aP9 : Tryz.prog.cellsOf 107 = 1 := by kernel_rfl
theorem aQ0 : xj_ Tryz.prog 107 = some [.nilfn] := by kernel_rfl
theorem aQ1 : xo_ Tryz.prog 107 = true := by kernel_rfl
theorem aQ2 : yd_ Tryz.prog 107 = true := by kernel_rfl
theorem aQ3 : xi_ Tryz.prog 107 = 0 := by kernel_rfl
theorem aQ4 : xy_ Tryz.prog 108 = .cell := by kernel_rfl
theorem aQ5 : Tryz.prog.cellsOf 108 = 1 := by kernel_rfl
theorem aQ6 : xj_ Tryz.prog 108 = some [.nilfn] := by kernel_rfl
theorem aQ7 : xo_ Tryz.prog 108 = true := by kernel_rfl
theorem aQ8 : yd_ Tryz.prog 108 = true := by kernel_rfl
theorem aQ9 : xi_ Tryz.prog 108 = 0 := by kernel_rfl
theorem aR0 : xy_ Tryz.prog 109 = .cell := by kernel_rfl
theorem aR1 : Tryz.prog.cellsOf 109 = 1 := by kernel_rfl
theorem aR2 : xj_ Tryz.prog 109 = some [.nilfn] := by kernel_rfl
theorem aR3 : xo_ Tryz.prog 109 = true := by kernel_rfl
theorem aR4 : yd_ Tryz.prog 109 = true := by kernel_rfl
theorem aR5 : xi_ Tryz.prog 109 = 0 := by kernel_rfl
theorem aR6 : xy_ Tryz.prog 110 = .cell := by kernel_rfl
theorem aR7 : Tryz.prog.cellsOf 110 = 1 := by kernel_rfl
theorem aR8 : xj_ Tryz.prog 110 = some [.nilfn] := by kernel_rfl
theorem aR9 : xo_ Tryz.prog 110 = true := by kernel_rfl
theorem aS0 : yd_ Tryz.prog 110 = true := by kernel_rfl
theorem aS1 : xi_ Tryz.prog 110 = 0 := by kernel_rfl
theorem aS2 : xy_ Tryz.prog 111 = .cell := by kernel_rfl
theorem aS3 : Tryz.prog.cellsOf 111 = 1 := by kernel_rfl
theorem aS4 : xj_ Tryz.prog 111 = some [.nilfn] := by kernel_rfl
theorem aS5 : xo_ Tryz.prog 111 = true := by kernel_rfl
theorem aS6 : yd_ Tryz.prog 111 = true := by kernel_rfl
theorem aS7 : xi_ Tryz.prog 111 = 0 := by kernel_rfl
theorem aS8 : xy_ Tryz.prog 112 = .cell := by kernel_rfl
theorem aS9 : Tryz.prog.cellsOf 112 = 1 := by kernel_rfl
theorem aT0 : xj_ Tryz.prog 112 = some [.nilfn] := by kernel_rfl
theorem aT1 : xo_ Tryz.prog 112 = true := by kernel_rfl
theorem aT2 : yd_ Tryz.prog 112 = true := by kernel_rfl
theorem aT3 : xi_ Tryz.prog 112 = 0 := by kernel_rfl
theorem aT4 : xy_ Tryz.prog 113 = .cell := by kernel_rfl
theorem aT5 : Tryz.prog.cellsOf 113 = 1 := by kernel_rfl
theorem aT6 : xj_ Tryz.prog 113 = some [.nilfn] := by kernel_rfl
theorem aT7 : xo_ Tryz.prog 113 = true := by kernel_rfl
theorem aT8 : yd_ Tryz.prog 113 = true := by kernel_rfl
theorem aT9 : xi_ Tryz.prog 113 = 0 := by kernel_rfl
theorem aU0 : xy_ Tryz.prog 115 = .cell := by kernel_rfl
theorem aU1 : Tryz.prog.cellsOf 115 = 1 := by kernel_rfl
theorem aU2 : xj_ Tryz.prog 115 = some [.nilfn] := by kernel_rfl
theorem aU3 : xo_ Tryz.prog 115 = true := by kernel_rfl
theorem aU4 : yd_ Tryz.prog 115 = true := by kernel_rfl
theorem aU5 : xi_ Tryz.prog 115 = 0 := by kernel_rfl
theorem aU6 : xy_ Tryz.prog 116 = .cell := by kernel_rfl
theorem aU7 : Tryz.prog.cellsOf 116 = 1 := by kernel_rfl
theorem aU8 : xj_ Tryz.prog 116 = some [.nilfn] := by kernel_rfl
theorem aU9 : xo_ Tryz.prog 116 = true := by kernel_rfl
theorem aV0 : yd_ Tryz.prog 116 = true := by kernel_rfl
theorem aV1 : xi_ Tryz.prog 116 = 0 := by kernel_rfl
theorem aV2 : xy_ Tryz.prog 117 = .cell := by kernel_rfl
theorem aV3 : Tryz.prog.cellsOf 117 = 1 := by kernel_rfl
theorem aV4 : xj_ Tryz.prog 117 = some [.nilfn] := by kernel_rfl
theorem aV5 : xo_ Tryz.prog 117 = true := by kernel_rfl
theorem aV6 : yd_ Tryz.prog 117 = true := by kernel_rfl
theorem aV7 : xi_ Tryz.prog 117 = 0 := by kernel_rfl
theorem aV8 : xy_ Tryz.prog 118 = .cell := by kernel_rfl
theorem aV9 : Tryz.prog.cellsOf 118 = 1 := by kernel_rfl
theorem aW0 : xj_ Tryz.prog 118 = some [.nilfn] := by kernel_rfl
theorem aW1 : xo_ Tryz.prog 118 = true := by kernel_rfl
theorem aW2 : yd_ Tryz.prog 118 = true := by kernel_rfl
theorem aW3 : xi_ Tryz.prog 118 = 0 := by kernel_rfl
theorem aW4 : xy_ Tryz.prog 119 = .cell := by kernel_rfl
theorem aW5 : Tryz.prog.cellsOf 119 = 1 := by kernel_rfl
theorem aW6 : xj_ Tryz.prog 119 = some [.nilfn] := by kernel_rfl
theorem aW7 : xo_ Tryz.prog 119 = true := by kernel_rfl
theorem aW8 : yd_ Tryz.prog 119 = true := by kernel_rfl
theorem aW9 : xi_ Tryz.prog 119 = 0 := by kernel_rfl
theorem aX0 : xy_ Tryz.prog 120 = .cell := by kernel_rfl
theorem aX1 : Tryz.prog.cellsOf 120 = 1 := by kernel_rfl
theorem aX2 : xj_ Tryz.prog 120 = some [.nilfn] := by kernel_rfl
theorem aX3 : xo_ Tryz.prog 120 = true := by kernel_rfl
theorem aX4 : yd_ Tryz.prog 120 = true := by kernel_rfl
theorem aX5 : xi_ Tryz.prog 120 = 0 := by kernel_rfl
theorem aX6 : xy_ Tryz.prog 121 = .cell := by kernel_rfl
theorem aX7 : Tryz.prog.cellsOf 121 = 1 := by kernel_rfl
theorem aX8 : xj_ Tryz.prog 121 = some [.nilfn] := by kernel_rfl
theorem aX9 : xo_ Tryz.prog 121 = true := by kernel_rfl
theorem aY0 : yd_ Tryz.prog 121 = true := by kernel_rfl
theorem aY1 : xi_ Tryz.prog 121 = 0 := by kernel_rfl
theorem aY2 : xy_ Tryz.prog 122 = .cell := by kernel_rfl
theorem aY3 : Tryz.prog.cellsOf 122 = 1 := by kernel_rfl
theorem aY4 : xj_ Tryz.prog 122 = some [.nilfn] := by kernel_rfl
theorem aY5 : xo_ Tryz.prog 122 = true := by kernel_rfl
theorem aY6 : yd_ Tryz.prog 122 = true := by kernel_rfl
theorem aY7 : xi_ Tryz.prog 122 = 0 := by kernel_rfl
theorem aY8 : xy_ Tryz.prog 123 = .cell := by kernel_rfl
theorem aY9 : Tryz.prog.cellsOf 123 = 1 := by kernel_rfl
theorem aZ0 : xj_ Tryz.prog 123 = some [.nilfn] := by kernel_rfl
theorem aZ1 : xo_ Tryz.prog 123 = true := by kernel_rfl
theorem aZ2 : yd_ Tryz.prog 123 = true := by kernel_rfl
theorem aZ3 : xi_ Tryz.prog 123 = 0 := by kernel_rfl
theorem aZ4 : xy_ Tryz.prog 124 = .cell := by kernel_rfl
theorem aZ5 : Tryz.prog.cellsOf 124 = 1 := by kernel_rfl
theorem aZ6 : xj_ Tryz.prog 124 = some [.nilfn] := by kernel_rfl
theorem aZ7 : xo_ Tryz.prog 124 = true := by kernel_rfl
theorem aZ8 : yd_ Tryz.prog 124 = true := by kernel_rfl
theorem aZ9 : xi_ Tryz.prog 124 = 0 := by kernel_rfl
theorem ba0 : xy_ Tryz.prog 125 = .st [(0, 1), (1, 1), (2, 1), (3, 1)] 4 := by kernel_rfl
theorem ba1 : Tryz.prog.cellsOf 125 = 4 := by kernel_rfl
theorem ba2 : Uh_ Tryz.prog 125 = some [(0, 1), (1, 1), (2, 1), (3, 1)] := by kernel_rfl
theorem ba3 : xj_ Tryz.prog 125 = some [.junk, .junk, .junk, .str ByteArray.empty] := by kernel_rfl
theorem ba4 : xy_ Tryz.prog 128 = .st [(0, 0)] 0 := by kernel_rfl
theorem ba5 : Tryz.prog.cellsOf 128 = 0 := by kernel_rfl
theorem ba6 : xj_ Tryz.prog 128 = some [] := by kernel_rfl
theorem ba7 : xy_ Tryz.prog 130 = .cell := by kernel_rfl
theorem ba8 : Tryz.prog.cellsOf 130 = 1 := by kernel_rfl
theorem ba9 : xj_ Tryz.prog 130 = some [.nilfn] := by kernel_rfl
theorem bb4 : xo_ Tryz.prog 130 = true := by kernel_rfl
theorem bb5 : yd_ Tryz.prog 130 = true := by kernel_rfl
theorem bb6 : xi_ Tryz.prog 130 = 0 := by kernel_rfl
theorem bb7 : xy_ Tryz.prog 131 = .ik .u32 := by kernel_rfl
theorem bb8 : Tryz.prog.cellsOf 131 = 1 := by kernel_rfl
theorem bb9 : xj_ Tryz.prog 131 = some [.ik .u32 0] := by kernel_rfl
theorem bc4 : xo_ Tryz.prog 131 = true := by kernel_rfl
theorem bc5 : yd_ Tryz.prog 131 = true := by kernel_rfl
theorem bc6 : xi_ Tryz.prog 131 = 0 := by kernel_rfl
theorem bc7 : xy_ Tryz.prog 134 = .cell := by kernel_rfl
theorem bc8 : Tryz.prog.cellsOf 134 = 1 := by kernel_rfl
theorem bc9 : xj_ Tryz.prog 134 = some [.nilfn] := by kernel_rfl
theorem bd0 : xo_ Tryz.prog 134 = true := by kernel_rfl
theorem bd1 : yd_ Tryz.prog 134 = true := by kernel_rfl
theorem bd2 : xi_ Tryz.prog 134 = 0 := by kernel_rfl
theorem bd3 : xy_ Tryz.prog 135 = .cell := by kernel_rfl
theorem bd4 : Tryz.prog.cellsOf 135 = 1 := by kernel_rfl
theorem bd5 : xj_ Tryz.prog 135 = some [.junk] := by kernel_rfl
theorem bd6 : xo_ Tryz.prog 135 = true := by kernel_rfl
theorem bd7 : yd_ Tryz.prog 135 = true := by kernel_rfl
theorem bd8 : xi_ Tryz.prog 135 = 0 := by kernel_rfl
theorem bd9 : xy_ Tryz.prog 138 = .st [(0, 1), (1, 1), (2, 1), (3, 1), (4, 1), (5, 1), (6, 1), (7, 1), (8, 1), (9, 1), (10, 1)] 11 := by kernel_rfl
theorem be0 : Tryz.prog.cellsOf 138 = 11 := by kernel_rfl
theorem be1 : Uh_ Tryz.prog 138 = some [(0, 1), (1, 1), (2, 1), (3, 1), (4, 1), (5, 1), (6, 1), (7, 1), (8, 1), (9, 1), (10, 1)] := by kernel_rfl
theorem be3 : xj_ Tryz.prog 138 = some [.ik .u64 0, .ik .u64 0, .ik .u32 0, .ik .u8 0, .ik .u8 0, .ik .u8 0, .ik .u8 0, .nilfn, .junk, .ik .i32 0, .ik .i32 0] := by kernel_rfl
attribute [go_sem] tk1 ck1 za1 oe1 mk1 ek1 tk2 ck2 za2 oe2 mk2 ek2 tk3 ck3 za3 oe3 mk3 ek3 tk4 ck4 za4 oe4 mk4 ek4 tk5 ck5 za5 oe5 mk5 ek5 tk7 ck7 bs7 za7 tk9 ck9 za9 oe9 mk9 ek9 bh6 bh7 bh8 bh9 bi0 bi1 bi2 bi3 bi4 bi5 bi6 bi7 bi8 bi9 bj0 bj1 bj2 bj3 bj4 bj5 bj6 bj7 bj8 bj9 bk0 bk3 bk4 bk5 bk6 bk7 bk8 bk9 bl0 bl1 bl2 bl3 bl4 bl5 bl6 bl7 bl8 bl9 bm0 bm1 bm2 bm3 bm4 bm5 bm6 bm7 bm8 bm9 bn0 bn1 bn2 bn3 bn4 bn5 bn6 bn7 mk25 bn8 bn9 bo0 bo1 bo2 bo3 bo4 bo5 bo6 bo7 bo8 bo9 bp0 bp2 bp3 bp4 bp5 bp6 bp7 bp8 bp9 bq0 bq1 bq2 bq3 bq4 bq5 bq6 bq7 bq8 bq9 br0 br3 br4 br5 br6 br7 br8 br9 bs0 bs2 bs3 bs4 bs5 bs6 bs8 bs9 bt0 bt3 bt4 bt5 bt6 bt7 bt8 bt9 bu0 bu1 bu2 bu3 bu4 bu5 bu6 bu7 bu8 bu9 bv0 bv1 bv2 bv3 bv4 bv5 bv6 bv7 bv8 bv9 bw0 bw1 bw2 bw3 bw4 bw5 bw6 bw7 bw8 bw9 bx0 bx2 bx3 bx4 bx5 bx6 bx7 bx8 bx9 by0 by1 by2 by3 by4 by5 by6 by7 by9 bz0 bz1 bz2 bz3 bz4 bz5 bz6 bz7 bz8 bz9 bA0 bA1 bA2 bA3 bA4 bA5 bA6 bA7 bA8 bA9 bB0 bB1 bB2 bB3 bB4 bB5 bB6 bB7 bB8 bB9 bC0 bC1 bC2 bC3 bC4 bC5 bC6 bC7 bC8 bC9 bD0 bD1 bD2 bD3 bD4 bD5 bD6 bD7 bD8 bD9 bE0 bE1 bE2 bE3 bE4 bE5 bE6 bE7 bE8 bE9 bF0 bF1 bF2 bF3 bF4 bF5 bF6 bF7 bF8 bF9 bG0 bG1 bG2 bG3 bG4 bG5 bG6 bG7 bG8 bG9 bH0 bH1 bH2 bH3 bH4 bH5 bH6 bH7 bH8 bH9 bI0 bI1 bI2 bI3 bI4 bI5 bI6 bI7 bI8 bI9 bJ0 bJ1 bJ2 bJ3 bJ4 bJ5 bJ6 bJ7 bJ8 bJ9 bK0 bK1 bK2 bK3 bK4 bK5 bK6 bK7 bK8 bK9 bL0 bL1 bL2 bL3 bL4 bL5 bL6 bL7 bL8 bL9 bM0 bM1 bM2 bM3 bM4 bM5 bM6 bM7 bM8 bM9 bN0 bN1 bN2 bN3 bN4 bN5 bN6 bN7 bN8 bN9 bO0 bO1 bO2 bO3 bO4 bO5 bO6 bO7 bO8 bO9 bP2 bP3 bP4 bP5 bP6 bP7 bP8 bP9 bQ0 bQ1 bQ2 bQ3 bQ4 bQ5 bQ6 bQ7 bQ8 bQ9 bR0 bR1 bR2 bR3 bR4 bR5 bR6 bR7 bR8 bR9 bS0 bS1 bS2 bS3 bS4 bS5 bS6 bS7 bS8 bS9 bT0 bT1 bT2 bT3 bT4 bT5 bT6 bT7 bT8 bT9 bU0 bU1 bU2 bU3 bU4 bU5 bU6 bU7 bU8 bU9 bV0 bV1 bV2 bV3 bV4 bV5 bV6 bV7 bV8 bV9 bW0 bW1 bW2 bW3 bW4 bW5 bW6 bW7 bW8 bW9 bX0 bX1 bX2 bX3 bX4 bX5 bX6 bX7 bX8 bX9 bY0 bY2 bY3 bY4 bY5 bY6 bY7 bY8 bY9 bZ0 bZ1 bZ2 bZ3 bZ4 bZ5 bZ6 bZ7 bZ8 bZ9 ca0 ca1 ca2 ca3 ca4 ca5 ca6 ca7 ca8 ca9 cb0 cb1 cb2 cb3 cb4 cb5 cb6 cb7 cb8 cb9 cc0 cc1 cc2 cc3 cc4 cc5 cc6 cc7 cc8 cc9 cd0 aL6 aL7 aL8 aL9 aM0 aM1 aM2 aM3 aM4 aM5 aM6 aM7 aM8 aM9 aN0 aN1 aN2 aN3 aN4 aN5 aN6 aN7 aN8 aN9 aO0 aO1 aO2 aO3 aO4 aO5 aO6 aO7 aO8 aO9 aP0 aP1 aP2 aP3 aP4 aP5 aP6 aP7 aP8 aP9 aQ0 aQ1 aQ2 aQ3 aQ4 aQ5 aQ6 aQ7 aQ8 aQ9 aR0 aR1 aR2 aR3 aR4 aR5 aR6 aR7 aR8 aR9 aS0 aS1 aS2 aS3 aS4 aS5 aS6 aS7 aS8 aS9 aT0 aT1 aT2 aT3 aT4 aT5 aT6 aT7 aT8 aT9 aU0 aU1 aU2 aU3 aU4 aU5 aU6 aU7 aU8 aU9 aV0 aV1 aV2 aV3 aV4 aV5 aV6 aV7 aV8 aV9 aW0 aW1 aW2 aW3 aW4 aW5 aW6 aW7 aW8 aW9 aX0 aX1 aX2 aX3 aX4 aX5 aX6 aX7 aX8 aX9 aY0 aY1 aY2 aY3 aY4 aY5 aY6 aY7 aY8 aY9 aZ0 aZ1 aZ2 aZ3 aZ4 aZ5 aZ6 aZ7 aZ8 aZ9 ba0 ba1 ba2 ba3 ba4 ba5 ba6 ba7 ba8 ba9 bb4 bb5 bb6 bb7 bb8 bb9 bc4 bc5 bc6 bc7 bc8 bc9 bd0 bd1 bd2 bd3 bd4 bd5 bd6 bd7 bd8 bd9 be0 be1 be3
end Go.Proofs.YtjbdiekkjegckaaGreat
