import Derived.Test.YtlngnhbochmcoaaLib3
import Derived.Test.YtlngnhbochmcoaaRows
import Derived.KernelRfl
set_option linter.unusedSimpArgs false
namespace Go.Proofs.Ytlngnhbochmcoaa
open Go Go.Aw
theorem tk1 : xz_ Try.prog 1 = .cell := by kernel_rfl
theorem ck1 : Try.prog.cellsOf 1 = 1 := by kernel_rfl
theorem za1 : xk_ Try.prog 1 = some [.nilfn] := by kernel_rfl
theorem oe1 : xv_ Try.prog 1 = true := by kernel_rfl
theorem mk1 : yt_ Try.prog 1 = true := by kernel_rfl
theorem ek1 : xj_ Try.prog 1 = 0 := by kernel_rfl
theorem tk2 : xz_ Try.prog 2 = .int := by kernel_rfl
theorem ck2 : Try.prog.cellsOf 2 = 1 := by kernel_rfl
theorem za2 : xk_ Try.prog 2 = some [.int 0] := by kernel_rfl
theorem oe2 : xv_ Try.prog 2 = true := by kernel_rfl
theorem mk2 : yt_ Try.prog 2 = true := by kernel_rfl
theorem ek2 : xj_ Try.prog 2 = 1 := by kernel_rfl
theorem tk3 : xz_ Try.prog 3 = .int := by kernel_rfl
theorem ck3 : Try.prog.cellsOf 3 = 1 := by kernel_rfl
theorem za3 : xk_ Try.prog 3 = some [.int 0] := by kernel_rfl
theorem oe3 : xv_ Try.prog 3 = true := by kernel_rfl
theorem mk3 : yt_ Try.prog 3 = true := by kernel_rfl
theorem ek3 : xj_ Try.prog 3 = 1 := by kernel_rfl
theorem tk4 : xz_ Try.prog 4 = .bool := by kernel_rfl
theorem ck4 : Try.prog.cellsOf 4 = 1 := by kernel_rfl
theorem za4 : xk_ Try.prog 4 = some [.bool false] := by kernel_rfl
theorem oe4 : xv_ Try.prog 4 = true := by kernel_rfl
theorem mk4 : yt_ Try.prog 4 = true := by kernel_rfl
theorem ek4 : xj_ Try.prog 4 = 0 := by kernel_rfl
theorem tk5 : xz_ Try.prog 5 = .ik .u8 := by kernel_rfl
theorem ck5 : Try.prog.cellsOf 5 = 1 := by kernel_rfl
theorem za5 : xk_ Try.prog 5 = some [.ik .u8 0] := by kernel_rfl
theorem oe5 : xv_ Try.prog 5 = true := by kernel_rfl
theorem mk5 : yt_ Try.prog 5 = true := by kernel_rfl
theorem ek5 : xj_ Try.prog 5 = 0 := by kernel_rfl
theorem tk7 : xz_ Try.prog 7 = .st [(0, 1), (1, 1), (2, 1), (3, 1)] 4 := by kernel_rfl
theorem ck7 : Try.prog.cellsOf 7 = 4 := by kernel_rfl
theorem bs7 : Jc_ Try.prog 7 = some [(0, 1), (1, 1), (2, 1), (3, 1)] := by kernel_rfl
theorem za7 : xk_ Try.prog 7 = some [.int 0, .int 0, .bool false, .ik .u8 0] := by kernel_rfl
theorem tk9 : xz_ Try.prog 9 = .str := by kernel_rfl
theorem ck9 : Try.prog.cellsOf 9 = 1 := by kernel_rfl
theorem za9 : xk_ Try.prog 9 = some [.str ByteArray.empty] := by kernel_rfl
theorem oe9 : xv_ Try.prog 9 = true := by kernel_rfl
theorem mk9 : yt_ Try.prog 9 = true := by kernel_rfl
theorem ek9 : xj_ Try.prog 9 = 0 := by kernel_rfl
theorem bj9 : xz_ Try.prog 12 = .ik .u64 := by kernel_rfl
theorem bk0 : Try.prog.cellsOf 12 = 1 := by kernel_rfl
theorem bk3 : xk_ Try.prog 12 = some [.ik .u64 0] := by kernel_rfl
theorem bk4 : xv_ Try.prog 12 = true := by kernel_rfl
theorem bk5 : yt_ Try.prog 12 = true := by kernel_rfl
theorem bk6 : xj_ Try.prog 12 = 0 := by kernel_rfl
theorem bk7 : xz_ Try.prog 13 = .st [(0, 1), (1, 1)] 2 := by kernel_rfl
theorem bk8 : Try.prog.cellsOf 13 = 2 := by kernel_rfl
theorem bk9 : Jc_ Try.prog 13 = some [(0, 1), (1, 1)] := by kernel_rfl
theorem bl0 : xk_ Try.prog 13 = some [.str ByteArray.empty, .ik .u64 0] := by kernel_rfl
theorem bl1 : xz_ Try.prog 15 = .cell := by kernel_rfl
theorem bl2 : Try.prog.cellsOf 15 = 1 := by kernel_rfl
theorem bl3 : xk_ Try.prog 15 = some [.junk] := by kernel_rfl
theorem bl4 : xv_ Try.prog 15 = true := by kernel_rfl
theorem bl5 : yt_ Try.prog 15 = true := by kernel_rfl
theorem bl6 : xj_ Try.prog 15 = 0 := by kernel_rfl
theorem bl7 : xz_ Try.prog 16 = .cell := by kernel_rfl
theorem bl8 : Try.prog.cellsOf 16 = 1 := by kernel_rfl
theorem bl9 : xk_ Try.prog 16 = some [.junk] := by kernel_rfl
theorem bm0 : xv_ Try.prog 16 = true := by kernel_rfl
theorem bm1 : yt_ Try.prog 16 = true := by kernel_rfl
theorem bm2 : xj_ Try.prog 16 = 0 := by kernel_rfl
theorem bm3 : xz_ Try.prog 17 = .cell := by kernel_rfl
theorem bm4 : Try.prog.cellsOf 17 = 1 := by kernel_rfl
theorem bm5 : xk_ Try.prog 17 = some [.junk] := by kernel_rfl
theorem bm6 : xv_ Try.prog 17 = true := by kernel_rfl
theorem bm7 : yt_ Try.prog 17 = true := by kernel_rfl
theorem bm8 : xj_ Try.prog 17 = 0 := by kernel_rfl
theorem bm9 : xz_ Try.prog 18 = .st [(0, 1)] 1 := by kernel_rfl
theorem bn0 : Try.prog.cellsOf 18 = 1 := by kernel_rfl
theorem bn1 : Jc_ Try.prog 18 = some [(0, 1)] := by kernel_rfl
theorem bn2 : xk_ Try.prog 18 = some [.junk] := by kernel_rfl
theorem bn3 : xz_ Try.prog 21 = .ik .i32 := by kernel_rfl
theorem bn4 : Try.prog.cellsOf 21 = 1 := by kernel_rfl
theorem bn5 : xk_ Try.prog 21 = some [.ik .i32 0] := by kernel_rfl
theorem bn6 : xv_ Try.prog 21 = true := by kernel_rfl
theorem bn7 : yt_ Try.prog 21 = true := by kernel_rfl
theorem bn8 : xj_ Try.prog 21 = 0 := by kernel_rfl
theorem bn9 : xz_ Try.prog 22 = .sl 34 := by kernel_rfl
theorem bi2 : Try.prog.cellsOf 22 = 1 := by kernel_rfl
theorem bo0 : xk_ Try.prog 22 = some [.nil] := by kernel_rfl
theorem bo1 : xv_ Try.prog 22 = true := by kernel_rfl
theorem bo2 : yt_ Try.prog 22 = true := by kernel_rfl
theorem bo3 : xj_ Try.prog 22 = 0 := by kernel_rfl
theorem bo4 : xz_ Try.prog 23 = .st [(0, 1)] 1 := by kernel_rfl
theorem bo5 : Try.prog.cellsOf 23 = 1 := by kernel_rfl
theorem bo6 : Jc_ Try.prog 23 = some [(0, 1)] := by kernel_rfl
theorem bo7 : xk_ Try.prog 23 = some [.nil] := by kernel_rfl
theorem bo8 : xz_ Try.prog 24 = .st [(0, 1)] 1 := by kernel_rfl
theorem bi3 : Try.prog.cellsOf 24 = 1 := by kernel_rfl
theorem bo9 : Jc_ Try.prog 24 = some [(0, 1)] := by kernel_rfl
theorem bp0 : xk_ Try.prog 24 = some [.nil] := by kernel_rfl
theorem bp1 : xz_ Try.prog 25 = .cell := by kernel_rfl
theorem bp2 : Try.prog.cellsOf 25 = 1 := by kernel_rfl
theorem bp3 : xk_ Try.prog 25 = some [.nilfn] := by kernel_rfl
theorem bp4 : xv_ Try.prog 25 = true := by kernel_rfl
theorem mk25 : yt_ Try.prog 25 = true := by kernel_rfl
theorem bp5 : xj_ Try.prog 25 = 0 := by kernel_rfl
theorem bp6 : xz_ Try.prog 27 = .cell := by kernel_rfl
theorem bp7 : Try.prog.cellsOf 27 = 1 := by kernel_rfl
theorem bp8 : xk_ Try.prog 27 = some [.nilfn] := by kernel_rfl
theorem bp9 : xv_ Try.prog 27 = true := by kernel_rfl
theorem bq0 : yt_ Try.prog 27 = true := by kernel_rfl
theorem bq1 : xj_ Try.prog 27 = 0 := by kernel_rfl
theorem bq2 : xz_ Try.prog 28 = .st [(0, 1)] 1 := by kernel_rfl
theorem bq3 : Try.prog.cellsOf 28 = 1 := by kernel_rfl
theorem bq4 : Jc_ Try.prog 28 = some [(0, 1)] := by kernel_rfl
theorem bq5 : xk_ Try.prog 28 = some [.nil] := by kernel_rfl
theorem bq6 : xz_ Try.prog 29 = .cell := by kernel_rfl
theorem bq7 : Try.prog.cellsOf 29 = 1 := by kernel_rfl
theorem bq8 : xk_ Try.prog 29 = some [.nilfn] := by kernel_rfl
theorem bq9 : xv_ Try.prog 29 = true := by kernel_rfl
theorem br0 : yt_ Try.prog 29 = true := by kernel_rfl
theorem br1 : xj_ Try.prog 29 = 0 := by kernel_rfl
theorem br2 : xz_ Try.prog 30 = .cell := by kernel_rfl
theorem br3 : Try.prog.cellsOf 30 = 1 := by kernel_rfl
theorem br4 : xk_ Try.prog 30 = some [.nilfn] := by kernel_rfl
theorem br5 : xv_ Try.prog 30 = true := by kernel_rfl
theorem br6 : yt_ Try.prog 30 = true := by kernel_rfl
theorem br7 : xj_ Try.prog 30 = 0 := by kernel_rfl
theorem br8 : xz_ Try.prog 31 = .cell := by kernel_rfl
theorem br9 : Try.prog.cellsOf 31 = 1 := by kernel_rfl
theorem bs0 : xk_ Try.prog 31 = some [.nilfn] := by kernel_rfl
theorem bs1 : xv_ Try.prog 31 = true := by kernel_rfl
theorem bs2 : yt_ Try.prog 31 = true := by kernel_rfl
theorem bs3 : xj_ Try.prog 31 = 0 := by kernel_rfl
theorem bs4 : xz_ Try.prog 32 = .cell := by kernel_rfl
theorem bs5 : Try.prog.cellsOf 32 = 1 := by kernel_rfl
theorem bs6 : xk_ Try.prog 32 = some [.nilfn] := by kernel_rfl
theorem bs8 : xv_ Try.prog 32 = true := by kernel_rfl
theorem bs9 : yt_ Try.prog 32 = true := by kernel_rfl
theorem bt0 : xj_ Try.prog 32 = 0 := by kernel_rfl
theorem bt1 : xz_ Try.prog 33 = .cell := by kernel_rfl
theorem bt2 : Try.prog.cellsOf 33 = 1 := by kernel_rfl
theorem bt3 : xk_ Try.prog 33 = some [.nilfn] := by kernel_rfl
theorem bt4 : xv_ Try.prog 33 = true := by kernel_rfl
theorem bt5 : yt_ Try.prog 33 = true := by kernel_rfl
theorem bt6 : xj_ Try.prog 33 = 0 := by kernel_rfl
theorem bt7 : xz_ Try.prog 34 = .sl 42 := by kernel_rfl
theorem bi4 : Try.prog.cellsOf 34 = 1 := by kernel_rfl
theorem bt8 : xk_ Try.prog 34 = some [.nil] := by kernel_rfl
theorem bt9 : xv_ Try.prog 34 = true := by kernel_rfl
theorem bu0 : yt_ Try.prog 34 = true := by kernel_rfl
theorem bu1 : xj_ Try.prog 34 = 3 := by kernel_rfl
theorem bu2 : xz_ Try.prog 35 = .cell := by kernel_rfl
theorem bu3 : Try.prog.cellsOf 35 = 1 := by kernel_rfl
theorem bu4 : xk_ Try.prog 35 = some [.nilfn] := by kernel_rfl
theorem bu5 : xv_ Try.prog 35 = true := by kernel_rfl
theorem bu6 : yt_ Try.prog 35 = true := by kernel_rfl
theorem bu7 : xj_ Try.prog 35 = 0 := by kernel_rfl
theorem bu8 : xz_ Try.prog 36 = .cell := by kernel_rfl
theorem bu9 : Try.prog.cellsOf 36 = 1 := by kernel_rfl
theorem bv0 : xk_ Try.prog 36 = some [.nilfn] := by kernel_rfl
theorem bv1 : xv_ Try.prog 36 = true := by kernel_rfl
theorem bv2 : yt_ Try.prog 36 = true := by kernel_rfl
theorem bv3 : xj_ Try.prog 36 = 0 := by kernel_rfl
theorem bv4 : xz_ Try.prog 38 = .cell := by kernel_rfl
theorem bv5 : Try.prog.cellsOf 38 = 1 := by kernel_rfl
theorem bv6 : xk_ Try.prog 38 = some [.nilfn] := by kernel_rfl
theorem bv7 : xv_ Try.prog 38 = true := by kernel_rfl
theorem bv8 : yt_ Try.prog 38 = true := by kernel_rfl
theorem bv9 : xj_ Try.prog 38 = 0 := by kernel_rfl
theorem bw0 : xz_ Try.prog 39 = .cell := by kernel_rfl
theorem bw1 : Try.prog.cellsOf 39 = 1 := by kernel_rfl
theorem bw2 : xk_ Try.prog 39 = some [.nilfn] := by kernel_rfl
theorem bw3 : xv_ Try.prog 39 = true := by kernel_rfl
theorem bw4 : yt_ Try.prog 39 = true := by kernel_rfl
theorem bw5 : xj_ Try.prog 39 = 0 := by kernel_rfl
theorem bw6 : xz_ Try.prog 40 = .cell := by kernel_rfl
theorem bw7 : Try.prog.cellsOf 40 = 1 := by kernel_rfl
theorem bw8 : xk_ Try.prog 40 = some [.nilfn] := by kernel_rfl
theorem bw9 : xv_ Try.prog 40 = true := by kernel_rfl
theorem bx0 : yt_ Try.prog 40 = true := by kernel_rfl
theorem bx1 : xj_ Try.prog 40 = 0 := by kernel_rfl
theorem bx2 : xz_ Try.prog 41 = .cell := by kernel_rfl
theorem bx3 : Try.prog.cellsOf 41 = 1 := by kernel_rfl
theorem bx4 : xk_ Try.prog 41 = some [.nilfn] := by kernel_rfl
theorem bx5 : xv_ Try.prog 41 = true := by kernel_rfl
theorem bx6 : yt_ Try.prog 41 = true := by kernel_rfl
theorem bx7 : xj_ Try.prog 41 = 0 := by kernel_rfl
theorem bx8 : xz_ Try.prog 42 = .sl 2 := by kernel_rfl
theorem bi5 : Try.prog.cellsOf 42 = 1 := by kernel_rfl
theorem bx9 : xk_ Try.prog 42 = some [.nil] := by kernel_rfl
theorem by0 : xv_ Try.prog 42 = true := by kernel_rfl
theorem by1 : yt_ Try.prog 42 = true := by kernel_rfl
theorem by2 : xj_ Try.prog 42 = 2 := by kernel_rfl
theorem by3 : xz_ Try.prog 43 = .cell := by kernel_rfl
theorem by4 : Try.prog.cellsOf 43 = 1 := by kernel_rfl
theorem by5 : xk_ Try.prog 43 = some [.nilfn] := by kernel_rfl
theorem by6 : xv_ Try.prog 43 = true := by kernel_rfl
theorem by7 : yt_ Try.prog 43 = true := by kernel_rfl
theorem by9 : xj_ Try.prog 43 = 0 := by kernel_rfl
theorem bz0 : xz_ Try.prog 44 = .cell := by kernel_rfl
theorem bz1 : Try.prog.cellsOf 44 = 1 := by kernel_rfl
theorem bz2 : xk_ Try.prog 44 = some [.nilfn] := by kernel_rfl
theorem bz3 : xv_ Try.prog 44 = true := by kernel_rfl
theorem bz4 : yt_ Try.prog 44 = true := by kernel_rfl
theorem bz5 : xj_ Try.prog 44 = 0 := by kernel_rfl
theorem bz6 : xz_ Try.prog 45 = .cell := by kernel_rfl
theorem bz7 : Try.prog.cellsOf 45 = 1 := by kernel_rfl
theorem bz8 : xk_ Try.prog 45 = some [.nilfn] := by kernel_rfl
theorem bz9 : xv_ Try.prog 45 = true := by kernel_rfl
theorem bA0 : yt_ Try.prog 45 = true := by kernel_rfl
theorem bA1 : xj_ Try.prog 45 = 0 := by kernel_rfl
theorem bA2 : xz_ Try.prog 46 = .cell := by kernel_rfl
theorem bA3 : Try.prog.cellsOf 46 = 1 := by kernel_rfl
theorem bA4 : xk_ Try.prog 46 = some [.nilfn] := by kernel_rfl
theorem bA5 : xv_ Try.prog 46 = true := by kernel_rfl
theorem bA6 : yt_ Try.prog 46 = true := by kernel_rfl
theorem bA7 : xj_ Try.prog 46 = 0 := by kernel_rfl
theorem bA8 : xz_ Try.prog 47 = .cell := by kernel_rfl
theorem bA9 : Try.prog.cellsOf 47 = 1 := by kernel_rfl
theorem bB0 : xk_ Try.prog 47 = some [.nilfn] := by kernel_rfl
theorem bB1 : xv_ Try.prog 47 = true := by kernel_rfl
theorem bB2 : yt_ Try.prog 47 = true := by kernel_rfl
theorem bB3 : xj_ Try.prog 47 = 0 := by kernel_rfl
theorem bB4 : xz_ Try.prog 48 = .cell := by kernel_rfl
theorem bB5 : Try.prog.cellsOf 48 = 1 := by kernel_rfl
theorem bB6 : xk_ Try.prog 48 = some [.nilfn] := by kernel_rfl
theorem bB7 : xv_ Try.prog 48 = true := by kernel_rfl
theorem bB8 : yt_ Try.prog 48 = true := by kernel_rfl
theorem bB9 : xj_ Try.prog 48 = 0 := by kernel_rfl
theorem bC0 : xz_ Try.prog 49 = .cell := by kernel_rfl
theorem bC1 : Try.prog.cellsOf 49 = 1 := by kernel_rfl
theorem bC2 : xk_ Try.prog 49 = some [.nilfn] := by kernel_rfl
theorem bC3 : xv_ Try.prog 49 = true := by kernel_rfl
theorem bC4 : yt_ Try.prog 49 = true := by kernel_rfl
theorem bC5 : xj_ Try.prog 49 = 0 := by kernel_rfl
theorem bC6 : xz_ Try.prog 50 = .cell := by kernel_rfl
theorem bC7 : Try.prog.cellsOf 50 = 1 := by kernel_rfl
theorem bC8 : xk_ Try.prog 50 = some [.nilfn] := by kernel_rfl
theorem bC9 : xv_ Try.prog 50 = true := by kernel_rfl
theorem bD0 : yt_ Try.prog 50 = true := by kernel_rfl
theorem bD1 : xj_ Try.prog 50 = 0 := by kernel_rfl
theorem bD2 : xz_ Try.prog 51 = .cell := by kernel_rfl
theorem bD3 : Try.prog.cellsOf 51 = 1 := by kernel_rfl
theorem bD4 : xk_ Try.prog 51 = some [.nilfn] := by kernel_rfl
theorem bD5 : xv_ Try.prog 51 = true := by kernel_rfl
theorem bD6 : yt_ Try.prog 51 = true := by kernel_rfl
theorem bD7 : xj_ Try.prog 51 = 0 := by kernel_rfl
theorem bD8 : xz_ Try.prog 52 = .cell := by kernel_rfl
theorem bD9 : Try.prog.cellsOf 52 = 1 := by kernel_rfl
theorem bE0 : xk_ Try.prog 52 = some [.nilfn] := by kernel_rfl
theorem bE1 : xv_ Try.prog 52 = true := by kernel_rfl
theorem bE2 : yt_ Try.prog 52 = true := by kernel_rfl
theorem bE3 : xj_ Try.prog 52 = 0 := by kernel_rfl
theorem bE4 : xz_ Try.prog 53 = .cell := by kernel_rfl
theorem bE5 : Try.prog.cellsOf 53 = 1 := by kernel_rfl
theorem bE6 : xk_ Try.prog 53 = some [.nilfn] := by kernel_rfl
theorem bE7 : xv_ Try.prog 53 = true := by kernel_rfl
theorem bE8 : yt_ Try.prog 53 = true := by kernel_rfl
theorem bE9 : xj_ Try.prog 53 = 0 := by kernel_rfl
theorem bF0 : xz_ Try.prog 54 = .cell := by kernel_rfl
theorem bF1 : Try.prog.cellsOf 54 = 1 := by kernel_rfl
theorem bF2 : xk_ Try.prog 54 = some [.nilfn] := by kernel_rfl
theorem bF3 : xv_ Try.prog 54 = true := by kernel_rfl
theorem bF4 : yt_ Try.prog 54 = true := by kernel_rfl
theorem bF5 : xj_ Try.prog 54 = 0 := by kernel_rfl
theorem bF6 : xz_ Try.prog 55 = .cell := by kernel_rfl
theorem bF7 : Try.prog.cellsOf 55 = 1 := by kernel_rfl
theorem bF8 : xk_ Try.prog 55 = some [.nilfn] := by kernel_rfl
theorem bF9 : xv_ Try.prog 55 = true := by kernel_rfl
theorem bG0 : yt_ Try.prog 55 = true := by kernel_rfl
theorem bG1 : xj_ Try.prog 55 = 0 := by kernel_rfl
theorem bG2 : xz_ Try.prog 56 = .cell := by kernel_rfl
theorem bG3 : Try.prog.cellsOf 56 = 1 := by kernel_rfl
theorem bG4 : xk_ Try.prog 56 = some [.nilfn] := by kernel_rfl
theorem bG5 : xv_ Try.prog 56 = true := by kernel_rfl
theorem bG6 : yt_ Try.prog 56 = true := by kernel_rfl
theorem bG7 : xj_ Try.prog 56 = 0 := by kernel_rfl
theorem bG8 : xz_ Try.prog 57 = .cell := by kernel_rfl
theorem bG9 : Try.prog.cellsOf 57 = 1 := by kernel_rfl
theorem bH0 : xk_ Try.prog 57 = some [.nilfn] := by kernel_rfl
theorem bH1 : xv_ Try.prog 57 = true := by kernel_rfl
theorem bH2 : yt_ Try.prog 57 = true := by kernel_rfl
theorem bH3 : xj_ Try.prog 57 = 0 := by kernel_rfl
theorem bH4 : xz_ Try.prog 58 = .cell := by kernel_rfl
theorem bH5 : Try.prog.cellsOf 58 = 1 := by kernel_rfl
theorem bH6 : xk_ Try.prog 58 = some [.nilfn] := by kernel_rfl
theorem bH7 : xv_ Try.prog 58 = true := by kernel_rfl
theorem bH8 : yt_ Try.prog 58 = true := by kernel_rfl
theorem bH9 : xj_ Try.prog 58 = 0 := by kernel_rfl
theorem bI0 : xz_ Try.prog 59 = .cell := by kernel_rfl
theorem bI1 : Try.prog.cellsOf 59 = 1 := by kernel_rfl
theorem bI2 : xk_ Try.prog 59 = some [.nilfn] := by kernel_rfl
theorem bI3 : xv_ Try.prog 59 = true := by kernel_rfl
theorem bI4 : yt_ Try.prog 59 = true := by kernel_rfl
theorem bI5 : xj_ Try.prog 59 = 0 := by kernel_rfl
theorem bI6 : xz_ Try.prog 60 = .cell := by kernel_rfl
theorem bI7 : Try.prog.cellsOf 60 = 1 := by kernel_rfl
theorem bI8 : xk_ Try.prog 60 = some [.nilfn] := by kernel_rfl
theorem bI9 : xv_ Try.prog 60 = true := by kernel_rfl
theorem bJ0 : yt_ Try.prog 60 = true := by kernel_rfl
theorem bJ1 : xj_ Try.prog 60 = 0 := by kernel_rfl
theorem bJ2 : xz_ Try.prog 61 = .cell := by kernel_rfl
theorem bJ3 : Try.prog.cellsOf 61 = 1 := by kernel_rfl
theorem bJ4 : xk_ Try.prog 61 = some [.nilfn] := by kernel_rfl
theorem bJ5 : xv_ Try.prog 61 = true := by kernel_rfl
theorem bJ6 : yt_ Try.prog 61 = true := by kernel_rfl
theorem bJ7 : xj_ Try.prog 61 = 0 := by kernel_rfl
theorem bJ8 : xz_ Try.prog 62 = .cell := by kernel_rfl
theorem bJ9 : Try.prog.cellsOf 62 = 1 := by kernel_rfl
theorem bK0 : xk_ Try.prog 62 = some [.nilfn] := by kernel_rfl
theorem bK1 : xv_ Try.prog 62 = true := by kernel_rfl
theorem bK2 : yt_ Try.prog 62 = true := by kernel_rfl
theorem bK3 : xj_ Try.prog 62 = 0 := by kernel_rfl
theorem bK4 : xz_ Try.prog 63 = .cell := by kernel_rfl
theorem bK5 : Try.prog.cellsOf 63 = 1 := by kernel_rfl
theorem bK6 : xk_ Try.prog 63 = some [.nilfn] := by kernel_rfl
theorem bK7 : xv_ Try.prog 63 = true := by kernel_rfl
theorem bK8 : yt_ Try.prog 63 = true := by kernel_rfl
theorem bK9 : xj_ Try.prog 63 = 0 := by kernel_rfl
theorem bL0 : xz_ Try.prog 64 = .cell := by kernel_rfl
theorem bL1 : Try.prog.cellsOf 64 = 1 := by kernel_rfl
theorem bL2 : xk_ Try.prog 64 = some [.nilfn] := by kernel_rfl
theorem bL3 : xv_ Try.prog 64 = true := by kernel_rfl
theorem bL4 : yt_ Try.prog 64 = true := by kernel_rfl
theorem bL5 : xj_ Try.prog 64 = 0 := by kernel_rfl
theorem bL6 : xz_ Try.prog 65 = .cell := by kernel_rfl
theorem bL7 : Try.prog.cellsOf 65 = 1 := by kernel_rfl
theorem bL8 : xk_ Try.prog 65 = some [.nilfn] := by kernel_rfl
theorem bL9 : xv_ Try.prog 65 = true := by kernel_rfl
theorem bM0 : yt_ Try.prog 65 = true := by kernel_rfl
theorem bM1 : xj_ Try.prog 65 = 0 := by kernel_rfl
theorem bM2 : xz_ Try.prog 66 = .cell := by kernel_rfl
theorem bM3 : Try.prog.cellsOf 66 = 1 := by kernel_rfl
theorem bM4 : xk_ Try.prog 66 = some [.nilfn] := by kernel_rfl
theorem bM5 : xv_ Try.prog 66 = true := by kernel_rfl
theorem bM6 : yt_ Try.prog 66 = true := by kernel_rfl
theorem bM7 : xj_ Try.prog 66 = 0 := by kernel_rfl
theorem bM8 : xz_ Try.prog 67 = .cell := by kernel_rfl
theorem bM9 : Try.prog.cellsOf 67 = 1 := by kernel_rfl
theorem bN0 : xk_ Try.prog 67 = some [.nilfn] := by kernel_rfl
theorem bN1 : xv_ Try.prog 67 = true := by kernel_rfl
theorem bN2 : yt_ Try.prog 67 = true := by kernel_rfl
theorem bN3 : xj_ Try.prog 67 = 0 := by kernel_rfl
theorem bN4 : xz_ Try.prog 68 = .cell := by kernel_rfl
theorem bN5 : Try.prog.cellsOf 68 = 1 := by kernel_rfl
theorem bN6 : xk_ Try.prog 68 = some [.nilfn] := by kernel_rfl
theorem bN7 : xv_ Try.prog 68 = true := by kernel_rfl
theorem bN8 : yt_ Try.prog 68 = true := by kernel_rfl
theorem bN9 : xj_ Try.prog 68 = 0 := by kernel_rfl
theorem bO0 : xz_ Try.prog 69 = .cell := by kernel_rfl
theorem bO1 : Try.prog.cellsOf 69 = 1 := by kernel_rfl
theorem bO2 : xk_ Try.prog 69 = some [.nilfn] := by kernel_rfl
theorem bO3 : xv_ Try.prog 69 = true := by kernel_rfl
theorem bO4 : yt_ Try.prog 69 = true := by kernel_rfl
theorem bO5 : xj_ Try.prog 69 = 0 := by kernel_rfl
theorem bO6 : xz_ Try.prog 70 = .cell := by kernel_rfl
theorem bO7 : Try.prog.cellsOf 70 = 1 := by kernel_rfl
theorem bO8 : xk_ Try.prog 70 = some [.nilfn] := by kernel_rfl
theorem bO9 : xv_ Try.prog 70 = true := by kernel_rfl
theorem bP0 : yt_ Try.prog 70 = true := by kernel_rfl
theorem bP1 : xj_ Try.prog 70 = 0 := by kernel_rfl
theorem bP2 : xz_ Try.prog 71 = .cell := by kernel_rfl
theorem bP3 : Try.prog.cellsOf 71 = 1 := by kernel_rfl
theorem bP4 : xk_ Try.prog 71 = some [.nilfn] := by kernel_rfl
theorem bP5 : xv_ Try.prog 71 = true := by kernel_rfl
theorem bP6 : yt_ Try.prog 71 = true := by kernel_rfl
theorem bP7 : xj_ Try.prog 71 = 0 := by kernel_rfl
theorem bP8 : xz_ Try.prog 72 = .cell := by kernel_rfl
theorem bP9 : Try.prog.cellsOf 72 = 1 := by kernel_rfl
theorem bQ0 : xk_ Try.prog 72 = some [.nilfn] := by kernel_rfl
theorem bQ1 : xv_ Try.prog 72 = true := by kernel_rfl
theorem bQ2 : yt_ Try.prog 72 = true := by kernel_rfl
theorem bQ3 : xj_ Try.prog 72 = 0 := by kernel_rfl
theorem bQ4 : xz_ Try.prog 73 = .cell := by kernel_rfl
theorem bQ5 : Try.prog.cellsOf 73 = 1 := by kernel_rfl
theorem bQ6 : xk_ Try.prog 73 = some [.nilfn] := by kernel_rfl
theorem bQ7 : xv_ Try.prog 73 = true := by kernel_rfl
theorem bQ8 : yt_ Try.prog 73 = true := by kernel_rfl
theorem bQ9 : xj_ Try.prog 73 = 0 := by kernel_rfl
theorem bR0 : xz_ Try.prog 74 = .cell := by kernel_rfl
theorem bR1 : Try.prog.cellsOf 74 = 1 := by kernel_rfl
theorem bR2 : xk_ Try.prog 74 = some [.nilfn] := by kernel_rfl
theorem bR3 : xv_ Try.prog 74 = true := by kernel_rfl
theorem bR4 : yt_ Try.prog 74 = true := by kernel_rfl
theorem bR5 : xj_ Try.prog 74 = 0 := by kernel_rfl
theorem bR6 : xz_ Try.prog 75 = .cell := by kernel_rfl
theorem bR7 : Try.prog.cellsOf 75 = 1 := by kernel_rfl
theorem bR8 : xk_ Try.prog 75 = some [.nilfn] := by kernel_rfl
theorem bR9 : xv_ Try.prog 75 = true := by kernel_rfl
theorem bS0 : yt_ Try.prog 75 = true := by kernel_rfl
theorem bS1 : xj_ Try.prog 75 = 0 := by kernel_rfl
theorem bS2 : xz_ Try.prog 76 = .cell := by kernel_rfl
theorem bS3 : Try.prog.cellsOf 76 = 1 := by kernel_rfl
theorem bS4 : xk_ Try.prog 76 = some [.nilfn] := by kernel_rfl
theorem bS5 : xv_ Try.prog 76 = true := by kernel_rfl
theorem bS6 : yt_ Try.prog 76 = true := by kernel_rfl
theorem bS7 : xj_ Try.prog 76 = 0 := by kernel_rfl
theorem bS8 : xz_ Try.prog 77 = .cell := by kernel_rfl
theorem bS9 : Try.prog.cellsOf 77 = 1 := by kernel_rfl
theorem bT0 : xk_ Try.prog 77 = some [.nilfn] := by kernel_rfl
theorem bT1 : xv_ Try.prog 77 = true := by kernel_rfl
theorem bT2 : yt_ Try.prog 77 = true := by kernel_rfl
theorem bT3 : xj_ Try.prog 77 = 0 := by kernel_rfl
theorem bT4 : xz_ Try.prog 78 = .cell := by kernel_rfl
theorem bT5 : Try.prog.cellsOf 78 = 1 := by kernel_rfl
theorem bT6 : xk_ Try.prog 78 = some [.nilfn] := by kernel_rfl
theorem bT7 : xv_ Try.prog 78 = true := by kernel_rfl
theorem bT8 : yt_ Try.prog 78 = true := by kernel_rfl
theorem bT9 : xj_ Try.prog 78 = 0 := by kernel_rfl
theorem bU0 : xz_ Try.prog 79 = .cell := by kernel_rfl
theorem bU1 : Try.prog.cellsOf 79 = 1 := by kernel_rfl
theorem bU2 : xk_ Try.prog 79 = some [.nilfn] := by kernel_rfl
theorem bU3 : xv_ Try.prog 79 = true := by kernel_rfl
theorem bU4 : yt_ Try.prog 79 = true := by kernel_rfl
theorem bU5 : xj_ Try.prog 79 = 0 := by kernel_rfl
theorem bU6 : xz_ Try.prog 80 = .cell := by kernel_rfl
theorem bU7 : Try.prog.cellsOf 80 = 1 := by kernel_rfl
theorem bU8 : xk_ Try.prog 80 = some [.nilfn] := by kernel_rfl
theorem bU9 : xv_ Try.prog 80 = true := by kernel_rfl
theorem bV0 : yt_ Try.prog 80 = true := by kernel_rfl
theorem bV1 : xj_ Try.prog 80 = 0 := by kernel_rfl
theorem bV2 : xz_ Try.prog 81 = .cell := by kernel_rfl
theorem bV3 : Try.prog.cellsOf 81 = 1 := by kernel_rfl
theorem bV4 : xk_ Try.prog 81 = some [.nilfn] := by kernel_rfl
theorem bV5 : xv_ Try.prog 81 = true := by kernel_rfl
theorem bV6 : yt_ Try.prog 81 = true := by kernel_rfl
theorem bV7 : xj_ Try.prog 81 = 0 := by kernel_rfl
theorem bV8 : xz_ Try.prog 82 = .cell := by kernel_rfl
theorem bV9 : Try.prog.cellsOf 82 = 1 := by kernel_rfl
theorem bW0 : xk_ Try.prog 82 = some [.nilfn] := by kernel_rfl
theorem bW1 : xv_ Try.prog 82 = true := by kernel_rfl
theorem bW2 : yt_ Try.prog 82 = true := by kernel_rfl
theorem bW3 : xj_ Try.prog 82 = 0 := by kernel_rfl
theorem bW4 : xz_ Try.prog 83 = .cell := by kernel_rfl
theorem bW5 : Try.prog.cellsOf 83 = 1 := by kernel_rfl
theorem bW6 : xk_ Try.prog 83 = some [.nilfn] := by kernel_rfl
theorem bW7 : xv_ Try.prog 83 = true := by kernel_rfl
theorem bW8 : yt_ Try.prog 83 = true := by kernel_rfl
theorem bW9 : xj_ Try.prog 83 = 0 := by kernel_rfl
theorem bX0 : xz_ Try.prog 84 = .cell := by kernel_rfl
theorem bX1 : Try.prog.cellsOf 84 = 1 := by kernel_rfl
theorem bX2 : xk_ Try.prog 84 = some [.nilfn] := by kernel_rfl
theorem bX3 : xv_ Try.prog 84 = true := by kernel_rfl
theorem bX4 : yt_ Try.prog 84 = true := by kernel_rfl
theorem bX5 : xj_ Try.prog 84 = 0 := by kernel_rfl
theorem bX6 : xz_ Try.prog 86 = .cell := by kernel_rfl
theorem bX7 : Try.prog.cellsOf 86 = 1 := by kernel_rfl
theorem bX8 : xk_ Try.prog 86 = some [.nilfn] := by kernel_rfl
theorem bX9 : xv_ Try.prog 86 = true := by kernel_rfl
theorem bY0 : yt_ Try.prog 86 = true := by kernel_rfl
theorem bY1 : xj_ Try.prog 86 = 0 := by kernel_rfl
theorem bY2 : xz_ Try.prog 87 = .cell := by kernel_rfl
theorem bY3 : Try.prog.cellsOf 87 = 1 := by kernel_rfl
theorem bY4 : xk_ Try.prog 87 = some [.nilfn] := by kernel_rfl
theorem bY5 : xv_ Try.prog 87 = true := by kernel_rfl
theorem bY6 : yt_ Try.prog 87 = true := by kernel_rfl
theorem bY7 : xj_ Try.prog 87 = 0 := by kernel_rfl
theorem bY8 : xz_ Try.prog 88 = .cell := by kernel_rfl
theorem bY9 : Try.prog.cellsOf 88 = 1 := by kernel_rfl
theorem bZ0 : xk_ Try.prog 88 = some [.nilfn] := by kernel_rfl
theorem bZ1 : xv_ Try.prog 88 = true := by kernel_rfl
theorem bZ2 : yt_ Try.prog 88 = true := by kernel_rfl
theorem bZ3 : xj_ Try.prog 88 = 0 := by kernel_rfl
theorem bZ4 : xz_ Try.prog 89 = .cell := by kernel_rfl
theorem bZ5 : Try.prog.cellsOf 89 = 1 := by kernel_rfl
theorem bZ6 : xk_ Try.prog 89 = some [.nilfn] := by kernel_rfl
theorem bZ7 : xv_ Try.prog 89 = true := by kernel_rfl
theorem bZ8 : yt_ Try.prog 89 = true := by kernel_rfl
theorem bZ9 : xj_ Try.prog 89 = 0 := by kernel_rfl
theorem ca0 : xz_ Try.prog 90 = .sl 3 := by kernel_rfl
theorem ca1 : Try.prog.cellsOf 90 = 1 := by kernel_rfl
theorem ca2 : xk_ Try.prog 90 = some [.nil] := by kernel_rfl
theorem ca3 : xv_ Try.prog 90 = true := by kernel_rfl
theorem ca4 : yt_ Try.prog 90 = true := by kernel_rfl
theorem ca5 : xj_ Try.prog 90 = 2 := by kernel_rfl
theorem ca6 : xz_ Try.prog 91 = .cell := by kernel_rfl
theorem ca7 : Try.prog.cellsOf 91 = 1 := by kernel_rfl
theorem ca8 : xk_ Try.prog 91 = some [.nilfn] := by kernel_rfl
theorem ca9 : xv_ Try.prog 91 = true := by kernel_rfl
theorem cb0 : yt_ Try.prog 91 = true := by kernel_rfl
theorem cb1 : xj_ Try.prog 91 = 0 := by kernel_rfl
theorem cb2 : xz_ Try.prog 92 = .cell := by kernel_rfl
theorem cb3 : Try.prog.cellsOf 92 = 1 := by kernel_rfl
theorem cb4 : xk_ Try.prog 92 = some [.nilfn] := by kernel_rfl
theorem cb5 : xv_ Try.prog 92 = true := by kernel_rfl
theorem cb6 : yt_ Try.prog 92 = true := by kernel_rfl
theorem cb7 : xj_ Try.prog 92 = 0 := by kernel_rfl
theorem cb8 : xz_ Try.prog 93 = .cell := by kernel_rfl
theorem cb9 : Try.prog.cellsOf 93 = 1 := by kernel_rfl
theorem cc0 : xk_ Try.prog 93 = some [.nilfn] := by kernel_rfl
theorem cc1 : xv_ Try.prog 93 = true := by kernel_rfl
theorem cc2 : yt_ Try.prog 93 = true := by kernel_rfl
theorem cc3 : xj_ Try.prog 93 = 0 := by kernel_rfl
theorem cc4 : xz_ Try.prog 94 = .cell := by kernel_rfl
theorem cc5 : Try.prog.cellsOf 94 = 1 := by kernel_rfl
theorem cc6 : xk_ Try.prog 94 = some [.nilfn] := by kernel_rfl
theorem cc7 : xv_ Try.prog 94 = true := by kernel_rfl
theorem cc8 : yt_ Try.prog 94 = true := by kernel_rfl
theorem cc9 : xj_ Try.prog 94 = 0 := by kernel_rfl
theorem cd0 : xz_ Try.prog 95 = .cell := by kernel_rfl
theorem cd1 : Try.prog.cellsOf 95 = 1 := by kernel_rfl
theorem cd2 : xk_ Try.prog 95 = some [.nilfn] := by kernel_rfl
theorem cd3 : xv_ Try.prog 95 = true := by kernel_rfl
theorem cd4 : yt_ Try.prog 95 = true := by kernel_rfl
theorem cd5 : xj_ Try.prog 95 = 0 := by kernel_rfl
theorem cd6 : xz_ Try.prog 96 = .st [(0, 1), (1, 1), (2, 1), (3, 1)] 4 := by kernel_rfl
theorem cd7 : Try.prog.cellsOf 96 = 4 := by kernel_rfl
theorem cd8 : Jc_ Try.prog 96 = some [(0, 1), (1, 1), (2, 1), (3, 1)] := by kernel_rfl
theorem cd9 : xk_ Try.prog 96 = some [.junk, .junk, .junk, .str ByteArray.empty] := by kernel_rfl
theorem ce0 : xz_ Try.prog 99 = .st [(0, 0)] 0 := by kernel_rfl
theorem ce1 : Try.prog.cellsOf 99 = 0 := by kernel_rfl
theorem ce2 : Jc_ Try.prog 99 = some [(0, 0)] := by kernel_rfl
theorem ce3 : xk_ Try.prog 99 = some [] := by kernel_rfl
theorem ba3 : xz_ Try.prog 101 = .ik .u32 := by kernel_rfl
theorem ba4 : Try.prog.cellsOf 101 = 1 := by kernel_rfl
theorem ba5 : xk_ Try.prog 101 = some [.ik .u32 0] := by kernel_rfl
theorem ba6 : xv_ Try.prog 101 = true := by kernel_rfl
theorem ba7 : yt_ Try.prog 101 = true := by kernel_rfl
theorem ba8 : xj_ Try.prog 101 = 0 := by kernel_rfl
theorem ba9 : xz_ Try.prog 104 = .cell := by kernel_rfl
theorem bb4 : Try.prog.cellsOf 104 = 1 := by kernel_rfl
theorem bb5 : xk_ Try.prog 104 = some [.nilfn] := by kernel_rfl
theorem bb6 : xv_ Try.prog 104 = true := by kernel_rfl
theorem bb7 : yt_ Try.prog 104 = true := by kernel_rfl
theorem bb8 : xj_ Try.prog 104 = 0 := by kernel_rfl
theorem bb9 : xz_ Try.prog 105 = .cell := by kernel_rfl
theorem bc4 : Try.prog.cellsOf 105 = 1 := by kernel_rfl
theorem bc5 : xk_ Try.prog 105 = some [.junk] := by kernel_rfl
theorem bc6 : xv_ Try.prog 105 = true := by kernel_rfl
theorem bc7 : yt_ Try.prog 105 = true := by kernel_rfl
theorem bc8 : xj_ Try.prog 105 = 0 := by kernel_rfl
theorem bc9 : xz_ Try.prog 108 = .st [(0, 1), (1, 1), (2, 1), (3, 1), (4, 1), (5, 1), (6, 1), (7, 1), (8, 1), (9, 1), (10, 1)] 11 := by kernel_rfl
theorem bd0 : Try.prog.cellsOf 108 = 11 := by kernel_rfl
theorem bd1 : Jc_ Try.prog 108 = some [(0, 1), (1, 1), (2, 1), (3, 1), (4, 1), (5, 1), (6, 1), (7, 1), (8, 1), (9, 1), (10, 1)] := by kernel_rfl
theorem bd3 : xk_ Try.prog 108 = some [.ik .u64 0, .ik .u64 0, .ik .u32 0, .ik .u8 0, .ik .u8 0, .ik .u8 0, .ik .u8 0, .nilfn, .junk, .ik .i32 0, .ik .i32 0] := by kernel_rfl
theorem bd4 : xz_ Try.prog 110 = .cell := by kernel_rfl
theorem bd5 : Try.prog.cellsOf 110 = 1 := by kernel_rfl
theorem bd6 : xk_ Try.prog 110 = some [.nilfn] := by kernel_rfl
theorem bd7 : xv_ Try.prog 110 = true := by kernel_rfl
theorem bd8 : yt_ Try.prog 110 = true := by kernel_rfl
theorem bd9 : xj_ Try.prog 110 = 0 := by kernel_rfl
attribute [go_sem] tk1 ck1 za1 oe1 mk1 ek1 tk2 ck2 za2 oe2 mk2 ek2 tk3 ck3 za3 oe3 mk3 ek3 tk4 ck4 za4 oe4 mk4 ek4 tk5 ck5 za5 oe5 mk5 ek5 tk7 ck7 bs7 za7 tk9 ck9 za9 oe9 mk9 ek9 bj9 bk0 bk3 bk4 bk5 bk6 bk7 bk8 bk9 bl0 bl1 bl2 bl3 bl4 bl5 bl6 bl7 bl8 bl9 bm0 bm1 bm2 bm3 bm4 bm5 bm6 bm7 bm8 bm9 bn0 bn1 bn2 bn3 bn4 bn5 bn6 bn7 bn8 bn9 bi2 bo0 bo1 bo2 bo3 bo4 bo5 bo6 bo7 bo8 bi3 bo9 bp0 bp1 bp2 bp3 bp4 mk25 bp5 bp6 bp7 bp8 bp9 bq0 bq1 bq2 bq3 bq4 bq5 bq6 bq7 bq8 bq9 br0 br1 br2 br3 br4 br5 br6 br7 br8 br9 bs0 bs1 bs2 bs3 bs4 bs5 bs6 bs8 bs9 bt0 bt1 bt2 bt3 bt4 bt5 bt6 bt7 bi4 bt8 bt9 bu0 bu1 bu2 bu3 bu4 bu5 bu6 bu7 bu8 bu9 bv0 bv1 bv2 bv3 bv4 bv5 bv6 bv7 bv8 bv9 bw0 bw1 bw2 bw3 bw4 bw5 bw6 bw7 bw8 bw9 bx0 bx1 bx2 bx3 bx4 bx5 bx6 bx7 bx8 bi5 bx9 by0 by1 by2 by3 by4 by5 by6 by7 by9 bz0 bz1 bz2 bz3 bz4 bz5 bz6 bz7 bz8 bz9 bA0 bA1 bA2 bA3 bA4 bA5 bA6 bA7 bA8 bA9 bB0 bB1 bB2 bB3 bB4 bB5 bB6 bB7 bB8 bB9 bC0 bC1 bC2 bC3 bC4 bC5 bC6 bC7 bC8 bC9 bD0 bD1 bD2 bD3 bD4 bD5 bD6 bD7 bD8 bD9 bE0 bE1 bE2 bE3 bE4 bE5 bE6 bE7 bE8 bE9 bF0 bF1 bF2 bF3 bF4 bF5 bF6 bF7 bF8 bF9 bG0 bG1 bG2 bG3 bG4 bG5 bG6 bG7 bG8 bG9 bH0 bH1 bH2 bH3 bH4 bH5 bH6 bH7 bH8 bH9 bI0 bI1 bI2 bI3 bI4 bI5 bI6 bI7 bI8 bI9 bJ0 bJ1 bJ2 bJ3 bJ4 bJ5 bJ6 bJ7 bJ8 bJ9 bK0 bK1 bK2 bK3 bK4 bK5 bK6 bK7 bK8 bK9 bL0 bL1 bL2 bL3 bL4 bL5 bL6 bL7 bL8 bL9 bM0 bM1 bM2 bM3 bM4 bM5 bM6 bM7 bM8 bM9 bN0 bN1 bN2 bN3 bN4 bN5 bN6 bN7 bN8 bN9 bO0 bO1 bO2 bO3 bO4 bO5 bO6 bO7 bO8 bO9 bP0 bP1 bP2 bP3 bP4 bP5 bP6 bP7 bP8 bP9 bQ0 bQ1 bQ2 bQ3 bQ4 bQ5 bQ6 bQ7 bQ8 bQ9 bR0 bR1 bR2 bR3 bR4 bR5 bR6 bR7 bR8 bR9 bS0 bS1 bS2 bS3 bS4 bS5 bS6 bS7 bS8 bS9 bT0 bT1 bT2 bT3 bT4 bT5 bT6 bT7 bT8 bT9 bU0 bU1 bU2 bU3 bU4 bU5 bU6 bU7 bU8 bU9 bV0 bV1 bV2 bV3 bV4 bV5 bV6 bV7 bV8 bV9 bW0 bW1 bW2 bW3 bW4 bW5 bW6 bW7 bW8 bW9 bX0 bX1 bX2 bX3 bX4 bX5 bX6 bX7 bX8 bX9 bY0 bY1 bY2 bY3 bY4 bY5 bY6 bY7 bY8 bY9 bZ0 bZ1 bZ2 bZ3 bZ4 bZ5 bZ6 bZ7 bZ8 bZ9 ca0 ca1 ca2 ca3 ca4 ca5 ca6 ca7 ca8 ca9 cb0 cb1 cb2 cb3 cb4 cb5 cb6 cb7 cb8 cb9 cc0 cc1 cc2 cc3 cc4 cc5 cc6 cc7 cc8 cc9 cd0 cd1 cd2 cd3 cd4 cd5 cd6 cd7 cd8 cd9 ce0 ce1 ce2 ce3 ba3 ba4 ba5 ba6 ba7 ba8 ba9 bb4 bb5 bb6 bb7 bb8 bb9 bc4 bc5 bc6 bc7 bc8 bc9 bd0 bd1 bd3 bd4 bd5 bd6 bd7 bd8 bd9
end Go.Proofs.Ytlngnhbochmcoaa
