/- The types and functions of this seat's program, as instances of the walk's classes; each is a closed fact that the kernel reckons. -/
import Derived.Test.YtebhkghgifiahaaW9
import Derived.Test.YtebhkghgifiahaaProg
import Derived.KernelRfl
namespace Go.Proofs.Ytebhkghgifiahaa
open Go

-- 1 
instance : Ty Try.prog 1 false 1 8 (.nilFunc) [.nilFunc] := ⟨by kernel_rfl, by kernel_rfl, rfl, rfl⟩
-- 2 int64
instance : Ty Try.prog 2 false 1 8 (.int .i64 0) [.int .i64 0] := ⟨by kernel_rfl, by kernel_rfl, rfl, rfl⟩
-- 3 int
instance : Ty Try.prog 3 false 1 8 (.int .i64 0) [.int .i64 0] := ⟨by kernel_rfl, by kernel_rfl, rfl, rfl⟩
-- 4 bool
instance : Ty Try.prog 4 false 1 1 (.bool false) [.bool false] := ⟨by kernel_rfl, by kernel_rfl, rfl, rfl⟩
-- 5 uint8
instance : Ty Try.prog 5 false 1 1 (.int .u8 0) [.int .u8 0] := ⟨by kernel_rfl, by kernel_rfl, rfl, rfl⟩
-- 7 struct { x int64; y int; signed bool; code abi.BoundsErrorCode }
instance : Ty Try.prog 7 true 4 24 (.agg #[.int .i64 0, .int .i64 0, .bool false, .int .u8 0]) [.int .i64 0, .int .i64 0, .bool false, .int .u8 0] := ⟨by kernel_rfl, by kernel_rfl, rfl, rfl⟩
instance : FieldTy Try.prog 7 0 0 2 0 := ⟨by kernel_rfl, by kernel_rfl⟩
instance : FieldTy Try.prog 7 1 1 3 0 := ⟨by kernel_rfl, by kernel_rfl⟩
instance : FieldTy Try.prog 7 2 2 4 0 := ⟨by kernel_rfl, by kernel_rfl⟩
instance : FieldTy Try.prog 7 3 3 6 0 := ⟨by kernel_rfl, by kernel_rfl⟩
instance : BuildTy Try.prog 7 [(0, 1), (1, 1), (2, 1), (3, 1)] [.int .i64 0, .int .i64 0, .bool false, .int .u8 0] := ⟨fun parts => by kernel_rfl⟩
-- 9 string
instance : Ty Try.prog 9 false 1 16 (.string ByteArray.empty) [.string ByteArray.empty] := ⟨by kernel_rfl, by kernel_rfl, rfl, rfl⟩
-- 12 uintptr
instance : Ty Try.prog 12 false 1 8 (.int .u64 0) [.int .u64 0] := ⟨by kernel_rfl, by kernel_rfl, rfl, rfl⟩
-- 13 struct { msg string; addr uintptr }
instance : Ty Try.prog 13 true 2 24 (.agg #[.string ByteArray.empty, .int .u64 0]) [.string ByteArray.empty, .int .u64 0] := ⟨by kernel_rfl, by kernel_rfl, rfl, rfl⟩
instance : FieldTy Try.prog 13 0 0 9 0 := ⟨by kernel_rfl, by kernel_rfl⟩
instance : FieldTy Try.prog 13 1 1 12 0 := ⟨by kernel_rfl, by kernel_rfl⟩
instance : BuildTy Try.prog 13 [(0, 1), (1, 1)] [.string ByteArray.empty, .int .u64 0] := ⟨fun parts => by kernel_rfl⟩
-- 18 struct { typ *abi.Type }
instance : Ty Try.prog 18 true 1 8 (.agg #[.pointer none]) [.pointer none] := ⟨by kernel_rfl, by kernel_rfl, rfl, rfl⟩
instance : FieldTy Try.prog 18 0 0 17 0 := ⟨by kernel_rfl, by kernel_rfl⟩
instance : BuildTy Try.prog 18 [(0, 1)] [.pointer none] := ⟨fun parts => by kernel_rfl⟩
-- 20 
instance : Ty Try.prog 20 false 1 16 (.nilIface) [.nilIface] := ⟨by kernel_rfl, by kernel_rfl, rfl, rfl⟩
-- 21 int32
instance : Ty Try.prog 21 false 1 4 (.int .i32 0) [.int .i32 0] := ⟨by kernel_rfl, by kernel_rfl, rfl, rfl⟩
-- 22 struct { Sets int; Games int; NoAd bool; Tie int; To int; LastTie int; LastTo int; First int; Then int; Doubles bool }
instance : Ty Try.prog 22 true 10 80 (.agg #[.int .i64 0, .int .i64 0, .bool false, .int .i64 0, .int .i64 0, .int .i64 0, .int .i64 0, .int .i64 0, .int .i64 0, .bool false]) [.int .i64 0, .int .i64 0, .bool false, .int .i64 0, .int .i64 0, .int .i64 0, .int .i64 0, .int .i64 0, .int .i64 0, .bool false] := ⟨by kernel_rfl, by kernel_rfl, rfl, rfl⟩
instance : FieldTy Try.prog 22 0 0 3 0 := ⟨by kernel_rfl, by kernel_rfl⟩
instance : FieldTy Try.prog 22 1 1 3 0 := ⟨by kernel_rfl, by kernel_rfl⟩
instance : FieldTy Try.prog 22 2 2 4 0 := ⟨by kernel_rfl, by kernel_rfl⟩
instance : FieldTy Try.prog 22 3 3 3 0 := ⟨by kernel_rfl, by kernel_rfl⟩
instance : FieldTy Try.prog 22 4 4 3 0 := ⟨by kernel_rfl, by kernel_rfl⟩
instance : FieldTy Try.prog 22 5 5 3 0 := ⟨by kernel_rfl, by kernel_rfl⟩
instance : FieldTy Try.prog 22 6 6 3 0 := ⟨by kernel_rfl, by kernel_rfl⟩
instance : FieldTy Try.prog 22 7 7 3 0 := ⟨by kernel_rfl, by kernel_rfl⟩
instance : FieldTy Try.prog 22 8 8 3 0 := ⟨by kernel_rfl, by kernel_rfl⟩
instance : FieldTy Try.prog 22 9 9 4 0 := ⟨by kernel_rfl, by kernel_rfl⟩
instance : BuildTy Try.prog 22 [(0, 1), (1, 1), (2, 1), (3, 1), (4, 1), (5, 1), (6, 1), (7, 1), (8, 1), (9, 1)] [.int .i64 0, .int .i64 0, .bool false, .int .i64 0, .int .i64 0, .int .i64 0, .int .i64 0, .int .i64 0, .int .i64 0, .bool false] := ⟨fun parts => by kernel_rfl⟩
-- 23 deuce/api.Format
instance : Ty Try.prog 23 true 10 80 (.agg #[.int .i64 0, .int .i64 0, .bool false, .int .i64 0, .int .i64 0, .int .i64 0, .int .i64 0, .int .i64 0, .int .i64 0, .bool false]) [.int .i64 0, .int .i64 0, .bool false, .int .i64 0, .int .i64 0, .int .i64 0, .int .i64 0, .int .i64 0, .int .i64 0, .bool false] := ⟨by kernel_rfl, by kernel_rfl, rfl, rfl⟩
instance : FieldTy Try.prog 23 0 0 3 0 := ⟨by kernel_rfl, by kernel_rfl⟩
instance : FieldTy Try.prog 23 1 1 3 0 := ⟨by kernel_rfl, by kernel_rfl⟩
instance : FieldTy Try.prog 23 2 2 4 0 := ⟨by kernel_rfl, by kernel_rfl⟩
instance : FieldTy Try.prog 23 3 3 3 0 := ⟨by kernel_rfl, by kernel_rfl⟩
instance : FieldTy Try.prog 23 4 4 3 0 := ⟨by kernel_rfl, by kernel_rfl⟩
instance : FieldTy Try.prog 23 5 5 3 0 := ⟨by kernel_rfl, by kernel_rfl⟩
instance : FieldTy Try.prog 23 6 6 3 0 := ⟨by kernel_rfl, by kernel_rfl⟩
instance : FieldTy Try.prog 23 7 7 3 0 := ⟨by kernel_rfl, by kernel_rfl⟩
instance : FieldTy Try.prog 23 8 8 3 0 := ⟨by kernel_rfl, by kernel_rfl⟩
instance : FieldTy Try.prog 23 9 9 4 0 := ⟨by kernel_rfl, by kernel_rfl⟩
instance : BuildTy Try.prog 23 [(0, 1), (1, 1), (2, 1), (3, 1), (4, 1), (5, 1), (6, 1), (7, 1), (8, 1), (9, 1)] [.int .i64 0, .int .i64 0, .bool false, .int .i64 0, .int .i64 0, .int .i64 0, .int .i64 0, .int .i64 0, .int .i64 0, .bool false] := ⟨fun parts => by kernel_rfl⟩
-- 24 []api.Pair
instance : Ty Try.prog 24 false 1 24 (.slice none 0 0) [.slice none 0 0] := ⟨by kernel_rfl, by kernel_rfl, rfl, rfl⟩
instance : SliceTy Try.prog 24 31 := ⟨by kernel_rfl⟩
-- 25 deuce/api.Errno
instance : Ty Try.prog 25 false 1 8 (.int .i64 0) [.int .i64 0] := ⟨by kernel_rfl, by kernel_rfl, rfl, rfl⟩
-- 26 
instance : Ty Try.prog 26 false 1 8 (.nilFunc) [.nilFunc] := ⟨by kernel_rfl, by kernel_rfl, rfl, rfl⟩
-- 27 
instance : Ty Try.prog 27 false 1 8 (.nilFunc) [.nilFunc] := ⟨by kernel_rfl, by kernel_rfl, rfl, rfl⟩
-- 29 
instance : Ty Try.prog 29 false 1 8 (.nilFunc) [.nilFunc] := ⟨by kernel_rfl, by kernel_rfl, rfl, rfl⟩
-- 30 struct { A int; B int }
instance : Ty Try.prog 30 true 2 16 (.agg #[.int .i64 0, .int .i64 0]) [.int .i64 0, .int .i64 0] := ⟨by kernel_rfl, by kernel_rfl, rfl, rfl⟩
instance : EqS Try.prog 30 2 := ⟨by kernel_rfl, by kernel_rfl, by kernel_rfl⟩
instance : FieldTy Try.prog 30 0 0 3 0 := ⟨by kernel_rfl, by kernel_rfl⟩
instance : FieldTy Try.prog 30 1 1 3 0 := ⟨by kernel_rfl, by kernel_rfl⟩
instance : BuildTy Try.prog 30 [(0, 1), (1, 1)] [.int .i64 0, .int .i64 0] := ⟨fun parts => by kernel_rfl⟩
-- 31 deuce/api.Pair
instance : Ty Try.prog 31 true 2 16 (.agg #[.int .i64 0, .int .i64 0]) [.int .i64 0, .int .i64 0] := ⟨by kernel_rfl, by kernel_rfl, rfl, rfl⟩
instance : EqS Try.prog 31 2 := ⟨by kernel_rfl, by kernel_rfl, by kernel_rfl⟩
instance : FieldTy Try.prog 31 0 0 3 0 := ⟨by kernel_rfl, by kernel_rfl⟩
instance : FieldTy Try.prog 31 1 1 3 0 := ⟨by kernel_rfl, by kernel_rfl⟩
instance : BuildTy Try.prog 31 [(0, 1), (1, 1)] [.int .i64 0, .int .i64 0] := ⟨fun parts => by kernel_rfl⟩
-- 32 
instance : Ty Try.prog 32 false 1 8 (.nilFunc) [.nilFunc] := ⟨by kernel_rfl, by kernel_rfl, rfl, rfl⟩
-- 33 
instance : Ty Try.prog 33 false 1 8 (.nilFunc) [.nilFunc] := ⟨by kernel_rfl, by kernel_rfl, rfl, rfl⟩
-- 34 []int
instance : Ty Try.prog 34 false 1 24 (.slice none 0 0) [.slice none 0 0] := ⟨by kernel_rfl, by kernel_rfl, rfl, rfl⟩
instance : SliceTy Try.prog 34 3 := ⟨by kernel_rfl⟩
-- 35 struct { First int; Points []int }
instance : Ty Try.prog 35 true 2 32 (.agg #[.int .i64 0, .slice none 0 0]) [.int .i64 0, .slice none 0 0] := ⟨by kernel_rfl, by kernel_rfl, rfl, rfl⟩
instance : FieldTy Try.prog 35 0 0 3 0 := ⟨by kernel_rfl, by kernel_rfl⟩
instance : FieldTy Try.prog 35 1 1 34 0 := ⟨by kernel_rfl, by kernel_rfl⟩
instance : BuildTy Try.prog 35 [(0, 1), (1, 1)] [.int .i64 0, .slice none 0 0] := ⟨fun parts => by kernel_rfl⟩
-- 36 deuce/deucelaw01.Points
instance : Ty Try.prog 36 true 2 32 (.agg #[.int .i64 0, .slice none 0 0]) [.int .i64 0, .slice none 0 0] := ⟨by kernel_rfl, by kernel_rfl, rfl, rfl⟩
instance : FieldTy Try.prog 36 0 0 3 0 := ⟨by kernel_rfl, by kernel_rfl⟩
instance : FieldTy Try.prog 36 1 1 34 0 := ⟨by kernel_rfl, by kernel_rfl⟩
instance : BuildTy Try.prog 36 [(0, 1), (1, 1)] [.int .i64 0, .slice none 0 0] := ⟨fun parts => by kernel_rfl⟩
-- 37 struct { Sets []api.Pair; Games api.Pair; Points api.Pair }
instance : Ty Try.prog 37 true 5 56 (.agg #[.slice none 0 0, .int .i64 0, .int .i64 0, .int .i64 0, .int .i64 0]) [.slice none 0 0, .int .i64 0, .int .i64 0, .int .i64 0, .int .i64 0] := ⟨by kernel_rfl, by kernel_rfl, rfl, rfl⟩
instance : FieldTy Try.prog 37 0 0 24 0 := ⟨by kernel_rfl, by kernel_rfl⟩
instance : FieldTy Try.prog 37 1 1 31 1 := ⟨by kernel_rfl, by kernel_rfl⟩
instance : FieldTy Try.prog 37 2 3 31 1 := ⟨by kernel_rfl, by kernel_rfl⟩
instance : BuildTy Try.prog 37 [(0, 1), (1, 2), (3, 2)] [.slice none 0 0, .int .i64 0, .int .i64 0, .int .i64 0, .int .i64 0] := ⟨fun parts => by kernel_rfl⟩
-- 38 deuce/api.Board
instance : Ty Try.prog 38 true 5 56 (.agg #[.slice none 0 0, .int .i64 0, .int .i64 0, .int .i64 0, .int .i64 0]) [.slice none 0 0, .int .i64 0, .int .i64 0, .int .i64 0, .int .i64 0] := ⟨by kernel_rfl, by kernel_rfl, rfl, rfl⟩
instance : FieldTy Try.prog 38 0 0 24 0 := ⟨by kernel_rfl, by kernel_rfl⟩
instance : FieldTy Try.prog 38 1 1 31 1 := ⟨by kernel_rfl, by kernel_rfl⟩
instance : FieldTy Try.prog 38 2 3 31 1 := ⟨by kernel_rfl, by kernel_rfl⟩
instance : BuildTy Try.prog 38 [(0, 1), (1, 2), (3, 2)] [.slice none 0 0, .int .i64 0, .int .i64 0, .int .i64 0, .int .i64 0] := ⟨fun parts => by kernel_rfl⟩
-- 39 struct { Board api.Board; Server int; Ends int; Balls int; Winner int }
instance : Ty Try.prog 39 true 9 88 (.agg #[.slice none 0 0, .int .i64 0, .int .i64 0, .int .i64 0, .int .i64 0, .int .i64 0, .int .i64 0, .int .i64 0, .int .i64 0]) [.slice none 0 0, .int .i64 0, .int .i64 0, .int .i64 0, .int .i64 0, .int .i64 0, .int .i64 0, .int .i64 0, .int .i64 0] := ⟨by kernel_rfl, by kernel_rfl, rfl, rfl⟩
instance : FieldTy Try.prog 39 0 0 38 4 := ⟨by kernel_rfl, by kernel_rfl⟩
instance : FieldTy Try.prog 39 1 5 3 0 := ⟨by kernel_rfl, by kernel_rfl⟩
instance : FieldTy Try.prog 39 2 6 3 0 := ⟨by kernel_rfl, by kernel_rfl⟩
instance : FieldTy Try.prog 39 3 7 3 0 := ⟨by kernel_rfl, by kernel_rfl⟩
instance : FieldTy Try.prog 39 4 8 3 0 := ⟨by kernel_rfl, by kernel_rfl⟩
instance : BuildTy Try.prog 39 [(0, 5), (5, 1), (6, 1), (7, 1), (8, 1)] [.slice none 0 0, .int .i64 0, .int .i64 0, .int .i64 0, .int .i64 0, .int .i64 0, .int .i64 0, .int .i64 0, .int .i64 0] := ⟨fun parts => by kernel_rfl⟩
-- 40 deuce/api.Score
instance : Ty Try.prog 40 true 9 88 (.agg #[.slice none 0 0, .int .i64 0, .int .i64 0, .int .i64 0, .int .i64 0, .int .i64 0, .int .i64 0, .int .i64 0, .int .i64 0]) [.slice none 0 0, .int .i64 0, .int .i64 0, .int .i64 0, .int .i64 0, .int .i64 0, .int .i64 0, .int .i64 0, .int .i64 0] := ⟨by kernel_rfl, by kernel_rfl, rfl, rfl⟩
instance : FieldTy Try.prog 40 0 0 38 4 := ⟨by kernel_rfl, by kernel_rfl⟩
instance : FieldTy Try.prog 40 1 5 3 0 := ⟨by kernel_rfl, by kernel_rfl⟩
instance : FieldTy Try.prog 40 2 6 3 0 := ⟨by kernel_rfl, by kernel_rfl⟩
instance : FieldTy Try.prog 40 3 7 3 0 := ⟨by kernel_rfl, by kernel_rfl⟩
instance : FieldTy Try.prog 40 4 8 3 0 := ⟨by kernel_rfl, by kernel_rfl⟩
instance : BuildTy Try.prog 40 [(0, 5), (5, 1), (6, 1), (7, 1), (8, 1)] [.slice none 0 0, .int .i64 0, .int .i64 0, .int .i64 0, .int .i64 0, .int .i64 0, .int .i64 0, .int .i64 0, .int .i64 0] := ⟨fun parts => by kernel_rfl⟩
-- 42 
instance : Ty Try.prog 42 false 1 8 (.nilFunc) [.nilFunc] := ⟨by kernel_rfl, by kernel_rfl, rfl, rfl⟩
-- 43 []api.Game
instance : Ty Try.prog 43 false 1 24 (.slice none 0 0) [.slice none 0 0] := ⟨by kernel_rfl, by kernel_rfl, rfl, rfl⟩
instance : SliceTy Try.prog 43 48 := ⟨by kernel_rfl⟩
-- 45 
instance : Ty Try.prog 45 false 1 8 (.nilFunc) [.nilFunc] := ⟨by kernel_rfl, by kernel_rfl, rfl, rfl⟩
-- 46 
instance : Ty Try.prog 46 false 1 8 (.nilFunc) [.nilFunc] := ⟨by kernel_rfl, by kernel_rfl, rfl, rfl⟩
-- 47 struct { Set int; Tie bool; Server int; Winner int; Points api.Pair; Fresh bool }
instance : Ty Try.prog 47 true 7 56 (.agg #[.int .i64 0, .bool false, .int .i64 0, .int .i64 0, .int .i64 0, .int .i64 0, .bool false]) [.int .i64 0, .bool false, .int .i64 0, .int .i64 0, .int .i64 0, .int .i64 0, .bool false] := ⟨by kernel_rfl, by kernel_rfl, rfl, rfl⟩
instance : FieldTy Try.prog 47 0 0 3 0 := ⟨by kernel_rfl, by kernel_rfl⟩
instance : FieldTy Try.prog 47 1 1 4 0 := ⟨by kernel_rfl, by kernel_rfl⟩
instance : FieldTy Try.prog 47 2 2 3 0 := ⟨by kernel_rfl, by kernel_rfl⟩
instance : FieldTy Try.prog 47 3 3 3 0 := ⟨by kernel_rfl, by kernel_rfl⟩
instance : FieldTy Try.prog 47 4 4 31 1 := ⟨by kernel_rfl, by kernel_rfl⟩
instance : FieldTy Try.prog 47 5 6 4 0 := ⟨by kernel_rfl, by kernel_rfl⟩
instance : BuildTy Try.prog 47 [(0, 1), (1, 1), (2, 1), (3, 1), (4, 2), (6, 1)] [.int .i64 0, .bool false, .int .i64 0, .int .i64 0, .int .i64 0, .int .i64 0, .bool false] := ⟨fun parts => by kernel_rfl⟩
-- 48 deuce/api.Game
instance : Ty Try.prog 48 true 7 56 (.agg #[.int .i64 0, .bool false, .int .i64 0, .int .i64 0, .int .i64 0, .int .i64 0, .bool false]) [.int .i64 0, .bool false, .int .i64 0, .int .i64 0, .int .i64 0, .int .i64 0, .bool false] := ⟨by kernel_rfl, by kernel_rfl, rfl, rfl⟩
instance : FieldTy Try.prog 48 0 0 3 0 := ⟨by kernel_rfl, by kernel_rfl⟩
instance : FieldTy Try.prog 48 1 1 4 0 := ⟨by kernel_rfl, by kernel_rfl⟩
instance : FieldTy Try.prog 48 2 2 3 0 := ⟨by kernel_rfl, by kernel_rfl⟩
instance : FieldTy Try.prog 48 3 3 3 0 := ⟨by kernel_rfl, by kernel_rfl⟩
instance : FieldTy Try.prog 48 4 4 31 1 := ⟨by kernel_rfl, by kernel_rfl⟩
instance : FieldTy Try.prog 48 5 6 4 0 := ⟨by kernel_rfl, by kernel_rfl⟩
instance : BuildTy Try.prog 48 [(0, 1), (1, 1), (2, 1), (3, 1), (4, 2), (6, 1)] [.int .i64 0, .bool false, .int .i64 0, .int .i64 0, .int .i64 0, .int .i64 0, .bool false] := ⟨fun parts => by kernel_rfl⟩
-- 49 
instance : Ty Try.prog 49 false 1 8 (.nilFunc) [.nilFunc] := ⟨by kernel_rfl, by kernel_rfl, rfl, rfl⟩
-- 51 
instance : Ty Try.prog 51 false 1 8 (.nilFunc) [.nilFunc] := ⟨by kernel_rfl, by kernel_rfl, rfl, rfl⟩
-- 52 
instance : Ty Try.prog 52 false 1 8 (.nilFunc) [.nilFunc] := ⟨by kernel_rfl, by kernel_rfl, rfl, rfl⟩
-- 53 
instance : Ty Try.prog 53 false 1 8 (.nilFunc) [.nilFunc] := ⟨by kernel_rfl, by kernel_rfl, rfl, rfl⟩
-- 54 
instance : Ty Try.prog 54 false 1 8 (.nilFunc) [.nilFunc] := ⟨by kernel_rfl, by kernel_rfl, rfl, rfl⟩
-- 55 
instance : Ty Try.prog 55 false 1 8 (.nilFunc) [.nilFunc] := ⟨by kernel_rfl, by kernel_rfl, rfl, rfl⟩
-- 57 
instance : Ty Try.prog 57 false 1 8 (.nilFunc) [.nilFunc] := ⟨by kernel_rfl, by kernel_rfl, rfl, rfl⟩
-- 58 
instance : Ty Try.prog 58 false 1 8 (.nilFunc) [.nilFunc] := ⟨by kernel_rfl, by kernel_rfl, rfl, rfl⟩
-- 59 
instance : Ty Try.prog 59 false 1 8 (.nilFunc) [.nilFunc] := ⟨by kernel_rfl, by kernel_rfl, rfl, rfl⟩
-- 61 
instance : Ty Try.prog 61 false 1 8 (.nilFunc) [.nilFunc] := ⟨by kernel_rfl, by kernel_rfl, rfl, rfl⟩
-- 62 
instance : Ty Try.prog 62 false 1 8 (.nilFunc) [.nilFunc] := ⟨by kernel_rfl, by kernel_rfl, rfl, rfl⟩
-- 63 
instance : Ty Try.prog 63 false 1 8 (.nilFunc) [.nilFunc] := ⟨by kernel_rfl, by kernel_rfl, rfl, rfl⟩
-- 64 
instance : Ty Try.prog 64 false 1 8 (.nilFunc) [.nilFunc] := ⟨by kernel_rfl, by kernel_rfl, rfl, rfl⟩
-- 65 struct { Low int; High int }
instance : Ty Try.prog 65 true 2 16 (.agg #[.int .i64 0, .int .i64 0]) [.int .i64 0, .int .i64 0] := ⟨by kernel_rfl, by kernel_rfl, rfl, rfl⟩
instance : EqS Try.prog 65 2 := ⟨by kernel_rfl, by kernel_rfl, by kernel_rfl⟩
instance : FieldTy Try.prog 65 0 0 3 0 := ⟨by kernel_rfl, by kernel_rfl⟩
instance : FieldTy Try.prog 65 1 1 3 0 := ⟨by kernel_rfl, by kernel_rfl⟩
instance : BuildTy Try.prog 65 [(0, 1), (1, 1)] [.int .i64 0, .int .i64 0] := ⟨fun parts => by kernel_rfl⟩
-- 66 deuce/api.Span
instance : Ty Try.prog 66 true 2 16 (.agg #[.int .i64 0, .int .i64 0]) [.int .i64 0, .int .i64 0] := ⟨by kernel_rfl, by kernel_rfl, rfl, rfl⟩
instance : EqS Try.prog 66 2 := ⟨by kernel_rfl, by kernel_rfl, by kernel_rfl⟩
instance : FieldTy Try.prog 66 0 0 3 0 := ⟨by kernel_rfl, by kernel_rfl⟩
instance : FieldTy Try.prog 66 1 1 3 0 := ⟨by kernel_rfl, by kernel_rfl⟩
instance : BuildTy Try.prog 66 [(0, 1), (1, 1)] [.int .i64 0, .int .i64 0] := ⟨fun parts => by kernel_rfl⟩
-- 68 
instance : Ty Try.prog 68 false 1 8 (.nilFunc) [.nilFunc] := ⟨by kernel_rfl, by kernel_rfl, rfl, rfl⟩
-- 69 
instance : Ty Try.prog 69 false 1 8 (.nilFunc) [.nilFunc] := ⟨by kernel_rfl, by kernel_rfl, rfl, rfl⟩
-- 70 
instance : Ty Try.prog 70 false 1 8 (.nilFunc) [.nilFunc] := ⟨by kernel_rfl, by kernel_rfl, rfl, rfl⟩
-- 72 
instance : Ty Try.prog 72 false 1 8 (.nilFunc) [.nilFunc] := ⟨by kernel_rfl, by kernel_rfl, rfl, rfl⟩
-- 73 struct { api.Format }
instance : Ty Try.prog 73 true 10 80 (.agg #[.int .i64 0, .int .i64 0, .bool false, .int .i64 0, .int .i64 0, .int .i64 0, .int .i64 0, .int .i64 0, .int .i64 0, .bool false]) [.int .i64 0, .int .i64 0, .bool false, .int .i64 0, .int .i64 0, .int .i64 0, .int .i64 0, .int .i64 0, .int .i64 0, .bool false] := ⟨by kernel_rfl, by kernel_rfl, rfl, rfl⟩
instance : FieldTy Try.prog 73 0 0 23 9 := ⟨by kernel_rfl, by kernel_rfl⟩
instance : BuildTy Try.prog 73 [(0, 10)] [.int .i64 0, .int .i64 0, .bool false, .int .i64 0, .int .i64 0, .int .i64 0, .int .i64 0, .int .i64 0, .int .i64 0, .bool false] := ⟨fun parts => by kernel_rfl⟩
-- 74 deuce/score.rules
instance : Ty Try.prog 74 true 10 80 (.agg #[.int .i64 0, .int .i64 0, .bool false, .int .i64 0, .int .i64 0, .int .i64 0, .int .i64 0, .int .i64 0, .int .i64 0, .bool false]) [.int .i64 0, .int .i64 0, .bool false, .int .i64 0, .int .i64 0, .int .i64 0, .int .i64 0, .int .i64 0, .int .i64 0, .bool false] := ⟨by kernel_rfl, by kernel_rfl, rfl, rfl⟩
instance : FieldTy Try.prog 74 0 0 23 9 := ⟨by kernel_rfl, by kernel_rfl⟩
instance : BuildTy Try.prog 74 [(0, 10)] [.int .i64 0, .int .i64 0, .bool false, .int .i64 0, .int .i64 0, .int .i64 0, .int .i64 0, .int .i64 0, .int .i64 0, .bool false] := ⟨fun parts => by kernel_rfl⟩
-- 75 
instance : Ty Try.prog 75 false 1 8 (.nilFunc) [.nilFunc] := ⟨by kernel_rfl, by kernel_rfl, rfl, rfl⟩
-- 77 
instance : Ty Try.prog 77 false 1 8 (.nilFunc) [.nilFunc] := ⟨by kernel_rfl, by kernel_rfl, rfl, rfl⟩
-- 78 
instance : Ty Try.prog 78 false 1 8 (.nilFunc) [.nilFunc] := ⟨by kernel_rfl, by kernel_rfl, rfl, rfl⟩
-- 79 *score.match
instance : Ty Try.prog 79 false 1 8 (.pointer none) [.pointer none] := ⟨by kernel_rfl, by kernel_rfl, rfl, rfl⟩
-- 81 
instance : Ty Try.prog 81 false 1 8 (.nilFunc) [.nilFunc] := ⟨by kernel_rfl, by kernel_rfl, rfl, rfl⟩
-- 82 []bool
instance : Ty Try.prog 82 false 1 24 (.slice none 0 0) [.slice none 0 0] := ⟨by kernel_rfl, by kernel_rfl, rfl, rfl⟩
instance : SliceTy Try.prog 82 4 := ⟨by kernel_rfl⟩
-- 83 struct { score.rules; api.Score; first int; won api.Pair; ties []bool; games []api.Game }
instance : Ty Try.prog 83 true 24 240 (.agg #[.int .i64 0, .int .i64 0, .bool false, .int .i64 0, .int .i64 0, .int .i64 0, .int .i64 0, .int .i64 0, .int .i64 0, .bool false, .slice none 0 0, .int .i64 0, .int .i64 0, .int .i64 0, .int .i64 0, .int .i64 0, .int .i64 0, .int .i64 0, .int .i64 0, .int .i64 0, .int .i64 0, .int .i64 0, .slice none 0 0, .slice none 0 0]) [.int .i64 0, .int .i64 0, .bool false, .int .i64 0, .int .i64 0, .int .i64 0, .int .i64 0, .int .i64 0, .int .i64 0, .bool false, .slice none 0 0, .int .i64 0, .int .i64 0, .int .i64 0, .int .i64 0, .int .i64 0, .int .i64 0, .int .i64 0, .int .i64 0, .int .i64 0, .int .i64 0, .int .i64 0, .slice none 0 0, .slice none 0 0] := ⟨by kernel_rfl, by kernel_rfl, rfl, rfl⟩
instance : FieldTy Try.prog 83 0 0 74 9 := ⟨by kernel_rfl, by kernel_rfl⟩
instance : FieldTy Try.prog 83 1 10 40 8 := ⟨by kernel_rfl, by kernel_rfl⟩
instance : FieldTy Try.prog 83 2 19 3 0 := ⟨by kernel_rfl, by kernel_rfl⟩
instance : FieldTy Try.prog 83 3 20 31 1 := ⟨by kernel_rfl, by kernel_rfl⟩
instance : FieldTy Try.prog 83 4 22 82 0 := ⟨by kernel_rfl, by kernel_rfl⟩
instance : FieldTy Try.prog 83 5 23 43 0 := ⟨by kernel_rfl, by kernel_rfl⟩
instance : BuildTy Try.prog 83 [(0, 10), (10, 9), (19, 1), (20, 2), (22, 1), (23, 1)] [.int .i64 0, .int .i64 0, .bool false, .int .i64 0, .int .i64 0, .int .i64 0, .int .i64 0, .int .i64 0, .int .i64 0, .bool false, .slice none 0 0, .int .i64 0, .int .i64 0, .int .i64 0, .int .i64 0, .int .i64 0, .int .i64 0, .int .i64 0, .int .i64 0, .int .i64 0, .int .i64 0, .int .i64 0, .slice none 0 0, .slice none 0 0] := ⟨fun parts => by kernel_rfl⟩
-- 84 deuce/score.match
instance : Ty Try.prog 84 true 24 240 (.agg #[.int .i64 0, .int .i64 0, .bool false, .int .i64 0, .int .i64 0, .int .i64 0, .int .i64 0, .int .i64 0, .int .i64 0, .bool false, .slice none 0 0, .int .i64 0, .int .i64 0, .int .i64 0, .int .i64 0, .int .i64 0, .int .i64 0, .int .i64 0, .int .i64 0, .int .i64 0, .int .i64 0, .int .i64 0, .slice none 0 0, .slice none 0 0]) [.int .i64 0, .int .i64 0, .bool false, .int .i64 0, .int .i64 0, .int .i64 0, .int .i64 0, .int .i64 0, .int .i64 0, .bool false, .slice none 0 0, .int .i64 0, .int .i64 0, .int .i64 0, .int .i64 0, .int .i64 0, .int .i64 0, .int .i64 0, .int .i64 0, .int .i64 0, .int .i64 0, .int .i64 0, .slice none 0 0, .slice none 0 0] := ⟨by kernel_rfl, by kernel_rfl, rfl, rfl⟩
instance : FieldTy Try.prog 84 0 0 74 9 := ⟨by kernel_rfl, by kernel_rfl⟩
instance : FieldTy Try.prog 84 1 10 40 8 := ⟨by kernel_rfl, by kernel_rfl⟩
instance : FieldTy Try.prog 84 2 19 3 0 := ⟨by kernel_rfl, by kernel_rfl⟩
instance : FieldTy Try.prog 84 3 20 31 1 := ⟨by kernel_rfl, by kernel_rfl⟩
instance : FieldTy Try.prog 84 4 22 82 0 := ⟨by kernel_rfl, by kernel_rfl⟩
instance : FieldTy Try.prog 84 5 23 43 0 := ⟨by kernel_rfl, by kernel_rfl⟩
instance : BuildTy Try.prog 84 [(0, 10), (10, 9), (19, 1), (20, 2), (22, 1), (23, 1)] [.int .i64 0, .int .i64 0, .bool false, .int .i64 0, .int .i64 0, .int .i64 0, .int .i64 0, .int .i64 0, .int .i64 0, .bool false, .slice none 0 0, .int .i64 0, .int .i64 0, .int .i64 0, .int .i64 0, .int .i64 0, .int .i64 0, .int .i64 0, .int .i64 0, .int .i64 0, .int .i64 0, .int .i64 0, .slice none 0 0, .slice none 0 0] := ⟨fun parts => by kernel_rfl⟩
-- 85 struct { Score api.Score; First int; Games []api.Game; Fresh bool }
instance : Ty Try.prog 85 true 12 128 (.agg #[.slice none 0 0, .int .i64 0, .int .i64 0, .int .i64 0, .int .i64 0, .int .i64 0, .int .i64 0, .int .i64 0, .int .i64 0, .int .i64 0, .slice none 0 0, .bool false]) [.slice none 0 0, .int .i64 0, .int .i64 0, .int .i64 0, .int .i64 0, .int .i64 0, .int .i64 0, .int .i64 0, .int .i64 0, .int .i64 0, .slice none 0 0, .bool false] := ⟨by kernel_rfl, by kernel_rfl, rfl, rfl⟩
instance : FieldTy Try.prog 85 0 0 40 8 := ⟨by kernel_rfl, by kernel_rfl⟩
instance : FieldTy Try.prog 85 1 9 3 0 := ⟨by kernel_rfl, by kernel_rfl⟩
instance : FieldTy Try.prog 85 2 10 43 0 := ⟨by kernel_rfl, by kernel_rfl⟩
instance : FieldTy Try.prog 85 3 11 4 0 := ⟨by kernel_rfl, by kernel_rfl⟩
instance : BuildTy Try.prog 85 [(0, 9), (9, 1), (10, 1), (11, 1)] [.slice none 0 0, .int .i64 0, .int .i64 0, .int .i64 0, .int .i64 0, .int .i64 0, .int .i64 0, .int .i64 0, .int .i64 0, .int .i64 0, .slice none 0 0, .bool false] := ⟨fun parts => by kernel_rfl⟩
-- 86 deuce/deuceref01.Match
instance : Ty Try.prog 86 true 12 128 (.agg #[.slice none 0 0, .int .i64 0, .int .i64 0, .int .i64 0, .int .i64 0, .int .i64 0, .int .i64 0, .int .i64 0, .int .i64 0, .int .i64 0, .slice none 0 0, .bool false]) [.slice none 0 0, .int .i64 0, .int .i64 0, .int .i64 0, .int .i64 0, .int .i64 0, .int .i64 0, .int .i64 0, .int .i64 0, .int .i64 0, .slice none 0 0, .bool false] := ⟨by kernel_rfl, by kernel_rfl, rfl, rfl⟩
instance : FieldTy Try.prog 86 0 0 40 8 := ⟨by kernel_rfl, by kernel_rfl⟩
instance : FieldTy Try.prog 86 1 9 3 0 := ⟨by kernel_rfl, by kernel_rfl⟩
instance : FieldTy Try.prog 86 2 10 43 0 := ⟨by kernel_rfl, by kernel_rfl⟩
instance : FieldTy Try.prog 86 3 11 4 0 := ⟨by kernel_rfl, by kernel_rfl⟩
instance : BuildTy Try.prog 86 [(0, 9), (9, 1), (10, 1), (11, 1)] [.slice none 0 0, .int .i64 0, .int .i64 0, .int .i64 0, .int .i64 0, .int .i64 0, .int .i64 0, .int .i64 0, .int .i64 0, .int .i64 0, .slice none 0 0, .bool false] := ⟨fun parts => by kernel_rfl⟩
-- 88 
instance : Ty Try.prog 88 false 1 8 (.nilFunc) [.nilFunc] := ⟨by kernel_rfl, by kernel_rfl, rfl, rfl⟩
-- 90 
instance : Ty Try.prog 90 false 1 8 (.nilFunc) [.nilFunc] := ⟨by kernel_rfl, by kernel_rfl, rfl, rfl⟩
-- 91 
instance : Ty Try.prog 91 false 1 8 (.nilFunc) [.nilFunc] := ⟨by kernel_rfl, by kernel_rfl, rfl, rfl⟩
-- 92 
instance : Ty Try.prog 92 false 1 8 (.nilFunc) [.nilFunc] := ⟨by kernel_rfl, by kernel_rfl, rfl, rfl⟩
-- 93 
instance : Ty Try.prog 93 false 1 8 (.nilFunc) [.nilFunc] := ⟨by kernel_rfl, by kernel_rfl, rfl, rfl⟩
-- 94 
instance : Ty Try.prog 94 false 1 8 (.nilFunc) [.nilFunc] := ⟨by kernel_rfl, by kernel_rfl, rfl, rfl⟩
-- 95 struct { won api.Pair; games api.Pair }
instance : Ty Try.prog 95 true 4 32 (.agg #[.int .i64 0, .int .i64 0, .int .i64 0, .int .i64 0]) [.int .i64 0, .int .i64 0, .int .i64 0, .int .i64 0] := ⟨by kernel_rfl, by kernel_rfl, rfl, rfl⟩
instance : FieldTy Try.prog 95 0 0 31 1 := ⟨by kernel_rfl, by kernel_rfl⟩
instance : FieldTy Try.prog 95 1 2 31 1 := ⟨by kernel_rfl, by kernel_rfl⟩
instance : BuildTy Try.prog 95 [(0, 2), (2, 2)] [.int .i64 0, .int .i64 0, .int .i64 0, .int .i64 0] := ⟨fun parts => by kernel_rfl⟩
-- 96 deuce/score.place
instance : Ty Try.prog 96 true 4 32 (.agg #[.int .i64 0, .int .i64 0, .int .i64 0, .int .i64 0]) [.int .i64 0, .int .i64 0, .int .i64 0, .int .i64 0] := ⟨by kernel_rfl, by kernel_rfl, rfl, rfl⟩
instance : FieldTy Try.prog 96 0 0 31 1 := ⟨by kernel_rfl, by kernel_rfl⟩
instance : FieldTy Try.prog 96 1 2 31 1 := ⟨by kernel_rfl, by kernel_rfl⟩
instance : BuildTy Try.prog 96 [(0, 2), (2, 2)] [.int .i64 0, .int .i64 0, .int .i64 0, .int .i64 0] := ⟨fun parts => by kernel_rfl⟩
-- 97 
instance : Ty Try.prog 97 false 1 8 (.nilFunc) [.nilFunc] := ⟨by kernel_rfl, by kernel_rfl, rfl, rfl⟩
-- 98 map[score.place]int
instance : Ty Try.prog 98 false 1 8 (.map none) [.map none] := ⟨by kernel_rfl, by kernel_rfl, rfl, rfl⟩
-- 99 [][]int
instance : Ty Try.prog 99 false 1 24 (.slice none 0 0) [.slice none 0 0] := ⟨by kernel_rfl, by kernel_rfl, rfl, rfl⟩
instance : SliceTy Try.prog 99 34 := ⟨by kernel_rfl⟩
-- 100 
instance : Ty Try.prog 100 false 1 8 (.nilFunc) [.nilFunc] := ⟨by kernel_rfl, by kernel_rfl, rfl, rfl⟩
-- 102 
instance : Ty Try.prog 102 false 1 8 (.nilFunc) [.nilFunc] := ⟨by kernel_rfl, by kernel_rfl, rfl, rfl⟩
-- 103 
instance : Ty Try.prog 103 false 1 8 (.nilFunc) [.nilFunc] := ⟨by kernel_rfl, by kernel_rfl, rfl, rfl⟩
-- 104 
instance : Ty Try.prog 104 false 1 8 (.nilFunc) [.nilFunc] := ⟨by kernel_rfl, by kernel_rfl, rfl, rfl⟩
-- 105 
instance : Ty Try.prog 105 false 1 8 (.nilFunc) [.nilFunc] := ⟨by kernel_rfl, by kernel_rfl, rfl, rfl⟩
-- 106 
instance : Ty Try.prog 106 false 1 8 (.nilFunc) [.nilFunc] := ⟨by kernel_rfl, by kernel_rfl, rfl, rfl⟩
-- 108 
instance : Ty Try.prog 108 false 1 8 (.nilFunc) [.nilFunc] := ⟨by kernel_rfl, by kernel_rfl, rfl, rfl⟩
-- 109 struct { tie int; to int }
instance : Ty Try.prog 109 true 2 16 (.agg #[.int .i64 0, .int .i64 0]) [.int .i64 0, .int .i64 0] := ⟨by kernel_rfl, by kernel_rfl, rfl, rfl⟩
instance : EqS Try.prog 109 2 := ⟨by kernel_rfl, by kernel_rfl, by kernel_rfl⟩
instance : FieldTy Try.prog 109 0 0 3 0 := ⟨by kernel_rfl, by kernel_rfl⟩
instance : FieldTy Try.prog 109 1 1 3 0 := ⟨by kernel_rfl, by kernel_rfl⟩
instance : BuildTy Try.prog 109 [(0, 1), (1, 1)] [.int .i64 0, .int .i64 0] := ⟨fun parts => by kernel_rfl⟩
-- 110 deuce/score.set
instance : Ty Try.prog 110 true 2 16 (.agg #[.int .i64 0, .int .i64 0]) [.int .i64 0, .int .i64 0] := ⟨by kernel_rfl, by kernel_rfl, rfl, rfl⟩
instance : EqS Try.prog 110 2 := ⟨by kernel_rfl, by kernel_rfl, by kernel_rfl⟩
instance : FieldTy Try.prog 110 0 0 3 0 := ⟨by kernel_rfl, by kernel_rfl⟩
instance : FieldTy Try.prog 110 1 1 3 0 := ⟨by kernel_rfl, by kernel_rfl⟩
instance : BuildTy Try.prog 110 [(0, 1), (1, 1)] [.int .i64 0, .int .i64 0] := ⟨fun parts => by kernel_rfl⟩
-- 111 
instance : Ty Try.prog 111 false 1 8 (.nilFunc) [.nilFunc] := ⟨by kernel_rfl, by kernel_rfl, rfl, rfl⟩
-- 112 
instance : Ty Try.prog 112 false 1 8 (.nilFunc) [.nilFunc] := ⟨by kernel_rfl, by kernel_rfl, rfl, rfl⟩
-- 113 struct { orders int; over bool }
instance : Ty Try.prog 113 true 2 16 (.agg #[.int .i64 0, .bool false]) [.int .i64 0, .bool false] := ⟨by kernel_rfl, by kernel_rfl, rfl, rfl⟩
instance : FieldTy Try.prog 113 0 0 3 0 := ⟨by kernel_rfl, by kernel_rfl⟩
instance : FieldTy Try.prog 113 1 1 4 0 := ⟨by kernel_rfl, by kernel_rfl⟩
instance : BuildTy Try.prog 113 [(0, 1), (1, 1)] [.int .i64 0, .bool false] := ⟨fun parts => by kernel_rfl⟩
-- 114 deuce/score.stand
instance : Ty Try.prog 114 true 2 16 (.agg #[.int .i64 0, .bool false]) [.int .i64 0, .bool false] := ⟨by kernel_rfl, by kernel_rfl, rfl, rfl⟩
instance : FieldTy Try.prog 114 0 0 3 0 := ⟨by kernel_rfl, by kernel_rfl⟩
instance : FieldTy Try.prog 114 1 1 4 0 := ⟨by kernel_rfl, by kernel_rfl⟩
instance : BuildTy Try.prog 114 [(0, 1), (1, 1)] [.int .i64 0, .bool false] := ⟨fun parts => by kernel_rfl⟩
-- 116 map[api.Pair]score.stand
instance : Ty Try.prog 116 false 1 8 (.map none) [.map none] := ⟨by kernel_rfl, by kernel_rfl, rfl, rfl⟩
-- 117 
instance : Ty Try.prog 117 false 1 8 (.nilFunc) [.nilFunc] := ⟨by kernel_rfl, by kernel_rfl, rfl, rfl⟩
-- 118 
instance : Ty Try.prog 118 false 1 8 (.nilFunc) [.nilFunc] := ⟨by kernel_rfl, by kernel_rfl, rfl, rfl⟩
-- 119 
instance : Ty Try.prog 119 false 1 8 (.nilFunc) [.nilFunc] := ⟨by kernel_rfl, by kernel_rfl, rfl, rfl⟩
-- 120 
instance : Ty Try.prog 120 false 1 8 (.nilFunc) [.nilFunc] := ⟨by kernel_rfl, by kernel_rfl, rfl, rfl⟩
-- 121 
instance : Ty Try.prog 121 false 1 8 (.nilFunc) [.nilFunc] := ⟨by kernel_rfl, by kernel_rfl, rfl, rfl⟩
-- 122 
instance : Ty Try.prog 122 false 1 8 (.nilFunc) [.nilFunc] := ⟨by kernel_rfl, by kernel_rfl, rfl, rfl⟩
-- 123 
instance : Ty Try.prog 123 false 1 8 (.nilFunc) [.nilFunc] := ⟨by kernel_rfl, by kernel_rfl, rfl, rfl⟩
-- 124 
instance : Ty Try.prog 124 false 1 8 (.nilFunc) [.nilFunc] := ⟨by kernel_rfl, by kernel_rfl, rfl, rfl⟩
-- 126 
instance : Ty Try.prog 126 false 1 8 (.nilFunc) [.nilFunc] := ⟨by kernel_rfl, by kernel_rfl, rfl, rfl⟩
-- 127 
instance : Ty Try.prog 127 false 1 8 (.nilFunc) [.nilFunc] := ⟨by kernel_rfl, by kernel_rfl, rfl, rfl⟩
-- 129 
instance : Ty Try.prog 129 false 1 8 (.nilFunc) [.nilFunc] := ⟨by kernel_rfl, by kernel_rfl, rfl, rfl⟩
-- 130 
instance : Ty Try.prog 130 false 1 8 (.nilFunc) [.nilFunc] := ⟨by kernel_rfl, by kernel_rfl, rfl, rfl⟩
-- 131 
instance : Ty Try.prog 131 false 1 8 (.nilFunc) [.nilFunc] := ⟨by kernel_rfl, by kernel_rfl, rfl, rfl⟩
-- 132 
instance : Ty Try.prog 132 false 1 8 (.nilFunc) [.nilFunc] := ⟨by kernel_rfl, by kernel_rfl, rfl, rfl⟩
-- 133 
instance : Ty Try.prog 133 false 1 8 (.nilFunc) [.nilFunc] := ⟨by kernel_rfl, by kernel_rfl, rfl, rfl⟩
-- 134 
instance : Ty Try.prog 134 false 1 8 (.nilFunc) [.nilFunc] := ⟨by kernel_rfl, by kernel_rfl, rfl, rfl⟩
-- 135 
instance : Ty Try.prog 135 false 1 8 (.nilFunc) [.nilFunc] := ⟨by kernel_rfl, by kernel_rfl, rfl, rfl⟩
-- 136 struct { _interface *abi.Type; concrete *abi.Type; asserted *abi.Type; missingMethod string }
instance : Ty Try.prog 136 true 4 40 (.agg #[.pointer none, .pointer none, .pointer none, .string ByteArray.empty]) [.pointer none, .pointer none, .pointer none, .string ByteArray.empty] := ⟨by kernel_rfl, by kernel_rfl, rfl, rfl⟩
instance : FieldTy Try.prog 136 0 0 17 0 := ⟨by kernel_rfl, by kernel_rfl⟩
instance : FieldTy Try.prog 136 1 1 17 0 := ⟨by kernel_rfl, by kernel_rfl⟩
instance : FieldTy Try.prog 136 2 2 17 0 := ⟨by kernel_rfl, by kernel_rfl⟩
instance : FieldTy Try.prog 136 3 3 9 0 := ⟨by kernel_rfl, by kernel_rfl⟩
instance : BuildTy Try.prog 136 [(0, 1), (1, 1), (2, 1), (3, 1)] [.pointer none, .pointer none, .pointer none, .string ByteArray.empty] := ⟨fun parts => by kernel_rfl⟩
-- 138 [0]*runtime.PanicNilError
instance : Ty Try.prog 138 true 0 0 (.agg #[]) [] := ⟨by kernel_rfl, by kernel_rfl, rfl, rfl⟩
instance : ArrayTy Try.prog 138 0 16 := ⟨by kernel_rfl⟩
-- 139 struct { _ [0]*runtime.PanicNilError }
instance : Ty Try.prog 139 true 0 0 (.agg #[]) [] := ⟨by kernel_rfl, by kernel_rfl, rfl, rfl⟩
-- 141 uint32
instance : Ty Try.prog 141 false 1 4 (.int .u32 0) [.int .u32 0] := ⟨by kernel_rfl, by kernel_rfl, rfl, rfl⟩
-- 144 
instance : Ty Try.prog 144 false 1 8 (.nilFunc) [.nilFunc] := ⟨by kernel_rfl, by kernel_rfl, rfl, rfl⟩
-- 145 *uint8
instance : Ty Try.prog 145 false 1 8 (.pointer none) [.pointer none] := ⟨by kernel_rfl, by kernel_rfl, rfl, rfl⟩
-- 148 struct { Size_ uintptr; PtrBytes uintptr; Hash uint32; TFlag abi.TFlag; Align_ uint8; FieldAlign_ uint8; Kind_ abi.Kind; Equal func(unsafe.Pointer, unsafe.Pointer) bool; GCData *uint8; Str abi.NameOff; PtrToThis abi.TypeOff }
instance : Ty Try.prog 148 true 11 48 (.agg #[.int .u64 0, .int .u64 0, .int .u32 0, .int .u8 0, .int .u8 0, .int .u8 0, .int .u8 0, .nilFunc, .pointer none, .int .i32 0, .int .i32 0]) [.int .u64 0, .int .u64 0, .int .u32 0, .int .u8 0, .int .u8 0, .int .u8 0, .int .u8 0, .nilFunc, .pointer none, .int .i32 0, .int .i32 0] := ⟨by kernel_rfl, by kernel_rfl, rfl, rfl⟩
instance : FieldTy Try.prog 148 0 0 12 0 := ⟨by kernel_rfl, by kernel_rfl⟩
instance : FieldTy Try.prog 148 1 1 12 0 := ⟨by kernel_rfl, by kernel_rfl⟩
instance : FieldTy Try.prog 148 2 2 141 0 := ⟨by kernel_rfl, by kernel_rfl⟩
instance : FieldTy Try.prog 148 3 3 142 0 := ⟨by kernel_rfl, by kernel_rfl⟩
instance : FieldTy Try.prog 148 4 4 5 0 := ⟨by kernel_rfl, by kernel_rfl⟩
instance : FieldTy Try.prog 148 5 5 5 0 := ⟨by kernel_rfl, by kernel_rfl⟩
instance : FieldTy Try.prog 148 6 6 143 0 := ⟨by kernel_rfl, by kernel_rfl⟩
instance : FieldTy Try.prog 148 7 7 144 0 := ⟨by kernel_rfl, by kernel_rfl⟩
instance : FieldTy Try.prog 148 8 8 145 0 := ⟨by kernel_rfl, by kernel_rfl⟩
instance : FieldTy Try.prog 148 9 9 146 0 := ⟨by kernel_rfl, by kernel_rfl⟩
instance : FieldTy Try.prog 148 10 10 147 0 := ⟨by kernel_rfl, by kernel_rfl⟩
instance : BuildTy Try.prog 148 [(0, 1), (1, 1), (2, 1), (3, 1), (4, 1), (5, 1), (6, 1), (7, 1), (8, 1), (9, 1), (10, 1)] [.int .u64 0, .int .u64 0, .int .u32 0, .int .u8 0, .int .u8 0, .int .u8 0, .int .u8 0, .nilFunc, .pointer none, .int .i32 0, .int .i32 0] := ⟨fun parts => by kernel_rfl⟩
-- 150 unsafe.Pointer
instance : Ty Try.prog 150 false 1 8 (.pointer none) [.pointer none] := ⟨by kernel_rfl, by kernel_rfl, rfl, rfl⟩
-- deuce/deucelaw01.ScoreOrders
instance : FnOk Try.prog 3 := ⟨by kernel_rfl⟩
-- deuce/deucelaw01.ScorePlays
instance : FnOk Try.prog 4 := ⟨by kernel_rfl⟩
-- deuce/deucelaw01.ScoreStep
instance : FnOk Try.prog 5 := ⟨by kernel_rfl⟩
-- deuce/deucelaw01.ScoreSides
instance : FnOk Try.prog 6 := ⟨by kernel_rfl⟩
-- deuce/deucelaw01.ScoreServes
instance : FnOk Try.prog 7 := ⟨by kernel_rfl⟩
-- deuce/deucelaw01.ScoreBoards
instance : FnOk Try.prog 8 := ⟨by kernel_rfl⟩
-- deuce/deucelaw01.ScoreBounds
instance : FnOk Try.prog 9 := ⟨by kernel_rfl⟩
-- deuce/deuceref01.Check
instance : FnOk Try.prog 10 := ⟨by kernel_rfl⟩
-- deuce/deucelaw01.works
instance : FnOk Try.prog 11 := ⟨by kernel_rfl⟩
-- deuce/score.Ways
instance : FnOk Try.prog 12 := ⟨by kernel_rfl⟩
-- deuce/deucelaw01.swapped
instance : FnOk Try.prog 13 := ⟨by kernel_rfl⟩
-- deuce/score.Check
instance : FnOk Try.prog 14 := ⟨by kernel_rfl⟩
-- deuce/score.Play
instance : FnOk Try.prog 15 := ⟨by kernel_rfl⟩
-- deuce/deuceref01.Play
instance : FnOk Try.prog 16 := ⟨by kernel_rfl⟩
-- deuce/score.Games
instance : FnOk Try.prog 17 := ⟨by kernel_rfl⟩
-- deuce/deuceref01.Games
instance : FnOk Try.prog 18 := ⟨by kernel_rfl⟩
-- deuce/deucelaw01.sameScore
instance : FnOk Try.prog 19 := ⟨by kernel_rfl⟩
-- deuce/deucelaw01.ready
instance : FnOk Try.prog 20 := ⟨by kernel_rfl⟩
-- deuce/deucelaw01.played
instance : FnOk Try.prog 21 := ⟨by kernel_rfl⟩
-- deuce/deucelaw01.sameSets
instance : FnOk Try.prog 22 := ⟨by kernel_rfl⟩
-- deuce/deucelaw01.sum
instance : FnOk Try.prog 23 := ⟨by kernel_rfl⟩
-- deuce/deucelaw01.turned
instance : FnOk Try.prog 24 := ⟨by kernel_rfl⟩
-- deuce/deuceref01.Rule
instance : FnOk Try.prog 25 := ⟨by kernel_rfl⟩
-- deuce/deuceref01.IsLast
instance : FnOk Try.prog 26 := ⟨by kernel_rfl⟩
-- deuce/deuceref01.Won
instance : FnOk Try.prog 27 := ⟨by kernel_rfl⟩
-- deuce/score.Arises
instance : FnOk Try.prog 28 := ⟨by kernel_rfl⟩
-- deuce/deuceref01.Arises
instance : FnOk Try.prog 29 := ⟨by kernel_rfl⟩
-- deuce/score.Least
instance : FnOk Try.prog 30 := ⟨by kernel_rfl⟩
-- deuce/deuceref01.Least
instance : FnOk Try.prog 31 := ⟨by kernel_rfl⟩
-- deuce/deucelaw01.sameBoard
instance : FnOk Try.prog 32 := ⟨by kernel_rfl⟩
-- deuce/score.Range
instance : FnOk Try.prog 33 := ⟨by kernel_rfl⟩
-- deuce/deuceref01.within
instance : FnOk Try.prog 34 := ⟨by kernel_rfl⟩
-- deuce/deuceref01.isTie
instance : FnOk Try.prog 35 := ⟨by kernel_rfl⟩
-- deuce/deucelaw01.Example
instance : FnOk Try.prog 36 := ⟨by kernel_rfl⟩
-- deuce/score.isBoard
instance : FnOk Try.prog 37 := ⟨by kernel_rfl⟩
-- (deuce/score.rules).sets
instance : FnOk Try.prog 38 := ⟨by kernel_rfl⟩
-- deuce/score.Check$1
instance : FnOk Try.prog 39 := ⟨by kernel_rfl⟩
-- deuce/score.within
instance : FnOk Try.prog 40 := ⟨by kernel_rfl⟩
-- deuce/score.play
instance : FnOk Try.prog 41 := ⟨by kernel_rfl⟩
-- deuce/deuceref01.Run
instance : FnOk Try.prog 42 := ⟨by kernel_rfl⟩
-- (deuce/score.rules).arises
instance : FnOk Try.prog 43 := ⟨by kernel_rfl⟩
-- deuce/deuceref01.isBoard
instance : FnOk Try.prog 44 := ⟨by kernel_rfl⟩
-- deuce/deuceref01.arises
instance : FnOk Try.prog 45 := ⟨by kernel_rfl⟩
-- (deuce/score.rules).over
instance : FnOk Try.prog 46 := ⟨by kernel_rfl⟩
-- deuce/score.leads
instance : FnOk Try.prog 47 := ⟨by kernel_rfl⟩
-- (deuce/score.rules).least
instance : FnOk Try.prog 48 := ⟨by kernel_rfl⟩
-- (deuce/score.rules).most
instance : FnOk Try.prog 49 := ⟨by kernel_rfl⟩
-- deuce/deuceref01.swapped
instance : FnOk Try.prog 50 := ⟨by kernel_rfl⟩
-- deuce/deuceref01.costs
instance : FnOk Try.prog 51 := ⟨by kernel_rfl⟩
-- deuce/deuceref01.tied
instance : FnOk Try.prog 52 := ⟨by kernel_rfl⟩
-- deuce/deuceref01.leads
instance : FnOk Try.prog 53 := ⟨by kernel_rfl⟩
-- deuce/deuceref01.plus
instance : FnOk Try.prog 54 := ⟨by kernel_rfl⟩
-- deuce/deuceref01.from
instance : FnOk Try.prog 55 := ⟨by kernel_rfl⟩
-- deuce/deuceref01.need
instance : FnOk Try.prog 56 := ⟨by kernel_rfl⟩
-- (deuce/score.rules).extent
instance : FnOk Try.prog 57 := ⟨by kernel_rfl⟩
-- deuce/score.isBoard$1
instance : FnOk Try.prog 58 := ⟨by kernel_rfl⟩
-- slices.ContainsFunc[[]deuce/api.Pair,deuce/api.Pair]
instance : FnOk Try.prog 59 := ⟨by kernel_rfl⟩
-- deuce/score.pairs
instance : FnOk Try.prog 60 := ⟨by kernel_rfl⟩
-- deuce/score.isBoard$2
instance : FnOk Try.prog 61 := ⟨by kernel_rfl⟩
-- (deuce/score.rules).table
instance : FnOk Try.prog 62 := ⟨by kernel_rfl⟩
-- (deuce/score.rules).set
instance : FnOk Try.prog 63 := ⟨by kernel_rfl⟩
-- deuce/score.add
instance : FnOk Try.prog 64 := ⟨by kernel_rfl⟩
-- deuce/score.begin
instance : FnOk Try.prog 65 := ⟨by kernel_rfl⟩
-- (*deuce/score.match).point
instance : FnOk Try.prog 66 := ⟨by kernel_rfl⟩
-- deuce/deuceref01.Begin
instance : FnOk Try.prog 67 := ⟨by kernel_rfl⟩
-- deuce/deuceref01.Point
instance : FnOk Try.prog 68 := ⟨by kernel_rfl⟩
-- deuce/deuceref01.Next
instance : FnOk Try.prog 69 := ⟨by kernel_rfl⟩
-- (deuce/score.set).breaks
instance : FnOk Try.prog 70 := ⟨by kernel_rfl⟩
-- (deuce/score.rules).arises$1
instance : FnOk Try.prog 71 := ⟨by kernel_rfl⟩
-- (deuce/score.rules).game
instance : FnOk Try.prog 72 := ⟨by kernel_rfl⟩
-- deuce/deuceref01.orders
instance : FnOk Try.prog 73 := ⟨by kernel_rfl⟩
-- deuce/deuceref01.ArePoints
instance : FnOk Try.prog 74 := ⟨by kernel_rfl⟩
-- (deuce/score.rules).takes
instance : FnOk Try.prog 75 := ⟨by kernel_rfl⟩
-- slices.IndexFunc[[]deuce/api.Pair,deuce/api.Pair]
instance : FnOk Try.prog 76 := ⟨by kernel_rfl⟩
-- slices.Clone[[]deuce/api.Pair,deuce/api.Pair]
instance : FnOk Try.prog 77 := ⟨by kernel_rfl⟩
-- (*deuce/score.match).next
instance : FnOk Try.prog 78 := ⟨by kernel_rfl⟩
-- (*deuce/score.match).number
instance : FnOk Try.prog 79 := ⟨by kernel_rfl⟩
-- deuce/score.sum
instance : FnOk Try.prog 80 := ⟨by kernel_rfl⟩
-- (*deuce/score.match).serves
instance : FnOk Try.prog 81 := ⟨by kernel_rfl⟩
-- (*deuce/score.match).fresh
instance : FnOk Try.prog 82 := ⟨by kernel_rfl⟩
-- deuce/deuceref01.begin
instance : FnOk Try.prog 83 := ⟨by kernel_rfl⟩
-- deuce/deuceref01.gameWinner
instance : FnOk Try.prog 84 := ⟨by kernel_rfl⟩
-- deuce/deuceref01.Server
instance : FnOk Try.prog 85 := ⟨by kernel_rfl⟩
-- (deuce/score.rules).due
instance : FnOk Try.prog 86 := ⟨by kernel_rfl⟩
-- deuce/deuceref01.due
instance : FnOk Try.prog 87 := ⟨by kernel_rfl⟩
end Go.Proofs.Ytebhkghgifiahaa
